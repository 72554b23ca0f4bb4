/- The functions' abstract code. No condition. -/
import Derived.Test.YtfcgofffalmdfaaDoorJC
import Derived.Test.YtfcgofffalmdfaaDoorProg
import Derived.KernelRfl
import Derived.Shelf.SlSortCmp.WholeK
import Derived.Ground.SlsfProg
import Derived.WalkKit
set_option linter.unusedSectionVars false
set_option linter.unusedVariables false
set_option linter.unusedSimpArgs false
namespace Go.Proofs.YtfcgofffalmdfaaDoor.PA
open Go Go.Eng Go.Proofs
abbrev o (d : Nat) (x : XOp) : XOper := ⟨some d, x, none⟩
abbrev og (d : Nat) (x : XOp) (g : Nat) (b : Bool) : XOper := ⟨some d, x, some (g, b)⟩
def L6 : XFunc := .mk (.seq (.reg [o 1 (.box (.t 0)), o 2 (.mv (.k (.bool false)))]) (.seq (.reg [o 17 (.load (some 3) (.t 1)), o 18 (.call (.k (.fn 15 [])) [.t 17, .k (.int .i64 (.ofNat 40))]), o 16 (.mv (.t 18)), o 19 (.ext (.t 16) 0), o 20 (.ext (.t 16) 1), o 21 (.ext (.t 16) 2), o 3 (.mv (.t 19)), o 4 (.mv (.t 20)), o 5 (.mv (.t 21))]) (.seq (.reg [o 6 (.mv (.k (.str [])))]) (.seq (.seq (.reg [o 22 (.mv (.t 3)), o 23 (.slen (.t 22)), o 24 (.bin .sub (.t 23) (.k (.int .i64 (.ofNat 1)))), o 7 (.mv (.t 24))]) (.block 0 (.loop (.seq (.seq (.reg [o 25 (.mv (.t 7)), o 26 (.bin .geq (.t 25) (.k (.int .i64 (.ofNat 0))))]) (.cond (.t 26) .skip (.exit 0))) (.seq (.block 1 (.reg [o 29 (.mv (.t 6)), o 30 (.mv (.t 3)), o 31 (.mv (.t 7)), o 32 (.mv (.t 7)), o 33 (.bin .add (.t 32) (.k (.int .i64 (.ofNat 1)))), o 34 (.scut (.t 30) (some (.t 31)) (some (.t 33))), o 35 (.bin .add (.t 29) (.t 34)), o 6 (.mv (.t 35))])) (.reg [o 27 (.mv (.t 7)), o 28 (.bin .sub (.t 27) (.k (.int .i64 (.ofNat 1)))), o 7 (.mv (.t 28))])))))) (.seq (.reg [o 37 (.mv (.t 3)), o 38 (.mv (.t 4)), o 39 (.mv (.t 5)), o 40 (.call (.k (.fn 16 [])) [.t 37, .t 38, .t 39]), o 36 (.mv (.t 40)), o 41 (.ext (.t 36) 0), o 42 (.ext (.t 36) 1), o 8 (.mv (.t 41)), o 9 (.mv (.t 42))]) (.seq (.reg [o 44 (.mv (.t 6)), o 45 (.mv (.t 4)), o 46 (.mv (.t 5)), o 47 (.call (.k (.fn 16 [])) [.t 44, .t 45, .t 46]), o 43 (.mv (.t 47)), o 48 (.ext (.t 43) 0), o 49 (.ext (.t 43) 1), o 10 (.mv (.t 48)), o 11 (.mv (.t 49))]) (.seq (.reg [o 51 (.mv (.t 3)), o 52 (.mv (.t 4)), o 53 (.mv (.t 5)), o 54 (.call (.k (.fn 19 [])) [.t 51, .t 52, .t 53]), o 50 (.mv (.t 54)), o 55 (.ext (.t 50) 0), o 56 (.ext (.t 50) 1), o 12 (.mv (.t 55)), o 13 (.mv (.t 56))]) (.seq (.reg [o 58 (.mv (.t 6)), o 59 (.mv (.t 4)), o 60 (.mv (.t 5)), o 61 (.call (.k (.fn 19 [])) [.t 58, .t 59, .t 60]), o 57 (.mv (.t 61)), o 62 (.ext (.t 57) 0), o 63 (.ext (.t 57) 1), o 14 (.mv (.t 62)), o 15 (.mv (.t 63))]) (.seq (.reg [o 64 (.mv (.t 9)), o 65 (.bin .eql (.t 64) (.k (.int .i64 (.ofNat 0)))), o 66 (.mv (.t 65)), og 67 (.mv (.t 11)) 66 true, og 68 (.bin .eql (.t 67) (.k (.int .i64 (.ofNat 0)))) 66 true, o 69 (.pick (.t 66) (.t 68) (.k (.bool false))), o 70 (.mv (.t 69)), og 71 (.mv (.t 13)) 70 true, og 72 (.bin .eql (.t 71) (.k (.int .i64 (.ofNat 0)))) 70 true, o 73 (.pick (.t 70) (.t 72) (.k (.bool false))), o 74 (.mv (.t 73)), og 75 (.mv (.t 15)) 74 true, og 76 (.bin .eql (.t 75) (.k (.int .i64 (.ofNat 0)))) 74 true, o 77 (.pick (.t 74) (.t 76) (.k (.bool false))), o 78 (.mv (.t 77)), og 79 (.mv (.t 8)) 78 true, og 80 (.mv (.t 10)) 78 true, og 81 (.bin .eql (.t 79) (.t 80)) 78 true, o 82 (.pick (.t 78) (.t 81) (.k (.bool false))), o 83 (.mv (.t 82)), og 84 (.mv (.t 12)) 83 true, og 85 (.mv (.t 14)) 83 true, og 86 (.call (.k (.fn 20 [])) [.t 84, .t 85]) 83 true, o 87 (.pick (.t 83) (.t 86) (.k (.bool false))), o 88 (.mv (.t 87)), og 89 (.call (.k (.fn 9 [])) []) 88 true, o 90 (.pick (.t 88) (.t 89) (.k (.bool false))), o 2 (.mv (.t 90))]) .ret))))))))) 91 1 [.t 2]
theorem l6 : compFunc Tryd.prog 6 = some L6 := by kernel_rfl
def L7 : XFunc := .mk (.seq (.reg [o 2 (.mv (.k .nils)), o 3 (.mv (.k (.int .i64 (.ofNat 0)))), o 4 (.mv (.k (.int .i64 (.ofNat 0))))]) (.seq (.seq (.reg [o 8 (.mv (.t 0)), o 9 (.slen (.t 8)), o 10 (.bin .gtr (.t 9) (.k (.int .i64 (.ofNat 40))))]) (.cond (.t 10) (.seq (.reg [o 2 (.mv (.k .nils)), o 3 (.mv (.k (.int .i64 (.ofNat 0)))), o 4 (.mv (.k (.int .i64 (.ofNat 3))))]) .ret) .skip)) (.seq (.reg [o 12 (.mv (.t 0)), o 13 (.call (.k (.fn 21 [])) [.t 12]), o 11 (.mv (.t 13)), o 14 (.ext (.t 11) 0), o 15 (.ext (.t 11) 1), o 16 (.ext (.t 11) 2), o 5 (.mv (.t 14)), o 6 (.mv (.t 15)), o 7 (.mv (.t 16))]) (.seq (.seq (.reg [o 17 (.mv (.t 7)), o 18 (.un .not (.t 17))]) (.cond (.t 18) (.seq (.reg [o 2 (.mv (.k .nils)), o 3 (.mv (.k (.int .i64 (.ofNat 0)))), o 4 (.mv (.k (.int .i64 (.ofNat 2))))]) .ret) .skip)) (.seq (.reg [o 19 (.mv (.t 5)), o 20 (.mv (.t 6)), o 2 (.mv (.t 19)), o 3 (.mv (.t 20)), o 4 (.mv (.k (.int .i64 (.ofNat 0))))]) .ret))))) 21 1 [.t 2, .t 3, .t 4]
theorem l7 : compFunc Tryd.prog 7 = some L7 := by kernel_rfl
def L9 : XFunc := .mk (.seq (.reg [o 0 (.mv (.k (.bool false)))]) (.seq (.reg [o 11 (.build [.int .i64 (.ofNat 0), .int .i64 (.ofNat 0)] [(0, 1, .k (.int .i64 (.ofNat 0))), (1, 1, .k (.int .i64 (.ofNat 1)))]), o 12 (.bslice [.int .i64 (.ofNat 0), .int .i64 (.ofNat 0)] [(0, 2, .t 11)] 1), o 1 (.mv (.t 12))]) (.seq (.reg [o 14 (.mv (.t 1)), o 15 (.call (.k (.fn 17 [])) [.k (.str [UInt8.ofNat 97, UInt8.ofNat 97, UInt8.ofNat 98, UInt8.ofNat 98]), .t 14, .k (.int .i64 (.ofNat 0))]), o 13 (.mv (.t 15)), o 16 (.ext (.t 13) 0), o 17 (.ext (.t 13) 1), o 2 (.mv (.t 16)), o 3 (.mv (.t 17))]) (.seq (.reg [o 19 (.mv (.t 1)), o 20 (.call (.k (.fn 22 [])) [.k (.str [UInt8.ofNat 97, UInt8.ofNat 97, UInt8.ofNat 98, UInt8.ofNat 98]), .t 19, .k (.int .i64 (.ofNat 0))]), o 18 (.mv (.t 20)), o 21 (.ext (.t 18) 0), o 22 (.ext (.t 18) 1), o 4 (.mv (.t 21)), o 5 (.mv (.t 22))]) (.seq (.reg [o 24 (.call (.k (.fn 7 [])) [.k (.str [UInt8.ofNat 40, UInt8.ofNat 40, UInt8.ofNat 41, UInt8.ofNat 41, UInt8.ofNat 46, UInt8.ofNat 40, UInt8.ofNat 41])]), o 23 (.mv (.t 24)), o 25 (.ext (.t 23) 0), o 26 (.ext (.t 23) 1), o 27 (.ext (.t 23) 2), o 6 (.mv (.t 25)), o 7 (.mv (.t 26)), o 8 (.mv (.t 27))]) (.seq (.reg [o 29 (.mv (.t 1)), o 30 (.call (.k (.fn 23 [])) [.k (.str [UInt8.ofNat 97, UInt8.ofNat 97, UInt8.ofNat 98, UInt8.ofNat 98]), .t 29, .k (.int .i64 (.ofNat 0)), .k (.str [UInt8.ofNat 46, UInt8.ofNat 46, UInt8.ofNat 46, UInt8.ofNat 46])]), o 28 (.mv (.t 30)), o 31 (.ext (.t 28) 0), o 32 (.ext (.t 28) 1), o 9 (.mv (.t 31)), o 10 (.mv (.t 32))]) (.seq (.reg [o 33 (.mv (.t 2)), o 34 (.bin .eql (.t 33) (.k (.str [UInt8.ofNat 40, UInt8.ofNat 40, UInt8.ofNat 41, UInt8.ofNat 41]))), o 35 (.mv (.t 34)), og 36 (.mv (.t 3)) 35 true, og 37 (.bin .eql (.t 36) (.k (.int .i64 (.ofNat 0)))) 35 true, o 38 (.pick (.t 35) (.t 37) (.k (.bool false))), o 39 (.mv (.t 38)), og 40 (.mv (.t 4)) 39 true, og 41 (.bin .eql (.t 40) (.k (.str [UInt8.ofNat 54]))) 39 true, o 42 (.pick (.t 39) (.t 41) (.k (.bool false))), o 43 (.mv (.t 42)), og 44 (.mv (.t 5)) 43 true, og 45 (.bin .eql (.t 44) (.k (.int .i64 (.ofNat 0)))) 43 true, o 46 (.pick (.t 43) (.t 45) (.k (.bool false))), o 47 (.mv (.t 46)), og 48 (.mv (.t 6)) 47 true, og 49 (.len (.t 48)) 47 true, og 50 (.bin .eql (.t 49) (.k (.int .i64 (.ofNat 3)))) 47 true, o 51 (.pick (.t 47) (.t 50) (.k (.bool false))), o 52 (.mv (.t 51)), og 53 (.mv (.t 6)) 52 true, og 54 (.iaddr 2 (.t 53) (.k (.int .i64 (.ofNat 2)))) 52 true, og 55 (.load (some 2) (.t 54)) 52 true, og 56 (.build [.int .i64 (.ofNat 0), .int .i64 (.ofNat 0)] [(0, 1, .k (.int .i64 (.ofNat 5))), (1, 1, .k (.int .i64 (.ofNat 6)))]) 52 true, og 57 (.eqf false (.mk true [.i .i64, .i .i64]) (.t 55) (.t 56)) 52 true, o 58 (.pick (.t 52) (.t 57) (.k (.bool false))), o 59 (.mv (.t 58)), og 60 (.mv (.t 7)) 59 true, og 61 (.bin .eql (.t 60) (.k (.int .i64 (.ofNat 2)))) 59 true, o 62 (.pick (.t 59) (.t 61) (.k (.bool false))), o 63 (.mv (.t 62)), og 64 (.mv (.t 8)) 63 true, og 65 (.bin .eql (.t 64) (.k (.int .i64 (.ofNat 0)))) 63 true, o 66 (.pick (.t 63) (.t 65) (.k (.bool false))), o 67 (.mv (.t 66)), og 68 (.mv (.t 9)) 67 true, og 69 (.bin .eql (.t 68) (.k (.str [UInt8.ofNat 53]))) 67 true, o 70 (.pick (.t 67) (.t 69) (.k (.bool false))), o 71 (.mv (.t 70)), og 72 (.mv (.t 10)) 71 true, og 73 (.bin .eql (.t 72) (.k (.int .i64 (.ofNat 0)))) 71 true, o 74 (.pick (.t 71) (.t 73) (.k (.bool false))), o 0 (.mv (.t 74))]) .ret))))))) 75 0 [.t 0]
theorem l9 : compFunc Tryd.prog 9 = some L9 := by kernel_rfl
def L15 : XFunc := .mk (.seq (.reg [o 2 (.box (.t 0)), o 4 (.mv (.k (.str []))), o 5 (.mv (.k .nils)), o 6 (.mv (.k (.int .i64 (.ofNat 0))))]) (.seq (.reg [o 13 (.bslice [.int .i64 (.ofNat 0), .int .i64 (.ofNat 0)] [] 0), o 7 (.mv (.k (.str []))), o 8 (.mv (.t 13)), o 9 (.mv (.k (.int .i64 (.ofNat 0))))]) (.seq (.seq (.reg [o 10 (.mv (.k (.int .i64 (.ofNat 0))))]) (.block 0 (.loop (.seq (.seq (.reg [o 14 (.mv (.t 10)), o 15 (.bin .lss (.t 14) (.k (.int .i64 (.ofNat 4))))]) (.cond (.t 15) .skip (.exit 0))) (.seq (.block 1 (.seq (.reg [o 11 (.mv (.k (.int .i64 (.ofNat 0))))]) (.block 2 (.loop (.seq (.seq (.reg [o 18 (.mv (.t 11)), o 19 (.mv (.t 10)), o 20 (.bin .leq (.t 18) (.t 19))]) (.cond (.t 20) .skip (.exit 2))) (.seq (.block 3 (.seq (.seq (.reg [o 23 (.faddr 0 (.t 2)), o 24 (.load none (.t 23)), o 25 (.mv (.t 9)), o 26 (.bin .shr (.t 24) (.t 25)), o 27 (.bin .and (.t 26) (.k (.int .u16 (.ofNat 1)))), o 28 (.bin .eql (.t 27) (.k (.int .u16 (.ofNat 1))))]) (.cond (.t 28) (.reg [o 29 (.mv (.t 8)), o 30 (.mv (.t 10)), o 31 (.mv (.t 11)), o 32 (.build [.int .i64 (.ofNat 0), .int .i64 (.ofNat 0)] [(0, 1, .t 30), (1, 1, .t 31)]), o 33 (.bslice [.int .i64 (.ofNat 0), .int .i64 (.ofNat 0)] [(0, 2, .t 32)] 1), o 34 (.app 2 16 (.t 29) (.t 33)), o 8 (.mv (.t 34))]) .skip)) (.reg [o 35 (.mv (.t 9)), o 36 (.bin .add (.t 35) (.k (.int .i64 (.ofNat 1)))), o 9 (.mv (.t 36))]))) (.reg [o 21 (.mv (.t 11)), o 22 (.bin .add (.t 21) (.k (.int .i64 (.ofNat 1)))), o 11 (.mv (.t 22))]))))))) (.reg [o 16 (.mv (.t 10)), o 17 (.bin .add (.t 16) (.k (.int .i64 (.ofNat 1)))), o 10 (.mv (.t 17))])))))) (.seq (.seq (.reg [o 12 (.mv (.k (.int .i64 (.ofNat 0))))]) (.block 4 (.loop (.seq (.seq (.reg [o 37 (.mv (.t 12)), o 38 (.faddr 2 (.t 2)), o 39 (.load none (.t 38)), o 40 (.len (.t 39)), o 41 (.bin .lss (.t 37) (.t 40)), o 42 (.mv (.t 41)), og 43 (.mv (.t 12)) 42 true, og 44 (.mv (.t 1)) 42 true, og 45 (.bin .lss (.t 43) (.t 44)) 42 true, o 46 (.pick (.t 42) (.t 45) (.k (.bool false)))]) (.cond (.t 46) .skip (.exit 4))) (.seq (.block 5 (.regd [o 49 (.mv (.t 7)), o 50 (.faddr 2 (.t 2)), o 51 (.load none (.t 50)), o 52 (.mv (.t 12)), o 53 (.iaddr 1 (.t 51) (.t 52)), o 54 (.load none (.t 53)), o 55 (.bin .rem (.t 54) (.k (.int .u8 (.ofNat 4)))), o 56 (.faddr 2 (.t 2)), o 57 (.load none (.t 56)), o 58 (.mv (.t 12)), o 59 (.iaddr 1 (.t 57) (.t 58)), o 60 (.load none (.t 59)), o 61 (.bin .rem (.t 60) (.k (.int .u8 (.ofNat 4)))), o 62 (.bin .add (.t 61) (.k (.int .u8 (.ofNat 1)))), o 63 (.scut (.k (.str [UInt8.ofNat 97, UInt8.ofNat 98, UInt8.ofNat 99, UInt8.ofNat 100])) (some (.t 55)) (some (.t 62))), o 64 (.bin .add (.t 49) (.t 63)), o 7 (.mv (.t 64))] [] [])) (.reg [o 47 (.mv (.t 12)), o 48 (.bin .add (.t 47) (.k (.int .i64 (.ofNat 1)))), o 12 (.mv (.t 48))])))))) (.seq (.regd [o 65 (.mv (.t 7)), o 66 (.mv (.t 8)), o 67 (.faddr 1 (.t 2)), o 68 (.load none (.t 67)), o 69 (.conv .i64 (.t 68)), o 70 (.bin .rem (.t 69) (.k (.int .i64 (.ofNat 6)))), o 4 (.mv (.t 65)), o 5 (.mv (.t 66)), o 6 (.mv (.t 70))] [] []) .ret))))) 71 2 [.t 4, .t 5, .t 6]
theorem l15 : compFunc Tryd.prog 15 = some L15 := by kernel_rfl
def L16 : XFunc := .mk (.seq (.reg [o 6 (.mv (.k (.int .i64 (.ofNat 0)))), o 7 (.mv (.k (.int .i64 (.ofNat 0))))]) (.seq (.reg [o 11 (.mv (.t 0)), o 12 (.mv (.t 1)), o 13 (.mv (.t 2)), o 14 (.call (.k (.fn 24 [])) [.t 11, .t 12, .t 13]), o 10 (.mv (.t 14)), o 15 (.ext (.t 10) 0), o 16 (.ext (.t 10) 1), o 8 (.mv (.t 15)), o 9 (.mv (.t 16))]) (.seq (.seq (.reg [o 17 (.mv (.t 9)), o 18 (.bin .neq (.t 17) (.k (.int .i64 (.ofNat 0))))]) (.cond (.t 18) (.seq (.reg [o 19 (.mv (.t 9)), o 6 (.mv (.k (.int .i64 (.ofNat 0)))), o 7 (.mv (.t 19))]) .ret) .skip)) (.seq (.reg [o 20 (.mv (.t 8)), o 21 (.mv (.t 8)), o 22 (.call (.k (.fn 29 [])) [.t 21]), o 23 (.call (.k (.fn 28 [])) [.t 20, .t 22]), o 24 (.len (.t 23)), o 25 (.bin .sub (.t 24) (.k (.int .i64 (.ofNat 1)))), o 6 (.mv (.t 25)), o 7 (.mv (.k (.int .i64 (.ofNat 0))))]) .ret)))) 26 3 [.t 6, .t 7]
theorem l16 : compFunc Tryd.prog 16 = some L16 := by kernel_rfl
def L17 : XFunc := .mk (.seq (.reg [o 6 (.mv (.k (.str []))), o 7 (.mv (.k (.int .i64 (.ofNat 0))))]) (.seq (.reg [o 11 (.mv (.t 0)), o 12 (.mv (.t 1)), o 13 (.mv (.t 2)), o 14 (.call (.k (.fn 24 [])) [.t 11, .t 12, .t 13]), o 10 (.mv (.t 14)), o 15 (.ext (.t 10) 0), o 16 (.ext (.t 10) 1), o 8 (.mv (.t 15)), o 9 (.mv (.t 16))]) (.seq (.seq (.reg [o 17 (.mv (.t 9)), o 18 (.bin .neq (.t 17) (.k (.int .i64 (.ofNat 0))))]) (.cond (.t 18) (.seq (.reg [o 19 (.mv (.t 9)), o 6 (.mv (.k (.str []))), o 7 (.mv (.t 19))]) .ret) .skip)) (.seq (.reg [o 20 (.mv (.t 8)), o 21 (.mv (.t 8)), o 22 (.call (.k (.fn 29 [])) [.t 21]), o 23 (.call (.k (.fn 30 [])) [.t 20, .t 22]), o 6 (.mv (.t 23)), o 7 (.mv (.k (.int .i64 (.ofNat 0))))]) .ret)))) 24 3 [.t 6, .t 7]
theorem l17 : compFunc Tryd.prog 17 = some L17 := by kernel_rfl
def L19 : XFunc := .mk (.seq (.reg [o 6 (.mv (.k .nils)), o 7 (.mv (.k (.int .i64 (.ofNat 0))))]) (.seq (.reg [o 16 (.mv (.t 0)), o 17 (.mv (.t 1)), o 18 (.mv (.t 2)), o 19 (.call (.k (.fn 24 [])) [.t 16, .t 17, .t 18]), o 15 (.mv (.t 19)), o 20 (.ext (.t 15) 0), o 21 (.ext (.t 15) 1), o 8 (.mv (.t 20)), o 9 (.mv (.t 21))]) (.seq (.seq (.reg [o 22 (.mv (.t 9)), o 23 (.bin .neq (.t 22) (.k (.int .i64 (.ofNat 0))))]) (.cond (.t 23) (.seq (.reg [o 24 (.mv (.t 9)), o 6 (.mv (.k .nils)), o 7 (.mv (.t 24))]) .ret) .skip)) (.seq (.reg [o 10 (.mv (.k .nils))]) (.seq (.seq (.reg [o 25 (.mv (.t 8)), o 26 (.mv (.t 8)), o 27 (.call (.k (.fn 29 [])) [.t 26]), o 28 (.call (.k (.fn 28 [])) [.t 25, .t 27]), o 29 (.len (.t 28)), o 30 (.mv (.k (.int .i64 (.ofNat 0))))]) (.block 0 (.loop (.seq (.reg [o 31 (.bin .lss (.t 30) (.t 29))]) (.seq (.cond (.t 31) .skip (.exit 0)) (.seq (.block 1 (.seq (.reg [o 32 (.iaddr 2 (.t 28) (.t 30)), o 33 (.load (some 2) (.t 32)), o 12 (.alloc [.bool false, .nils]), .mk none (.store 2 (.t 12) (.t 33)) none]) (.seq (.reg [o 35 (.load (some 2) (.t 12)), o 36 (.call (.k (.fn 31 [])) [.t 35]), o 37 (.call (.k (.fn 32 [])) [.t 36]), o 34 (.mv (.t 37)), o 38 (.ext (.t 34) 0), o 39 (.ext (.t 34) 1), o 13 (.mv (.t 38)), o 14 (.mv (.t 39))]) (.seq (.seq (.reg [o 40 (.mv (.t 14)), o 41 (.bin .neq (.t 40) (.k (.int .i64 (.ofNat 0))))]) (.cond (.t 41) (.seq (.reg [o 42 (.mv (.t 14)), o 6 (.mv (.k .nils)), o 7 (.mv (.t 42))]) .ret) .skip)) (.reg [o 43 (.mv (.t 10)), o 44 (.mv (.t 13)), o 45 (.bslice [.str []] [(0, 1, .t 44)] 1), o 46 (.app 1 16 (.t 43) (.t 45)), o 10 (.mv (.t 46))]))))) (.reg [o 47 (.bin .add (.t 30) (.k (.int .i64 (.ofNat 1)))), o 30 (.mv (.t 47))]))))))) (.seq (.reg [o 48 (.mv (.t 10)), o 6 (.mv (.t 48)), o 7 (.mv (.k (.int .i64 (.ofNat 0))))]) .ret)))))) 49 3 [.t 6, .t 7]
theorem l19 : compFunc Tryd.prog 19 = some L19 := by kernel_rfl
def L20 : XFunc := .mk (.seq (.reg [o 4 (.mv (.k (.bool false)))]) (.seq (.seq (.reg [o 6 (.mv (.t 0)), o 7 (.len (.t 6)), o 8 (.mv (.t 1)), o 9 (.len (.t 8)), o 10 (.bin .neq (.t 7) (.t 9))]) (.cond (.t 10) (.seq (.reg [o 4 (.mv (.k (.bool false)))]) .ret) .skip)) (.seq (.seq (.reg [o 5 (.mv (.k (.int .i64 (.ofNat 0))))]) (.block 0 (.loop (.seq (.seq (.reg [o 11 (.mv (.t 5)), o 12 (.mv (.t 0)), o 13 (.len (.t 12)), o 14 (.bin .lss (.t 11) (.t 13))]) (.cond (.t 14) .skip (.exit 0))) (.seq (.block 1 (.seq (.regd [o 17 (.mv (.t 0)), o 18 (.mv (.t 5)), o 19 (.iaddr 1 (.t 17) (.t 18)), o 20 (.load none (.t 19)), o 21 (.mv (.t 1)), o 22 (.mv (.t 5)), o 23 (.iaddr 1 (.t 21) (.t 22)), o 24 (.load none (.t 23)), o 25 (.bin .neq (.t 20) (.t 24))] [] []) (.cond (.t 25) (.seq (.reg [o 4 (.mv (.k (.bool false)))]) .ret) .skip))) (.reg [o 15 (.mv (.t 5)), o 16 (.bin .add (.t 15) (.k (.int .i64 (.ofNat 1)))), o 5 (.mv (.t 16))])))))) (.seq (.reg [o 4 (.mv (.k (.bool true)))]) .ret)))) 26 2 [.t 4]
theorem l20 : compFunc Tryd.prog 20 = some L20 := by kernel_rfl
def L21 : XFunc := .mk (.seq (.reg [o 2 (.mv (.k .nils)), o 3 (.mv (.k (.int .i64 (.ofNat 0)))), o 4 (.mv (.k (.bool false)))]) (.seq (.reg [o 5 (.mv (.k .nils))]) (.seq (.reg [o 6 (.mv (.k .nils))]) (.seq (.reg [o 7 (.mv (.k (.int .i64 (.ofNat 0))))]) (.seq (.seq (.reg [o 9 (.mv (.t 0)), o 10 (.slen (.t 9)), o 11 (.mv (.k (.int .i64 (.ofNat 0))))]) (.block 0 (.loop (.seq (.reg [o 12 (.bin .lss (.t 11) (.t 10))]) (.seq (.cond (.t 12) .skip (.exit 0)) (.seq (.block 1 (.seq (.reg [o 13 (.mv (.t 11)), o 8 (.mv (.t 13))]) (.seq (.reg [o 14 (.mv (.t 0)), o 15 (.mv (.t 8)), o 16 (.sidx (.t 14) (.t 15))]) (.block 2 (.seq (.reg [o 18 (.bin .eql (.t 16) (.k (.int .u8 (.ofNat 40)))), o 17 (.mv (.t 18))]) (.cond (.t 17) (.seq (.reg [o 19 (.mv (.t 6)), o 20 (.mv (.t 8)), o 21 (.bslice [.int .i64 (.ofNat 0)] [(0, 1, .t 20)] 1), o 22 (.app 1 8 (.t 19) (.t 21)), o 6 (.mv (.t 22))]) (.reg [o 23 (.mv (.t 7)), o 24 (.mv (.t 6)), o 25 (.len (.t 24)), o 26 (.mx [.t 23, .t 25]), o 7 (.mv (.t 26))])) (.seq (.reg [o 28 (.bin .eql (.t 16) (.k (.int .u8 (.ofNat 41)))), o 27 (.mv (.t 28))]) (.cond (.t 27) (.seq (.seq (.reg [o 29 (.mv (.t 6)), o 30 (.len (.t 29)), o 31 (.bin .eql (.t 30) (.k (.int .i64 (.ofNat 0))))]) (.cond (.t 31) (.seq (.reg [o 2 (.mv (.k .nils)), o 3 (.mv (.k (.int .i64 (.ofNat 0)))), o 4 (.mv (.k (.bool false)))]) .ret) .skip)) (.seq (.reg [o 32 (.mv (.t 5)), o 33 (.mv (.t 6)), o 34 (.mv (.t 6)), o 35 (.len (.t 34)), o 36 (.bin .sub (.t 35) (.k (.int .i64 (.ofNat 1)))), o 37 (.iaddr 1 (.t 33) (.t 36)), o 38 (.load none (.t 37)), o 39 (.mv (.t 8)), o 40 (.build [.int .i64 (.ofNat 0), .int .i64 (.ofNat 0)] [(0, 1, .t 38), (1, 1, .t 39)]), o 41 (.bslice [.int .i64 (.ofNat 0), .int .i64 (.ofNat 0)] [(0, 2, .t 40)] 1), o 42 (.app 2 16 (.t 32) (.t 41)), o 5 (.mv (.t 42))]) (.reg [o 43 (.mv (.t 6)), o 44 (.mv (.t 6)), o 45 (.len (.t 44)), o 46 (.bin .sub (.t 45) (.k (.int .i64 (.ofNat 1)))), o 47 (.cut 1 (.t 43) none (some (.t 46)) none), o 6 (.mv (.t 47))]))) (.seq (.reg [o 49 (.bin .eql (.t 16) (.k (.int .u8 (.ofNat 46)))), o 48 (.mv (.t 49))]) (.cond (.t 48) .skip (.seq (.reg [o 2 (.mv (.k .nils)), o 3 (.mv (.k (.int .i64 (.ofNat 0)))), o 4 (.mv (.k (.bool false)))]) .ret))))))))))) (.reg [o 50 (.bin .add (.t 11) (.k (.int .i64 (.ofNat 1)))), o 11 (.mv (.t 50))]))))))) (.seq (.reg [o 51 (.mv (.t 5)), o 52 (.call (.k (.fn 33 [])) [.t 51, .k (.fn 34 [])])]) (.seq (.reg [o 53 (.mv (.t 5)), o 54 (.mv (.t 7)), o 55 (.mv (.t 6)), o 56 (.len (.t 55)), o 57 (.bin .eql (.t 56) (.k (.int .i64 (.ofNat 0)))), o 2 (.mv (.t 53)), o 3 (.mv (.t 54)), o 4 (.mv (.t 57))]) .ret))))))) 58 1 [.t 2, .t 3, .t 4]
theorem l21 : compFunc Tryd.prog 21 = some L21 := by kernel_rfl
def L22 : XFunc := .mk (.seq (.reg [o 6 (.mv (.k (.str []))), o 7 (.mv (.k (.int .i64 (.ofNat 0))))]) (.seq (.reg [o 11 (.mv (.t 0)), o 12 (.mv (.t 1)), o 13 (.mv (.t 2)), o 14 (.call (.k (.fn 24 [])) [.t 11, .t 12, .t 13]), o 10 (.mv (.t 14)), o 15 (.ext (.t 10) 0), o 16 (.ext (.t 10) 1), o 8 (.mv (.t 15)), o 9 (.mv (.t 16))]) (.seq (.seq (.reg [o 17 (.mv (.t 9)), o 18 (.bin .neq (.t 17) (.k (.int .i64 (.ofNat 0))))]) (.cond (.t 18) (.seq (.reg [o 19 (.mv (.t 9)), o 6 (.mv (.k (.str []))), o 7 (.mv (.t 19))]) .ret) .skip)) (.seq (.reg [o 20 (.mv (.t 8)), o 21 (.mv (.t 8)), o 22 (.call (.k (.fn 29 [])) [.t 21]), o 23 (.call (.k (.fn 28 [])) [.t 20, .t 22]), o 24 (.call (.k (.fn 35 [])) [.t 23]), o 25 (.call (.k (.fn 31 [])) [.t 24]), o 26 (.call (.k (.fn 32 [])) [.t 25]), o 27 (.ext (.t 26) 0), o 28 (.ext (.t 26) 1), o 6 (.mv (.t 27)), o 7 (.mv (.t 28))]) .ret)))) 29 3 [.t 6, .t 7]
theorem l22 : compFunc Tryd.prog 22 = some L22 := by kernel_rfl
def L23 : XFunc := .mk (.seq (.reg [o 8 (.mv (.k (.str []))), o 9 (.mv (.k (.int .i64 (.ofNat 0))))]) (.seq (.reg [o 20 (.mv (.t 0)), o 21 (.mv (.t 1)), o 22 (.mv (.t 2)), o 23 (.call (.k (.fn 24 [])) [.t 20, .t 21, .t 22]), o 19 (.mv (.t 23)), o 24 (.ext (.t 19) 0), o 25 (.ext (.t 19) 1), o 10 (.mv (.t 24)), o 11 (.mv (.t 25))]) (.seq (.block 0 (.seq (.reg [o 27 (.mv (.t 11)), o 28 (.bin .neq (.t 27) (.k (.int .i64 (.ofNat 0)))), o 26 (.mv (.t 28))]) (.cond (.t 26) (.seq (.reg [o 29 (.mv (.t 11)), o 8 (.mv (.k (.str []))), o 9 (.mv (.t 29))]) .ret) (.seq (.reg [o 31 (.mv (.t 10)), o 32 (.mv (.t 3)), o 33 (.call (.k (.fn 25 [])) [.t 31, .t 32]), o 34 (.un .not (.t 33)), o 30 (.mv (.t 34))]) (.cond (.t 30) (.seq (.reg [o 8 (.mv (.k (.str []))), o 9 (.mv (.k (.int .i64 (.ofNat 2))))]) .ret) .skip))))) (.seq (.reg [o 35 (.mv (.t 10)), o 36 .mkmap, o 37 (.build [.nilp, .nilm] [(0, 1, .t 35), (1, 1, .t 36)]), o 38 (.box (.t 37)), o 12 (.mv (.t 38))]) (.seq (.reg [o 39 (.call (.k (.fn 36 [])) [.k (.int .i64 (.ofNat 0))]), o 13 (.alloc [.bool false, .nils]), .mk none (.store 2 (.t 13) (.t 39)) none]) (.seq (.reg [o 14 (.mv (.k .nils))]) (.seq (.seq (.reg [o 40 (.mv (.t 0)), o 41 (.slen (.t 40)), o 42 (.mv (.k (.int .i64 (.ofNat 0))))]) (.block 1 (.loop (.seq (.reg [o 43 (.bin .lss (.t 42) (.t 41))]) (.seq (.cond (.t 43) .skip (.exit 1)) (.seq (.block 2 (.seq (.reg [o 44 (.mv (.t 42)), o 15 (.mv (.t 44))]) (.seq (.seq (.reg [o 16 (.mv (.k (.int .i64 (.ofNat 0))))]) (.block 3 (.loop (.seq (.seq (.regd [o 45 (.mv (.t 16)), o 46 (.sidx (.k (.str [UInt8.ofNat 40, UInt8.ofNat 41, UInt8.ofNat 46])) (.t 45)), o 47 (.mv (.t 3)), o 48 (.mv (.t 15)), o 49 (.sidx (.t 47) (.t 48)), o 50 (.bin .neq (.t 46) (.t 49))] [] []) (.cond (.t 50) .skip (.exit 3))) (.seq (.block 4 (.seq (.reg [o 54 (.mv (.t 12)), o 55 (.mv (.t 15)), o 56 (.mv (.t 14)), o 57 (.mv (.t 16)), o 58 (.sidx (.k (.str [UInt8.ofNat 40, UInt8.ofNat 41, UInt8.ofNat 46])) (.t 57)), o 59 (.call (.k (.fn 37 [])) [.t 54, .t 55, .t 56, .t 58]), o 53 (.mv (.t 59)), o 60 (.ext (.t 53) 0), o 61 (.ext (.t 53) 1), o 17 (.mv (.t 60)), o 18 (.mv (.t 61))]) (.seq (.reg [o 62 (.mv (.t 18))]) (.cond (.t 62) (.regd [o 63 (.load (some 2) (.t 13)), o 64 (.mv (.t 12)), o 65 (.mv (.t 15)), o 66 (.bin .add (.t 65) (.k (.int .i64 (.ofNat 1)))), o 67 (.mv (.t 17)), o 68 (.call (.k (.fn 39 [])) [.t 64, .t 66, .t 67]), o 69 (.call (.k (.fn 38 [])) [.t 63, .t 68]), .mk none (.store 2 (.t 13) (.t 69)) none] [(0, [5], [])] []) .skip)))) (.reg [o 51 (.mv (.t 16)), o 52 (.bin .add (.t 51) (.k (.int .i64 (.ofNat 1)))), o 16 (.mv (.t 52))])))))) (.reg [o 71 (.mv (.t 12)), o 72 (.mv (.t 15)), o 73 (.mv (.t 14)), o 74 (.mv (.t 3)), o 75 (.mv (.t 15)), o 76 (.sidx (.t 74) (.t 75)), o 77 (.call (.k (.fn 37 [])) [.t 71, .t 72, .t 73, .t 76]), o 70 (.mv (.t 77)), o 78 (.ext (.t 70) 0), o 79 (.ext (.t 70) 1), o 14 (.mv (.t 78))])))) (.reg [o 80 (.bin .add (.t 42) (.k (.int .i64 (.ofNat 1)))), o 42 (.mv (.t 80))]))))))) (.seq (.reg [o 81 (.load (some 2) (.t 13)), o 82 (.call (.k (.fn 31 [])) [.t 81]), o 83 (.call (.k (.fn 32 [])) [.t 82]), o 84 (.ext (.t 83) 0), o 85 (.ext (.t 83) 1), o 8 (.mv (.t 84)), o 9 (.mv (.t 85))]) .ret)))))))) 86 4 [.t 8, .t 9]
theorem l23 : compFunc Tryd.prog 23 = some L23 := by kernel_rfl
def L24 : XFunc := .mk (.seq (.reg [o 6 (.mv (.k .nilp)), o 7 (.mv (.k (.int .i64 (.ofNat 0))))]) (.seq (.seq (.reg [o 11 (.mv (.t 0)), o 12 (.slen (.t 11)), o 13 (.bin .gtr (.t 12) (.k (.int .i64 (.ofNat 40)))), o 14 (.mv (.t 13)), og 15 (.mv (.t 1)) 14 false, og 16 (.len (.t 15)) 14 false, og 17 (.bin .gtr (.t 16) (.k (.int .i64 (.ofNat 16)))) 14 false, o 18 (.pick (.t 14) (.k (.bool true)) (.t 17))]) (.cond (.t 18) (.seq (.reg [o 6 (.mv (.k .nilp)), o 7 (.mv (.k (.int .i64 (.ofNat 3))))]) .ret) .skip)) (.seq (.reg [o 19 (.mv (.t 0)), o 20 (.mv (.t 2)), o 21 .mkmap, o 22 .mkmap, o 23 (.build [.str [], .bool false, .bool false, .bool false, .bool false, .bool false, .bool false, .bool false, .bool false, .bool false, .bool false, .bool false, .bool false, .bool false, .bool false, .bool false, .bool false, .int .i64 (.ofNat 0), .nilm, .nilm] [(0, 1, .t 19), (17, 1, .t 20), (18, 1, .t 21), (19, 1, .t 22)]), o 24 (.box (.t 23)), o 8 (.mv (.t 24))]) (.seq (.seq (.reg [o 25 (.mv (.t 1)), o 26 (.len (.t 25)), o 27 (.mv (.k (.int .i64 (.ofNat 0))))]) (.block 0 (.loop (.seq (.reg [o 28 (.bin .lss (.t 27) (.t 26))]) (.seq (.cond (.t 28) .skip (.exit 0)) (.seq (.block 1 (.seq (.reg [o 29 (.iaddr 2 (.t 25) (.t 27)), o 30 (.load (some 2) (.t 29)), o 10 (.alloc [.int .i64 (.ofNat 0), .int .i64 (.ofNat 0)]), .mk none (.store 2 (.t 10) (.t 30)) none]) (.seq (.seq (.reg [o 31 (.faddr 0 (.t 10)), o 32 (.load none (.t 31)), o 33 (.faddr 1 (.t 10)), o 34 (.load none (.t 33)), o 35 (.mn [.t 32, .t 34]), o 36 (.bin .lss (.t 35) (.k (.int .i64 (.ofNat 0)))), o 37 (.mv (.t 36)), og 38 (.faddr 0 (.t 10)) 37 false, og 39 (.load none (.t 38)) 37 false, og 40 (.faddr 1 (.t 10)) 37 false, og 41 (.load none (.t 40)) 37 false, og 42 (.mx [.t 39, .t 41]) 37 false, og 43 (.bin .geq (.t 42) (.k (.int .i64 (.ofNat 4)))) 37 false, o 44 (.pick (.t 37) (.k (.bool true)) (.t 43))]) (.cond (.t 44) (.seq (.reg [o 6 (.mv (.k .nilp)), o 7 (.mv (.k (.int .i64 (.ofNat 1))))]) .ret) .skip)) (.regd [o 45 (.mv (.t 8)), o 46 (.faddr 0 (.t 10)), o 47 (.load none (.t 46)), o 48 (.faddr 1 (.t 10)), o 49 (.load none (.t 48)), o 50 (.mv (.t 8)), o 51 (.faddr 1 (.t 10)), o 52 (.load none (.t 51)), o 53 (.faddr 0 (.t 10)), o 54 (.load none (.t 53)), o 55 (.nilc (.t 45)), o 56 (.faddr 1 (.t 55)), o 57 (.aaddr 4 4 (.t 56) (.t 47)), o 58 (.aaddr 4 1 (.t 57) (.t 49)), .mk none (.store 1 (.t 58) (.k (.bool true))) none, o 59 (.nilc (.t 50)), o 60 (.faddr 1 (.t 59)), o 61 (.aaddr 4 4 (.t 60) (.t 52)), o 62 (.aaddr 4 1 (.t 61) (.t 54)), .mk none (.store 1 (.t 62) (.k (.bool true))) none] [(7, [14], []), (9, [14], [])] [])))) (.reg [o 63 (.bin .add (.t 27) (.k (.int .i64 (.ofNat 1)))), o 27 (.mv (.t 63))]))))))) (.seq (.block 2 (.seq (.reg [o 65 (.mv (.t 2)), o 66 (.bin .lss (.t 65) (.k (.int .i64 (.ofNat 0)))), o 67 (.mv (.t 66)), og 68 (.mv (.t 2)) 67 false, og 69 (.bin .gtr (.t 68) (.k (.int .i64 (.ofNat 5)))) 67 false, o 70 (.pick (.t 67) (.k (.bool true)) (.t 69)), o 64 (.mv (.t 70))]) (.cond (.t 64) (.seq (.reg [o 6 (.mv (.k .nilp)), o 7 (.mv (.k (.int .i64 (.ofNat 1))))]) .ret) (.seq (.reg [o 72 (.mv (.t 0)), o 73 (.call (.k (.fn 40 [])) [.t 72, .k (.str [UInt8.ofNat 97, UInt8.ofNat 98, UInt8.ofNat 99, UInt8.ofNat 100])]), o 74 (.bin .neq (.t 73) (.k (.str []))), o 71 (.mv (.t 74))]) (.cond (.t 71) (.seq (.reg [o 6 (.mv (.k .nilp)), o 7 (.mv (.k (.int .i64 (.ofNat 2))))]) .ret) .skip))))) (.seq (.reg [o 75 (.mv (.t 8)), o 6 (.mv (.t 75)), o 7 (.mv (.k (.int .i64 (.ofNat 0))))]) .ret)))))) 76 3 [.t 6, .t 7]
theorem l24 : compFunc Tryd.prog 24 = some L24 := by kernel_rfl
def L25 : XFunc := .mk (.seq (.reg [o 2 (.box (.t 0)), o 4 (.mv (.k (.bool false)))]) (.seq (.reg [o 9 (.mv (.t 1)), o 10 (.call (.k (.fn 21 [])) [.t 9]), o 8 (.mv (.t 10)), o 11 (.ext (.t 8) 0), o 12 (.ext (.t 8) 1), o 13 (.ext (.t 8) 2), o 5 (.mv (.t 11)), o 6 (.mv (.t 12)), o 7 (.mv (.t 13))]) (.seq (.reg [o 14 (.mv (.t 7)), o 15 (.mv (.t 14)), og 16 (.mv (.t 1)) 15 true, og 17 (.slen (.t 16)) 15 true, og 18 (.load none (.t 2)) 15 true, og 19 (.nilc (.t 18)) 15 true, og 20 (.faddr 0 (.t 19)) 15 true, og 21 (.load none (.t 20)) 15 true, og 22 (.slen (.t 21)) 15 true, og 23 (.bin .eql (.t 17) (.t 22)) 15 true, o 24 (.pick (.t 15) (.t 23) (.k (.bool false))), o 25 (.mv (.t 24)), og 26 (.mv (.t 5)) 25 true, og 27 (.mkfn 42 [.t 2]) 25 true, og 28 (.call (.k (.fn 41 [])) [.t 26, .t 27]) 25 true, og 29 (.un .not (.t 28)) 25 true, o 30 (.pick (.t 25) (.t 29) (.k (.bool false))), o 4 (.mv (.t 30))]) .ret))) 31 2 [.t 4]
theorem l25 : compFunc Tryd.prog 25 = some L25 := by kernel_rfl
def L28 : XFunc := .mk (.seq (.reg [o 3 (.box (.t 1)), o 4 (.mv (.k .nils))]) (.seq (.seq (.reg [o 9 (.faddr 1 (.t 3)), o 10 (.load none (.t 9)), o 11 (.faddr 0 (.t 3)), o 12 (.load none (.t 11)), o 13 (.bin .sub (.t 10) (.t 12)), o 14 (.bin .lss (.t 13) (.k (.int .i64 (.ofNat 2))))]) (.cond (.t 14) (.seq (.reg [o 15 (.call (.k (.fn 36 [])) [.k (.int .i64 (.ofNat 1))]), o 16 (.bslice [.bool false, .nils] [(0, 2, .t 15)] 1), o 4 (.mv (.t 16))]) .ret) .skip)) (.seq (.seq (.regd [o 18 (.mv (.t 0)), o 19 (.nilc (.t 18)), o 20 (.faddr 18 (.t 19)), o 21 (.load none (.t 20)), o 22 (.load (some 2) (.t 3)), o 23 (.look (.mk true [.i .i64, .i .i64]) .nils (.t 21) (.t 22) true), o 17 (.mv (.t 23)), o 24 (.ext (.t 17) 0), o 25 (.ext (.t 17) 1), o 5 (.mv (.t 24)), o 6 (.mv (.t 25))] [] []) (.seq (.reg [o 26 (.mv (.t 6))]) (.cond (.t 26) (.seq (.reg [o 27 (.mv (.t 5)), o 4 (.mv (.t 27))]) .ret) .skip))) (.seq (.reg [o 28 (.mv (.t 0)), o 29 (.faddr 0 (.t 3)), o 30 (.load none (.t 29)), o 31 (.bin .add (.t 30) (.k (.int .i64 (.ofNat 1)))), o 32 (.faddr 1 (.t 3)), o 33 (.load none (.t 32)), o 34 (.build [.int .i64 (.ofNat 0), .int .i64 (.ofNat 0)] [(0, 1, .t 31), (1, 1, .t 33)]), o 35 (.call (.k (.fn 28 [])) [.t 28, .t 34]), o 36 (.call (.k (.fn 44 [])) [.t 35]), o 7 (.mv (.t 36))]) (.seq (.seq (.reg [o 37 (.faddr 0 (.t 3)), o 38 (.load none (.t 37)), o 39 (.bin .add (.t 38) (.k (.int .i64 (.ofNat 1)))), o 8 (.mv (.t 39))]) (.block 0 (.loop (.seq (.seq (.reg [o 40 (.mv (.t 8)), o 41 (.faddr 1 (.t 3)), o 42 (.load none (.t 41)), o 43 (.bin .lss (.t 40) (.t 42))]) (.cond (.t 43) .skip (.exit 0))) (.seq (.block 1 (.seq (.reg [o 46 (.mv (.t 0)), o 47 (.faddr 0 (.t 3)), o 48 (.load none (.t 47)), o 49 (.mv (.t 8)), o 50 (.call (.k (.fn 43 [])) [.t 46, .t 48, .t 49])]) (.cond (.t 50) (.regd [o 51 (.mv (.t 7)), o 52 (.mv (.t 0)), o 53 (.faddr 0 (.t 3)), o 54 (.load none (.t 53)), o 55 (.bin .add (.t 54) (.k (.int .i64 (.ofNat 1)))), o 56 (.mv (.t 8)), o 57 (.build [.int .i64 (.ofNat 0), .int .i64 (.ofNat 0)] [(0, 1, .t 55), (1, 1, .t 56)]), o 58 (.call (.k (.fn 28 [])) [.t 52, .t 57]), o 59 (.mv (.t 0)), o 60 (.mv (.t 8)), o 61 (.bin .add (.t 60) (.k (.int .i64 (.ofNat 1)))), o 62 (.faddr 1 (.t 3)), o 63 (.load none (.t 62)), o 64 (.build [.int .i64 (.ofNat 0), .int .i64 (.ofNat 0)] [(0, 1, .t 61), (1, 1, .t 63)]), o 65 (.call (.k (.fn 28 [])) [.t 59, .t 64]), o 66 (.call (.k (.fn 46 [])) [.t 58, .t 65]), o 67 (.call (.k (.fn 45 [])) [.t 51, .t 66, .k (.int .i64 (.ofNat 1))]), o 7 (.mv (.t 67))] [(12, [7], [])] []) .skip))) (.reg [o 44 (.mv (.t 8)), o 45 (.bin .add (.t 44) (.k (.int .i64 (.ofNat 1)))), o 8 (.mv (.t 45))])))))) (.seq (.regd [o 68 (.mv (.t 0)), o 69 (.nilc (.t 68)), o 70 (.faddr 18 (.t 69)), o 71 (.load none (.t 70)), o 72 (.load (some 2) (.t 3)), o 73 (.mv (.t 7)), .mk none (.upd (.mk true [.i .i64, .i .i64]) (.t 71) (.t 72) (.t 73)) none] [] []) (.seq (.reg [o 74 (.mv (.t 7)), o 4 (.mv (.t 74))]) .ret))))))) 75 2 [.t 4]
theorem l28 : compFunc Tryd.prog 28 = some L28 := by kernel_rfl
def L29 : XFunc := .mk (.seq (.reg [o 2 (.alloc [.int .i64 (.ofNat 0), .int .i64 (.ofNat 0)])]) (.seq (.reg [o 3 (.mv (.t 0)), o 4 (.nilc (.t 3)), o 5 (.faddr 0 (.t 4)), o 6 (.load none (.t 5)), o 7 (.slen (.t 6)), o 8 (.build [.int .i64 (.ofNat 0), .int .i64 (.ofNat 0)] [(0, 1, .k (.int .i64 (.ofNat 0))), (1, 1, .t 7)]), .mk none (.store 2 (.t 2) (.t 8)) none]) .ret)) 9 1 [.c 2 (some 2)]
theorem l29 : compFunc Tryd.prog 29 = some L29 := by kernel_rfl
def L30 : XFunc := .mk (.seq (.reg [o 3 (.box (.t 1)), o 4 (.mv (.k (.str [])))]) (.seq (.seq (.reg [o 10 (.faddr 1 (.t 3)), o 11 (.load none (.t 10)), o 12 (.faddr 0 (.t 3)), o 13 (.load none (.t 12)), o 14 (.bin .eql (.t 11) (.t 13))]) (.cond (.t 14) (.seq (.reg [o 4 (.mv (.k (.str [])))]) .ret) .skip)) (.seq (.seq (.regd [o 16 (.mv (.t 0)), o 17 (.nilc (.t 16)), o 18 (.faddr 19 (.t 17)), o 19 (.load none (.t 18)), o 20 (.load (some 2) (.t 3)), o 21 (.look (.mk true [.i .i64, .i .i64]) (.str []) (.t 19) (.t 20) true), o 15 (.mv (.t 21)), o 22 (.ext (.t 15) 0), o 23 (.ext (.t 15) 1), o 5 (.mv (.t 22)), o 6 (.mv (.t 23))] [] []) (.seq (.reg [o 24 (.mv (.t 6))]) (.cond (.t 24) (.seq (.reg [o 25 (.mv (.t 5)), o 4 (.mv (.t 25))]) .ret) .skip))) (.seq (.reg [o 7 (.mv (.k (.str [])))]) (.seq (.seq (.reg [o 26 (.faddr 0 (.t 3)), o 27 (.load none (.t 26)), o 28 (.bin .add (.t 27) (.k (.int .i64 (.ofNat 1)))), o 8 (.mv (.t 28))]) (.block 0 (.loop (.seq (.seq (.reg [o 29 (.mv (.t 8)), o 30 (.faddr 1 (.t 3)), o 31 (.load none (.t 30)), o 32 (.bin .lss (.t 29) (.t 31))]) (.cond (.t 32) .skip (.exit 0))) (.seq (.block 1 (.seq (.regd [o 35 (.mv (.t 0)), o 36 (.faddr 0 (.t 3)), o 37 (.load none (.t 36)), o 38 (.mv (.t 8)), o 39 (.call (.k (.fn 43 [])) [.t 35, .t 37, .t 38]), o 40 (.mv (.t 39)), og 41 (.mv (.t 0)) 40 true, og 42 (.faddr 0 (.t 3)) 40 true, og 43 (.load none (.t 42)) 40 true, og 44 (.bin .add (.t 43) (.k (.int .i64 (.ofNat 1)))) 40 true, og 45 (.mv (.t 8)) 40 true, og 46 (.build [.int .i64 (.ofNat 0), .int .i64 (.ofNat 0)] [(0, 1, .t 44), (1, 1, .t 45)]) 40 true, og 47 (.call (.k (.fn 47 [])) [.t 41, .t 46]) 40 true, og 48 (.bin .add (.k (.int .i64 (.ofNat 1))) (.t 47)) 40 true, og 49 (.mv (.t 0)) 40 true, og 50 (.mv (.t 8)) 40 true, og 51 (.bin .add (.t 50) (.k (.int .i64 (.ofNat 1)))) 40 true, og 52 (.faddr 1 (.t 3)) 40 true, og 53 (.load none (.t 52)) 40 true, og 54 (.build [.int .i64 (.ofNat 0), .int .i64 (.ofNat 0)] [(0, 1, .t 51), (1, 1, .t 53)]) 40 true, og 55 (.call (.k (.fn 47 [])) [.t 49, .t 54]) 40 true, og 56 (.bin .add (.t 48) (.t 55)) 40 true, og 57 (.mv (.t 0)) 40 true, og 58 (.load (some 2) (.t 3)) 40 true, og 59 (.call (.k (.fn 47 [])) [.t 57, .t 58]) 40 true, og 60 (.bin .eql (.t 56) (.t 59)) 40 true, o 61 (.pick (.t 40) (.t 60) (.k (.bool false)))] [(18, [12], []), (23, [12, 20], [])] []) (.cond (.t 61) (.seq (.regd [o 62 (.mv (.t 0)), o 63 (.faddr 0 (.t 3)), o 64 (.load none (.t 63)), o 65 (.bin .add (.t 64) (.k (.int .i64 (.ofNat 1)))), o 66 (.mv (.t 8)), o 67 (.build [.int .i64 (.ofNat 0), .int .i64 (.ofNat 0)] [(0, 1, .t 65), (1, 1, .t 66)]), o 68 (.call (.k (.fn 30 [])) [.t 62, .t 67]), o 69 (.bin .add (.k (.str [UInt8.ofNat 40])) (.t 68)), o 70 (.bin .add (.t 69) (.k (.str [UInt8.ofNat 41]))), o 71 (.mv (.t 0)), o 72 (.mv (.t 8)), o 73 (.bin .add (.t 72) (.k (.int .i64 (.ofNat 1)))), o 74 (.faddr 1 (.t 3)), o 75 (.load none (.t 74)), o 76 (.build [.int .i64 (.ofNat 0), .int .i64 (.ofNat 0)] [(0, 1, .t 73), (1, 1, .t 75)]), o 77 (.call (.k (.fn 30 [])) [.t 71, .t 76]), o 78 (.bin .add (.t 70) (.t 77)), o 9 (.mv (.t 78))] [(13, [6], [])] []) (.seq (.reg [o 79 (.mv (.t 7)), o 80 (.bin .eql (.t 79) (.k (.str []))), o 81 (.mv (.t 80)), og 82 (.mv (.t 9)) 81 false, og 83 (.mv (.t 7)) 81 false, og 84 (.bin .lss (.t 82) (.t 83)) 81 false, o 85 (.pick (.t 81) (.k (.bool true)) (.t 84))]) (.cond (.t 85) (.reg [o 86 (.mv (.t 9)), o 7 (.mv (.t 86))]) .skip))) .skip))) (.reg [o 33 (.mv (.t 8)), o 34 (.bin .add (.t 33) (.k (.int .i64 (.ofNat 1)))), o 8 (.mv (.t 34))])))))) (.seq (.seq (.reg [o 87 (.mv (.t 7)), o 88 (.bin .eql (.t 87) (.k (.str [])))]) (.cond (.t 88) (.reg [o 89 (.mv (.t 0)), o 90 (.faddr 0 (.t 3)), o 91 (.load none (.t 90)), o 92 (.bin .add (.t 91) (.k (.int .i64 (.ofNat 1)))), o 93 (.faddr 1 (.t 3)), o 94 (.load none (.t 93)), o 95 (.build [.int .i64 (.ofNat 0), .int .i64 (.ofNat 0)] [(0, 1, .t 92), (1, 1, .t 94)]), o 96 (.call (.k (.fn 30 [])) [.t 89, .t 95]), o 97 (.bin .add (.k (.str [UInt8.ofNat 46])) (.t 96)), o 7 (.mv (.t 97))]) .skip)) (.seq (.regd [o 98 (.mv (.t 0)), o 99 (.nilc (.t 98)), o 100 (.faddr 19 (.t 99)), o 101 (.load none (.t 100)), o 102 (.load (some 2) (.t 3)), o 103 (.mv (.t 7)), .mk none (.upd (.mk true [.i .i64, .i .i64]) (.t 101) (.t 102) (.t 103)) none] [] []) (.seq (.reg [o 104 (.mv (.t 7)), o 4 (.mv (.t 104))]) .ret)))))))) 105 2 [.t 4]
theorem l30 : compFunc Tryd.prog 30 = some L30 := by kernel_rfl
def L31 : XFunc := .mk (.seq (.reg [o 1 (.box (.t 0)), o 2 (.alloc [.bool false, .nils, .bool false, .nils])]) (.seq (.regd [o 3 (.load (some 2) (.t 1)), o 4 (.call (.k (.fn 36 [])) [.k (.int .i64 (.ofNat 1))]), o 5 (.build [.bool false, .nils, .bool false, .nils] [(0, 2, .t 3), (2, 2, .t 4)]), .mk none (.store 4 (.t 2) (.t 5)) none] [(0, [1], [])] []) .ret)) 6 1 [.c 2 (some 4)]
theorem l31 : compFunc Tryd.prog 31 = some L31 := by kernel_rfl
def L32 : XFunc := .mk (.seq (.reg [o 1 (.box (.t 0)), o 2 (.mv (.k (.str []))), o 3 (.mv (.k (.int .i64 (.ofNat 0))))]) (.seq (.reg [o 6 (.faddr 0 (.t 1)), o 7 (.faddr 1 (.t 6)), o 8 (.load none (.t 7)), o 9 (.call (.k (.fn 48 [])) [.t 8]), o 4 (.mv (.t 9))]) (.seq (.seq (.reg [o 10 (.mv (.t 4)), o 11 (.slen (.t 10)), o 12 (.bin .gtr (.t 11) (.k (.int .i64 (.ofNat 4000))))]) (.cond (.t 12) (.seq (.reg [o 2 (.mv (.k (.str []))), o 3 (.mv (.k (.int .i64 (.ofNat 4))))]) .ret) .skip)) (.seq (.seq (.reg [o 13 (.faddr 0 (.t 1)), o 14 (.faddr 0 (.t 13)), o 15 (.load none (.t 14))]) (.cond (.t 15) (.reg [o 16 (.mv (.t 4)), o 17 (.bin .add (.k (.str [UInt8.ofNat 45])) (.t 16)), o 4 (.mv (.t 17))]) .skip)) (.seq (.seq (.reg [o 18 (.load (some 4) (.t 1)), o 19 (.call (.k (.fn 49 [])) [.t 18])]) (.cond (.t 19) (.seq (.reg [o 20 (.mv (.t 4)), o 2 (.mv (.t 20)), o 3 (.mv (.k (.int .i64 (.ofNat 0))))]) .ret) .skip)) (.seq (.reg [o 21 (.faddr 2 (.t 1)), o 22 (.faddr 1 (.t 21)), o 23 (.load none (.t 22)), o 24 (.call (.k (.fn 48 [])) [.t 23]), o 5 (.mv (.t 24))]) (.seq (.seq (.reg [o 25 (.mv (.t 5)), o 26 (.slen (.t 25)), o 27 (.bin .gtr (.t 26) (.k (.int .i64 (.ofNat 4000))))]) (.cond (.t 27) (.seq (.reg [o 2 (.mv (.k (.str []))), o 3 (.mv (.k (.int .i64 (.ofNat 4))))]) .ret) .skip)) (.seq (.reg [o 28 (.mv (.t 4)), o 29 (.bin .add (.t 28) (.k (.str [UInt8.ofNat 47]))), o 30 (.mv (.t 5)), o 31 (.bin .add (.t 29) (.t 30)), o 2 (.mv (.t 31)), o 3 (.mv (.k (.int .i64 (.ofNat 0))))]) .ret)))))))) 32 1 [.t 2, .t 3]
theorem l32 : compFunc Tryd.prog 32 = some L32 := by kernel_rfl
def L33 : XFunc := .mk (.seq (.reg [o 5 (.mv (.t 0)), o 6 (.len (.t 5)), o 4 (.mv (.t 6))]) (.reg [o 7 (.mv (.t 0)), o 8 (.mv (.t 4)), o 9 (.mv (.t 4)), o 10 (.conv .u64 (.t 9)), o 11 (.call (.k (.fn 51 [])) [.t 10]), o 12 (.mv (.t 1)), o 13 (.call (.k (.fn 50 [])) [.t 7, .k (.int .i64 (.ofNat 0)), .t 8, .t 11, .t 12])])) 14 2 []
theorem l33 : compFunc Tryd.prog 33 = some L33 := by kernel_rfl
def L34 : XFunc := .mk (.seq (.reg [o 2 (.box (.t 0)), o 3 (.box (.t 1)), o 4 (.mv (.k (.int .i64 (.ofNat 0))))]) (.seq (.reg [o 5 (.faddr 0 (.t 2)), o 6 (.load none (.t 5)), o 7 (.faddr 0 (.t 3)), o 8 (.load none (.t 7)), o 9 (.bin .sub (.t 6) (.t 8)), o 4 (.mv (.t 9))]) .ret)) 10 2 [.t 4]
theorem l34 : compFunc Tryd.prog 34 = some L34 := by kernel_rfl
def L35 : XFunc := .mk (.seq (.reg [o 2 (.alloc [.bool false, .nils])]) (.seq (.reg [o 6 (.call (.k (.fn 36 [])) [.k (.int .i64 (.ofNat 0))]), o 3 (.alloc [.bool false, .nils]), .mk none (.store 2 (.t 3) (.t 6)) none]) (.seq (.seq (.reg [o 7 (.mv (.t 0)), o 8 (.len (.t 7)), o 9 (.mv (.k (.int .i64 (.ofNat 0))))]) (.block 0 (.loop (.seq (.reg [o 10 (.bin .lss (.t 9) (.t 8))]) (.seq (.cond (.t 10) .skip (.exit 0)) (.seq (.block 1 (.seq (.reg [o 11 (.iaddr 2 (.t 7) (.t 9)), o 12 (.load (some 2) (.t 11)), o 5 (.alloc [.bool false, .nils]), .mk none (.store 2 (.t 5) (.t 12)) none]) (.reg [o 13 (.load (some 2) (.t 3)), o 14 (.load (some 2) (.t 5)), o 15 (.call (.k (.fn 38 [])) [.t 13, .t 14]), .mk none (.store 2 (.t 3) (.t 15)) none]))) (.reg [o 16 (.bin .add (.t 9) (.k (.int .i64 (.ofNat 1)))), o 9 (.mv (.t 16))]))))))) (.seq (.reg [o 17 (.load (some 2) (.t 3)), .mk none (.store 2 (.t 2) (.t 17)) none]) .ret)))) 18 1 [.c 2 (some 2)]
theorem l35 : compFunc Tryd.prog 35 = some L35 := by kernel_rfl
def L36 : XFunc := .mk (.seq (.reg [o 2 (.alloc [.bool false, .nils])]) (.seq (.reg [o 4 (.mv (.t 0)), o 5 (.conv .u64 (.t 4)), o 3 (.mv (.t 5))]) (.seq (.seq (.reg [o 6 (.mv (.t 0)), o 7 (.bin .lss (.t 6) (.k (.int .i64 (.ofNat 0))))]) (.cond (.t 7) (.reg [o 8 (.mv (.t 3)), o 9 (.un .neg (.t 8)), o 3 (.mv (.t 9))]) .skip)) (.seq (.reg [o 10 (.mv (.t 0)), o 11 (.bin .lss (.t 10) (.k (.int .i64 (.ofNat 0)))), o 12 (.mv (.t 3)), o 13 (.conv .u32 (.t 12)), o 14 (.mv (.t 3)), o 15 (.bin .shr (.t 14) (.k (.int .u64 (.ofNat 32)))), o 16 (.conv .u32 (.t 15)), o 17 (.bslice [.int .u32 (.ofNat 0)] [(0, 1, .t 13), (1, 1, .t 16)] 2), o 18 (.call (.k (.fn 53 [])) [.t 17]), o 19 (.call (.k (.fn 52 [])) [.t 11, .t 18]), .mk none (.store 2 (.t 2) (.t 19)) none]) .ret)))) 20 1 [.c 2 (some 2)]
theorem l36 : compFunc Tryd.prog 36 = some L36 := by kernel_rfl
def L37 : XFunc := .mk (.seq (.reg [o 8 (.mv (.k .nils)), o 9 (.mv (.k (.bool false)))]) (.seq (.seq (.reg [o 10 (.mv (.t 3))]) (.block 0 (.seq (.reg [o 12 (.bin .eql (.t 10) (.k (.int .u8 (.ofNat 40)))), o 11 (.mv (.t 12))]) (.cond (.t 11) (.seq (.reg [o 13 (.mv (.t 2)), o 14 (.mv (.t 2)), o 15 (.len (.t 14)), o 16 (.mv (.t 2)), o 17 (.len (.t 16)), o 18 (.cut 1 (.t 13) none (some (.t 15)) (some (.t 17))), o 19 (.mv (.t 1)), o 20 (.bslice [.int .i64 (.ofNat 0)] [(0, 1, .t 19)] 1), o 21 (.app 1 8 (.t 18) (.t 20)), o 8 (.mv (.t 21)), o 9 (.mv (.k (.bool true)))]) .ret) (.seq (.reg [o 23 (.bin .eql (.t 10) (.k (.int .u8 (.ofNat 41)))), o 22 (.mv (.t 23))]) (.cond (.t 22) (.seq (.seq (.regd [o 24 (.mv (.t 2)), o 25 (.len (.t 24)), o 26 (.bin .eql (.t 25) (.k (.int .i64 (.ofNat 0)))), o 27 (.mv (.t 26)), og 28 (.mv (.t 0)) 27 false, og 29 (.nilc (.t 28)) 27 false, og 30 (.faddr 0 (.t 29)) 27 false, og 31 (.load none (.t 30)) 27 false, og 32 (.mv (.t 2)) 27 false, og 33 (.mv (.t 2)) 27 false, og 34 (.len (.t 33)) 27 false, og 35 (.bin .sub (.t 34) (.k (.int .i64 (.ofNat 1)))) 27 false, og 36 (.iaddr 1 (.t 32) (.t 35)) 27 false, og 37 (.load none (.t 36)) 27 false, og 38 (.mv (.t 1)) 27 false, og 39 (.call (.k (.fn 43 [])) [.t 31, .t 37, .t 38]) 27 false, og 40 (.un .not (.t 39)) 27 false, o 41 (.pick (.t 27) (.k (.bool true)) (.t 40))] [] []) (.cond (.t 41) (.seq (.reg [o 8 (.mv (.k .nils)), o 9 (.mv (.k (.bool false)))]) .ret) .skip)) (.seq (.reg [o 42 (.mv (.t 2)), o 43 (.mv (.t 2)), o 44 (.len (.t 43)), o 45 (.bin .sub (.t 44) (.k (.int .i64 (.ofNat 1)))), o 46 (.cut 1 (.t 42) none (some (.t 45)) none), o 8 (.mv (.t 46)), o 9 (.mv (.k (.bool true)))]) .ret)) .skip)))))) (.seq (.reg [o 47 (.mv (.t 2)), o 8 (.mv (.t 47)), o 9 (.mv (.k (.bool true)))]) .ret))) 48 4 [.t 8, .t 9]
theorem l37 : compFunc Tryd.prog 37 = some L37 := by kernel_rfl
def L38 : XFunc := .mk (.seq (.reg [o 2 (.box (.t 0)), o 3 (.box (.t 1)), o 4 (.alloc [.bool false, .nils])]) (.seq (.block 0 (.seq (.reg [o 6 (.faddr 0 (.t 2)), o 7 (.load none (.t 6)), o 8 (.faddr 0 (.t 3)), o 9 (.load none (.t 8)), o 10 (.eqf false (.mk false [.b]) (.t 7) (.t 9)), o 5 (.mv (.t 10))]) (.cond (.t 5) (.seq (.regd [o 11 (.faddr 0 (.t 2)), o 12 (.load none (.t 11)), o 13 (.faddr 1 (.t 2)), o 14 (.load none (.t 13)), o 15 (.faddr 1 (.t 3)), o 16 (.load none (.t 15)), o 17 (.call (.k (.fn 54 [])) [.t 14, .t 16]), o 18 (.call (.k (.fn 52 [])) [.t 12, .t 17]), .mk none (.store 2 (.t 4) (.t 18)) none] [(1, [6], [])] []) .ret) (.seq (.reg [o 20 (.faddr 1 (.t 2)), o 21 (.load none (.t 20)), o 22 (.faddr 1 (.t 3)), o 23 (.load none (.t 22)), o 24 (.call (.k (.fn 55 [])) [.t 21, .t 23]), o 25 (.bin .geq (.t 24) (.k (.int .i64 (.ofNat 0)))), o 19 (.mv (.t 25))]) (.cond (.t 19) (.seq (.regd [o 26 (.faddr 0 (.t 2)), o 27 (.load none (.t 26)), o 28 (.faddr 1 (.t 2)), o 29 (.load none (.t 28)), o 30 (.faddr 1 (.t 3)), o 31 (.load none (.t 30)), o 32 (.call (.k (.fn 56 [])) [.t 29, .t 31]), o 33 (.call (.k (.fn 52 [])) [.t 27, .t 32]), .mk none (.store 2 (.t 4) (.t 33)) none] [(1, [6], [])] []) .ret) .skip))))) (.seq (.regd [o 34 (.faddr 0 (.t 3)), o 35 (.load none (.t 34)), o 36 (.faddr 1 (.t 3)), o 37 (.load none (.t 36)), o 38 (.faddr 1 (.t 2)), o 39 (.load none (.t 38)), o 40 (.call (.k (.fn 56 [])) [.t 37, .t 39]), o 41 (.call (.k (.fn 52 [])) [.t 35, .t 40]), .mk none (.store 2 (.t 4) (.t 41)) none] [(1, [6], [])] []) .ret))) 42 2 [.c 4 (some 2)]
theorem l38 : compFunc Tryd.prog 38 = some L38 := by kernel_rfl
def L39 : XFunc := .mk (.seq (.reg [o 6 (.alloc [.bool false, .nils])]) (.seq (.seq (.reg [o 14 (.mv (.t 2)), o 15 (.len (.t 14)), o 16 (.mv (.t 0)), o 17 (.nilc (.t 16)), o 18 (.faddr 0 (.t 17)), o 19 (.load none (.t 18)), o 20 (.nilc (.t 19)), o 21 (.faddr 0 (.t 20)), o 22 (.load none (.t 21)), o 23 (.slen (.t 22)), o 24 (.mv (.t 1)), o 25 (.bin .sub (.t 23) (.t 24)), o 26 (.bin .gtr (.t 15) (.t 25))]) (.cond (.t 26) (.seq (.reg [o 27 (.call (.k (.fn 36 [])) [.k (.int .i64 (.ofNat 0))]), .mk none (.store 2 (.t 6) (.t 27)) none]) .ret) .skip)) (.seq (.seq (.reg [o 28 (.mv (.t 2)), o 29 (.len (.t 28)), o 30 (.bin .eql (.t 29) (.k (.int .i64 (.ofNat 0))))]) (.cond (.t 30) (.seq (.regd [o 31 (.mv (.t 0)), o 32 (.nilc (.t 31)), o 33 (.faddr 0 (.t 32)), o 34 (.load none (.t 33)), o 35 (.mv (.t 1)), o 36 (.mv (.t 0)), o 37 (.nilc (.t 36)), o 38 (.faddr 0 (.t 37)), o 39 (.load none (.t 38)), o 40 (.nilc (.t 39)), o 41 (.faddr 0 (.t 40)), o 42 (.load none (.t 41)), o 43 (.slen (.t 42)), o 44 (.build [.int .i64 (.ofNat 0), .int .i64 (.ofNat 0)] [(0, 1, .t 35), (1, 1, .t 43)]), o 45 (.call (.k (.fn 28 [])) [.t 34, .t 44]), o 46 (.call (.k (.fn 35 [])) [.t 45]), .mk none (.store 2 (.t 6) (.t 46)) none] [] []) .ret) .skip)) (.seq (.reg [o 47 (.mv (.t 1)), o 48 (.mv (.t 2)), o 49 (.call (.k (.fn 57 [])) [.t 47, .t 48]), o 7 (.mv (.t 49))]) (.seq (.seq (.reg [o 51 (.mv (.t 0)), o 52 (.nilc (.t 51)), o 53 (.faddr 1 (.t 52)), o 54 (.load none (.t 53)), o 55 (.mv (.t 7)), o 56 (.look (.mk false [.s]) (.agg [.bool false, .nils]) (.t 54) (.t 55) true), o 50 (.mv (.t 56)), o 57 (.ext (.t 50) 0), o 58 (.ext (.t 50) 1), o 8 (.alloc [.bool false, .nils]), .mk none (.store 2 (.t 8) (.t 57)) none, o 9 (.mv (.t 58))]) (.seq (.reg [o 59 (.mv (.t 9))]) (.cond (.t 59) (.seq (.reg [o 60 (.load (some 2) (.t 8)), .mk none (.store 2 (.t 6) (.t 60)) none]) .ret) .skip))) (.seq (.reg [o 61 (.mv (.t 2)), o 62 (.mv (.t 2)), o 63 (.len (.t 62)), o 64 (.bin .sub (.t 63) (.k (.int .i64 (.ofNat 1)))), o 65 (.iaddr 1 (.t 61) (.t 64)), o 66 (.load none (.t 65)), o 10 (.mv (.t 66))]) (.seq (.reg [o 67 (.call (.k (.fn 36 [])) [.k (.int .i64 (.ofNat 0))]), o 11 (.alloc [.bool false, .nils]), .mk none (.store 2 (.t 11) (.t 67)) none]) (.seq (.seq (.reg [o 68 (.mv (.t 1)), o 12 (.mv (.t 68))]) (.block 0 (.loop (.seq (.seq (.reg [o 69 (.mv (.t 12)), o 70 (.mv (.t 0)), o 71 (.nilc (.t 70)), o 72 (.faddr 0 (.t 71)), o 73 (.load none (.t 72)), o 74 (.nilc (.t 73)), o 75 (.faddr 0 (.t 74)), o 76 (.load none (.t 75)), o 77 (.slen (.t 76)), o 78 (.bin .lss (.t 69) (.t 77))]) (.cond (.t 78) .skip (.exit 0))) (.seq (.block 1 (.seq (.reg [o 81 (.mv (.t 0)), o 82 (.nilc (.t 81)), o 83 (.faddr 0 (.t 82)), o 84 (.load none (.t 83)), o 85 (.mv (.t 10)), o 86 (.mv (.t 12)), o 87 (.call (.k (.fn 43 [])) [.t 84, .t 85, .t 86])]) (.cond (.t 87) (.seq (.reg [o 88 (.mv (.t 0)), o 89 (.nilc (.t 88)), o 90 (.faddr 0 (.t 89)), o 91 (.load none (.t 90)), o 92 (.mv (.t 1)), o 93 (.mv (.t 12)), o 94 (.build [.int .i64 (.ofNat 0), .int .i64 (.ofNat 0)] [(0, 1, .t 92), (1, 1, .t 93)]), o 95 (.call (.k (.fn 28 [])) [.t 91, .t 94]), o 96 (.call (.k (.fn 35 [])) [.t 95]), o 13 (.alloc [.bool false, .nils]), .mk none (.store 2 (.t 13) (.t 96)) none]) (.regd [o 97 (.load (some 2) (.t 11)), o 98 (.load (some 2) (.t 13)), o 99 (.mv (.t 0)), o 100 (.mv (.t 12)), o 101 (.bin .add (.t 100) (.k (.int .i64 (.ofNat 1)))), o 102 (.mv (.t 2)), o 103 (.mv (.t 2)), o 104 (.len (.t 103)), o 105 (.bin .sub (.t 104) (.k (.int .i64 (.ofNat 1)))), o 106 (.cut 1 (.t 102) none (some (.t 105)) none), o 107 (.call (.k (.fn 39 [])) [.t 99, .t 101, .t 106]), o 108 (.call (.k (.fn 58 [])) [.t 98, .t 107]), o 109 (.call (.k (.fn 38 [])) [.t 97, .t 108]), .mk none (.store 2 (.t 11) (.t 109)) none] [(0, [10, 11], []), (1, [10], [])] [])) .skip))) (.reg [o 79 (.mv (.t 12)), o 80 (.bin .add (.t 79) (.k (.int .i64 (.ofNat 1)))), o 12 (.mv (.t 80))])))))) (.seq (.regd [o 110 (.mv (.t 0)), o 111 (.nilc (.t 110)), o 112 (.faddr 1 (.t 111)), o 113 (.load none (.t 112)), o 114 (.mv (.t 7)), o 115 (.load (some 2) (.t 11)), .mk none (.upd (.mk false [.s]) (.t 113) (.t 114) (.t 115)) none] [] []) (.seq (.reg [o 116 (.load (some 2) (.t 11)), .mk none (.store 2 (.t 6) (.t 116)) none]) .ret)))))))))) 117 3 [.c 6 (some 2)]
theorem l39 : compFunc Tryd.prog 39 = some L39 := by kernel_rfl
def L40 : XFunc := .mk (.seq (.reg [o 4 (.mv (.k (.str [])))]) (.seq (.seq (.reg [o 7 (.mv (.t 0)), o 8 (.bin .eql (.t 7) (.k (.str []))), o 9 (.mv (.t 8)), og 10 (.mv (.t 1)) 9 false, og 11 (.bin .eql (.t 10) (.k (.str []))) 9 false, o 12 (.pick (.t 9) (.k (.bool true)) (.t 11))]) (.cond (.t 12) (.seq (.reg [o 13 (.mv (.t 0)), o 4 (.mv (.t 13))]) .ret) .skip)) (.seq (.seq (.reg [o 14 (.mv (.t 1)), o 15 (.slen (.t 14)), o 16 (.bin .eql (.t 15) (.k (.int .i64 (.ofNat 1)))), o 17 (.mv (.t 16)), og 18 (.mv (.t 1)) 17 true, og 19 (.sidx (.t 18) (.k (.int .i64 (.ofNat 0)))) 17 true, og 20 (.bin .lss (.t 19) (.k (.int .u8 (.ofNat 128)))) 17 true, o 21 (.pick (.t 17) (.t 20) (.k (.bool false)))]) (.cond (.t 21) (.seq (.regd [o 22 (.mv (.t 0)), o 23 (.mv (.t 1)), o 24 (.sidx (.t 23) (.k (.int .i64 (.ofNat 0)))), o 25 (.call (.k (.fn 60 [])) [.t 22, .t 24]), o 26 (.mv (.t 1)), o 27 (.sidx (.t 26) (.k (.int .i64 (.ofNat 0)))), o 28 (.call (.k (.fn 59 [])) [.t 25, .t 27]), o 4 (.mv (.t 28))] [] []) .ret) .skip)) (.seq (.seq (.reg [o 30 (.mv (.t 1)), o 31 (.call (.k (.fn 61 [])) [.t 30]), o 29 (.mv (.t 31)), o 32 (.ext (.t 29) 0), o 33 (.ext (.t 29) 1), o 5 (.alloc [.bool false, .bool false, .bool false, .bool false, .bool false, .bool false, .bool false, .bool false, .bool false, .bool false, .bool false, .bool false, .bool false, .bool false, .bool false, .bool false, .bool false, .bool false, .bool false, .bool false, .bool false, .bool false, .bool false, .bool false, .bool false, .bool false, .bool false, .bool false, .bool false, .bool false, .bool false, .bool false, .bool false, .bool false, .bool false, .bool false, .bool false, .bool false, .bool false, .bool false, .bool false, .bool false, .bool false, .bool false, .bool false, .bool false, .bool false, .bool false, .bool false, .bool false, .bool false, .bool false, .bool false, .bool false, .bool false, .bool false, .bool false, .bool false, .bool false, .bool false, .bool false, .bool false, .bool false, .bool false, .bool false, .bool false, .bool false, .bool false, .bool false, .bool false, .bool false, .bool false, .bool false, .bool false, .bool false, .bool false, .bool false, .bool false, .bool false, .bool false, .bool false, .bool false, .bool false, .bool false, .bool false, .bool false, .bool false, .bool false, .bool false, .bool false, .bool false, .bool false, .bool false, .bool false, .bool false, .bool false, .bool false, .bool false, .bool false, .bool false, .bool false, .bool false, .bool false, .bool false, .bool false, .bool false, .bool false, .bool false, .bool false, .bool false, .bool false, .bool false, .bool false, .bool false, .bool false, .bool false, .bool false, .bool false, .bool false, .bool false, .bool false, .bool false, .bool false, .bool false, .bool false, .bool false, .bool false, .bool false, .bool false, .bool false, .bool false, .bool false, .bool false, .bool false, .bool false, .bool false, .bool false, .bool false, .bool false, .bool false, .bool false, .bool false, .bool false, .bool false, .bool false, .bool false, .bool false, .bool false, .bool false, .bool false, .bool false, .bool false, .bool false, .bool false, .bool false, .bool false, .bool false, .bool false, .bool false, .bool false, .bool false, .bool false, .bool false, .bool false, .bool false, .bool false, .bool false, .bool false, .bool false, .bool false, .bool false, .bool false, .bool false, .bool false, .bool false, .bool false, .bool false, .bool false, .bool false, .bool false, .bool false, .bool false, .bool false, .bool false, .bool false, .bool false, .bool false, .bool false, .bool false, .bool false, .bool false, .bool false, .bool false, .bool false, .bool false, .bool false, .bool false, .bool false, .bool false, .bool false, .bool false, .bool false, .bool false, .bool false, .bool false, .bool false, .bool false, .bool false, .bool false, .bool false, .bool false, .bool false, .bool false, .bool false, .bool false, .bool false, .bool false, .bool false, .bool false, .bool false, .bool false, .bool false, .bool false, .bool false, .bool false, .bool false, .bool false, .bool false, .bool false, .bool false, .bool false, .bool false, .bool false, .bool false, .bool false, .bool false, .bool false, .bool false, .bool false, .bool false, .bool false, .bool false, .bool false, .bool false, .bool false, .bool false, .bool false, .bool false, .bool false, .bool false, .bool false, .bool false, .bool false, .bool false, .bool false, .bool false]), .mk none (.store 256 (.t 5) (.t 32)) none, o 6 (.mv (.t 33))]) (.seq (.reg [o 34 (.mv (.t 6))]) (.cond (.t 34) (.seq (.reg [o 35 (.mv (.t 0)), o 36 (.call (.k (.fn 63 [])) [.t 35, .t 5]), o 37 (.call (.k (.fn 62 [])) [.t 36, .t 5]), o 4 (.mv (.t 37))]) .ret) .skip))) (.seq (.reg [o 38 (.mv (.t 0)), o 39 (.mv (.t 1)), o 40 (.call (.k (.fn 65 [])) [.t 38, .t 39]), o 41 (.mv (.t 1)), o 42 (.call (.k (.fn 64 [])) [.t 40, .t 41]), o 4 (.mv (.t 42))]) .ret))))) 43 2 [.t 4]
theorem l40 : compFunc Tryd.prog 40 = some L40 := by kernel_rfl
def L41 : XFunc := .mk (.seq (.reg [o 4 (.mv (.k (.bool false)))]) (.seq (.reg [o 5 (.mv (.t 0)), o 6 (.mv (.t 1)), o 7 (.call (.k (.fn 66 [])) [.t 5, .t 6]), o 8 (.bin .geq (.t 7) (.k (.int .i64 (.ofNat 0)))), o 4 (.mv (.t 8))]) .ret)) 9 2 [.t 4]
theorem l41 : compFunc Tryd.prog 41 = some L41 := by kernel_rfl
def L42 : XFunc := .mk (.seq (.reg [o 2 (.box (.t 0)), o 3 (.mv (.k (.bool false)))]) (.seq (.reg [o 4 (.load none (.t 1)), o 5 (.faddr 0 (.t 2)), o 6 (.load none (.t 5)), o 7 (.faddr 1 (.t 2)), o 8 (.load none (.t 7)), o 9 (.call (.k (.fn 43 [])) [.t 4, .t 6, .t 8]), o 10 (.un .not (.t 9)), o 3 (.mv (.t 10))]) .ret)) 11 2 [.t 3]
theorem l42 : compFunc Tryd.prog 42 = some L42 := by kernel_rfl
def L43 : XFunc := .mk (.seq (.reg [o 6 (.mv (.k (.bool false)))]) (.seq (.regd [o 7 (.mv (.t 2)), o 8 (.mv (.t 1)), o 9 (.bin .sub (.t 7) (.t 8)), o 10 (.mv (.t 0)), o 11 (.nilc (.t 10)), o 12 (.faddr 17 (.t 11)), o 13 (.load none (.t 12)), o 14 (.bin .gtr (.t 9) (.t 13)), o 15 (.mv (.t 14)), og 16 (.mv (.t 0)) 15 true, og 17 (.mv (.t 0)) 15 true, og 18 (.nilc (.t 17)) 15 true, og 19 (.faddr 0 (.t 18)) 15 true, og 20 (.load none (.t 19)) 15 true, og 21 (.mv (.t 1)) 15 true, og 22 (.sidx (.t 20) (.t 21)) 15 true, og 23 (.bin .sub (.t 22) (.k (.int .u8 (.ofNat 97)))) 15 true, og 24 (.mv (.t 0)) 15 true, og 25 (.nilc (.t 24)) 15 true, og 26 (.faddr 0 (.t 25)) 15 true, og 27 (.load none (.t 26)) 15 true, og 28 (.mv (.t 2)) 15 true, og 29 (.sidx (.t 27) (.t 28)) 15 true, og 30 (.bin .sub (.t 29) (.k (.int .u8 (.ofNat 97)))) 15 true, og 31 (.nilc (.t 16)) 15 true, og 32 (.faddr 1 (.t 31)) 15 true, og 33 (.aaddr 4 4 (.t 32) (.t 23)) 15 true, og 34 (.aaddr 4 1 (.t 33) (.t 30)) 15 true, og 35 (.load none (.t 34)) 15 true, o 36 (.pick (.t 15) (.t 35) (.k (.bool false))), o 6 (.mv (.t 36))] [] []) .ret)) 37 3 [.t 6]
theorem l43 : compFunc Tryd.prog 43 = some L43 := by kernel_rfl
def L44 : XFunc := .mk (.seq (.reg [o 2 (.mv (.k .nils))]) (.seq (.seq (.reg [o 3 (.mv (.t 0)), o 4 (.eqn false .s (.t 3) (.k .nils))]) (.cond (.t 4) (.seq (.reg [o 2 (.mv (.k .nils))]) .ret) .skip)) (.seq (.reg [o 5 (.bslice [.bool false, .nils] [] 0), o 6 (.mv (.t 0)), o 7 (.app 2 32 (.t 5) (.t 6)), o 2 (.mv (.t 7))]) .ret))) 8 1 [.t 2]
theorem l44 : compFunc Tryd.prog 44 = some L44 := by kernel_rfl
def L45 : XFunc := .mk (.seq (.reg [o 6 (.mv (.k .nils))]) (.seq (.block 0 (.loop (.seq (.seq (.reg [o 9 (.mv (.t 0)), o 10 (.len (.t 9)), o 11 (.mv (.t 1)), o 12 (.len (.t 11)), o 13 (.mv (.t 2)), o 14 (.bin .add (.t 12) (.t 13)), o 15 (.bin .lss (.t 10) (.t 14))]) (.cond (.t 15) .skip (.exit 0))) (.block 1 (.reg [o 16 (.mv (.t 0)), o 17 (.call (.k (.fn 36 [])) [.k (.int .i64 (.ofNat 0))]), o 18 (.bslice [.bool false, .nils] [(0, 2, .t 17)] 1), o 19 (.app 2 32 (.t 16) (.t 18)), o 0 (.mv (.t 19))]))))) (.seq (.seq (.reg [o 20 (.mv (.t 1)), o 21 (.len (.t 20)), o 22 (.mv (.k (.int .i64 (.ofNat 0))))]) (.block 2 (.loop (.seq (.reg [o 23 (.bin .lss (.t 22) (.t 21))]) (.seq (.cond (.t 23) .skip (.exit 2)) (.seq (.block 3 (.seq (.reg [o 24 (.mv (.t 22)), o 25 (.iaddr 2 (.t 20) (.t 22)), o 26 (.load (some 2) (.t 25)), o 8 (.alloc [.bool false, .nils]), o 7 (.mv (.t 24)), .mk none (.store 2 (.t 8) (.t 26)) none]) (.regd [o 27 (.mv (.t 0)), o 28 (.mv (.t 7)), o 29 (.mv (.t 2)), o 30 (.bin .add (.t 28) (.t 29)), o 31 (.mv (.t 0)), o 32 (.mv (.t 7)), o 33 (.mv (.t 2)), o 34 (.bin .add (.t 32) (.t 33)), o 35 (.iaddr 2 (.t 31) (.t 34)), o 36 (.load (some 2) (.t 35)), o 37 (.load (some 2) (.t 8)), o 38 (.call (.k (.fn 38 [])) [.t 36, .t 37]), o 39 (.iaddr 2 (.t 27) (.t 30)), .mk none (.store 2 (.t 39) (.t 38)) none] [] []))) (.reg [o 40 (.bin .add (.t 22) (.k (.int .i64 (.ofNat 1)))), o 22 (.mv (.t 40))]))))))) (.seq (.reg [o 41 (.mv (.t 0)), o 6 (.mv (.t 41))]) .ret)))) 42 3 [.t 6]
theorem l45 : compFunc Tryd.prog 45 = some L45 := by kernel_rfl
def L46 : XFunc := .mk (.seq (.reg [o 4 (.mv (.k .nils))]) (.seq (.reg [o 5 (.mv (.k .nils))]) (.seq (.seq (.reg [o 11 (.mv (.t 0)), o 12 (.len (.t 11)), o 13 (.mv (.k (.int .i64 (.ofNat 0))))]) (.block 0 (.loop (.seq (.reg [o 14 (.bin .lss (.t 13) (.t 12))]) (.seq (.cond (.t 14) .skip (.exit 0)) (.seq (.block 1 (.seq (.reg [o 15 (.mv (.t 13)), o 16 (.iaddr 2 (.t 11) (.t 13)), o 17 (.load (some 2) (.t 16)), o 7 (.alloc [.bool false, .nils]), o 6 (.mv (.t 15)), .mk none (.store 2 (.t 7) (.t 17)) none]) (.seq (.reg [o 8 (.mv (.k .nils))]) (.seq (.seq (.reg [o 18 (.mv (.t 1)), o 19 (.len (.t 18)), o 20 (.mv (.k (.int .i64 (.ofNat 0))))]) (.block 2 (.loop (.seq (.reg [o 21 (.bin .lss (.t 20) (.t 19))]) (.seq (.cond (.t 21) .skip (.exit 2)) (.seq (.block 3 (.seq (.reg [o 22 (.iaddr 2 (.t 18) (.t 20)), o 23 (.load (some 2) (.t 22)), o 10 (.alloc [.bool false, .nils]), .mk none (.store 2 (.t 10) (.t 23)) none]) (.reg [o 24 (.mv (.t 8)), o 25 (.load (some 2) (.t 7)), o 26 (.load (some 2) (.t 10)), o 27 (.call (.k (.fn 58 [])) [.t 25, .t 26]), o 28 (.bslice [.bool false, .nils] [(0, 2, .t 27)] 1), o 29 (.app 2 32 (.t 24) (.t 28)), o 8 (.mv (.t 29))]))) (.reg [o 30 (.bin .add (.t 20) (.k (.int .i64 (.ofNat 1)))), o 20 (.mv (.t 30))]))))))) (.reg [o 31 (.mv (.t 5)), o 32 (.mv (.t 8)), o 33 (.mv (.t 6)), o 34 (.call (.k (.fn 45 [])) [.t 31, .t 32, .t 33]), o 5 (.mv (.t 34))]))))) (.reg [o 35 (.bin .add (.t 13) (.k (.int .i64 (.ofNat 1)))), o 13 (.mv (.t 35))]))))))) (.seq (.reg [o 36 (.mv (.t 5)), o 4 (.mv (.t 36))]) .ret)))) 37 2 [.t 4]
theorem l46 : compFunc Tryd.prog 46 = some L46 := by kernel_rfl
def L47 : XFunc := .mk (.seq (.reg [o 3 (.box (.t 1)), o 4 (.mv (.k (.int .i64 (.ofNat 0))))]) (.seq (.reg [o 5 (.mv (.t 0)), o 6 (.load (some 2) (.t 3)), o 7 (.call (.k (.fn 28 [])) [.t 5, .t 6]), o 8 (.len (.t 7)), o 9 (.bin .sub (.t 8) (.k (.int .i64 (.ofNat 1)))), o 4 (.mv (.t 9))]) .ret)) 10 2 [.t 4]
theorem l47 : compFunc Tryd.prog 47 = some L47 := by kernel_rfl
def L48 : XFunc := .mk (.seq (.reg [o 2 (.mv (.k (.str [])))]) (.seq (.seq (.reg [o 7 (.mv (.t 0)), o 8 (.len (.t 7)), o 9 (.bin .eql (.t 8) (.k (.int .i64 (.ofNat 0))))]) (.cond (.t 9) (.seq (.reg [o 2 (.mv (.k (.str [UInt8.ofNat 48])))]) .ret) .skip)) (.seq (.reg [o 3 (.mv (.k .nils))]) (.seq (.block 0 (.loop (.seq (.seq (.reg [o 10 (.mv (.t 0)), o 11 (.len (.t 10)), o 12 (.bin .gtr (.t 11) (.k (.int .i64 (.ofNat 0))))]) (.cond (.t 12) .skip (.exit 0))) (.block 1 (.seq (.reg [o 14 (.mv (.t 0)), o 15 (.call (.k (.fn 67 [])) [.t 14, .k (.int .u32 (.ofNat 1000000000))]), o 13 (.mv (.t 15)), o 16 (.ext (.t 13) 0), o 17 (.ext (.t 13) 1), o 4 (.mv (.t 16)), o 5 (.mv (.t 17))]) (.seq (.seq (.reg [o 6 (.mv (.k (.int .i64 (.ofNat 0))))]) (.block 2 (.loop (.seq (.seq (.reg [o 18 (.mv (.t 6)), o 19 (.bin .lss (.t 18) (.k (.int .i64 (.ofNat 9)))), o 20 (.mv (.t 19)), og 21 (.mv (.t 4)) 20 true, og 22 (.len (.t 21)) 20 true, og 23 (.bin .gtr (.t 22) (.k (.int .i64 (.ofNat 0)))) 20 true, og 24 (.mv (.t 23)) 20 true, og 25 (.mv (.t 5)) 24 false, og 26 (.bin .gtr (.t 25) (.k (.int .u32 (.ofNat 0)))) 24 false, og 27 (.pick (.t 24) (.k (.bool true)) (.t 26)) 20 true, o 28 (.pick (.t 20) (.t 27) (.k (.bool false)))]) (.cond (.t 28) .skip (.exit 2))) (.seq (.block 3 (.seq (.reg [o 31 (.mv (.t 3)), o 32 (.mv (.t 5)), o 33 (.bin .rem (.t 32) (.k (.int .u32 (.ofNat 10)))), o 34 (.bin .add (.k (.int .u32 (.ofNat 48))) (.t 33)), o 35 (.conv .u8 (.t 34)), o 36 (.bslice [.int .u8 (.ofNat 0)] [(0, 1, .t 35)] 1), o 37 (.app 1 1 (.t 31) (.t 36)), o 3 (.mv (.t 37))]) (.reg [o 38 (.mv (.t 5)), o 39 (.bin .quo (.t 38) (.k (.int .u32 (.ofNat 10)))), o 5 (.mv (.t 39))]))) (.reg [o 29 (.mv (.t 6)), o 30 (.bin .add (.t 29) (.k (.int .i64 (.ofNat 1)))), o 6 (.mv (.t 30))])))))) (.reg [o 40 (.mv (.t 4)), o 0 (.mv (.t 40))]))))))) (.seq (.reg [o 41 (.mv (.t 3)), o 42 (.call (.k (.fn 68 [])) [.t 41])]) (.seq (.reg [o 43 (.mv (.t 3)), o 44 (.bts (.t 43)), o 2 (.mv (.t 44))]) .ret)))))) 45 1 [.t 2]
theorem l48 : compFunc Tryd.prog 48 = some L48 := by kernel_rfl
def L49 : XFunc := .mk (.seq (.reg [o 1 (.box (.t 0)), o 2 (.mv (.k (.bool false)))]) (.seq (.reg [o 3 (.faddr 2 (.t 1)), o 4 (.faddr 1 (.t 3)), o 5 (.load none (.t 4)), o 6 (.len (.t 5)), o 7 (.bin .eql (.t 6) (.k (.int .i64 (.ofNat 1)))), o 8 (.mv (.t 7)), og 9 (.faddr 2 (.t 1)) 8 true, og 10 (.faddr 1 (.t 9)) 8 true, og 11 (.load none (.t 10)) 8 true, og 12 (.iaddr 1 (.t 11) (.k (.int .i64 (.ofNat 0)))) 8 true, og 13 (.load none (.t 12)) 8 true, og 14 (.bin .eql (.t 13) (.k (.int .u32 (.ofNat 1)))) 8 true, o 15 (.pick (.t 8) (.t 14) (.k (.bool false))), o 2 (.mv (.t 15))]) .ret)) 16 1 [.t 2]
theorem l49 : compFunc Tryd.prog 49 = some L49 := by kernel_rfl
def L50 : XFunc := .mk (.seq (.reg [o 10 (.mv (.k (.bool true)))]) (.seq (.reg [o 11 (.mv (.k (.bool true)))]) (.block 0 (.loop (.block 1 (.seq (.reg [o 21 (.mv (.t 2)), o 22 (.mv (.t 1)), o 23 (.bin .sub (.t 21) (.t 22)), o 12 (.mv (.t 23))]) (.seq (.seq (.reg [o 24 (.mv (.t 12)), o 25 (.bin .leq (.t 24) (.k (.int .i64 (.ofNat 12))))]) (.cond (.t 25) (.seq (.reg [o 26 (.mv (.t 0)), o 27 (.mv (.t 1)), o 28 (.mv (.t 2)), o 29 (.mv (.t 4)), o 30 (.call (.k (.fn 69 [])) [.t 26, .t 27, .t 28, .t 29])]) .ret) .skip)) (.seq (.seq (.reg [o 31 (.mv (.t 3)), o 32 (.bin .eql (.t 31) (.k (.int .i64 (.ofNat 0))))]) (.cond (.t 32) (.seq (.reg [o 33 (.mv (.t 0)), o 34 (.mv (.t 1)), o 35 (.mv (.t 2)), o 36 (.mv (.t 4)), o 37 (.call (.k (.fn 70 [])) [.t 33, .t 34, .t 35, .t 36])]) .ret) .skip)) (.seq (.seq (.reg [o 38 (.mv (.t 10)), o 39 (.un .not (.t 38))]) (.cond (.t 39) (.seq (.reg [o 40 (.mv (.t 0)), o 41 (.mv (.t 1)), o 42 (.mv (.t 2)), o 43 (.mv (.t 4)), o 44 (.call (.k (.fn 71 [])) [.t 40, .t 41, .t 42, .t 43])]) (.reg [o 45 (.mv (.t 3)), o 46 (.bin .sub (.t 45) (.k (.int .i64 (.ofNat 1)))), o 3 (.mv (.t 46))])) .skip)) (.seq (.reg [o 48 (.mv (.t 0)), o 49 (.mv (.t 1)), o 50 (.mv (.t 2)), o 51 (.mv (.t 4)), o 52 (.call (.k (.fn 72 [])) [.t 48, .t 49, .t 50, .t 51]), o 47 (.mv (.t 52)), o 53 (.ext (.t 47) 0), o 54 (.ext (.t 47) 1), o 13 (.mv (.t 53)), o 14 (.mv (.t 54))]) (.seq (.seq (.reg [o 55 (.mv (.t 14)), o 56 (.bin .eql (.t 55) (.k (.int .i64 (.ofNat 2))))]) (.cond (.t 56) (.seq (.reg [o 57 (.mv (.t 0)), o 58 (.mv (.t 1)), o 59 (.mv (.t 2)), o 60 (.mv (.t 4)), o 61 (.call (.k (.fn 73 [])) [.t 57, .t 58, .t 59, .t 60])]) (.seq (.reg [o 62 (.mv (.t 2)), o 63 (.bin .sub (.t 62) (.k (.int .i64 (.ofNat 1)))), o 64 (.mv (.t 13)), o 65 (.mv (.t 1)), o 66 (.bin .sub (.t 64) (.t 65)), o 67 (.bin .sub (.t 63) (.t 66)), o 13 (.mv (.t 67))]) (.reg [o 14 (.mv (.k (.int .i64 (.ofNat 1))))]))) .skip)) (.seq (.seq (.reg [o 68 (.mv (.t 10)), o 69 (.mv (.t 68)), og 70 (.mv (.t 11)) 69 true, o 71 (.pick (.t 69) (.t 70) (.k (.bool false))), o 72 (.mv (.t 71)), og 73 (.mv (.t 14)) 72 true, og 74 (.bin .eql (.t 73) (.k (.int .i64 (.ofNat 1)))) 72 true, o 75 (.pick (.t 72) (.t 74) (.k (.bool false)))]) (.cond (.t 75) (.seq (.reg [o 76 (.mv (.t 0)), o 77 (.mv (.t 1)), o 78 (.mv (.t 2)), o 79 (.mv (.t 4)), o 80 (.call (.k (.fn 74 [])) [.t 76, .t 77, .t 78, .t 79])]) (.cond (.t 80) .ret .skip)) .skip)) (.seq (.seq (.regd [o 81 (.mv (.t 1)), o 82 (.bin .gtr (.t 81) (.k (.int .i64 (.ofNat 0)))), o 83 (.mv (.t 82)), og 84 (.mv (.t 4)) 83 true, og 85 (.mv (.t 0)) 83 true, og 86 (.mv (.t 1)) 83 true, og 87 (.bin .sub (.t 86) (.k (.int .i64 (.ofNat 1)))) 83 true, og 88 (.iaddr 2 (.t 85) (.t 87)) 83 true, og 89 (.load (some 2) (.t 88)) 83 true, og 90 (.mv (.t 0)) 83 true, og 91 (.mv (.t 13)) 83 true, og 92 (.iaddr 2 (.t 90) (.t 91)) 83 true, og 93 (.load (some 2) (.t 92)) 83 true, og 94 (.call (.t 84) [.t 89, .t 93]) 83 true, og 95 (.bin .lss (.t 94) (.k (.int .i64 (.ofNat 0)))) 83 true, og 96 (.un .not (.t 95)) 83 true, o 97 (.pick (.t 83) (.t 96) (.k (.bool false)))] [] []) (.cond (.t 97) (.seq (.reg [o 98 (.mv (.t 0)), o 99 (.mv (.t 1)), o 100 (.mv (.t 2)), o 101 (.mv (.t 13)), o 102 (.mv (.t 4)), o 103 (.call (.k (.fn 75 [])) [.t 98, .t 99, .t 100, .t 101, .t 102]), o 15 (.mv (.t 103))]) (.seq (.reg [o 104 (.mv (.t 15)), o 1 (.mv (.t 104))]) (.exit 1))) .skip)) (.seq (.reg [o 106 (.mv (.t 0)), o 107 (.mv (.t 1)), o 108 (.mv (.t 2)), o 109 (.mv (.t 13)), o 110 (.mv (.t 4)), o 111 (.call (.k (.fn 76 [])) [.t 106, .t 107, .t 108, .t 109, .t 110]), o 105 (.mv (.t 111)), o 112 (.ext (.t 105) 0), o 113 (.ext (.t 105) 1), o 16 (.mv (.t 112)), o 17 (.mv (.t 113))]) (.seq (.reg [o 114 (.mv (.t 17)), o 11 (.mv (.t 114))]) (.seq (.reg [o 115 (.mv (.t 16)), o 116 (.mv (.t 1)), o 117 (.bin .sub (.t 115) (.t 116)), o 118 (.mv (.t 2)), o 119 (.mv (.t 16)), o 120 (.bin .sub (.t 118) (.t 119)), o 18 (.mv (.t 117)), o 19 (.mv (.t 120))]) (.seq (.reg [o 121 (.mv (.t 12)), o 122 (.bin .quo (.t 121) (.k (.int .i64 (.ofNat 8)))), o 20 (.mv (.t 122))]) (.seq (.reg [o 123 (.mv (.t 18)), o 124 (.mv (.t 19)), o 125 (.bin .lss (.t 123) (.t 124))]) (.cond (.t 125) (.seq (.reg [o 126 (.mv (.t 18)), o 127 (.mv (.t 20)), o 128 (.bin .geq (.t 126) (.t 127)), o 10 (.mv (.t 128))]) (.seq (.reg [o 129 (.mv (.t 0)), o 130 (.mv (.t 1)), o 131 (.mv (.t 16)), o 132 (.mv (.t 3)), o 133 (.mv (.t 4)), o 134 (.call (.k (.fn 50 [])) [.t 129, .t 130, .t 131, .t 132, .t 133])]) (.reg [o 135 (.mv (.t 16)), o 136 (.bin .add (.t 135) (.k (.int .i64 (.ofNat 1)))), o 1 (.mv (.t 136))]))) (.seq (.reg [o 137 (.mv (.t 19)), o 138 (.mv (.t 20)), o 139 (.bin .geq (.t 137) (.t 138)), o 10 (.mv (.t 139))]) (.seq (.reg [o 140 (.mv (.t 0)), o 141 (.mv (.t 16)), o 142 (.bin .add (.t 141) (.k (.int .i64 (.ofNat 1)))), o 143 (.mv (.t 2)), o 144 (.mv (.t 3)), o 145 (.mv (.t 4)), o 146 (.call (.k (.fn 50 [])) [.t 140, .t 142, .t 143, .t 144, .t 145])]) (.reg [o 147 (.mv (.t 16)), o 2 (.mv (.t 147))])))))))))))))))))))))) 148 5 []
theorem l50 : compFunc Tryd.prog 50 = some L50 := by kernel_rfl
def L51 : XFunc := .mk (.seq (.reg [o 2 (.mv (.k (.int .i64 (.ofNat 0))))]) (.seq (.cond (.k (.bool false)) (.seq (.reg [o 3 (.mv (.t 0)), o 4 (.conv .u32 (.t 3)), o 5 (.call (.k (.fn 77 [])) [.t 4]), o 2 (.mv (.t 5))]) .ret) .skip) (.seq (.reg [o 6 (.mv (.t 0)), o 7 (.call (.k (.fn 78 [])) [.t 6]), o 2 (.mv (.t 7))]) .ret))) 8 1 [.t 2]
theorem l51 : compFunc Tryd.prog 51 = some L51 := by kernel_rfl
def L52 : XFunc := .mk (.seq (.reg [o 4 (.alloc [.bool false, .nils])]) (.seq (.reg [o 5 (.mv (.t 0)), o 6 (.mv (.t 5)), og 7 (.mv (.t 1)) 6 true, og 8 (.len (.t 7)) 6 true, og 9 (.bin .gtr (.t 8) (.k (.int .i64 (.ofNat 0)))) 6 true, o 10 (.pick (.t 6) (.t 9) (.k (.bool false))), o 11 (.mv (.t 1)), o 12 (.build [.bool false, .nils] [(0, 1, .t 10), (1, 1, .t 11)]), .mk none (.store 2 (.t 4) (.t 12)) none]) .ret)) 13 2 [.c 4 (some 2)]
theorem l52 : compFunc Tryd.prog 52 = some L52 := by kernel_rfl
def L53 : XFunc := .mk (.seq (.reg [o 2 (.mv (.k .nils))]) (.seq (.block 0 (.loop (.seq (.seq (.reg [o 3 (.mv (.t 0)), o 4 (.len (.t 3)), o 5 (.bin .gtr (.t 4) (.k (.int .i64 (.ofNat 0)))), o 6 (.mv (.t 5)), og 7 (.mv (.t 0)) 6 true, og 8 (.mv (.t 0)) 6 true, og 9 (.len (.t 8)) 6 true, og 10 (.bin .sub (.t 9) (.k (.int .i64 (.ofNat 1)))) 6 true, og 11 (.iaddr 1 (.t 7) (.t 10)) 6 true, og 12 (.load none (.t 11)) 6 true, og 13 (.bin .eql (.t 12) (.k (.int .u32 (.ofNat 0)))) 6 true, o 14 (.pick (.t 6) (.t 13) (.k (.bool false)))]) (.cond (.t 14) .skip (.exit 0))) (.block 1 (.reg [o 15 (.mv (.t 0)), o 16 (.mv (.t 0)), o 17 (.len (.t 16)), o 18 (.bin .sub (.t 17) (.k (.int .i64 (.ofNat 1)))), o 19 (.cut 1 (.t 15) none (some (.t 18)) none), o 0 (.mv (.t 19))]))))) (.seq (.reg [o 20 (.mv (.t 0)), o 2 (.mv (.t 20))]) .ret))) 21 1 [.t 2]
theorem l53 : compFunc Tryd.prog 53 = some L53 := by kernel_rfl
def L54 : XFunc := .mk (.seq (.reg [o 4 (.mv (.k .nils))]) (.seq (.seq (.reg [o 9 (.mv (.t 0)), o 10 (.len (.t 9)), o 11 (.mv (.t 1)), o 12 (.len (.t 11)), o 13 (.bin .lss (.t 10) (.t 12))]) (.cond (.t 13) (.reg [o 14 (.mv (.t 1)), o 15 (.mv (.t 0)), o 0 (.mv (.t 14)), o 1 (.mv (.t 15))]) .skip)) (.seq (.reg [o 16 (.mv (.t 0)), o 17 (.len (.t 16)), o 18 (.bin .add (.t 17) (.k (.int .i64 (.ofNat 1)))), o 19 (.mkslice [.int .u32 (.ofNat 0)] 4 (.t 18) (.t 18)), o 5 (.mv (.t 19))]) (.seq (.reg [o 6 (.mv (.k (.int .u32 (.ofNat 0))))]) (.seq (.seq (.reg [o 20 (.mv (.t 0)), o 21 (.len (.t 20)), o 22 (.mv (.k (.int .i64 (.ofNat 0))))]) (.block 0 (.loop (.seq (.reg [o 23 (.bin .lss (.t 22) (.t 21))]) (.seq (.cond (.t 23) .skip (.exit 0)) (.seq (.block 1 (.seq (.reg [o 24 (.mv (.t 22)), o 7 (.mv (.t 24))]) (.seq (.reg [o 8 (.mv (.k (.int .u32 (.ofNat 0))))]) (.seq (.seq (.reg [o 25 (.mv (.t 7)), o 26 (.mv (.t 1)), o 27 (.len (.t 26)), o 28 (.bin .lss (.t 25) (.t 27))]) (.cond (.t 28) (.reg [o 29 (.mv (.t 1)), o 30 (.mv (.t 7)), o 31 (.iaddr 1 (.t 29) (.t 30)), o 32 (.load none (.t 31)), o 8 (.mv (.t 32))]) .skip)) (.reg [o 34 (.mv (.t 5)), o 35 (.mv (.t 7)), o 36 (.mv (.t 0)), o 37 (.mv (.t 7)), o 38 (.iaddr 1 (.t 36) (.t 37)), o 39 (.load none (.t 38)), o 40 (.mv (.t 8)), o 41 (.mv (.t 6)), o 42 (.call (.k (.fn 79 [])) [.t 39, .t 40, .t 41]), o 33 (.mv (.t 42)), o 43 (.ext (.t 33) 0), o 44 (.ext (.t 33) 1), o 45 (.iaddr 1 (.t 34) (.t 35)), .mk none (.store 1 (.t 45) (.t 43)) none, o 6 (.mv (.t 44))]))))) (.reg [o 46 (.bin .add (.t 22) (.k (.int .i64 (.ofNat 1)))), o 22 (.mv (.t 46))]))))))) (.seq (.reg [o 47 (.mv (.t 5)), o 48 (.mv (.t 0)), o 49 (.len (.t 48)), o 50 (.mv (.t 6)), o 51 (.iaddr 1 (.t 47) (.t 49)), .mk none (.store 1 (.t 51) (.t 50)) none]) (.seq (.reg [o 52 (.mv (.t 5)), o 53 (.call (.k (.fn 53 [])) [.t 52]), o 4 (.mv (.t 53))]) .ret))))))) 54 2 [.t 4]
theorem l54 : compFunc Tryd.prog 54 = some L54 := by kernel_rfl
def L55 : XFunc := .mk (.seq (.reg [o 4 (.mv (.k (.int .i64 (.ofNat 0))))]) (.seq (.seq (.reg [o 6 (.mv (.t 0)), o 7 (.len (.t 6)), o 8 (.mv (.t 1)), o 9 (.len (.t 8)), o 10 (.bin .neq (.t 7) (.t 9))]) (.cond (.t 10) (.seq (.seq (.reg [o 11 (.mv (.t 0)), o 12 (.len (.t 11)), o 13 (.mv (.t 1)), o 14 (.len (.t 13)), o 15 (.bin .lss (.t 12) (.t 14))]) (.cond (.t 15) (.seq (.reg [o 4 (.mv (.k (.int .i64 (.negSucc 0))))]) .ret) .skip)) (.seq (.reg [o 4 (.mv (.k (.int .i64 (.ofNat 1))))]) .ret)) .skip)) (.seq (.seq (.reg [o 16 (.mv (.t 0)), o 17 (.len (.t 16)), o 18 (.bin .sub (.t 17) (.k (.int .i64 (.ofNat 1)))), o 5 (.mv (.t 18))]) (.block 0 (.loop (.seq (.seq (.reg [o 19 (.mv (.t 5)), o 20 (.bin .geq (.t 19) (.k (.int .i64 (.ofNat 0))))]) (.cond (.t 20) .skip (.exit 0))) (.seq (.block 1 (.seq (.regd [o 23 (.mv (.t 0)), o 24 (.mv (.t 5)), o 25 (.iaddr 1 (.t 23) (.t 24)), o 26 (.load none (.t 25)), o 27 (.mv (.t 1)), o 28 (.mv (.t 5)), o 29 (.iaddr 1 (.t 27) (.t 28)), o 30 (.load none (.t 29)), o 31 (.bin .neq (.t 26) (.t 30))] [] []) (.cond (.t 31) (.seq (.seq (.regd [o 32 (.mv (.t 0)), o 33 (.mv (.t 5)), o 34 (.iaddr 1 (.t 32) (.t 33)), o 35 (.load none (.t 34)), o 36 (.mv (.t 1)), o 37 (.mv (.t 5)), o 38 (.iaddr 1 (.t 36) (.t 37)), o 39 (.load none (.t 38)), o 40 (.bin .lss (.t 35) (.t 39))] [] []) (.cond (.t 40) (.seq (.reg [o 4 (.mv (.k (.int .i64 (.negSucc 0))))]) .ret) .skip)) (.seq (.reg [o 4 (.mv (.k (.int .i64 (.ofNat 1))))]) .ret)) .skip))) (.reg [o 21 (.mv (.t 5)), o 22 (.bin .sub (.t 21) (.k (.int .i64 (.ofNat 1)))), o 5 (.mv (.t 22))])))))) (.seq (.reg [o 4 (.mv (.k (.int .i64 (.ofNat 0))))]) .ret)))) 41 2 [.t 4]
theorem l55 : compFunc Tryd.prog 55 = some L55 := by kernel_rfl
def L56 : XFunc := .mk (.seq (.reg [o 4 (.mv (.k .nils))]) (.seq (.reg [o 9 (.mv (.t 0)), o 10 (.len (.t 9)), o 11 (.mkslice [.int .u32 (.ofNat 0)] 4 (.t 10) (.t 10)), o 5 (.mv (.t 11))]) (.seq (.reg [o 6 (.mv (.k (.int .u32 (.ofNat 0))))]) (.seq (.seq (.reg [o 12 (.mv (.t 0)), o 13 (.len (.t 12)), o 14 (.mv (.k (.int .i64 (.ofNat 0))))]) (.block 0 (.loop (.seq (.reg [o 15 (.bin .lss (.t 14) (.t 13))]) (.seq (.cond (.t 15) .skip (.exit 0)) (.seq (.block 1 (.seq (.reg [o 16 (.mv (.t 14)), o 7 (.mv (.t 16))]) (.seq (.reg [o 8 (.mv (.k (.int .u32 (.ofNat 0))))]) (.seq (.seq (.reg [o 17 (.mv (.t 7)), o 18 (.mv (.t 1)), o 19 (.len (.t 18)), o 20 (.bin .lss (.t 17) (.t 19))]) (.cond (.t 20) (.reg [o 21 (.mv (.t 1)), o 22 (.mv (.t 7)), o 23 (.iaddr 1 (.t 21) (.t 22)), o 24 (.load none (.t 23)), o 8 (.mv (.t 24))]) .skip)) (.reg [o 26 (.mv (.t 5)), o 27 (.mv (.t 7)), o 28 (.mv (.t 0)), o 29 (.mv (.t 7)), o 30 (.iaddr 1 (.t 28) (.t 29)), o 31 (.load none (.t 30)), o 32 (.mv (.t 8)), o 33 (.mv (.t 6)), o 34 (.call (.k (.fn 80 [])) [.t 31, .t 32, .t 33]), o 25 (.mv (.t 34)), o 35 (.ext (.t 25) 0), o 36 (.ext (.t 25) 1), o 37 (.iaddr 1 (.t 26) (.t 27)), .mk none (.store 1 (.t 37) (.t 35)) none, o 6 (.mv (.t 36))]))))) (.reg [o 38 (.bin .add (.t 14) (.k (.int .i64 (.ofNat 1)))), o 14 (.mv (.t 38))]))))))) (.seq (.reg [o 39 (.mv (.t 5)), o 40 (.call (.k (.fn 53 [])) [.t 39]), o 4 (.mv (.t 40))]) .ret))))) 41 2 [.t 4]
theorem l56 : compFunc Tryd.prog 56 = some L56 := by kernel_rfl
def L57 : XFunc := .mk (.seq (.reg [o 4 (.mv (.k (.str [])))]) (.seq (.reg [o 8 (.mv (.t 0)), o 9 (.conv .u8 (.t 8)), o 10 (.bslice [.int .u8 (.ofNat 0)] [(0, 1, .t 9)] 1), o 5 (.mv (.t 10))]) (.seq (.seq (.reg [o 11 (.mv (.t 1)), o 12 (.len (.t 11)), o 13 (.mv (.k (.int .i64 (.ofNat 0))))]) (.block 0 (.loop (.seq (.reg [o 14 (.bin .lss (.t 13) (.t 12))]) (.seq (.cond (.t 14) .skip (.exit 0)) (.seq (.block 1 (.seq (.reg [o 15 (.iaddr 1 (.t 11) (.t 13)), o 16 (.load none (.t 15)), o 7 (.mv (.t 16))]) (.reg [o 17 (.mv (.t 5)), o 18 (.mv (.t 7)), o 19 (.conv .u8 (.t 18)), o 20 (.bslice [.int .u8 (.ofNat 0)] [(0, 1, .t 19)] 1), o 21 (.app 1 1 (.t 17) (.t 20)), o 5 (.mv (.t 21))]))) (.reg [o 22 (.bin .add (.t 13) (.k (.int .i64 (.ofNat 1)))), o 13 (.mv (.t 22))]))))))) (.seq (.reg [o 23 (.mv (.t 5)), o 24 (.bts (.t 23)), o 4 (.mv (.t 24))]) .ret)))) 25 2 [.t 4]
theorem l57 : compFunc Tryd.prog 57 = some L57 := by kernel_rfl
def L58 : XFunc := .mk (.seq (.reg [o 2 (.box (.t 0)), o 3 (.box (.t 1)), o 4 (.alloc [.bool false, .nils])]) (.seq (.regd [o 5 (.faddr 0 (.t 2)), o 6 (.load none (.t 5)), o 7 (.faddr 0 (.t 3)), o 8 (.load none (.t 7)), o 9 (.eqf true (.mk false [.b]) (.t 6) (.t 8)), o 10 (.faddr 1 (.t 2)), o 11 (.load none (.t 10)), o 12 (.faddr 1 (.t 3)), o 13 (.load none (.t 12)), o 14 (.call (.k (.fn 81 [])) [.t 11, .t 13]), o 15 (.call (.k (.fn 52 [])) [.t 9, .t 14]), .mk none (.store 2 (.t 4) (.t 15)) none] [(1, [9], []), (3, [9], [])] []) .ret)) 16 2 [.c 4 (some 2)]
theorem l58 : compFunc Tryd.prog 58 = some L58 := by kernel_rfl
def L59 : XFunc := .mk (.seq (.reg [o 4 (.mv (.k (.str [])))]) (.seq (.block 0 (.loop (.seq (.seq (.reg [o 5 (.mv (.t 0)), o 6 (.slen (.t 5)), o 7 (.bin .gtr (.t 6) (.k (.int .i64 (.ofNat 0)))), o 8 (.mv (.t 7)), og 9 (.mv (.t 0)) 8 true, og 10 (.sidx (.t 9) (.k (.int .i64 (.ofNat 0)))) 8 true, og 11 (.mv (.t 1)) 8 true, og 12 (.bin .eql (.t 10) (.t 11)) 8 true, o 13 (.pick (.t 8) (.t 12) (.k (.bool false)))]) (.cond (.t 13) .skip (.exit 0))) (.block 1 (.reg [o 14 (.mv (.t 0)), o 15 (.scut (.t 14) (some (.k (.int .i64 (.ofNat 1)))) none), o 0 (.mv (.t 15))]))))) (.seq (.reg [o 16 (.mv (.t 0)), o 4 (.mv (.t 16))]) .ret))) 17 2 [.t 4]
theorem l59 : compFunc Tryd.prog 59 = some L59 := by kernel_rfl
def L60 : XFunc := .mk (.seq (.reg [o 4 (.mv (.k (.str [])))]) (.seq (.block 0 (.loop (.seq (.seq (.reg [o 5 (.mv (.t 0)), o 6 (.slen (.t 5)), o 7 (.bin .gtr (.t 6) (.k (.int .i64 (.ofNat 0)))), o 8 (.mv (.t 7)), og 9 (.mv (.t 0)) 8 true, og 10 (.mv (.t 0)) 8 true, og 11 (.slen (.t 10)) 8 true, og 12 (.bin .sub (.t 11) (.k (.int .i64 (.ofNat 1)))) 8 true, og 13 (.sidx (.t 9) (.t 12)) 8 true, og 14 (.mv (.t 1)) 8 true, og 15 (.bin .eql (.t 13) (.t 14)) 8 true, o 16 (.pick (.t 8) (.t 15) (.k (.bool false)))]) (.cond (.t 16) .skip (.exit 0))) (.block 1 (.reg [o 17 (.mv (.t 0)), o 18 (.mv (.t 0)), o 19 (.slen (.t 18)), o 20 (.bin .sub (.t 19) (.k (.int .i64 (.ofNat 1)))), o 21 (.scut (.t 17) none (some (.t 20))), o 0 (.mv (.t 21))]))))) (.seq (.reg [o 22 (.mv (.t 0)), o 4 (.mv (.t 22))]) .ret))) 23 2 [.t 4]
theorem l60 : compFunc Tryd.prog 60 = some L60 := by kernel_rfl
def L61 : XFunc := .mk (.seq (.reg [o 2 (.alloc [.bool false, .bool false, .bool false, .bool false, .bool false, .bool false, .bool false, .bool false, .bool false, .bool false, .bool false, .bool false, .bool false, .bool false, .bool false, .bool false, .bool false, .bool false, .bool false, .bool false, .bool false, .bool false, .bool false, .bool false, .bool false, .bool false, .bool false, .bool false, .bool false, .bool false, .bool false, .bool false, .bool false, .bool false, .bool false, .bool false, .bool false, .bool false, .bool false, .bool false, .bool false, .bool false, .bool false, .bool false, .bool false, .bool false, .bool false, .bool false, .bool false, .bool false, .bool false, .bool false, .bool false, .bool false, .bool false, .bool false, .bool false, .bool false, .bool false, .bool false, .bool false, .bool false, .bool false, .bool false, .bool false, .bool false, .bool false, .bool false, .bool false, .bool false, .bool false, .bool false, .bool false, .bool false, .bool false, .bool false, .bool false, .bool false, .bool false, .bool false, .bool false, .bool false, .bool false, .bool false, .bool false, .bool false, .bool false, .bool false, .bool false, .bool false, .bool false, .bool false, .bool false, .bool false, .bool false, .bool false, .bool false, .bool false, .bool false, .bool false, .bool false, .bool false, .bool false, .bool false, .bool false, .bool false, .bool false, .bool false, .bool false, .bool false, .bool false, .bool false, .bool false, .bool false, .bool false, .bool false, .bool false, .bool false, .bool false, .bool false, .bool false, .bool false, .bool false, .bool false, .bool false, .bool false, .bool false, .bool false, .bool false, .bool false, .bool false, .bool false, .bool false, .bool false, .bool false, .bool false, .bool false, .bool false, .bool false, .bool false, .bool false, .bool false, .bool false, .bool false, .bool false, .bool false, .bool false, .bool false, .bool false, .bool false, .bool false, .bool false, .bool false, .bool false, .bool false, .bool false, .bool false, .bool false, .bool false, .bool false, .bool false, .bool false, .bool false, .bool false, .bool false, .bool false, .bool false, .bool false, .bool false, .bool false, .bool false, .bool false, .bool false, .bool false, .bool false, .bool false, .bool false, .bool false, .bool false, .bool false, .bool false, .bool false, .bool false, .bool false, .bool false, .bool false, .bool false, .bool false, .bool false, .bool false, .bool false, .bool false, .bool false, .bool false, .bool false, .bool false, .bool false, .bool false, .bool false, .bool false, .bool false, .bool false, .bool false, .bool false, .bool false, .bool false, .bool false, .bool false, .bool false, .bool false, .bool false, .bool false, .bool false, .bool false, .bool false, .bool false, .bool false, .bool false, .bool false, .bool false, .bool false, .bool false, .bool false, .bool false, .bool false, .bool false, .bool false, .bool false, .bool false, .bool false, .bool false, .bool false, .bool false, .bool false, .bool false, .bool false, .bool false, .bool false, .bool false, .bool false, .bool false, .bool false, .bool false, .bool false, .bool false, .bool false, .bool false, .bool false, .bool false, .bool false, .bool false, .bool false, .bool false, .bool false, .bool false, .bool false]), o 3 (.mv (.k (.bool false)))]) (.seq (.seq (.reg [o 4 (.mv (.k (.int .i64 (.ofNat 0))))]) (.block 0 (.loop (.seq (.seq (.reg [o 6 (.mv (.t 4)), o 7 (.mv (.t 0)), o 8 (.slen (.t 7)), o 9 (.bin .lss (.t 6) (.t 8))]) (.cond (.t 9) .skip (.exit 0))) (.seq (.block 1 (.seq (.reg [o 12 (.mv (.t 0)), o 13 (.mv (.t 4)), o 14 (.sidx (.t 12) (.t 13)), o 5 (.mv (.t 14))]) (.seq (.seq (.reg [o 15 (.mv (.t 5)), o 16 (.bin .geq (.t 15) (.k (.int .u8 (.ofNat 128))))]) (.cond (.t 16) (.seq (.reg [o 17 (.load (some 256) (.t 2)), .mk none (.store 256 (.t 2) (.t 17)) none, o 3 (.mv (.k (.bool false)))]) .ret) .skip)) (.reg [o 18 (.mv (.t 5)), o 19 (.aaddr 256 1 (.t 2) (.t 18)), .mk none (.store 1 (.t 19) (.k (.bool true))) none])))) (.reg [o 10 (.mv (.t 4)), o 11 (.bin .add (.t 10) (.k (.int .i64 (.ofNat 1)))), o 4 (.mv (.t 11))])))))) (.seq (.reg [o 20 (.load (some 256) (.t 2)), .mk none (.store 256 (.t 2) (.t 20)) none, o 3 (.mv (.k (.bool true)))]) .ret))) 21 1 [.c 2 (some 256), .t 3]
theorem l61 : compFunc Tryd.prog 61 = some L61 := by kernel_rfl
def L62 : XFunc := .mk (.seq (.reg [o 4 (.mv (.k (.str [])))]) (.seq (.block 0 (.loop (.seq (.seq (.reg [o 5 (.mv (.t 0)), o 6 (.slen (.t 5)), o 7 (.bin .gtr (.t 6) (.k (.int .i64 (.ofNat 0))))]) (.cond (.t 7) .skip (.exit 0))) (.block 1 (.seq (.seq (.reg [o 8 (.mv (.t 1)), o 9 (.mv (.t 0)), o 10 (.sidx (.t 9) (.k (.int .i64 (.ofNat 0)))), o 11 (.call (.k (.fn 82 [])) [.t 8, .t 10]), o 12 (.un .not (.t 11))]) (.cond (.t 12) (.exit 0) .skip)) (.reg [o 13 (.mv (.t 0)), o 14 (.scut (.t 13) (some (.k (.int .i64 (.ofNat 1)))) none), o 0 (.mv (.t 14))])))))) (.seq (.reg [o 15 (.mv (.t 0)), o 4 (.mv (.t 15))]) .ret))) 16 2 [.t 4]
theorem l62 : compFunc Tryd.prog 62 = some L62 := by kernel_rfl
def L63 : XFunc := .mk (.seq (.reg [o 4 (.mv (.k (.str [])))]) (.seq (.block 0 (.loop (.seq (.seq (.reg [o 5 (.mv (.t 0)), o 6 (.slen (.t 5)), o 7 (.bin .gtr (.t 6) (.k (.int .i64 (.ofNat 0))))]) (.cond (.t 7) .skip (.exit 0))) (.block 1 (.seq (.seq (.reg [o 8 (.mv (.t 1)), o 9 (.mv (.t 0)), o 10 (.mv (.t 0)), o 11 (.slen (.t 10)), o 12 (.bin .sub (.t 11) (.k (.int .i64 (.ofNat 1)))), o 13 (.sidx (.t 9) (.t 12)), o 14 (.call (.k (.fn 82 [])) [.t 8, .t 13]), o 15 (.un .not (.t 14))]) (.cond (.t 15) (.exit 0) .skip)) (.reg [o 16 (.mv (.t 0)), o 17 (.mv (.t 0)), o 18 (.slen (.t 17)), o 19 (.bin .sub (.t 18) (.k (.int .i64 (.ofNat 1)))), o 20 (.scut (.t 16) none (some (.t 19))), o 0 (.mv (.t 20))])))))) (.seq (.reg [o 21 (.mv (.t 0)), o 4 (.mv (.t 21))]) .ret))) 22 2 [.t 4]
theorem l63 : compFunc Tryd.prog 63 = some L63 := by kernel_rfl
def L66 : XFunc := .mk (.seq (.reg [o 4 (.mv (.k (.int .i64 (.ofNat 0))))]) (.seq (.seq (.reg [o 6 (.mv (.t 0)), o 7 (.len (.t 6)), o 8 (.mv (.k (.int .i64 (.ofNat 0))))]) (.block 0 (.loop (.seq (.reg [o 9 (.bin .lss (.t 8) (.t 7))]) (.seq (.cond (.t 9) .skip (.exit 0)) (.seq (.block 1 (.seq (.reg [o 10 (.mv (.t 8)), o 5 (.mv (.t 10))]) (.seq (.reg [o 11 (.mv (.t 1)), o 12 (.mv (.t 0)), o 13 (.mv (.t 5)), o 14 (.iaddr 2 (.t 12) (.t 13)), o 15 (.load (some 2) (.t 14)), o 16 (.call (.t 11) [.t 15])]) (.cond (.t 16) (.seq (.reg [o 17 (.mv (.t 5)), o 4 (.mv (.t 17))]) .ret) .skip)))) (.reg [o 18 (.bin .add (.t 8) (.k (.int .i64 (.ofNat 1)))), o 8 (.mv (.t 18))]))))))) (.seq (.reg [o 4 (.mv (.k (.int .i64 (.negSucc 0))))]) .ret))) 19 2 [.t 4]
theorem l66 : compFunc Tryd.prog 66 = some L66 := by kernel_rfl
def L67 : XFunc := .mk (.seq (.reg [o 4 (.mv (.k .nils)), o 5 (.mv (.k (.int .u32 (.ofNat 0))))]) (.seq (.reg [o 10 (.mv (.t 0)), o 11 (.len (.t 10)), o 12 (.mkslice [.int .u32 (.ofNat 0)] 4 (.t 11) (.t 11)), o 6 (.mv (.t 12))]) (.seq (.reg [o 7 (.mv (.k (.int .u64 (.ofNat 0))))]) (.seq (.seq (.reg [o 13 (.mv (.t 0)), o 14 (.len (.t 13)), o 15 (.bin .sub (.t 14) (.k (.int .i64 (.ofNat 1)))), o 8 (.mv (.t 15))]) (.block 0 (.loop (.seq (.seq (.reg [o 16 (.mv (.t 8)), o 17 (.bin .geq (.t 16) (.k (.int .i64 (.ofNat 0))))]) (.cond (.t 17) .skip (.exit 0))) (.seq (.block 1 (.seq (.reg [o 20 (.mv (.t 7)), o 21 (.bin .shl (.t 20) (.k (.int .u64 (.ofNat 32)))), o 22 (.mv (.t 0)), o 23 (.mv (.t 8)), o 24 (.iaddr 1 (.t 22) (.t 23)), o 25 (.load none (.t 24)), o 26 (.conv .u64 (.t 25)), o 27 (.bin .or (.t 21) (.t 26)), o 9 (.mv (.t 27))]) (.regd [o 28 (.mv (.t 6)), o 29 (.mv (.t 8)), o 30 (.mv (.t 9)), o 31 (.mv (.t 1)), o 32 (.conv .u64 (.t 31)), o 33 (.bin .quo (.t 30) (.t 32)), o 34 (.conv .u32 (.t 33)), o 35 (.mv (.t 9)), o 36 (.mv (.t 1)), o 37 (.conv .u64 (.t 36)), o 38 (.bin .rem (.t 35) (.t 37)), o 39 (.iaddr 1 (.t 28) (.t 29)), .mk none (.store 1 (.t 39) (.t 34)) none, o 7 (.mv (.t 38))] [] []))) (.reg [o 18 (.mv (.t 8)), o 19 (.bin .sub (.t 18) (.k (.int .i64 (.ofNat 1)))), o 8 (.mv (.t 19))])))))) (.seq (.reg [o 40 (.mv (.t 6)), o 41 (.call (.k (.fn 53 [])) [.t 40]), o 42 (.mv (.t 7)), o 43 (.conv .u32 (.t 42)), o 4 (.mv (.t 41)), o 5 (.mv (.t 43))]) .ret))))) 44 2 [.t 4, .t 5]
theorem l67 : compFunc Tryd.prog 67 = some L67 := by kernel_rfl
def L68 : XFunc := .mk (.seq (.reg [o 4 (.mv (.t 0)), o 5 (.len (.t 4)), o 6 (.bin .sub (.t 5) (.k (.int .i64 (.ofNat 1)))), o 2 (.mv (.k (.int .i64 (.ofNat 0)))), o 3 (.mv (.t 6))]) (.block 0 (.loop (.seq (.seq (.reg [o 7 (.mv (.t 2)), o 8 (.mv (.t 3)), o 9 (.bin .lss (.t 7) (.t 8))]) (.cond (.t 9) .skip (.exit 0))) (.seq (.block 1 (.regd [o 14 (.mv (.t 0)), o 15 (.mv (.t 2)), o 16 (.mv (.t 0)), o 17 (.mv (.t 3)), o 18 (.mv (.t 0)), o 19 (.mv (.t 3)), o 20 (.iaddr 1 (.t 18) (.t 19)), o 21 (.load none (.t 20)), o 22 (.mv (.t 0)), o 23 (.mv (.t 2)), o 24 (.iaddr 1 (.t 22) (.t 23)), o 25 (.load none (.t 24)), o 26 (.iaddr 1 (.t 14) (.t 15)), .mk none (.store 1 (.t 26) (.t 21)) none, o 27 (.iaddr 1 (.t 16) (.t 17)), .mk none (.store 1 (.t 27) (.t 25)) none] [] [])) (.reg [o 10 (.mv (.t 2)), o 11 (.bin .add (.t 10) (.k (.int .i64 (.ofNat 1)))), o 12 (.mv (.t 3)), o 13 (.bin .sub (.t 12) (.k (.int .i64 (.ofNat 1)))), o 2 (.mv (.t 11)), o 3 (.mv (.t 13))])))))) 28 1 []
theorem l68 : compFunc Tryd.prog 68 = some L68 := by kernel_rfl
def L69 : XFunc := .mk (.seq (.reg [o 10 (.mv (.t 1)), o 11 (.bin .add (.t 10) (.k (.int .i64 (.ofNat 1)))), o 8 (.mv (.t 11))]) (.block 0 (.loop (.seq (.seq (.reg [o 12 (.mv (.t 8)), o 13 (.mv (.t 2)), o 14 (.bin .lss (.t 12) (.t 13))]) (.cond (.t 14) .skip (.exit 0))) (.seq (.block 1 (.seq (.reg [o 17 (.mv (.t 8)), o 9 (.mv (.t 17))]) (.block 2 (.loop (.seq (.seq (.regd [o 18 (.mv (.t 9)), o 19 (.mv (.t 1)), o 20 (.bin .gtr (.t 18) (.t 19)), o 21 (.mv (.t 20)), og 22 (.mv (.t 3)) 21 true, og 23 (.mv (.t 0)) 21 true, og 24 (.mv (.t 9)) 21 true, og 25 (.iaddr 2 (.t 23) (.t 24)) 21 true, og 26 (.load (some 2) (.t 25)) 21 true, og 27 (.mv (.t 0)) 21 true, og 28 (.mv (.t 9)) 21 true, og 29 (.bin .sub (.t 28) (.k (.int .i64 (.ofNat 1)))) 21 true, og 30 (.iaddr 2 (.t 27) (.t 29)) 21 true, og 31 (.load (some 2) (.t 30)) 21 true, og 32 (.call (.t 22) [.t 26, .t 31]) 21 true, og 33 (.bin .lss (.t 32) (.k (.int .i64 (.ofNat 0)))) 21 true, o 34 (.pick (.t 21) (.t 33) (.k (.bool false)))] [] []) (.cond (.t 34) .skip (.exit 2))) (.seq (.block 3 (.regd [o 37 (.mv (.t 0)), o 38 (.mv (.t 9)), o 39 (.mv (.t 0)), o 40 (.mv (.t 9)), o 41 (.bin .sub (.t 40) (.k (.int .i64 (.ofNat 1)))), o 42 (.mv (.t 0)), o 43 (.mv (.t 9)), o 44 (.bin .sub (.t 43) (.k (.int .i64 (.ofNat 1)))), o 45 (.iaddr 2 (.t 42) (.t 44)), o 46 (.load (some 2) (.t 45)), o 47 (.mv (.t 0)), o 48 (.mv (.t 9)), o 49 (.iaddr 2 (.t 47) (.t 48)), o 50 (.load (some 2) (.t 49)), o 51 (.iaddr 2 (.t 37) (.t 38)), .mk none (.store 2 (.t 51) (.t 46)) none, o 52 (.iaddr 2 (.t 39) (.t 41)), .mk none (.store 2 (.t 52) (.t 50)) none] [] [])) (.reg [o 35 (.mv (.t 9)), o 36 (.bin .sub (.t 35) (.k (.int .i64 (.ofNat 1)))), o 9 (.mv (.t 36))]))))))) (.reg [o 15 (.mv (.t 8)), o 16 (.bin .add (.t 15) (.k (.int .i64 (.ofNat 1)))), o 8 (.mv (.t 16))])))))) 53 4 []
theorem l69 : compFunc Tryd.prog 69 = some L69 := by kernel_rfl
def L77 : XFunc := .mk (.seq (.reg [o 2 (.mv (.k (.int .i64 (.ofNat 0))))]) (.seq (.seq (.reg [o 3 (.mv (.t 0)), o 4 (.bin .geq (.t 3) (.k (.int .u32 (.ofNat 65536))))]) (.cond (.t 4) (.seq (.reg [o 5 (.mv (.t 0)), o 6 (.bin .shr (.t 5) (.k (.int .u64 (.ofNat 16)))), o 0 (.mv (.t 6))]) (.reg [o 2 (.mv (.k (.int .i64 (.ofNat 16))))])) .skip)) (.seq (.seq (.reg [o 7 (.mv (.t 0)), o 8 (.bin .geq (.t 7) (.k (.int .u32 (.ofNat 256))))]) (.cond (.t 8) (.seq (.reg [o 9 (.mv (.t 0)), o 10 (.bin .shr (.t 9) (.k (.int .u64 (.ofNat 8)))), o 0 (.mv (.t 10))]) (.reg [o 11 (.mv (.t 2)), o 12 (.bin .add (.t 11) (.k (.int .i64 (.ofNat 8)))), o 2 (.mv (.t 12))])) .skip)) (.seq (.reg [o 13 (.mv (.t 2)), o 14 (.mv (.t 0)), o 15 (.conv .u8 (.t 14)), o 16 (.sidx (.k (.str [UInt8.ofNat 0, UInt8.ofNat 1, UInt8.ofNat 2, UInt8.ofNat 2, UInt8.ofNat 3, UInt8.ofNat 3, UInt8.ofNat 3, UInt8.ofNat 3, UInt8.ofNat 4, UInt8.ofNat 4, UInt8.ofNat 4, UInt8.ofNat 4, UInt8.ofNat 4, UInt8.ofNat 4, UInt8.ofNat 4, UInt8.ofNat 4, UInt8.ofNat 5, UInt8.ofNat 5, UInt8.ofNat 5, UInt8.ofNat 5, UInt8.ofNat 5, UInt8.ofNat 5, UInt8.ofNat 5, UInt8.ofNat 5, UInt8.ofNat 5, UInt8.ofNat 5, UInt8.ofNat 5, UInt8.ofNat 5, UInt8.ofNat 5, UInt8.ofNat 5, UInt8.ofNat 5, UInt8.ofNat 5, UInt8.ofNat 6, UInt8.ofNat 6, UInt8.ofNat 6, UInt8.ofNat 6, UInt8.ofNat 6, UInt8.ofNat 6, UInt8.ofNat 6, UInt8.ofNat 6, UInt8.ofNat 6, UInt8.ofNat 6, UInt8.ofNat 6, UInt8.ofNat 6, UInt8.ofNat 6, UInt8.ofNat 6, UInt8.ofNat 6, UInt8.ofNat 6, UInt8.ofNat 6, UInt8.ofNat 6, UInt8.ofNat 6, UInt8.ofNat 6, UInt8.ofNat 6, UInt8.ofNat 6, UInt8.ofNat 6, UInt8.ofNat 6, UInt8.ofNat 6, UInt8.ofNat 6, UInt8.ofNat 6, UInt8.ofNat 6, UInt8.ofNat 6, UInt8.ofNat 6, UInt8.ofNat 6, UInt8.ofNat 6, UInt8.ofNat 7, UInt8.ofNat 7, UInt8.ofNat 7, UInt8.ofNat 7, UInt8.ofNat 7, UInt8.ofNat 7, UInt8.ofNat 7, UInt8.ofNat 7, UInt8.ofNat 7, UInt8.ofNat 7, UInt8.ofNat 7, UInt8.ofNat 7, UInt8.ofNat 7, UInt8.ofNat 7, UInt8.ofNat 7, UInt8.ofNat 7, UInt8.ofNat 7, UInt8.ofNat 7, UInt8.ofNat 7, UInt8.ofNat 7, UInt8.ofNat 7, UInt8.ofNat 7, UInt8.ofNat 7, UInt8.ofNat 7, UInt8.ofNat 7, UInt8.ofNat 7, UInt8.ofNat 7, UInt8.ofNat 7, UInt8.ofNat 7, UInt8.ofNat 7, UInt8.ofNat 7, UInt8.ofNat 7, UInt8.ofNat 7, UInt8.ofNat 7, UInt8.ofNat 7, UInt8.ofNat 7, UInt8.ofNat 7, UInt8.ofNat 7, UInt8.ofNat 7, UInt8.ofNat 7, UInt8.ofNat 7, UInt8.ofNat 7, UInt8.ofNat 7, UInt8.ofNat 7, UInt8.ofNat 7, UInt8.ofNat 7, UInt8.ofNat 7, UInt8.ofNat 7, UInt8.ofNat 7, UInt8.ofNat 7, UInt8.ofNat 7, UInt8.ofNat 7, UInt8.ofNat 7, UInt8.ofNat 7, UInt8.ofNat 7, UInt8.ofNat 7, UInt8.ofNat 7, UInt8.ofNat 7, UInt8.ofNat 7, UInt8.ofNat 7, UInt8.ofNat 7, UInt8.ofNat 7, UInt8.ofNat 7, UInt8.ofNat 7, UInt8.ofNat 8, UInt8.ofNat 8, UInt8.ofNat 8, UInt8.ofNat 8, UInt8.ofNat 8, UInt8.ofNat 8, UInt8.ofNat 8, UInt8.ofNat 8, UInt8.ofNat 8, UInt8.ofNat 8, UInt8.ofNat 8, UInt8.ofNat 8, UInt8.ofNat 8, UInt8.ofNat 8, UInt8.ofNat 8, UInt8.ofNat 8, UInt8.ofNat 8, UInt8.ofNat 8, UInt8.ofNat 8, UInt8.ofNat 8, UInt8.ofNat 8, UInt8.ofNat 8, UInt8.ofNat 8, UInt8.ofNat 8, UInt8.ofNat 8, UInt8.ofNat 8, UInt8.ofNat 8, UInt8.ofNat 8, UInt8.ofNat 8, UInt8.ofNat 8, UInt8.ofNat 8, UInt8.ofNat 8, UInt8.ofNat 8, UInt8.ofNat 8, UInt8.ofNat 8, UInt8.ofNat 8, UInt8.ofNat 8, UInt8.ofNat 8, UInt8.ofNat 8, UInt8.ofNat 8, UInt8.ofNat 8, UInt8.ofNat 8, UInt8.ofNat 8, UInt8.ofNat 8, UInt8.ofNat 8, UInt8.ofNat 8, UInt8.ofNat 8, UInt8.ofNat 8, UInt8.ofNat 8, UInt8.ofNat 8, UInt8.ofNat 8, UInt8.ofNat 8, UInt8.ofNat 8, UInt8.ofNat 8, UInt8.ofNat 8, UInt8.ofNat 8, UInt8.ofNat 8, UInt8.ofNat 8, UInt8.ofNat 8, UInt8.ofNat 8, UInt8.ofNat 8, UInt8.ofNat 8, UInt8.ofNat 8, UInt8.ofNat 8, UInt8.ofNat 8, UInt8.ofNat 8, UInt8.ofNat 8, UInt8.ofNat 8, UInt8.ofNat 8, UInt8.ofNat 8, UInt8.ofNat 8, UInt8.ofNat 8, UInt8.ofNat 8, UInt8.ofNat 8, UInt8.ofNat 8, UInt8.ofNat 8, UInt8.ofNat 8, UInt8.ofNat 8, UInt8.ofNat 8, UInt8.ofNat 8, UInt8.ofNat 8, UInt8.ofNat 8, UInt8.ofNat 8, UInt8.ofNat 8, UInt8.ofNat 8, UInt8.ofNat 8, UInt8.ofNat 8, UInt8.ofNat 8, UInt8.ofNat 8, UInt8.ofNat 8, UInt8.ofNat 8, UInt8.ofNat 8, UInt8.ofNat 8, UInt8.ofNat 8, UInt8.ofNat 8, UInt8.ofNat 8, UInt8.ofNat 8, UInt8.ofNat 8, UInt8.ofNat 8, UInt8.ofNat 8, UInt8.ofNat 8, UInt8.ofNat 8, UInt8.ofNat 8, UInt8.ofNat 8, UInt8.ofNat 8, UInt8.ofNat 8, UInt8.ofNat 8, UInt8.ofNat 8, UInt8.ofNat 8, UInt8.ofNat 8, UInt8.ofNat 8, UInt8.ofNat 8, UInt8.ofNat 8, UInt8.ofNat 8, UInt8.ofNat 8, UInt8.ofNat 8, UInt8.ofNat 8, UInt8.ofNat 8, UInt8.ofNat 8, UInt8.ofNat 8, UInt8.ofNat 8, UInt8.ofNat 8, UInt8.ofNat 8, UInt8.ofNat 8, UInt8.ofNat 8, UInt8.ofNat 8, UInt8.ofNat 8, UInt8.ofNat 8])) (.t 15)), o 17 (.conv .i64 (.t 16)), o 18 (.bin .add (.t 13) (.t 17)), o 2 (.mv (.t 18))]) .ret)))) 19 1 [.t 2]
theorem l77 : compFunc Tryd.prog 77 = some L77 := by kernel_rfl
def L78 : XFunc := .mk (.seq (.reg [o 2 (.mv (.k (.int .i64 (.ofNat 0))))]) (.seq (.seq (.reg [o 3 (.mv (.t 0)), o 4 (.bin .geq (.t 3) (.k (.int .u64 (.ofNat 4294967296))))]) (.cond (.t 4) (.seq (.reg [o 5 (.mv (.t 0)), o 6 (.bin .shr (.t 5) (.k (.int .u64 (.ofNat 32)))), o 0 (.mv (.t 6))]) (.reg [o 2 (.mv (.k (.int .i64 (.ofNat 32))))])) .skip)) (.seq (.seq (.reg [o 7 (.mv (.t 0)), o 8 (.bin .geq (.t 7) (.k (.int .u64 (.ofNat 65536))))]) (.cond (.t 8) (.seq (.reg [o 9 (.mv (.t 0)), o 10 (.bin .shr (.t 9) (.k (.int .u64 (.ofNat 16)))), o 0 (.mv (.t 10))]) (.reg [o 11 (.mv (.t 2)), o 12 (.bin .add (.t 11) (.k (.int .i64 (.ofNat 16)))), o 2 (.mv (.t 12))])) .skip)) (.seq (.seq (.reg [o 13 (.mv (.t 0)), o 14 (.bin .geq (.t 13) (.k (.int .u64 (.ofNat 256))))]) (.cond (.t 14) (.seq (.reg [o 15 (.mv (.t 0)), o 16 (.bin .shr (.t 15) (.k (.int .u64 (.ofNat 8)))), o 0 (.mv (.t 16))]) (.reg [o 17 (.mv (.t 2)), o 18 (.bin .add (.t 17) (.k (.int .i64 (.ofNat 8)))), o 2 (.mv (.t 18))])) .skip)) (.seq (.reg [o 19 (.mv (.t 2)), o 20 (.mv (.t 0)), o 21 (.conv .u8 (.t 20)), o 22 (.sidx (.k (.str [UInt8.ofNat 0, UInt8.ofNat 1, UInt8.ofNat 2, UInt8.ofNat 2, UInt8.ofNat 3, UInt8.ofNat 3, UInt8.ofNat 3, UInt8.ofNat 3, UInt8.ofNat 4, UInt8.ofNat 4, UInt8.ofNat 4, UInt8.ofNat 4, UInt8.ofNat 4, UInt8.ofNat 4, UInt8.ofNat 4, UInt8.ofNat 4, UInt8.ofNat 5, UInt8.ofNat 5, UInt8.ofNat 5, UInt8.ofNat 5, UInt8.ofNat 5, UInt8.ofNat 5, UInt8.ofNat 5, UInt8.ofNat 5, UInt8.ofNat 5, UInt8.ofNat 5, UInt8.ofNat 5, UInt8.ofNat 5, UInt8.ofNat 5, UInt8.ofNat 5, UInt8.ofNat 5, UInt8.ofNat 5, UInt8.ofNat 6, UInt8.ofNat 6, UInt8.ofNat 6, UInt8.ofNat 6, UInt8.ofNat 6, UInt8.ofNat 6, UInt8.ofNat 6, UInt8.ofNat 6, UInt8.ofNat 6, UInt8.ofNat 6, UInt8.ofNat 6, UInt8.ofNat 6, UInt8.ofNat 6, UInt8.ofNat 6, UInt8.ofNat 6, UInt8.ofNat 6, UInt8.ofNat 6, UInt8.ofNat 6, UInt8.ofNat 6, UInt8.ofNat 6, UInt8.ofNat 6, UInt8.ofNat 6, UInt8.ofNat 6, UInt8.ofNat 6, UInt8.ofNat 6, UInt8.ofNat 6, UInt8.ofNat 6, UInt8.ofNat 6, UInt8.ofNat 6, UInt8.ofNat 6, UInt8.ofNat 6, UInt8.ofNat 6, UInt8.ofNat 7, UInt8.ofNat 7, UInt8.ofNat 7, UInt8.ofNat 7, UInt8.ofNat 7, UInt8.ofNat 7, UInt8.ofNat 7, UInt8.ofNat 7, UInt8.ofNat 7, UInt8.ofNat 7, UInt8.ofNat 7, UInt8.ofNat 7, UInt8.ofNat 7, UInt8.ofNat 7, UInt8.ofNat 7, UInt8.ofNat 7, UInt8.ofNat 7, UInt8.ofNat 7, UInt8.ofNat 7, UInt8.ofNat 7, UInt8.ofNat 7, UInt8.ofNat 7, UInt8.ofNat 7, UInt8.ofNat 7, UInt8.ofNat 7, UInt8.ofNat 7, UInt8.ofNat 7, UInt8.ofNat 7, UInt8.ofNat 7, UInt8.ofNat 7, UInt8.ofNat 7, UInt8.ofNat 7, UInt8.ofNat 7, UInt8.ofNat 7, UInt8.ofNat 7, UInt8.ofNat 7, UInt8.ofNat 7, UInt8.ofNat 7, UInt8.ofNat 7, UInt8.ofNat 7, UInt8.ofNat 7, UInt8.ofNat 7, UInt8.ofNat 7, UInt8.ofNat 7, UInt8.ofNat 7, UInt8.ofNat 7, UInt8.ofNat 7, UInt8.ofNat 7, UInt8.ofNat 7, UInt8.ofNat 7, UInt8.ofNat 7, UInt8.ofNat 7, UInt8.ofNat 7, UInt8.ofNat 7, UInt8.ofNat 7, UInt8.ofNat 7, UInt8.ofNat 7, UInt8.ofNat 7, UInt8.ofNat 7, UInt8.ofNat 7, UInt8.ofNat 7, UInt8.ofNat 7, UInt8.ofNat 7, UInt8.ofNat 7, UInt8.ofNat 8, UInt8.ofNat 8, UInt8.ofNat 8, UInt8.ofNat 8, UInt8.ofNat 8, UInt8.ofNat 8, UInt8.ofNat 8, UInt8.ofNat 8, UInt8.ofNat 8, UInt8.ofNat 8, UInt8.ofNat 8, UInt8.ofNat 8, UInt8.ofNat 8, UInt8.ofNat 8, UInt8.ofNat 8, UInt8.ofNat 8, UInt8.ofNat 8, UInt8.ofNat 8, UInt8.ofNat 8, UInt8.ofNat 8, UInt8.ofNat 8, UInt8.ofNat 8, UInt8.ofNat 8, UInt8.ofNat 8, UInt8.ofNat 8, UInt8.ofNat 8, UInt8.ofNat 8, UInt8.ofNat 8, UInt8.ofNat 8, UInt8.ofNat 8, UInt8.ofNat 8, UInt8.ofNat 8, UInt8.ofNat 8, UInt8.ofNat 8, UInt8.ofNat 8, UInt8.ofNat 8, UInt8.ofNat 8, UInt8.ofNat 8, UInt8.ofNat 8, UInt8.ofNat 8, UInt8.ofNat 8, UInt8.ofNat 8, UInt8.ofNat 8, UInt8.ofNat 8, UInt8.ofNat 8, UInt8.ofNat 8, UInt8.ofNat 8, UInt8.ofNat 8, UInt8.ofNat 8, UInt8.ofNat 8, UInt8.ofNat 8, UInt8.ofNat 8, UInt8.ofNat 8, UInt8.ofNat 8, UInt8.ofNat 8, UInt8.ofNat 8, UInt8.ofNat 8, UInt8.ofNat 8, UInt8.ofNat 8, UInt8.ofNat 8, UInt8.ofNat 8, UInt8.ofNat 8, UInt8.ofNat 8, UInt8.ofNat 8, UInt8.ofNat 8, UInt8.ofNat 8, UInt8.ofNat 8, UInt8.ofNat 8, UInt8.ofNat 8, UInt8.ofNat 8, UInt8.ofNat 8, UInt8.ofNat 8, UInt8.ofNat 8, UInt8.ofNat 8, UInt8.ofNat 8, UInt8.ofNat 8, UInt8.ofNat 8, UInt8.ofNat 8, UInt8.ofNat 8, UInt8.ofNat 8, UInt8.ofNat 8, UInt8.ofNat 8, UInt8.ofNat 8, UInt8.ofNat 8, UInt8.ofNat 8, UInt8.ofNat 8, UInt8.ofNat 8, UInt8.ofNat 8, UInt8.ofNat 8, UInt8.ofNat 8, UInt8.ofNat 8, UInt8.ofNat 8, UInt8.ofNat 8, UInt8.ofNat 8, UInt8.ofNat 8, UInt8.ofNat 8, UInt8.ofNat 8, UInt8.ofNat 8, UInt8.ofNat 8, UInt8.ofNat 8, UInt8.ofNat 8, UInt8.ofNat 8, UInt8.ofNat 8, UInt8.ofNat 8, UInt8.ofNat 8, UInt8.ofNat 8, UInt8.ofNat 8, UInt8.ofNat 8, UInt8.ofNat 8, UInt8.ofNat 8, UInt8.ofNat 8, UInt8.ofNat 8, UInt8.ofNat 8, UInt8.ofNat 8, UInt8.ofNat 8, UInt8.ofNat 8, UInt8.ofNat 8, UInt8.ofNat 8, UInt8.ofNat 8, UInt8.ofNat 8, UInt8.ofNat 8, UInt8.ofNat 8, UInt8.ofNat 8, UInt8.ofNat 8, UInt8.ofNat 8, UInt8.ofNat 8, UInt8.ofNat 8, UInt8.ofNat 8])) (.t 21)), o 23 (.conv .i64 (.t 22)), o 24 (.bin .add (.t 19) (.t 23)), o 2 (.mv (.t 24))]) .ret))))) 25 1 [.t 2]
theorem l78 : compFunc Tryd.prog 78 = some L78 := by kernel_rfl
def L79 : XFunc := .mk (.seq (.reg [o 6 (.mv (.k (.int .u32 (.ofNat 0)))), o 7 (.mv (.k (.int .u32 (.ofNat 0))))]) (.seq (.reg [o 9 (.mv (.t 0)), o 10 (.conv .u64 (.t 9)), o 11 (.mv (.t 1)), o 12 (.conv .u64 (.t 11)), o 13 (.bin .add (.t 10) (.t 12)), o 14 (.mv (.t 2)), o 15 (.conv .u64 (.t 14)), o 16 (.bin .add (.t 13) (.t 15)), o 8 (.mv (.t 16))]) (.seq (.reg [o 17 (.mv (.t 8)), o 18 (.conv .u32 (.t 17)), o 6 (.mv (.t 18))]) (.seq (.reg [o 19 (.mv (.t 8)), o 20 (.bin .shr (.t 19) (.k (.int .u64 (.ofNat 32)))), o 21 (.conv .u32 (.t 20)), o 7 (.mv (.t 21))]) .ret)))) 22 3 [.t 6, .t 7]
theorem l79 : compFunc Tryd.prog 79 = some L79 := by kernel_rfl
def L80 : XFunc := .mk (.seq (.reg [o 6 (.mv (.k (.int .u32 (.ofNat 0)))), o 7 (.mv (.k (.int .u32 (.ofNat 0))))]) (.seq (.reg [o 8 (.mv (.t 0)), o 9 (.mv (.t 1)), o 10 (.bin .sub (.t 8) (.t 9)), o 11 (.mv (.t 2)), o 12 (.bin .sub (.t 10) (.t 11)), o 6 (.mv (.t 12))]) (.seq (.reg [o 13 (.mv (.t 0)), o 14 (.un .xor (.t 13)), o 15 (.mv (.t 1)), o 16 (.bin .and (.t 14) (.t 15)), o 17 (.mv (.t 0)), o 18 (.mv (.t 1)), o 19 (.bin .xor (.t 17) (.t 18)), o 20 (.un .xor (.t 19)), o 21 (.mv (.t 6)), o 22 (.bin .and (.t 20) (.t 21)), o 23 (.bin .or (.t 16) (.t 22)), o 24 (.bin .shr (.t 23) (.k (.int .u64 (.ofNat 31)))), o 7 (.mv (.t 24))]) .ret))) 25 3 [.t 6, .t 7]
theorem l80 : compFunc Tryd.prog 80 = some L80 := by kernel_rfl
def L81 : XFunc := .mk (.seq (.reg [o 4 (.mv (.k .nils))]) (.seq (.reg [o 12 (.mv (.t 0)), o 13 (.len (.t 12)), o 14 (.mv (.t 1)), o 15 (.len (.t 14)), o 16 (.bin .add (.t 13) (.t 15)), o 17 (.mkslice [.int .u32 (.ofNat 0)] 4 (.t 16) (.t 16)), o 5 (.mv (.t 17))]) (.seq (.seq (.reg [o 18 (.mv (.t 0)), o 19 (.len (.t 18)), o 20 (.mv (.k (.int .i64 (.ofNat 0))))]) (.block 0 (.loop (.seq (.reg [o 21 (.bin .lss (.t 20) (.t 19))]) (.seq (.cond (.t 21) .skip (.exit 0)) (.seq (.block 1 (.seq (.reg [o 22 (.mv (.t 20)), o 23 (.iaddr 1 (.t 18) (.t 20)), o 24 (.load none (.t 23)), o 6 (.mv (.t 22)), o 7 (.mv (.t 24))]) (.seq (.reg [o 8 (.mv (.k (.int .u64 (.ofNat 0))))]) (.seq (.seq (.reg [o 25 (.mv (.t 1)), o 26 (.len (.t 25)), o 27 (.mv (.k (.int .i64 (.ofNat 0))))]) (.block 2 (.loop (.seq (.reg [o 28 (.bin .lss (.t 27) (.t 26))]) (.seq (.cond (.t 28) .skip (.exit 2)) (.seq (.block 3 (.seq (.reg [o 29 (.mv (.t 27)), o 30 (.iaddr 1 (.t 25) (.t 27)), o 31 (.load none (.t 30)), o 9 (.mv (.t 29)), o 10 (.mv (.t 31))]) (.seq (.reg [o 32 (.mv (.t 7)), o 33 (.conv .u64 (.t 32)), o 34 (.mv (.t 10)), o 35 (.conv .u64 (.t 34)), o 36 (.bin .mul (.t 33) (.t 35)), o 37 (.mv (.t 5)), o 38 (.mv (.t 6)), o 39 (.mv (.t 9)), o 40 (.bin .add (.t 38) (.t 39)), o 41 (.iaddr 1 (.t 37) (.t 40)), o 42 (.load none (.t 41)), o 43 (.conv .u64 (.t 42)), o 44 (.bin .add (.t 36) (.t 43)), o 45 (.mv (.t 8)), o 46 (.bin .add (.t 44) (.t 45)), o 11 (.mv (.t 46))]) (.reg [o 47 (.mv (.t 5)), o 48 (.mv (.t 6)), o 49 (.mv (.t 9)), o 50 (.bin .add (.t 48) (.t 49)), o 51 (.mv (.t 11)), o 52 (.conv .u32 (.t 51)), o 53 (.mv (.t 11)), o 54 (.bin .shr (.t 53) (.k (.int .u64 (.ofNat 32)))), o 55 (.iaddr 1 (.t 47) (.t 50)), .mk none (.store 1 (.t 55) (.t 52)) none, o 8 (.mv (.t 54))])))) (.reg [o 56 (.bin .add (.t 27) (.k (.int .i64 (.ofNat 1)))), o 27 (.mv (.t 56))]))))))) (.reg [o 57 (.mv (.t 5)), o 58 (.mv (.t 6)), o 59 (.mv (.t 1)), o 60 (.len (.t 59)), o 61 (.bin .add (.t 58) (.t 60)), o 62 (.mv (.t 8)), o 63 (.conv .u32 (.t 62)), o 64 (.iaddr 1 (.t 57) (.t 61)), .mk none (.store 1 (.t 64) (.t 63)) none]))))) (.reg [o 65 (.bin .add (.t 20) (.k (.int .i64 (.ofNat 1)))), o 20 (.mv (.t 65))]))))))) (.seq (.reg [o 66 (.mv (.t 5)), o 67 (.call (.k (.fn 53 [])) [.t 66]), o 4 (.mv (.t 67))]) .ret)))) 68 2 [.t 4]
theorem l81 : compFunc Tryd.prog 81 = some L81 := by kernel_rfl
def L82 : XFunc := .mk (.seq (.reg [o 4 (.mv (.k (.bool false)))]) (.seq (.reg [o 5 (.mv (.t 0)), o 6 (.mv (.t 1)), o 7 (.nilc (.t 5)), o 8 (.aaddr 256 1 (.t 7) (.t 6)), o 9 (.load none (.t 8)), o 4 (.mv (.t 9))]) .ret)) 10 2 [.t 4]
theorem l82 : compFunc Tryd.prog 82 = some L82 := by kernel_rfl
def F : Nat → Option XFunc
  | 6 => some L6
  | 7 => some L7
  | 9 => some L9
  | 15 => some L15
  | 16 => some L16
  | 17 => some L17
  | 19 => some L19
  | 20 => some L20
  | 21 => some L21
  | 22 => some L22
  | 23 => some L23
  | 24 => some L24
  | 25 => some L25
  | 28 => some L28
  | 29 => some L29
  | 30 => some L30
  | 31 => some L31
  | 32 => some L32
  | 33 => some L33
  | 34 => some L34
  | 35 => some L35
  | 36 => some L36
  | 37 => some L37
  | 38 => some L38
  | 39 => some L39
  | 40 => some L40
  | 41 => some L41
  | 42 => some L42
  | 43 => some L43
  | 44 => some L44
  | 45 => some L45
  | 46 => some L46
  | 47 => some L47
  | 48 => some L48
  | 49 => some L49
  | 50 => some L50
  | 51 => some L51
  | 52 => some L52
  | 53 => some L53
  | 54 => some L54
  | 55 => some L55
  | 56 => some L56
  | 57 => some L57
  | 58 => some L58
  | 59 => some L59
  | 60 => some L60
  | 61 => some L61
  | 62 => some L62
  | 63 => some L63
  | 66 => some L66
  | 67 => some L67
  | 68 => some L68
  | 69 => some L69
  | 77 => some L77
  | 78 => some L78
  | 79 => some L79
  | 80 => some L80
  | 81 => some L81
  | 82 => some L82
  | _ => none
theorem F_ok : ∀ f fn, F f = some fn → compFunc Tryd.prog f = some fn := by
  intro f fn h
  unfold F at h
  split at h
  · cases h; exact l6
  · cases h; exact l7
  · cases h; exact l9
  · cases h; exact l15
  · cases h; exact l16
  · cases h; exact l17
  · cases h; exact l19
  · cases h; exact l20
  · cases h; exact l21
  · cases h; exact l22
  · cases h; exact l23
  · cases h; exact l24
  · cases h; exact l25
  · cases h; exact l28
  · cases h; exact l29
  · cases h; exact l30
  · cases h; exact l31
  · cases h; exact l32
  · cases h; exact l33
  · cases h; exact l34
  · cases h; exact l35
  · cases h; exact l36
  · cases h; exact l37
  · cases h; exact l38
  · cases h; exact l39
  · cases h; exact l40
  · cases h; exact l41
  · cases h; exact l42
  · cases h; exact l43
  · cases h; exact l44
  · cases h; exact l45
  · cases h; exact l46
  · cases h; exact l47
  · cases h; exact l48
  · cases h; exact l49
  · cases h; exact l50
  · cases h; exact l51
  · cases h; exact l52
  · cases h; exact l53
  · cases h; exact l54
  · cases h; exact l55
  · cases h; exact l56
  · cases h; exact l57
  · cases h; exact l58
  · cases h; exact l59
  · cases h; exact l60
  · cases h; exact l61
  · cases h; exact l62
  · cases h; exact l63
  · cases h; exact l66
  · cases h; exact l67
  · cases h; exact l68
  · cases h; exact l69
  · cases h; exact l77
  · cases h; exact l78
  · cases h; exact l79
  · cases h; exact l80
  · cases h; exact l81
  · cases h; exact l82
  · cases h
end Go.Proofs.YtfcgofffalmdfaaDoor.PA
namespace Go.Eng
open Go.Sort
variable {P : Program}
def decPairs : List AV → Option (List (Int × Int))
  | [] => some []
  | .int .i64 a :: .int .i64 b :: r => (decPairs r).map ((a, b) :: ·)
  | _ => none
def encPairs (l : List (Int × Int)) : List AV := (l.map fun p => [AV.int .i64 p.1, AV.int .i64 p.2]).flatten
theorem decPairs_enc : ∀ l, decPairs (encPairs l) = some l
  | [] => rfl
  | p :: l => by
    have := decPairs_enc l
    simp only [encPairs, List.map_cons, List.flatten_cons, List.cons_append, List.nil_append, decPairs] at this ⊢
    rw [this]; rfl
theorem encPairs_dec : ∀ {c : List AV} {l : List (Int × Int)}, decPairs c = some l → c = encPairs l
  | [], l, h => by simp [decPairs] at h; subst h; rfl
  | [_], l, h => by rename_i x; cases x <;> simp [decPairs] at h
  | x :: y :: r, l, h => by
    cases x <;> try (simp [decPairs] at h; done)
    rename_i k a
    cases k <;> try (simp [decPairs] at h; done)
    cases y <;> try (simp [decPairs] at h; done)
    rename_i k b
    cases k <;> try (simp [decPairs] at h; done)
    simp only [decPairs] at h
    obtain ⟨m, hm, rfl⟩ := Option.map_eq_some_iff.1 h
    rw [encPairs_dec hm]
    simp [encPairs]
theorem encPairs_length (l : List (Int × Int)) : (encPairs l).length = l.length * 2 := by
  induction l with
  | nil => rfl
  | cons p l ih => simp only [encPairs, List.map_cons, List.flatten_cons, List.length_append, List.length_cons, List.length_nil] at ih ⊢; omega
def sortP (l : List (Int × Int)) : List (Int × Int) := l.mergeSort fun x y => decide (x.1 ≤ y.1)
def okP (p : Int × Int) : Bool := decide (0 ≤ p.1) && decide (p.1 < 4611686018427387904)
def apartP : List (Int × Int) → Bool
  | [] => true
  | p :: l => l.all (fun q => q.1 != p.1) && apartP l
def sortK (S C : Nat) : CF := fun f args H =>
  if f = S then
    match args with
    | [.sl i o l c, .fn g []] =>
      if g = C ∧ 1 ≤ l ∧ l < 4611686018427387904 then
        match H.get i with
        | some (.cells cs opn) =>
          match decPairs ((cs.drop o).take (l * 2)) with
          | some ps => if ps.length = l ∧ ps.all okP = true ∧ apartP ps = true then some (.tup [], H.set i (some (.cells (overA cs o (encPairs (sortP ps))) opn))) else none
          | none => none
        | _ => none
      else none
    | _ => none
  else none
abbrev BP := {p : Int × Int // okP p = true}
instance : Inhabited BP := ⟨⟨(0, 0), rfl⟩⟩
def encBP (x : BP) : List Value := [.int .i64 x.1.1, .int .i64 x.1.2]
def ltBP (x y : BP) : Bool := decide (x.1.1 < y.1.1)
def cmpBP (x y : BP) : Int := x.1.1 - y.1.1
def SortC (P : Program) (S C : Nat) : Prop := ∀ (blk off cap : Nat) (d : Array BP) (w : World), HoldsK encBP 2 w blk off d → blk < w.heap.size → d.size < 4611686018427387904 →
  Calls P S #[.slice (some ⟨blk, off, none⟩) d.size cap, .func (.func C) #[] #[]] w fun e w' => e = .returned (.tuple #[]) ∧ ∃ d' n os, PermIn 0 d.size d d' ∧ SortedIn ltBP 0 d.size d' ∧ w' = Go.Proofs.sortWorldK encBP 2 w blk off n d' os
theorem Step.grow {E : Env} {H : AHeap} {w : World} (hR : Rel E H w) (os : Array Obj) : Step E H w E H (Go.Sort.grow w os) := by
  have hg : ∀ b, b < w.heap.size → (Go.Sort.grow w os).heap[b]? = w.heap[b]? := fun b hb => by
    show (w.heap ++ os)[b]? = _
    rw [Array.getElem?_append_left hb]
  have hs : w.heap.size ≤ (Go.Sort.grow w os).heap.size := by
    show _ ≤ (w.heap ++ os).size
    simp
  have hext : Env.Ext E E w (Go.Sort.grow w os) := ⟨fun _ _ q => q, fun _ q => q, fun b hb => hg b (hR.imm b hb), fun _ _ _ q => q⟩
  refine ⟨hext, ⟨fun i L h => ?_, fun b h => ?_, fun i o h => ?_, hR.inj⟩, ⟨rfl, rfl, rfl, hs, fun b hb _ => hg b hb⟩, fun i o L h1 h2 => .inr ⟨i, o, L, h1, h2, rfl⟩, Nat.le_refl _, fun _ _ h => .inl h, fun _ h => .inl h⟩
  · have := hR.dom i L h; exact ⟨this.1, by omega⟩
  · have := hR.imm b h; omega
  · obtain ⟨L, q1, q2, q3⟩ := hR.obj i o h
    exact ⟨L, q1, ObjR.mono hext (hg _ (hR.dom i L q1).2) q2, q3⟩
theorem apartP_inj : ∀ {l : List (Int × Int)}, apartP l = true → ∀ x ∈ l, ∀ y ∈ l, x.1 = y.1 → x = y
  | [], _, x, hx, _, _, _ => by cases hx
  | p :: l, h, x, hx, y, hy, e => by
    simp only [apartP, Bool.and_eq_true, List.all_eq_true, bne_iff_ne] at h
    rcases List.mem_cons.1 hx with q1 | q1
    · rcases List.mem_cons.1 hy with q2 | q2
      · rw [q1, q2]
      · rw [q1] at e; exact absurd e.symm (h.1 y q2)
    · rcases List.mem_cons.1 hy with q2 | q2
      · rw [q2] at e; exact absurd e (h.1 x q1)
      · exact apartP_inj h.2 x q1 y q2 e
theorem sortP_perm (l : List (Int × Int)) : (sortP l).Perm l := List.mergeSort_perm _ _
theorem sortP_pw (l : List (Int × Int)) : (sortP l).Pairwise fun x y => x.1 ≤ y.1 := by
  refine (List.pairwise_mergeSort (le := fun x y : Int × Int => decide (x.1 ≤ y.1)) (fun a b c h1 h2 => ?_) (fun a b => ?_) l).imp (fun h => by simpa using h)
  · simp only [decide_eq_true_eq] at h1 h2 ⊢; omega
  · simp only [Bool.or_eq_true, decide_eq_true_eq]; omega
theorem sortP_unique {l m : List (Int × Int)} (ha : apartP l = true) (hp : m.Perm l) (hs : m.Pairwise fun x y => x.1 ≤ y.1) : m = sortP l :=
  List.Perm.eq_of_pairwise (le := fun x y : Int × Int => x.1 ≤ y.1) (fun a b h1 h2 h3 h4 => apartP_inj ha a (hp.subset h1) b ((sortP_perm l).subset h2) (by omega)) hs (sortP_pw l) (hp.trans (sortP_perm l).symm)
def vals (l : List (Int × Int)) : List Value := (l.map fun p => [Value.int .i64 p.1, Value.int .i64 p.2]).flatten
theorem vals_length (l : List (Int × Int)) : (vals l).length = l.length * 2 := by
  induction l with
  | nil => rfl
  | cons p l ih => simp only [vals, List.map_cons, List.flatten_cons, List.length_append, List.length_cons, List.length_nil] at ih ⊢; omega
theorem vals_get : ∀ (l : List (Int × Int)) (j : Nat), (vals l)[j]? = (l[j / 2]?).map fun p => if j % 2 = 0 then Value.int .i64 p.1 else Value.int .i64 p.2
  | [], j => by simp [vals]
  | p :: l, 0 => by simp [vals]
  | p :: l, 1 => by simp [vals]
  | p :: l, j + 2 => by
    have := vals_get l j
    simp only [vals, List.map_cons, List.flatten_cons, List.cons_append, List.nil_append, List.getElem?_cons_succ] at this ⊢
    rw [this, show (j + 2) / 2 = j / 2 + 1 by omega, show (j + 2) % 2 = j % 2 by omega, List.getElem?_cons_succ]
theorem encPairs_rel {E : Env} {w : World} : ∀ (l : List (Int × Int)), AVRelL E w (encPairs l) (vals l)
  | [] => by simp [encPairs, vals, AVRelL]
  | p :: l => by
    have := encPairs_rel (E := E) (w := w) l
    simp only [encPairs, vals, List.map_cons, List.flatten_cons, List.cons_append, List.nil_append, AVRelL, AVRel] at this ⊢
    exact ⟨_, _, rfl, rfl, _, _, rfl, rfl, this⟩
theorem rel_vals {E : Env} {w : World} : ∀ {l : List (Int × Int)} {us : List Value}, AVRelL E w (encPairs l) us → us = vals l
  | [], us, h => by simpa [encPairs, vals, AVRelL] using h
  | p :: l, us, h => by
    simp only [encPairs, vals, List.map_cons, List.flatten_cons, List.cons_append, List.nil_append, AVRelL, AVRel] at h ⊢
    obtain ⟨u, us1, rfl, rfl, v, us2, rfl, rfl, h⟩ := h
    rw [rel_vals (l := l) h]
    rfl
theorem flat_vals (d : Array BP) : (flatK encBP 2 d).toList = vals (d.toList.map (·.1)) := by
  apply List.ext_getElem?
  intro j
  rw [vals_get]
  by_cases hj : j < d.size * 2
  · have hd : j / 2 < d.size := by omega
    have e1 : (flatK encBP 2 d).toList[j]? = some (flatK encBP 2 d)[j]! := by
      rw [Array.getElem?_toList, getElem!_pos _ j (by simpa using hj), Array.getElem?_eq_getElem (by simpa using hj)]
    rw [e1, get_flatK _ _ _ _ hj]
    simp only [List.getElem?_map, Array.getElem?_toList, Array.getElem?_eq_getElem hd, Option.map_some]
    rw [getElem!_pos d _ hd]
    congr 1
    rcases Nat.mod_two_eq_zero_or_one j with h | h <;> rw [h] <;> simp [encBP]
  · rw [List.getElem?_eq_none (by simp; omega), List.getElem?_eq_none (by simp; omega)]
    rfl
theorem attach_ok : ∀ (l : List (Int × Int)), l.all okP = true → ∃ d : List BP, d.map (·.1) = l
  | [], _ => ⟨[], rfl⟩
  | p :: l, h => by
    simp only [List.all_cons, Bool.and_eq_true] at h
    obtain ⟨d, rfl⟩ := attach_ok l h.2
    exact ⟨⟨p, h.1⟩ :: d, rfl⟩
theorem sortK_ok {S C : Nat} (hS : ∃ fn, P.funcs[S]? = some fn ∧ fn.body.isNone = false ∧ (fn.name == "runtime.NumGoroutine") = false) (hC : SortC P S C) : CFok P (sortK S C) := by
  intro f args H v H' h
  unfold sortK at h
  split at h
  · rename_i hf
    subst hf
    split at h
    · rename_i i o l c g
      split at h
      · rename_i hg
        obtain ⟨rfl, hl1, hl2⟩ := hg
        split at h
        · rename_i cs opn hget
          split at h
          · rename_i ps hps
            split at h
            · rename_i hall
              obtain ⟨hlen, hok, hap⟩ := hall
              cases h
              refine ⟨hS, fun E w us hR hus => ?_⟩
              simp only [AVRelL] at hus
              obtain ⟨u1, us1, rfl, hu1, u2, us2, rfl, hu2, rfl⟩ := hus
              simp only [AVRel] at hu2
              obtain ⟨cap, rfl, hcap⟩ := hu2
              simp only [AVRelL] at hcap
              have hcape : cap = #[] := by simpa using hcap
              subst hcape
              obtain ⟨L, ad, c', Ca, t, fz, us, hρ, rfl, hsl, hlc, hblk, hr, hcell, hsp, hfz, hft⟩ := row_sound hR hu1 hget
              obtain rfl := hsl.addr hlc (by omega)
              have hcs := encPairs_dec hps
              obtain ⟨dl, hdl⟩ := attach_ok ps hok
              have hdsz : dl.toArray.size = l := by
                have : dl.length = ps.length := by rw [← hdl]; simp
                simp [this, hlen]
              have hul := hr.length
              have hol : o + l * 2 ≤ cs.length := by
                have := encPairs_length ps
                rw [← hcs] at this
                simp only [List.length_take, List.length_drop] at this
                omega
              have hrow : (us.drop o).take (l * 2) = vals ps := by
                have := (hr.drop o).take (l * 2)
                rw [hcs] at this
                exact rel_vals this
              have hspan := span_ge L cs.length opn
              have hlt := (hR.dom i L hρ).2
              have hH : HoldsK encBP 2 w L.b (L.s + o) dl.toArray := by
                intro j hj
                rw [size_flatK, hdsz] at hj
                have e1 : (flatK encBP 2 dl.toArray)[j]? = (us.drop o)[j]? := by
                  rw [← Array.getElem?_toList, flat_vals, List.toList_toArray, hdl, ← hrow, List.getElem?_take, if_pos hj]
                have hj' : j < (flatK encBP 2 dl.toArray).size := by rw [size_flatK, hdsz]; exact hj
                rw [Array.getElem?_eq_getElem hj', List.getElem?_drop] at e1
                have e2 := hcell _ _ e1.symm
                refine ⟨?_, ?_⟩
                · simp only [World.cell?, hblk, Option.isSome_none, Bool.false_eq_true, if_false, id]
                  rw [show L.s + o + j = L.s + (o + j) by omega, e2, getElem!_pos _ j hj']
                · have := hfz (o + j) (by omega)
                  simp only [World.frozen?, hblk]
                  rw [show L.s + o + j = L.s + (o + j) by omega]
                  simp only [Bool.and_eq_false_iff, decide_eq_false_iff_not]
                  by_cases h1 : fz.1 ≤ L.s + (o + j)
                  · exact .inr (fun h2 => this ⟨h1, h2⟩)
                  · exact .inl h1
              have hcall := hC L.b (L.s + o) c' dl.toArray w hH hlt (by rw [hdsz]; exact hl2)
              rw [hdsz] at hcall
              refine Calls.mono hcall ?_
              rintro e w' ⟨rfl, d', n, os, hp, hso, rfl⟩
              have hd'sz : d'.size = l := hp.1.trans hdsz
              have hperm : (d'.toList.map (·.1)).Perm ps := by
                have := hp.2.2
                rw [← hdl]
                have e1 : d'.extract 0 l = d' := by rw [← hd'sz]; exact Array.extract_size
                have e2 : dl.toArray.extract 0 l = dl.toArray := by rw [← hdsz]; exact Array.extract_size
                rw [e1, e2] at this
                exact this.map _
              have hpw : (d'.toList.map (·.1)).Pairwise fun x y => x.1 ≤ y.1 := by
                rw [List.pairwise_iff_getElem]
                intro a b ha hb hab
                simp only [List.length_map, Array.length_toList] at ha hb
                have := hso a b (Nat.zero_le _) hab (by omega)
                rw [getElem!_pos d' b hb, getElem!_pos d' a ha] at this
                simp only [ltBP, decide_eq_false_iff_not] at this
                simp only [List.getElem_map, Array.getElem_toList]
                omega
              have hsort := sortP_unique hap hperm hpw
              have hmany : setMany (flatK encBP 2 dl.toArray) 0 (vals (sortP ps)) = flatK encBP 2 d' := by
                rw [← hsort, ← flat_vals]
                refine ext_get! (by rw [size_setMany, size_flatK, size_flatK, hdsz, hd'sz]) (fun t ht => ?_)
                rw [size_setMany] at ht
                rw [get_setMany _ _ _ t ht, if_pos ⟨Nat.zero_le _, by rw [Array.length_toList, size_flatK, hd'sz]; rw [size_flatK, hdsz] at ht; omega⟩, Nat.sub_zero]
                have ht2 : t < (flatK encBP 2 d').size := by rw [size_flatK, hd'sz]; rw [size_flatK, hdsz] at ht; exact ht
                rw [List.getElem!_eq_getElem?_getD, Array.getElem?_toList, Array.getElem?_eq_getElem ht2, getElem!_pos _ t ht2]
                rfl
              have hset : (Sort.ahead w n).setCells L.b (L.s + o) (vals (sortP ps)) = putRowK encBP 2 (Sort.ahead w n) L.b (L.s + o) d' := by
                unfold putRowK
                have hH2 : Holds id (Sort.ahead w n) L.b (L.s + o) (flatK encBP 2 dl.toArray) := hH
                conv => lhs; rw [← putRow_self id (Sort.ahead w n) L.b (L.s + o) (flatK encBP 2 dl.toArray) hH2]
                have := setCells_putRow (Sort.ahead w n) L.b (L.s + o) (vals (sortP ps)) 0 (flatK encBP 2 dl.toArray) (by rw [vals_length, (sortP_perm ps).length_eq, hlen, size_flatK, hdsz]; omega)
                rw [Nat.add_zero, hmany] at this
                exact this
              have s1 : Step E H w E H (Sort.ahead w n) := Step.of_heap hR rfl rfl rfl rfl
              have hencl : (encPairs (sortP ps)).length = l * 2 := by rw [encPairs_length, (sortP_perm ps).length_eq, hlen]
              have s2 := Step.write (w := Sort.ahead w n) s1.rel (o := o) (new := encPairs (sortP ps)) (vs := vals (sortP ps)) hget hρ hblk (AVRelL.mono s1.ext _ _ hr) hcell hsp hfz hft (encPairs_rel _) (by rw [hencl]; omega) (by omega) rfl
              rw [hset] at s2
              have s3 := Step.grow s2.rel os
              refine ⟨_, E, rfl, (s1.trans s2).trans s3, ?_⟩
              simp only [AVRel, AVRelL]
              exact ⟨_, rfl, rfl⟩
            · cases h
          · cases h
        · cases h
      · cases h
    · cases h
  · cases h
end Go.Eng
namespace Go.Proofs.YtfcgofffalmdfaaDoor.PA
def castP (p : Nat × Nat) : Int × Int := (p.1, p.2)
end Go.Proofs.YtfcgofffalmdfaaDoor.PA
namespace Go.Proofs.YtfcgofffalmdfaaDoor.PA
open Go Go.Eng
def natA (n : Nat) : AV := .int .i64 (n : Int)
def pairA (l : List (Nat × Nat)) : List AV := encPairs (l.map castP)
structure LI (H0 : AHeap) (b r : List UInt8) (i : Nat) (op : List Nat) (out : List (Nat × Nat)) (d : Nat) (s : St) : Prop where
  rest : b.drop i = r
  le : i + r.length = b.length
  opl : op.length ≤ i
  outl : out.length ≤ i
  t0 : s.tm.get 0 = some (.str b)
  t10 : s.tm.get 10 = some (natA b.length)
  t11 : s.tm.get 11 = some (natA i)
  t7 : s.tm.get 7 = some (natA d)
  rows : ∃ v5 v6, s.tm.get 5 = some v5 ∧ s.tm.get 6 = some v6 ∧ Row 2 s.H v5 out.length (pairA out) ∧ Row 1 s.H v6 op.length (op.map natA) ∧
    (∀ j, v5.own = some j → v6.own ≠ some j ∧ H0.next ≤ j) ∧ (∀ j, v6.own = some j → H0.next ≤ j)
  nx : H0.next ≤ s.H.next
  fr : ∀ j, j < H0.next → s.H.get j = H0.get j
end Go.Proofs.YtfcgofffalmdfaaDoor.PA
/-
  DERIVED: THE SHELF's CONTRACTS AT THIS DUMP, IN PLAIN WORDS (tools/lay-plain.mjs out of 'YtfcgofffalmdfaaDoorShelf.lean', which tools/lay-shelf.mjs wrote): THE SAME DECLARATIONS UNDER THE SAME NAMES: 'import', 'namespace', 'open', 'def', 'theorem' AND NOTHING ELSE: no command of the shelf's: FOR A HAND-IN. Each laying: the table of numbers ('.._ren') and one theorem, a field a fact of the dump's own or the kernel's comparison; each contract: ONE APPLICATION.
-/
namespace Go.Proofs
open Go.Shelf
def Tryd.sortPair_ren : Go.Shelf.Ren := ⟨fun | 6 => 33 | 15 => 51 | 14 => 50 | 28 => 77 | 29 => 78 | 20 => 69 | 21 => 70 | 22 => 71 | 23 => 72 | 24 => 73 | 25 => 74 | 26 => 75 | 27 => 76 | 46 => 86 | 47 => 87 | 48 => 88 | 49 => 89 | 50 => 90 | 57 => 94 | n => n, fun | 22 => 22 | 24 => 31 | 25 => 85 | 3 => 3 | 39 => 114 | 0 => 0 | 53 => 118 | 55 => 115 | 4 => 4 | 46 => 136 | 45 => 135 | 50 => 140 | 5 => 5 | 9 => 9 | 66 => 150 | 70 => 154 | 76 => 157 | 77 => 158 | n => n, fun | n => n⟩
theorem Tryd.sortPair : Go.Proofs.SlLaysF0.n6 Tryd.prog Tryd.sortPair_ren := {
  mixed := by kernel_rfl
  f6 := ⟨Tryd.f33.name, by decide, Tryd.func33.trans (congrArg some (by kernel_rfl))⟩
  f14 := ⟨Tryd.f50.name, by decide, Tryd.func50.trans (congrArg some (by kernel_rfl))⟩
  f15 := Tryd.func51.trans (congrArg some (by kernel_rfl))
  f20 := ⟨Tryd.f69.name, by decide, Tryd.func69.trans (congrArg some (by kernel_rfl))⟩
  f21 := ⟨Tryd.f70.name, by decide, Tryd.func70.trans (congrArg some (by kernel_rfl))⟩
  f22 := ⟨Tryd.f71.name, by decide, Tryd.func71.trans (congrArg some (by kernel_rfl))⟩
  f23 := ⟨Tryd.f72.name, by decide, Tryd.func72.trans (congrArg some (by kernel_rfl))⟩
  f24 := ⟨Tryd.f73.name, by decide, Tryd.func73.trans (congrArg some (by kernel_rfl))⟩
  f25 := ⟨Tryd.f74.name, by decide, Tryd.func74.trans (congrArg some (by kernel_rfl))⟩
  f26 := ⟨Tryd.f75.name, by decide, Tryd.func75.trans (congrArg some (by kernel_rfl))⟩
  f27 := ⟨Tryd.f76.name, by decide, Tryd.func76.trans (congrArg some (by kernel_rfl))⟩
  f28 := Tryd.func77.trans (congrArg some (by kernel_rfl))
  f29 := Tryd.func78.trans (congrArg some (by kernel_rfl))
  f46 := ⟨Tryd.f86.name, by decide, Tryd.func86.trans (congrArg some (by kernel_rfl))⟩
  f47 := Tryd.func87.trans (congrArg some (by kernel_rfl))
  f48 := Tryd.func88.trans (congrArg some (by kernel_rfl))
  f49 := ⟨Tryd.f89.name, by decide, Tryd.func89.trans (congrArg some (by kernel_rfl))⟩
  f50 := ⟨Tryd.f90.name, by decide, Tryd.func90.trans (congrArg some (by kernel_rfl))⟩
  f57 := ⟨Tryd.f94.name, by decide, Tryd.func94.trans (congrArg some (by kernel_rfl))⟩
  t0 := Tryd.underlying0
  a0 := Tryd.isAgg0
  z0 := Tryd.sizeOf0
  v0 := Tryd.zeroValue0
  t3 := Tryd.underlying3
  a3 := Tryd.isAgg3
  z3 := Tryd.sizeOf3
  v3 := Tryd.zeroValue3
  t4 := Tryd.underlying4
  a4 := Tryd.isAgg4
  z4 := Tryd.sizeOf4
  v4 := Tryd.zeroValue4
  t5 := Tryd.underlying5
  a5 := Tryd.isAgg5
  z5 := Tryd.sizeOf5
  v5 := Tryd.zeroValue5
  t9 := Tryd.underlying9
  a9 := Tryd.isAgg9
  z9 := Tryd.sizeOf9
  v9 := Tryd.zeroValue9
  t22 := Tryd.underlying22
  a22 := Tryd.isAgg22
  z22 := Tryd.sizeOf22
  v22 := Tryd.zeroValue22
  t25 := Tryd.underlying85
  a25 := Tryd.isAgg85
  z25 := Tryd.sizeOf85
  v25 := Tryd.zeroValue85
  t39 := Tryd.underlying114
  a39 := Tryd.isAgg114
  z39 := Tryd.sizeOf114
  v39 := Tryd.zeroValue114
  t45 := Tryd.underlying135
  a45 := Tryd.isAgg135
  z45 := Tryd.sizeOf135
  v45 := Tryd.zeroValue135
  t46 := Tryd.underlying136
  a46 := Tryd.isAgg136
  z46 := Tryd.sizeOf136
  v46 := Tryd.zeroValue136
  t50 := Tryd.underlying140
  a50 := Tryd.isAgg140
  z50 := Tryd.sizeOf140
  v50 := Tryd.zeroValue140
  t53 := Tryd.underlying118
  a53 := Tryd.isAgg118
  z53 := Tryd.sizeOf118
  v53 := Tryd.zeroValue118
  t55 := Tryd.underlying115
  a55 := Tryd.isAgg115
  z55 := Tryd.sizeOf115
  v55 := Tryd.zeroValue115
  t66 := Tryd.underlying150
  a66 := Tryd.isAgg150
  z66 := Tryd.sizeOf150
  v66 := Tryd.zeroValue150
  t70 := Tryd.underlying154
  a70 := Tryd.isAgg154
  z70 := Tryd.sizeOf154
  v70 := Tryd.zeroValue154
  t76 := Tryd.underlying157
  a76 := Tryd.isAgg157
  z76 := Tryd.sizeOf157
  v76 := Tryd.zeroValue157
  t77 := Tryd.underlying158
  a77 := Tryd.isAgg158
  z77 := Tryd.sizeOf158
  v77 := Tryd.zeroValue158 }
end Go.Proofs
namespace Go.Proofs
open Go.Shelf Go.RowKit Go.Lib Go.Sort Go.Eng
set_option maxHeartbeats 1000000 in
theorem Tryd.closure34 (x0 x1 y0 y1 : Int) (W : World) (hs : IntKind.i64.wrap (x0 - y0) = x0 - y0) : Calls Tryd.prog 34 #[.agg #[.int .i64 x0, .int .i64 x1], .agg #[.int .i64 y0, .int .i64 y1]] W fun e w' => e = .returned (.int .i64 (x0 - y0)) ∧ ∃ q os', w' = Go.Sort.grow (W.drewN q) os' := by
  go_enter Tryd.func34, Tryd.ntmps34
  go_wp2
  go_ret
  refine ⟨?_, 0, _, by rw [alloc_eq_grow, alloc_eq_grow, grow_grow]; rfl⟩
  first | rfl | simp [hs]
theorem Tryd.sortC : SortC Tryd.prog 33 34 := by
  intro blk off cap d w hH hblk hsz
  have eg : ∀ args w, (callFunc 34 args).run Tryd.prog w = .ok (.enter 34 args) w := enters_of Tryd.func34 (by kernel_rfl) rfl
  have hlt : ∀ x y : BP, ltOf cmpBP x y = ltBP x y := by
    intro x y
    unfold ltOf cmpBP ltBP
    by_cases h : x.1.1 < y.1.1
    · rw [decide_eq_true h, decide_eq_true (by omega)]
    · rw [decide_eq_false h, decide_eq_false (by omega)]
  have hO : SWO (ltOf cmpBP) := ⟨fun x => by rw [hlt]; simp [ltBP], fun x y z h1 h2 => by rw [hlt] at *; simp [ltBP] at *; omega, fun x y z h1 h2 => by rw [hlt] at *; simp [ltBP] at *; omega⟩
  have hc : CmpLays Tryd.prog 34 #[] encBP 2 cmpBP blk off d.size w := by
    intro m os dk _ x y
    have hx := x.2
    have hy := y.2
    simp only [okP, Bool.and_eq_true, decide_eq_true_eq] at hx hy
    exact Tryd.closure34 _ _ _ _ _ (by simp only [IntKind.wrap, IntKind.bits, IntKind.signed]; simp; omega)
  have h := AnyQ.slices_SortFunc Tryd.sortPair 2 Tryd.isAgg31 Tryd.sizeOf31 encBP (fun _ => rfl) (fun x v hv => by simp [encBP] at hv; rcases hv with rfl | rfl <;> rfl) cmpBP hO 34 #[] blk off cap d w eg hc hH hblk hsz
  refine h.mono ?_
  rintro e w' ⟨rfl, d', n, os, hp, hs, rfl⟩
  refine ⟨rfl, d', n, os, hp, ?_, rfl⟩
  intro i j h1 h2 h3
  rw [← hlt]
  exact hs i j h1 h2 h3
theorem Tryd.sortK_ok : CFok Tryd.prog (sortK 33 34) := Go.Eng.sortK_ok ⟨_, Tryd.func33, by kernel_rfl, by kernel_rfl⟩ Tryd.sortC
end Go.Proofs
namespace Go.Proofs.YtfcgofffalmdfaaDoor.PA
open Go Go.Eng
abbrev K0 : CF := sortK 33 34
end Go.Proofs.YtfcgofffalmdfaaDoor.PA
namespace Go.Proofs.YtfcgofffalmdfaaDoor.PA
open Go Go.Eng
def ropeA (s : List UInt8) (rl : List Bool) (gap : Int) (k f : AV) : List AV := .str s :: (rl.map AV.bool ++ [.int .i64 gap, k, f])
theorem ropeA_gap {s : List UInt8} {rl : List Bool} {gap : Int} {k f : AV} (h : rl.length = 16) : ((ropeA s rl gap k f).drop 17)[0]? = some (.int .i64 gap) := by
  rw [List.getElem?_drop]
  show (rl.map AV.bool ++ [.int .i64 gap, k, f])[16]? = _
  rw [List.getElem?_append_right (by simp [h])]
  simp [h]
theorem ropeA_str {s : List UInt8} {rl : List Bool} {gap : Int} {k f : AV} : ((ropeA s rl gap k f).drop 0)[0]? = some (.str s) := rfl
theorem ropeA_rule {s : List UInt8} {rl : List Bool} {gap : Int} {k f : AV} {j : Nat} {v : Bool} (h : rl[j]? = some v) : ((ropeA s rl gap k f).drop (1 + j))[0]? = some (.bool v) := by
  rw [List.getElem?_drop, show 1 + j + 0 = j + 1 by omega]
  show (rl.map AV.bool ++ [.int .i64 gap, k, f])[j]? = _
  have hj : j < rl.length := by
    rcases Nat.lt_or_ge j rl.length with q | q
    · exact q
    · rw [List.getElem?_eq_none q] at h; cases h
  rw [List.getElem?_append_left (by simpa using hj), List.getElem?_map, h]
  rfl
def inS' (b : UInt8) : Bool := decide (97 ≤ b.toNat) && decide (b.toNat ≤ 100)
def ruleOf (rl : List Bool) (a b : UInt8) : Bool := rl.getD ((a.toNat - 97) * 4 + (b.toNat - 97)) false
def mayF (s : List UInt8) (rl : List Bool) (gap : Int) (i j : Nat) : Bool := decide ((j : Int) - (i : Int) > gap) && ruleOf rl (s.getD i 97) (s.getD j 97)
set_option maxHeartbeats 4000000 in
theorem may_ok {cf : CF} {fuel : Nat} {H : AHeap} {R : Nat} {s : List UInt8} {rl : List Bool} {gap : Int} {k f : AV} (hR : H.get R = some (.cells (ropeA s rl gap k f) none)) (hrl : rl.length = 16) (hs : s.all inS' = true) (hsl : s.length ≤ 1000) {i j : Nat} (hi : i < s.length) (hj : j < s.length) :
    ∃ v H', xfunc cf fuel L43 [.ptr R 0, natA i, natA j] H = some (v, H') ∧ v = .bool (mayF s rl gap i j) ∧ Same H H' := by
  refine xfunc_of rfl (by show 3 ≤ 37; omega) ?_
  have a0 : (argsT [.ptr R 0, natA i, natA j] 0 .e).get 0 = some (.ptr R 0) := rfl
  have a1 : (argsT [.ptr R 0, natA i, natA j] 0 .e).get 1 = some (natA i) := rfl
  have a2 : (argsT [.ptr R 0, natA i, natA j] 0 .e).get 2 = some (natA j) := rfl
  generalize argsT [.ptr R 0, natA i, natA j] 0 .e = tm at a0 a1 a2
  obtain ⟨a, ha⟩ : ∃ a, s[i]? = some a := ⟨_, List.getElem?_eq_getElem hi⟩
  obtain ⟨b, hb⟩ : ∃ b, s[j]? = some b := ⟨_, List.getElem?_eq_getElem hj⟩
  have hsa : 97 ≤ a.toNat ∧ a.toNat ≤ 100 := by
    have := List.all_eq_true.1 hs a (List.mem_of_getElem? ha)
    simpa [inS'] using this
  have hsb : 97 ≤ b.toNat ∧ b.toNat ≤ 100 := by
    have := List.all_eq_true.1 hs b (List.mem_of_getElem? hb)
    simpa [inS'] using this
  have wa : wrapA .u8 ((a.toNat : Int) - Int.ofNat 97) = ((a.toNat - 97 : Nat) : Int) := by
    show wrapA .u8 ((a.toNat : Int) - 97) = _
    simp only [wrapA, IntKind.wrap, IntKind.bits, IntKind.signed]; simp; omega
  have wb : wrapA .u8 ((b.toNat : Int) - Int.ofNat 97) = ((b.toNat - 97 : Nat) : Int) := by
    show wrapA .u8 ((b.toNat : Int) - 97) = _
    simp only [wrapA, IntKind.wrap, IntKind.bits, IntKind.signed]; simp; omega
  have wd : wrapA .i64 ((j : Int) - (i : Int)) = (j : Int) - (i : Int) := wrapI _ (by omega) (by omega)
  have ia : idxOk ((a.toNat - 97 : Nat) : Int) 4 = true := idxOk_lt (by omega)
  have ib : idxOk ((b.toNat - 97 : Nat) : Int) 4 = true := idxOk_lt (by omega)
  have is1 : idxOk (i : Int) s.length = true := idxOk_lt hi
  have is2 : idxOk (j : Int) s.length = true := idxOk_lt hj
  have g17 := ropeA_gap (s := s) (gap := gap) (k := k) (f := f) hrl
  have hmay : mayF s rl gap i j = (decide ((j : Int) - (i : Int) > gap) && ruleOf rl a b) := by
    simp only [mayF, List.getD_eq_getElem?_getD, ha, hb, Option.getD_some]
  rw [hmay]
  unfold L43
  dsimp only
  by_cases hc : (j : Int) - (i : Int) > gap
  · have hd : decide ((j : Int) - (i : Int) > gap) = true := decide_eq_true hc
    have hrule : rl[(a.toNat - 97) * 4 + (b.toNat - 97)]? = some (ruleOf rl a b) := by
      rw [List.getElem?_eq_getElem (by rw [hrl]; omega)]
      simp [ruleOf, List.getD_eq_getElem?_getD, List.getElem?_eq_getElem (show (a.toNat - 97) * 4 + (b.toNat - 97) < rl.length by rw [hrl]; omega)]
    have hload : ∀ (H1 : AHeap) (o : Nat), H1.get R = H.get R → o = 1 + ((a.toNat - 97) * 4 + (b.toNat - 97)) → loadA H1 none (.ptr R o) = some (.bool (ruleOf rl a b)) := by
      intro H1 o h1 h2
      subst h2
      simp only [loadA, cellsAt, h1, hR]
      exact ropeA_rule hrule
    repeat (first | refine W.seq ?_ | (apply W.reg; · (simp only [List.length_cons, List.length_nil, Nat.reduceAdd]; rfl)) | (apply W.regd0; · (simp only [List.length_cons, List.length_nil, Nat.reduceAdd]; rfl)) | refine WO.nil ?_ | (apply WO.op; · first | exact op_mv (by simp only [St.ev, ↓Tr.get_set, ↓reduceIte, Nat.reduceEqDiff, natA, a0, a1, a2, hR, g17, hd, wd, ropeA_str, ha, hb, wa, wb, is1, is2, Int.toNat_natCast, Option.map_some, ia, ib]; rfl) | exact op_bin (by simp only [St.ev, ↓Tr.get_set, ↓reduceIte, Nat.reduceEqDiff, natA, a0, a1, a2, hR, g17, hd, wd, ropeA_str, ha, hb, wa, wb, is1, is2, Int.toNat_natCast, Option.map_some, ia, ib]; rfl) (by simp only [St.ev, ↓Tr.get_set, ↓reduceIte, Nat.reduceEqDiff, natA, a0, a1, a2, hR, g17, hd, wd, ropeA_str, ha, hb, wa, wb, is1, is2, Int.toNat_natCast, Option.map_some, ia, ib]; rfl) (by simp only [binA, intCmpA, strA, natA, a0, a1, a2, hR, g17, hd, wd, ropeA_str, ha, hb, wa, wb, is1, is2, Int.toNat_natCast, Option.map_some, ia, ib]; rfl) | exact op_faddr (by simp only [St.ev, ↓Tr.get_set, ↓reduceIte, Nat.reduceEqDiff, natA, a0, a1, a2, hR, g17, hd, wd, ropeA_str, ha, hb, wa, wb, is1, is2, Int.toNat_natCast, Option.map_some, ia, ib]; rfl) | exact op_nilc (by simp only [St.ev, ↓Tr.get_set, ↓reduceIte, Nat.reduceEqDiff, natA, a0, a1, a2, hR, g17, hd, wd, ropeA_str, ha, hb, wa, wb, is1, is2, Int.toNat_natCast, Option.map_some, ia, ib]; rfl) | (simp only [xval, xop, AR.ofV, St.ev, Tr.get_set, get_bump, next_bump, next_set, next_add, AHeap.get_set, reduceIte, Nat.reduceEqDiff, evL, evParts, fillA, AV.cells, natA, binA, intCmpA, unA, minA, maxA, Nat.add_assoc, Nat.reduceAdd, Nat.add_left_cancel_iff, Nat.add_eq_left, Nat.left_eq_add, loadA, cellsAt, storeA, Option.bind_some, iaddrA, aaddrA, a0, a1, a2, hR, g17, hd, wd, ropeA_str, ha, hb, wa, wb, is1, is2, Int.toNat_natCast, Option.map_some, ia, ib]; rfl)) | (apply WO.gop'; (· (simp only [St.ev, ↓Tr.get_set, ↓reduceIte, Nat.reduceEqDiff, natA, a0, a1, a2, hR, g17, hd, wd, ropeA_str, ha, hb, wa, wb, is1, is2, Int.toNat_natCast, Option.map_some, ia, ib]; rfl)); (· rfl); (· first | exact op_mv (by simp only [St.ev, ↓Tr.get_set, ↓reduceIte, Nat.reduceEqDiff, natA, a0, a1, a2, hR, g17, hd, wd, ropeA_str, ha, hb, wa, wb, is1, is2, Int.toNat_natCast, Option.map_some, ia, ib]; rfl) | exact op_bin (by simp only [St.ev, ↓Tr.get_set, ↓reduceIte, Nat.reduceEqDiff, natA, a0, a1, a2, hR, g17, hd, wd, ropeA_str, ha, hb, wa, wb, is1, is2, Int.toNat_natCast, Option.map_some, ia, ib]; rfl) (by simp only [St.ev, ↓Tr.get_set, ↓reduceIte, Nat.reduceEqDiff, natA, a0, a1, a2, hR, g17, hd, wd, ropeA_str, ha, hb, wa, wb, is1, is2, Int.toNat_natCast, Option.map_some, ia, ib]; rfl) (by simp only [binA, intCmpA, strA, natA, a0, a1, a2, hR, g17, hd, wd, ropeA_str, ha, hb, wa, wb, is1, is2, Int.toNat_natCast, Option.map_some, ia, ib]; rfl) | exact op_faddr (by simp only [St.ev, ↓Tr.get_set, ↓reduceIte, Nat.reduceEqDiff, natA, a0, a1, a2, hR, g17, hd, wd, ropeA_str, ha, hb, wa, wb, is1, is2, Int.toNat_natCast, Option.map_some, ia, ib]; rfl) | exact op_nilc (by simp only [St.ev, ↓Tr.get_set, ↓reduceIte, Nat.reduceEqDiff, natA, a0, a1, a2, hR, g17, hd, wd, ropeA_str, ha, hb, wa, wb, is1, is2, Int.toNat_natCast, Option.map_some, ia, ib]; rfl) | (simp only [xval, xop, AR.ofV, St.ev, Tr.get_set, get_bump, next_bump, next_set, next_add, AHeap.get_set, reduceIte, Nat.reduceEqDiff, evL, evParts, fillA, AV.cells, natA, binA, intCmpA, unA, minA, maxA, Nat.add_assoc, Nat.reduceAdd, Nat.add_left_cancel_iff, Nat.add_eq_left, Nat.left_eq_add, loadA, cellsAt, storeA, Option.bind_some, iaddrA, aaddrA, a0, a1, a2, hR, g17, hd, wd, ropeA_str, ha, hb, wa, wb, is1, is2, Int.toNat_natCast, Option.map_some, ia, ib]; rfl))) | refine pN ?_ | fail)
    refine WO.gop' (by simp only [Tr.get_set, get_bump, next_bump, next_set, next_add, AHeap.get_set, reduceIte, Nat.reduceEqDiff]; rfl) (by rfl) (op_load (by simp only [St.ev, Tr.get_set, get_bump, next_bump, next_set, next_add, AHeap.get_set, reduceIte, Nat.reduceEqDiff]; rfl) (hload _ _ rfl (by omega))) ?_
    repeat (first | refine W.ret ?_ | refine WO.nil ?_ | (apply WO.op; · first | exact op_mv (by simp only [St.ev, ↓Tr.get_set, ↓reduceIte, Nat.reduceEqDiff, natA]; rfl) | exact op_pick (by simp only [St.ev, ↓Tr.get_set, ↓reduceIte, Nat.reduceEqDiff, natA]; rfl) (by first | exact .inl ⟨rfl, (by simp only [St.ev, ↓Tr.get_set, ↓reduceIte, Nat.reduceEqDiff, natA]; rfl)⟩ | exact .inr ⟨rfl, (by simp only [St.ev, ↓Tr.get_set, ↓reduceIte, Nat.reduceEqDiff, natA]; rfl)⟩)) | refine pN ?_ | fail)
    exact ⟨fun id q => (by cases q), _, by simp only [resL, resA, Tr.get_set, get_bump, next_bump, next_set, next_add, AHeap.get_set, reduceIte, Nat.reduceEqDiff]; rfl, by simp only [wrapL, hd, Bool.true_and], (Same.bump _ _).trans (Same.bump _ _)⟩
  · have hd : decide ((j : Int) - (i : Int) > gap) = false := decide_eq_false hc
    repeat (first | refine W.seq ?_ | refine W.ret ?_ | (apply W.reg; · (simp only [List.length_cons, List.length_nil, Nat.reduceAdd]; rfl)) | (apply W.regd0; · (simp only [List.length_cons, List.length_nil, Nat.reduceAdd]; rfl)) | refine WO.nil ?_ | (apply WO.op; · first | exact op_mv (by simp only [St.ev, ↓Tr.get_set, ↓reduceIte, Nat.reduceEqDiff, natA, a0, a1, a2, hR, g17, hd, wd]; rfl) | exact op_bin (by simp only [St.ev, ↓Tr.get_set, ↓reduceIte, Nat.reduceEqDiff, natA, a0, a1, a2, hR, g17, hd, wd]; rfl) (by simp only [St.ev, ↓Tr.get_set, ↓reduceIte, Nat.reduceEqDiff, natA, a0, a1, a2, hR, g17, hd, wd]; rfl) (by simp only [binA, intCmpA, strA, natA, a0, a1, a2, hR, g17, hd, wd]; rfl) | exact op_faddr (by simp only [St.ev, ↓Tr.get_set, ↓reduceIte, Nat.reduceEqDiff, natA, a0, a1, a2, hR, g17, hd, wd]; rfl) | exact op_nilc (by simp only [St.ev, ↓Tr.get_set, ↓reduceIte, Nat.reduceEqDiff, natA, a0, a1, a2, hR, g17, hd, wd]; rfl) | exact op_pick (by simp only [St.ev, ↓Tr.get_set, ↓reduceIte, Nat.reduceEqDiff, natA, a0, a1, a2, hR, g17, hd, wd]; rfl) (by first | exact .inl ⟨rfl, (by simp only [St.ev, ↓Tr.get_set, ↓reduceIte, Nat.reduceEqDiff, natA, a0, a1, a2, hR, g17, hd, wd]; rfl)⟩ | exact .inr ⟨rfl, (by simp only [St.ev, ↓Tr.get_set, ↓reduceIte, Nat.reduceEqDiff, natA, a0, a1, a2, hR, g17, hd, wd]; rfl)⟩) | (simp only [xval, xop, AR.ofV, St.ev, Tr.get_set, get_bump, next_bump, next_set, next_add, AHeap.get_set, reduceIte, Nat.reduceEqDiff, evL, evParts, fillA, AV.cells, natA, binA, intCmpA, unA, minA, maxA, Nat.add_assoc, Nat.reduceAdd, Nat.add_left_cancel_iff, Nat.add_eq_left, Nat.left_eq_add, loadA, cellsAt, storeA, Option.bind_some, iaddrA, aaddrA, a0, a1, a2, hR, g17, hd, wd]; rfl)) | (apply WO.gno'; (· (simp only [St.ev, ↓Tr.get_set, ↓reduceIte, Nat.reduceEqDiff, natA, a0, a1, a2, hR, g17, hd, wd]; rfl)); (· rfl)) | refine pN ?_ | fail)
    exact ⟨fun id q => (by cases q), _, by simp only [resL, resA, Tr.get_set, get_bump, next_bump, next_set, next_add, AHeap.get_set, reduceIte, Nat.reduceEqDiff]; rfl, by simp only [wrapL, hd, Bool.false_and], (Same.bump _ _).trans (Same.bump _ _)⟩
end Go.Proofs.YtfcgofffalmdfaaDoor.PA
namespace Go.Proofs.YtfcgofffalmdfaaDoor.PA
open Go Go.Eng
theorem K0_ok : ∀ k, CFok Tryd.prog (xcallK K0 F 2000 k) := xcallK_sound (by kernel_rfl) Tryd.sortK_ok F_ok 2000
end Go.Proofs.YtfcgofffalmdfaaDoor.PA
namespace Go.Proofs.YtfcgofffalmdfaaDoor.PA
open Go Go.Eng
def byteA (b : UInt8) : AV := .int .u8 b.toNat
def inS (b : UInt8) : Bool := decide (97 ≤ b.toNat) && decide (b.toNat ≤ 100)
def setA : List AV := (List.range 256).map fun i => .bool (decide (97 ≤ i) && decide (i ≤ 100))
theorem setA_get (b : UInt8) : setA[b.toNat]? = some (.bool (inS b)) := by
  have h : b.toNat < 256 := b.toNat_lt
  simp only [setA, List.getElem?_map, List.getElem?_range h, Option.map_some, inS]
theorem contains_ok {cf : CF} {fuel : Nat} {H : AHeap} {A : Nat} (hA : H.get A = some (.cells setA none)) (b : UInt8) : ∃ H', xfunc cf fuel L82 [.ptr A 0, byteA b] H = some (.bool (inS b), H') ∧ Same H H' := by
  have key : ∃ v H', xfunc cf fuel L82 [.ptr A 0, byteA b] H = some (v, H') ∧ v = .bool (inS b) ∧ Same H H' := by
    refine xfunc_of rfl (by show 2 ≤ 10; omega) ?_
    have a0 : (argsT [.ptr A 0, byteA b] 0 .e).get 0 = some (.ptr A 0) := rfl
    have a1 : (argsT [.ptr A 0, byteA b] 0 .e).get 1 = some (byteA b) := rfl
    generalize argsT [.ptr A 0, byteA b] 0 .e = tm at a0 a1
    have hb : idxOk (b.toNat : Int) 256 = true := idxOk_lt b.toNat_lt
    have hl : loadA ((H.bump 1).bump 6) none (.ptr A (0 + b.toNat * 1)) = some (.bool (inS b)) := by
      simp only [loadA, cellsAt, get_bump, hA, Nat.zero_add, Nat.mul_one, List.getElem?_drop, Nat.add_zero]
      exact setA_get b
    unfold L82
    dsimp only
    repeat (first | refine W.seq ?_ | (apply W.reg; · (simp only [List.length_cons, List.length_nil, Nat.reduceAdd]; rfl)) | refine WO.nil ?_ | (apply WO.op; · first | exact op_mv (by simp only [St.ev, ↓Tr.get_set, ↓reduceIte, Nat.reduceEqDiff, natA, a0, a1, hb, byteA, Int.toNat_natCast, if_true]; rfl) | exact op_nilc (by simp only [St.ev, ↓Tr.get_set, ↓reduceIte, Nat.reduceEqDiff, natA, a0, a1, hb, byteA, Int.toNat_natCast, if_true]; rfl) | (simp only [xval, xop, AR.ofV, St.ev, Tr.get_set, get_bump, next_bump, next_set, next_add, AHeap.get_set, reduceIte, Nat.reduceEqDiff, evL, evParts, fillA, AV.cells, natA, binA, intCmpA, unA, minA, maxA, Nat.add_assoc, Nat.reduceAdd, Nat.add_left_cancel_iff, Nat.add_eq_left, Nat.left_eq_add, loadA, cellsAt, storeA, Option.bind_some, iaddrA, aaddrA, a0, a1, hb, byteA, Int.toNat_natCast, if_true]; rfl)) | refine pN ?_ | fail)
    refine WO.op (op_load (by simp only [St.ev, ↓Tr.get_set, ↓reduceIte, Nat.reduceEqDiff]) hl) ?_
    repeat (first | refine W.ret ?_ | refine WO.nil ?_ | (apply WO.op; · first | exact op_mv (by simp only [St.ev, ↓Tr.get_set, ↓reduceIte, Nat.reduceEqDiff, natA]; rfl)) | refine pN ?_ | fail)
    refine ⟨fun id q => (by cases q), _, by simp only [resL, resA, Tr.get_set, get_bump, next_bump, next_set, next_add, AHeap.get_set, reduceIte, Nat.reduceEqDiff] <;> rfl, rfl, (Same.bump _ _).trans (Same.bump _ _)⟩
  obtain ⟨v, H', h1, rfl, h2⟩ := key
  exact ⟨H', h1, h2⟩
def TI (H0 : AHeap) (A : Nat) (s : List UInt8) (t : List UInt8) (S : St) : Prop :=
  S.tm.get 0 = some (.str t) ∧ S.tm.get 1 = some (.ptr A 0) ∧ t.all inS = s.all inS ∧ Same H0 S.H
def TQ (s : List UInt8) (v : AV) : Prop := ∃ r, v = .str r ∧ r.all inS = s.all inS ∧ (r = [] ∨ r.all inS = false) ∧ r.length ≤ s.length
theorem trimLeft_ok {cf : CF} {fuel : Nat} {H : AHeap} {A : Nat} (hA : A < H.next) (hf : ∀ H1, Same H H1 → ∀ b, ∃ H2, cf 82 [.ptr A 0, byteA b] H1 = some (.bool (inS b), H2) ∧ Same H1 H2) (s : List UInt8) (hs : s.length < fuel) (hs2 : s.length ≤ 1000) :
    ∃ v H', xfunc cf fuel L62 [.str s, .ptr A 0] H = some (v, H') ∧ TQ s v ∧ Same H H' := by
  refine xfunc_of rfl (by show 2 ≤ 16; omega) ?_
  have a0 : (argsT [.str s, .ptr A 0] 0 .e).get 0 = some (.str s) := rfl
  have a1 : (argsT [.str s, .ptr A 0] 0 .e).get 1 = some (.ptr A 0) := rfl
  generalize argsT [.str s, .ptr A 0] 0 .e = tm at a0 a1
  unfold L62
  dsimp only
  refine W.seq ?_
  refine W.reg 1 rfl ?_
  refine WO.op (by simp only [xval, xop, AR.ofV, St.ev, Tr.get_set, get_bump, next_bump, next_set, next_add, AHeap.get_set, reduceIte, Nat.reduceEqDiff, evL, evParts, fillA, AV.cells, natA, binA, intCmpA, unA, minA, maxA]; rfl) ?_
  refine WO.nil (pN (W.seq (W.block ?_)))
  refine W.loop (α := List UInt8) (fun t S => TI H A s t S ∧ t.length ≤ s.length) (fun t => t.length) s ⟨⟨by simp only [Tr.get_set, get_bump, next_bump, next_set, next_add, AHeap.get_set, reduceIte, Nat.reduceEqDiff]; exact a0, by simp only [Tr.get_set, get_bump, next_bump, next_set, next_add, AHeap.get_set, reduceIte, Nat.reduceEqDiff]; exact a1, rfl, Same.bump _ _⟩, Nat.le_refl _⟩ hs ?_
  rintro t ⟨tm1, H1⟩ ⟨⟨t0, t1, tall, tsame⟩, tle⟩
  simp only at t0 t1 tsame
  refine W.seq (W.seq ?_)
  cases t with
  | nil =>
    repeat (first | refine W.seq ?_ | refine W.ret ?_ | refine W.exit ?_ | (apply W.reg; · (simp only [List.length_cons, List.length_nil, Nat.reduceAdd]; rfl)) | refine WO.nil ?_ | (apply WO.op; · first | exact op_mv (by simp only [St.ev, ↓Tr.get_set, ↓reduceIte, Nat.reduceEqDiff, natA, t0, List.length_nil]; rfl) | exact op_bin (by simp only [St.ev, ↓Tr.get_set, ↓reduceIte, Nat.reduceEqDiff, natA, t0, List.length_nil]; rfl) (by simp only [St.ev, ↓Tr.get_set, ↓reduceIte, Nat.reduceEqDiff, natA, t0, List.length_nil]; rfl) (by simp only [binA, intCmpA, strA, natA, t0, List.length_nil]; rfl) | exact op_slen (by simp only [St.ev, ↓Tr.get_set, ↓reduceIte, Nat.reduceEqDiff, natA, t0, List.length_nil]; rfl)) | refine pN ?_ | refine pX ?_ | refine bX ?_ | (apply W.condF'; (· (simp only [St.ev, ↓Tr.get_set, ↓reduceIte, Nat.reduceEqDiff, natA, t0, List.length_nil]; rfl)); (· rfl)) | fail)
    exact ⟨fun id q => (by cases q), _, by simp only [resL, resA, Tr.get_set, get_bump, next_bump, next_set, next_add, AHeap.get_set, reduceIte, Nat.reduceEqDiff] <;> rfl, ⟨[], rfl, tall, .inl rfl, Nat.zero_le _⟩, tsame.trans ((Same.bump _ _).trans (Same.bump _ _))⟩
  | cons b t =>
    have c : decide (((b :: t).length : Int) > Int.ofNat 0) = true := by rw [Int.ofNat_eq_natCast, decide_eq_true_eq]; simp
    have hi : idxOk (Int.ofNat 0) (b :: t).length = true := idxOk_lt (i := 0) (by simp)
    repeat (first | refine W.seq ?_ | refine W.block ?_ | refine W.skip ?_ | (apply W.reg; · (simp only [List.length_cons, List.length_nil, Nat.reduceAdd]; rfl)) | refine WO.nil ?_ | (apply WO.op; · first | exact op_mv (by simp only [St.ev, ↓Tr.get_set, ↓reduceIte, Nat.reduceEqDiff, natA, t0, t1, c, hi]; rfl) | exact op_bin (by simp only [St.ev, ↓Tr.get_set, ↓reduceIte, Nat.reduceEqDiff, natA, t0, t1, c, hi]; rfl) (by simp only [St.ev, ↓Tr.get_set, ↓reduceIte, Nat.reduceEqDiff, natA, t0, t1, c, hi]; rfl) (by simp only [binA, intCmpA, strA, natA, t0, t1, c, hi]; rfl) | exact op_slen (by simp only [St.ev, ↓Tr.get_set, ↓reduceIte, Nat.reduceEqDiff, natA, t0, t1, c, hi]; rfl) | (simp only [xval, xop, AR.ofV, St.ev, Tr.get_set, get_bump, next_bump, next_set, next_add, AHeap.get_set, reduceIte, Nat.reduceEqDiff, evL, evParts, fillA, AV.cells, natA, binA, intCmpA, unA, minA, maxA, Nat.add_assoc, Nat.reduceAdd, Nat.add_left_cancel_iff, Nat.add_eq_left, Nat.left_eq_add, loadA, cellsAt, storeA, Option.bind_some, iaddrA, aaddrA, t0, t1, c, hi]; rfl)) | refine pN ?_ | (apply W.condT'; (· (simp only [St.ev, ↓Tr.get_set, ↓reduceIte, Nat.reduceEqDiff, natA, t0, t1, c, hi]; rfl)); (· rfl)) | fail)
    obtain ⟨H2, hc, hsame⟩ := hf _ ((tsame.trans (Same.bump _ 3)).trans (Same.bump _ 5)) b
    refine WO.op (op_call (cs := []) (l := [.ptr A 0, byteA b]) (by simp only [St.ev, ↓Tr.get_set, ↓reduceIte, Nat.reduceEqDiff]) (by simp only [evL, St.ev, Tr.get_set, get_bump, next_bump, next_set, next_add, AHeap.get_set, reduceIte, Nat.reduceEqDiff]; rfl) hc) ?_
    cases hb : inS b with
    | false =>
      repeat (first | refine W.seq ?_ | refine W.ret ?_ | refine W.exit ?_ | (apply W.reg; · (simp only [List.length_cons, List.length_nil, Nat.reduceAdd]; rfl)) | refine WO.nil ?_ | (apply WO.op; · first | exact op_mv (by simp only [St.ev, ↓Tr.get_set, ↓reduceIte, Nat.reduceEqDiff, natA, hb, Bool.not_false, t0]; rfl) | exact op_un (by simp only [St.ev, ↓Tr.get_set, ↓reduceIte, Nat.reduceEqDiff, natA, hb, Bool.not_false, t0]; rfl) (by simp only [unA, hb, Bool.not_false, t0]; rfl)) | refine pN ?_ | refine pX ?_ | refine bX ?_ | refine bO (by decide) ?_ | (apply W.condT'; (· (simp only [St.ev, ↓Tr.get_set, ↓reduceIte, Nat.reduceEqDiff, natA, hb, Bool.not_false, t0]; rfl)); (· rfl)) | fail)
      exact ⟨fun id q => (by cases q), _, by simp only [resL, resA, Tr.get_set, get_bump, next_bump, next_set, next_add, AHeap.get_set, reduceIte, Nat.reduceEqDiff, t0] <;> rfl, ⟨b :: t, rfl, tall, .inr (by simp [hb]), tle⟩, (((tsame.trans (Same.bump _ 3)).trans (Same.bump _ 5)).trans hsame).trans (Same.bump _ _)⟩
    | true =>
      repeat (first | refine W.skip ?_ | (apply W.reg; · (simp only [List.length_cons, List.length_nil, Nat.reduceAdd]; rfl)) | refine WO.nil ?_ | (apply WO.op; · first | exact op_mv (by simp only [St.ev, ↓Tr.get_set, ↓reduceIte, Nat.reduceEqDiff, natA, hb, Bool.not_true, t0]; rfl) | exact op_un (by simp only [St.ev, ↓Tr.get_set, ↓reduceIte, Nat.reduceEqDiff, natA, hb, Bool.not_true, t0]; rfl) (by simp only [unA, hb, Bool.not_true, t0]; rfl) | (simp only [xval, xop, AR.ofV, St.ev, Tr.get_set, get_bump, next_bump, next_set, next_add, AHeap.get_set, reduceIte, Nat.reduceEqDiff, evL, evParts, fillA, AV.cells, natA, binA, intCmpA, unA, minA, maxA, Nat.add_assoc, Nat.reduceAdd, Nat.add_left_cancel_iff, Nat.add_eq_left, Nat.left_eq_add, loadA, cellsAt, storeA, Option.bind_some, iaddrA, aaddrA, hb, Bool.not_true, t0]; rfl)) | refine pN ?_ | refine bN ?_ | (apply W.condF'; (· (simp only [St.ev, ↓Tr.get_set, ↓reduceIte, Nat.reduceEqDiff, natA, hb, Bool.not_true, t0]; rfl)); (· rfl)) | fail)
      refine ⟨t, ⟨⟨by simp only [Tr.get_set, get_bump, next_bump, next_set, next_add, AHeap.get_set, reduceIte, Nat.reduceEqDiff]; simp, by simp only [Tr.get_set, get_bump, next_bump, next_set, next_add, AHeap.get_set, reduceIte, Nat.reduceEqDiff]; exact t1, ?_, (((tsame.trans (Same.bump _ 3)).trans (Same.bump _ 5)).trans hsame).trans (Same.bump _ _)⟩, by simp only [List.length_cons] at tle; omega⟩, by simp⟩
      rw [← tall, List.all_cons, hb, Bool.true_and]
theorem trimRight_ok {cf : CF} {fuel : Nat} {H : AHeap} {A : Nat} (hA : A < H.next) (hf : ∀ H1, Same H H1 → ∀ b, ∃ H2, cf 82 [.ptr A 0, byteA b] H1 = some (.bool (inS b), H2) ∧ Same H1 H2) (s : List UInt8) (hs : s.length < fuel) (hs2 : s.length ≤ 1000) :
    ∃ v H', xfunc cf fuel L63 [.str s, .ptr A 0] H = some (v, H') ∧ TQ s v ∧ Same H H' := by
  refine xfunc_of rfl (by show 2 ≤ 22; omega) ?_
  have a0 : (argsT [.str s, .ptr A 0] 0 .e).get 0 = some (.str s) := rfl
  have a1 : (argsT [.str s, .ptr A 0] 0 .e).get 1 = some (.ptr A 0) := rfl
  generalize argsT [.str s, .ptr A 0] 0 .e = tm at a0 a1
  unfold L63
  dsimp only
  refine W.seq ?_
  refine W.reg 1 rfl ?_
  refine WO.op (by simp only [xval, xop, AR.ofV, St.ev, Tr.get_set, get_bump, next_bump, next_set, next_add, AHeap.get_set, reduceIte, Nat.reduceEqDiff, evL, evParts, fillA, AV.cells, natA, binA, intCmpA, unA, minA, maxA]; rfl) ?_
  refine WO.nil (pN (W.seq (W.block ?_)))
  refine W.loop (α := List UInt8) (fun t S => TI H A s t S ∧ t.length ≤ s.length) (fun t => t.length) s ⟨⟨by simp only [Tr.get_set, get_bump, next_bump, next_set, next_add, AHeap.get_set, reduceIte, Nat.reduceEqDiff]; exact a0, by simp only [Tr.get_set, get_bump, next_bump, next_set, next_add, AHeap.get_set, reduceIte, Nat.reduceEqDiff]; exact a1, rfl, Same.bump _ _⟩, Nat.le_refl _⟩ hs ?_
  rintro t ⟨tm1, H1⟩ ⟨⟨t0, t1, tall, tsame⟩, tle⟩
  simp only at t0 t1 tsame
  refine W.seq (W.seq ?_)
  rcases List.eq_nil_or_concat t with rfl | ⟨u, b, rfl⟩
  · repeat (first | refine W.seq ?_ | refine W.ret ?_ | refine W.exit ?_ | (apply W.reg; · (simp only [List.length_cons, List.length_nil, Nat.reduceAdd]; rfl)) | refine WO.nil ?_ | (apply WO.op; · first | exact op_mv (by simp only [St.ev, ↓Tr.get_set, ↓reduceIte, Nat.reduceEqDiff, natA, t0, List.length_nil]; rfl) | exact op_bin (by simp only [St.ev, ↓Tr.get_set, ↓reduceIte, Nat.reduceEqDiff, natA, t0, List.length_nil]; rfl) (by simp only [St.ev, ↓Tr.get_set, ↓reduceIte, Nat.reduceEqDiff, natA, t0, List.length_nil]; rfl) (by simp only [binA, intCmpA, strA, natA, t0, List.length_nil]; rfl) | exact op_slen (by simp only [St.ev, ↓Tr.get_set, ↓reduceIte, Nat.reduceEqDiff, natA, t0, List.length_nil]; rfl)) | refine pN ?_ | refine pX ?_ | refine bX ?_ | (apply W.condF'; (· (simp only [St.ev, ↓Tr.get_set, ↓reduceIte, Nat.reduceEqDiff, natA, t0, List.length_nil]; rfl)); (· rfl)) | fail)
    exact ⟨fun id q => (by cases q), _, by simp only [resL, resA, Tr.get_set, get_bump, next_bump, next_set, next_add, AHeap.get_set, reduceIte, Nat.reduceEqDiff] <;> rfl, ⟨[], rfl, tall, .inl rfl, Nat.zero_le _⟩, tsame.trans ((Same.bump _ _).trans (Same.bump _ _))⟩
  · rw [List.concat_eq_append] at t0 tall tle
    rw [List.concat_eq_append]
    have hlen : (u ++ [b]).length = u.length + 1 := by simp
    have c : decide (((u ++ [b]).length : Int) > Int.ofNat 0) = true := by rw [Int.ofNat_eq_natCast, decide_eq_true_eq]; omega
    have w1 : wrapA .i64 (((u ++ [b]).length : Int) - Int.ofNat 1) = ((u.length : Nat) : Int) := by
      show wrapA .i64 (((u ++ [b]).length : Int) - 1) = _
      rw [wrapI _ (by omega) (by omega)]; omega
    have hi : idxOk (u.length : Int) (u ++ [b]).length = true := idxOk_lt (by omega)
    have hub : (u ++ [b])[u.length]? = some b := by simp
    repeat (first | refine W.seq ?_ | refine W.block ?_ | refine W.skip ?_ | (apply W.reg; · (simp only [List.length_cons, List.length_nil, Nat.reduceAdd]; rfl)) | refine WO.nil ?_ | (apply WO.op; · first | exact op_mv (by simp only [St.ev, ↓Tr.get_set, ↓reduceIte, Nat.reduceEqDiff, natA, t0, t1, c, w1, hi, hub, Int.toNat_natCast, Option.map_some]; rfl) | exact op_bin (by simp only [St.ev, ↓Tr.get_set, ↓reduceIte, Nat.reduceEqDiff, natA, t0, t1, c, w1, hi, hub, Int.toNat_natCast, Option.map_some]; rfl) (by simp only [St.ev, ↓Tr.get_set, ↓reduceIte, Nat.reduceEqDiff, natA, t0, t1, c, w1, hi, hub, Int.toNat_natCast, Option.map_some]; rfl) (by simp only [binA, intCmpA, strA, natA, t0, t1, c, w1, hi, hub, Int.toNat_natCast, Option.map_some]; rfl) | exact op_slen (by simp only [St.ev, ↓Tr.get_set, ↓reduceIte, Nat.reduceEqDiff, natA, t0, t1, c, w1, hi, hub, Int.toNat_natCast, Option.map_some]; rfl) | (simp only [xval, xop, AR.ofV, St.ev, Tr.get_set, get_bump, next_bump, next_set, next_add, AHeap.get_set, reduceIte, Nat.reduceEqDiff, evL, evParts, fillA, AV.cells, natA, binA, intCmpA, unA, minA, maxA, Nat.add_assoc, Nat.reduceAdd, Nat.add_left_cancel_iff, Nat.add_eq_left, Nat.left_eq_add, loadA, cellsAt, storeA, Option.bind_some, iaddrA, aaddrA, t0, t1, c, w1, hi, hub, Int.toNat_natCast, Option.map_some]; rfl)) | refine pN ?_ | (apply W.condT'; (· (simp only [St.ev, ↓Tr.get_set, ↓reduceIte, Nat.reduceEqDiff, natA, t0, t1, c, w1, hi, hub, Int.toNat_natCast, Option.map_some]; rfl)); (· rfl)) | fail)
    obtain ⟨H2, hc, hsame⟩ := hf _ ((tsame.trans (Same.bump _ 3)).trans (Same.bump _ 8)) b
    refine WO.op (op_call (cs := []) (l := [.ptr A 0, byteA b]) (by simp only [St.ev, ↓Tr.get_set, ↓reduceIte, Nat.reduceEqDiff]) (by simp only [evL, St.ev, Tr.get_set, get_bump, next_bump, next_set, next_add, AHeap.get_set, reduceIte, Nat.reduceEqDiff]; rfl) hc) ?_
    cases hb : inS b with
    | false =>
      repeat (first | refine W.seq ?_ | refine W.ret ?_ | refine W.exit ?_ | (apply W.reg; · (simp only [List.length_cons, List.length_nil, Nat.reduceAdd]; rfl)) | refine WO.nil ?_ | (apply WO.op; · first | exact op_mv (by simp only [St.ev, ↓Tr.get_set, ↓reduceIte, Nat.reduceEqDiff, natA, hb, Bool.not_false, t0]; rfl) | exact op_un (by simp only [St.ev, ↓Tr.get_set, ↓reduceIte, Nat.reduceEqDiff, natA, hb, Bool.not_false, t0]; rfl) (by simp only [unA, hb, Bool.not_false, t0]; rfl)) | refine pN ?_ | refine pX ?_ | refine bX ?_ | refine bO (by decide) ?_ | (apply W.condT'; (· (simp only [St.ev, ↓Tr.get_set, ↓reduceIte, Nat.reduceEqDiff, natA, hb, Bool.not_false, t0]; rfl)); (· rfl)) | fail)
      exact ⟨fun id q => (by cases q), _, by simp only [resL, resA, Tr.get_set, get_bump, next_bump, next_set, next_add, AHeap.get_set, reduceIte, Nat.reduceEqDiff, t0] <;> rfl, ⟨u ++ [b], rfl, tall, .inr (by simp [hb]), tle⟩, (((tsame.trans (Same.bump _ 3)).trans (Same.bump _ 8)).trans hsame).trans (Same.bump _ _)⟩
    | true =>
      have hcut : scutA (St.ev tm1) (.str (u ++ [b])) none none = scutA (St.ev tm1) (.str (u ++ [b])) none none := rfl
      have hb1 : bndA (u ++ [b]).length (.int .i64 (u.length : Int)) = some u.length := bndA_nat (by omega)
      repeat (first | refine W.skip ?_ | (apply W.reg; · (simp only [List.length_cons, List.length_nil, Nat.reduceAdd]; rfl)) | refine WO.nil ?_ | (apply WO.op; · first | exact op_mv (by simp only [St.ev, ↓Tr.get_set, ↓reduceIte, Nat.reduceEqDiff, natA, hb, Bool.not_true, t0, w1, scutA, bounds, obnd, hiBnd, hb1]; rfl) | exact op_bin (by simp only [St.ev, ↓Tr.get_set, ↓reduceIte, Nat.reduceEqDiff, natA, hb, Bool.not_true, t0, w1, scutA, bounds, obnd, hiBnd, hb1]; rfl) (by simp only [St.ev, ↓Tr.get_set, ↓reduceIte, Nat.reduceEqDiff, natA, hb, Bool.not_true, t0, w1, scutA, bounds, obnd, hiBnd, hb1]; rfl) (by simp only [binA, intCmpA, strA, natA, hb, Bool.not_true, t0, w1, scutA, bounds, obnd, hiBnd, hb1]; rfl) | exact op_slen (by simp only [St.ev, ↓Tr.get_set, ↓reduceIte, Nat.reduceEqDiff, natA, hb, Bool.not_true, t0, w1, scutA, bounds, obnd, hiBnd, hb1]; rfl) | exact op_un (by simp only [St.ev, ↓Tr.get_set, ↓reduceIte, Nat.reduceEqDiff, natA, hb, Bool.not_true, t0, w1, scutA, bounds, obnd, hiBnd, hb1]; rfl) (by simp only [unA, hb, Bool.not_true, t0, w1, scutA, bounds, obnd, hiBnd, hb1]; rfl) | (simp only [xval, xop, AR.ofV, St.ev, Tr.get_set, get_bump, next_bump, next_set, next_add, AHeap.get_set, reduceIte, Nat.reduceEqDiff, evL, evParts, fillA, AV.cells, natA, binA, intCmpA, unA, minA, maxA, Nat.add_assoc, Nat.reduceAdd, Nat.add_left_cancel_iff, Nat.add_eq_left, Nat.left_eq_add, loadA, cellsAt, storeA, Option.bind_some, iaddrA, aaddrA, hb, Bool.not_true, t0, w1, scutA, bounds, obnd, hiBnd, hb1]; rfl)) | refine pN ?_ | refine bN ?_ | (apply W.condF'; (· (simp only [St.ev, ↓Tr.get_set, ↓reduceIte, Nat.reduceEqDiff, natA, hb, Bool.not_true, t0, w1, scutA, bounds, obnd, hiBnd, hb1]; rfl)); (· rfl)) | fail)
      have hcut2 : (u ++ [b]).take u.length = u := by simp
      refine ⟨u, ⟨⟨?_, by simp only [Tr.get_set, get_bump, next_bump, next_set, next_add, AHeap.get_set, reduceIte, Nat.reduceEqDiff]; exact t1, ?_, (((tsame.trans (Same.bump _ 3)).trans (Same.bump _ 8)).trans hsame).trans (Same.bump _ _)⟩, by omega⟩, by omega⟩
      · simp only [Tr.get_set, get_bump, next_bump, next_set, next_add, AHeap.get_set, reduceIte, Nat.reduceEqDiff, Nat.sub_zero, List.drop_zero, hcut2]
      · rw [← tall, List.all_append, List.all_cons, hb]
        simp
def setI (n : Nat) : List AV := (List.range 256).map fun i => .bool (decide (97 ≤ i) && decide (i < 97 + n))
theorem setI_len (n : Nat) : (setI n).length = 256 := by simp [setI]
theorem setI_1 : overA (setI 0) 97 [.bool true] = setI 1 := by kernel_rfl
theorem setI_2 : overA (setI 1) 98 [.bool true] = setI 2 := by kernel_rfl
theorem setI_3 : overA (setI 2) 99 [.bool true] = setI 3 := by kernel_rfl
theorem setI_4 : overA (setI 3) 100 [.bool true] = setI 4 := by kernel_rfl
theorem setI_succ (n : Nat) (h : n < 4) : overA (setI n) (97 + n) [.bool true] = setI (n + 1) := by
  match n, h with
  | 0, _ => exact setI_1
  | 1, _ => exact setI_2
  | 2, _ => exact setI_3
  | 3, _ => exact setI_4
theorem setI_four : setI 4 = setA := by kernel_rfl
theorem over_all {l x : List AV} (h : l.length = x.length) : overA l 0 x = x := by simp [overA, ← h]
set_option maxHeartbeats 4000000 in
theorem makeSet_ok {cf : CF} {H : AHeap} : ∃ v H', xfunc cf 2000 L61 [.str [97, 98, 99, 100]] H = some (v, H') ∧ v = .tup [.agg setA, .bool true] ∧ Same H H' := by
  refine xfunc_of rfl (by show 1 ≤ 21; omega) ?_
  have a0 : (argsT [.str [97, 98, 99, 100]] 0 .e).get 0 = some (.str [97, 98, 99, 100]) := rfl
  generalize argsT [.str [97, 98, 99, 100]] 0 .e = tm at a0
  unfold L61
  dsimp only
  refine W.seq ?_
  refine W.rg 2 rfl (fun H1 hg1 hn1 => ?_)
  refine WO.alloc (fun H2 hc2 hg2 hn2 => ?_)
  have hz : H2.get H.next = some (.cells (setI 0) none) := hc2.trans (congrArg (fun c => some (AObj.cells c none)) (by kernel_rfl))
  clear hc2
  refine WO.op (op_mv (v := .bool false) rfl) ?_
  refine WO.nil (pN (W.seq (W.seq ?_)))
  refine W.rg 1 rfl (fun H3 hg3 hn3 => ?_)
  refine WO.op (op_mv (v := .int .i64 (Int.ofNat 0)) rfl) ?_
  refine WO.nil (pN (W.block ?_))
  refine W.loop (α := Nat) (fun i S => i ≤ 4 ∧ S.tm.get 0 = some (.str [97, 98, 99, 100]) ∧ S.tm.get 4 = some (.int .i64 (i : Int)) ∧ S.tm.get 2 = some (.ptr H.next 0) ∧ S.H.get H.next = some (.cells (setI i) none) ∧ H.next < S.H.next ∧ Same H S.H) (fun i => 4 - i) 0 ?_ (by omega) ?_
  · refine ⟨by omega, by simp only [Tr.get_set, get_bump, next_bump, next_set, next_add, AHeap.get_set, reduceIte, Nat.reduceEqDiff]; exact a0, by simp only [Tr.get_set, get_bump, next_bump, next_set, next_add, AHeap.get_set, reduceIte, Nat.reduceEqDiff] <;> rfl, by simp only [Tr.get_set, get_bump, next_bump, next_set, next_add, AHeap.get_set, reduceIte, Nat.reduceEqDiff], by rw [hg3]; exact hz, by show H.next < H3.next; omega, by show H.next ≤ H3.next; omega, fun j hj => ?_⟩
    show H3.get j = _
    rw [hg3, hg2 j (by omega), hg1]
  · rintro i ⟨tm1, H1'⟩ ⟨hi, t0, t4, t2, hc, hlt, hsame⟩
    simp only at t0 t4 t2 hc hlt hsame
    by_cases h4 : i = 4
    · subst h4
      have c : decide (((4 : Nat) : Int) < (([97, 98, 99, 100] : List UInt8).length : Int)) = false := by decide
      repeat (first | refine W.seq ?_ | refine W.exit ?_ | (apply W.reg; · (simp only [List.length_cons, List.length_nil, Nat.reduceAdd]; rfl)) | refine WO.nil ?_ | (apply WO.op; · first | exact op_mv (by simp only [St.ev, ↓Tr.get_set, ↓reduceIte, Nat.reduceEqDiff, natA, t0, t4, c]; rfl) | exact op_bin (by simp only [St.ev, ↓Tr.get_set, ↓reduceIte, Nat.reduceEqDiff, natA, t0, t4, c]; rfl) (by simp only [St.ev, ↓Tr.get_set, ↓reduceIte, Nat.reduceEqDiff, natA, t0, t4, c]; rfl) (by simp only [binA, intCmpA, strA, natA, t0, t4, c]; rfl) | exact op_slen (by simp only [St.ev, ↓Tr.get_set, ↓reduceIte, Nat.reduceEqDiff, natA, t0, t4, c]; rfl)) | refine pN ?_ | refine pX ?_ | refine bX ?_ | (apply W.condF'; (· (simp only [St.ev, ↓Tr.get_set, ↓reduceIte, Nat.reduceEqDiff, natA, t0, t4, c]; rfl)); (· rfl)) | fail)
      refine WO.op (op_loadn (i := H.next) (o := 0) (by simp only [St.ev, ↓Tr.get_set, ↓reduceIte, Nat.reduceEqDiff, t2]) (by rw [get_bump, get_bump]; exact hc) (by rw [setI_len]; omega)) ?_
      have htake : ((setI 4).drop 0).take 256 = setA := by rw [List.drop_zero, ← setI_four, List.take_of_length_le (by rw [setI_len]; omega)]
      rw [htake]
      have hsl : setA.length = 256 := by rw [← setI_four, setI_len]
      refine WO.store (i := H.next) (o := 0) (v := .agg setA) (by simp only [St.ev, ↓Tr.get_set, ↓reduceIte, Nat.reduceEqDiff, t2]) (by simp only [St.ev, ↓Tr.get_set, ↓reduceIte, Nat.reduceEqDiff]) (by rw [get_bump, get_bump]; exact hc) hsl (by kernel_rfl) (by rw [setI_len]; omega) (fun H5 hc5 hg5 hn5 => ?_)
      have hc6 : H5.get H.next = some (.cells setA none) := by
        rw [hc5]
        show some (AObj.cells (overA (setI 4) 0 setA) none) = _
        rw [over_all (by rw [setI_len, hsl])]
      refine WO.op (op_mv (v := .bool true) rfl) ?_
      refine WO.nil (pN (W.ret ⟨fun id q => (by cases q), [.agg setA, .bool true], ?_, rfl, ?_, fun j hj => ?_⟩))
      · have : loadA H5 (some 256) (.ptr H.next 0) = some (.agg setA) := by
          simp only [loadA, cellsAt, hc6, List.drop_zero]
          rw [if_pos (by omega), List.take_of_length_le (by omega)]
        simp only [resL, resA, Tr.get_set, get_bump, next_bump, next_set, next_add, AHeap.get_set, reduceIte, Nat.reduceEqDiff, t2, Option.bind_some, this] <;> rfl
      · show H.next ≤ H5.next
        rw [hn5]; have := hsame.1; simp only [next_bump]; omega
      · show H5.get j = _
        rw [hg5 j (by omega)]; exact hsame.2 j hj
    · have hi4 : i < 4 := by omega
      have c : decide ((i : Int) < (([97, 98, 99, 100] : List UInt8).length : Int)) = true := by rw [decide_eq_true_eq]; simp; omega
      have hb : ∃ b : UInt8, ([97, 98, 99, 100] : List UInt8)[i]? = some b ∧ b.toNat = 97 + i := by
        match i, hi4 with
        | 0, _ => exact ⟨97, rfl, rfl⟩
        | 1, _ => exact ⟨98, rfl, rfl⟩
        | 2, _ => exact ⟨99, rfl, rfl⟩
        | 3, _ => exact ⟨100, rfl, rfl⟩
      obtain ⟨b, hb1, hb2⟩ := hb
      have c2 : decide ((b.toNat : Int) ≥ Int.ofNat 128) = false := by rw [Int.ofNat_eq_natCast, decide_eq_false_iff_not]; omega
      have hw : wrapA .i64 ((i : Int) + Int.ofNat 1) = ((i + 1 : Nat) : Int) := by
        show wrapA .i64 ((i : Int) + 1) = _
        rw [wrapI _ (by omega) (by omega)]; omega
      repeat (first | refine W.seq ?_ | refine W.block ?_ | refine W.skip ?_ | (apply W.reg; · (simp only [List.length_cons, List.length_nil, Nat.reduceAdd]; rfl)) | refine WO.nil ?_ | (apply WO.op; · first | exact op_mv (by simp only [St.ev, ↓Tr.get_set, ↓reduceIte, Nat.reduceEqDiff, natA, t0, t4, c]; rfl) | exact op_bin (by simp only [St.ev, ↓Tr.get_set, ↓reduceIte, Nat.reduceEqDiff, natA, t0, t4, c]; rfl) (by simp only [St.ev, ↓Tr.get_set, ↓reduceIte, Nat.reduceEqDiff, natA, t0, t4, c]; rfl) (by simp only [binA, intCmpA, strA, natA, t0, t4, c]; rfl) | exact op_slen (by simp only [St.ev, ↓Tr.get_set, ↓reduceIte, Nat.reduceEqDiff, natA, t0, t4, c]; rfl)) | refine pN ?_ | (apply W.condT'; (· (simp only [St.ev, ↓Tr.get_set, ↓reduceIte, Nat.reduceEqDiff, natA, t0, t4, c]; rfl)); (· rfl)) | fail)
      refine WO.op (op_sidx (s := [97, 98, 99, 100]) (i := i) (k := .i64) (by simp only [St.ev, ↓Tr.get_set, ↓reduceIte, Nat.reduceEqDiff]) (by simp only [St.ev, ↓Tr.get_set, ↓reduceIte, Nat.reduceEqDiff]) hb1) ?_
      repeat (first | refine W.seq ?_ | refine W.skip ?_ | (apply W.reg; · (simp only [List.length_cons, List.length_nil, Nat.reduceAdd]; rfl)) | refine WO.nil ?_ | (apply WO.op; · first | exact op_mv (by simp only [St.ev, ↓Tr.get_set, ↓reduceIte, Nat.reduceEqDiff, natA, c2]; rfl) | exact op_bin (by simp only [St.ev, ↓Tr.get_set, ↓reduceIte, Nat.reduceEqDiff, natA, c2]; rfl) (by simp only [St.ev, ↓Tr.get_set, ↓reduceIte, Nat.reduceEqDiff, natA, c2]; rfl) (by simp only [binA, intCmpA, strA, natA, c2]; rfl)) | refine pN ?_ | (apply W.condF'; (· (simp only [St.ev, ↓Tr.get_set, ↓reduceIte, Nat.reduceEqDiff, natA, c2]; rfl)); (· rfl)) | fail)
      refine WO.op (op_aaddr (i := H.next) (p := 0) (j := b.toNat) (k := .u8) (by simp only [St.ev, ↓Tr.get_set, ↓reduceIte, Nat.reduceEqDiff, t2]) (by simp only [St.ev, ↓Tr.get_set, ↓reduceIte, Nat.reduceEqDiff]) (by omega)) ?_
      refine WO.store (i := H.next) (o := 0 + b.toNat * 1) (v := .bool true) (by simp only [St.ev, ↓Tr.get_set, ↓reduceIte, Nat.reduceEqDiff]) (by rfl) (by rw [get_bump, get_bump, get_bump, get_bump]; exact hc) rfl rfl (by rw [setI_len]; omega) (fun H5 hc5 hg5 hn5 => ?_)
      have hc6 : H5.get H.next = some (.cells (setI (i + 1)) none) := by
        rw [hc5, ← setI_succ i hi4, ← hb2]
        simp only [Nat.zero_add, Nat.mul_one, AV.cells]
      repeat (first | (apply W.reg; · (simp only [List.length_cons, List.length_nil, Nat.reduceAdd]; rfl)) | refine WO.nil ?_ | (apply WO.op; · first | exact op_mv (by simp only [St.ev, ↓Tr.get_set, ↓reduceIte, Nat.reduceEqDiff, natA, t4, hw]; rfl) | exact op_bin (by simp only [St.ev, ↓Tr.get_set, ↓reduceIte, Nat.reduceEqDiff, natA, t4, hw]; rfl) (by simp only [St.ev, ↓Tr.get_set, ↓reduceIte, Nat.reduceEqDiff, natA, t4, hw]; rfl) (by simp only [binA, intCmpA, strA, natA, t4, hw]; rfl)) | refine pN ?_ | refine bN ?_ | fail)
      refine ⟨i + 1, ⟨by omega, by simp only [Tr.get_set, get_bump, next_bump, next_set, next_add, AHeap.get_set, reduceIte, Nat.reduceEqDiff]; exact t0, by simp only [Tr.get_set, get_bump, next_bump, next_set, next_add, AHeap.get_set, reduceIte, Nat.reduceEqDiff], by simp only [Tr.get_set, get_bump, next_bump, next_set, next_add, AHeap.get_set, reduceIte, Nat.reduceEqDiff]; exact t2, by rw [get_bump]; exact hc6, ?_, ?_, fun j hj => ?_⟩, by omega⟩
      · show H.next < (H5.bump 3).next
        rw [next_bump, hn5]; simp only [next_bump]; omega
      · show H.next ≤ (H5.bump 3).next
        rw [next_bump, hn5]; simp only [next_bump]; omega
      · show H5.get j = _
        rw [hg5 j (by omega)]; exact hsame.2 j hj
theorem xcallK_F {k f : Nat} {fn : XFunc} {args : List AV} {H : AHeap} (hf : f ≠ 33) (hF : F f = some fn) : xcallK K0 F 2000 (k + 1) f args H = xfunc (xcallK K0 F 2000 k) 2000 fn args H := by
  unfold xcallK
  rw [show K0 f args H = none by simp only [K0, sortK]; rw [if_neg hf]]
  simp only [hF]
theorem all_nil {r s : List UInt8} (h1 : r.all inS = s.all inS) (h2 : r = [] ∨ r.all inS = false) : (r = []) ↔ s.all inS = true := by
  constructor
  · rintro rfl; rw [← h1]; rfl
  · intro h
    rcases h2 with q | q
    · exact q
    · rw [h1, h] at q; cases q
set_option maxHeartbeats 4000000 in
set_option maxRecDepth 100000 in
theorem Trim_ok {H : AHeap} {k : Nat} (s : List UInt8) (hs : s.length ≤ 1000) : ∃ v H', xcallK K0 F 2000 (k + 3) 40 [.str s, .str [97, 98, 99, 100]] H = some (v, H') ∧ (∃ r, v = .str r ∧ (r = [] ↔ s.all inS = true)) ∧ Same H H' := by
  rw [show k + 3 = (k + 2) + 1 from rfl, xcallK_F (by omega) (show F 40 = some L40 from rfl)]
  refine xfunc_of rfl (by show 2 ≤ 43; omega) ?_
  have a0 : (argsT [.str s, .str [97, 98, 99, 100]] 0 .e).get 0 = some (.str s) := rfl
  have a1 : (argsT [.str s, .str [97, 98, 99, 100]] 0 .e).get 1 = some (.str [97, 98, 99, 100]) := rfl
  generalize argsT [.str s, .str [97, 98, 99, 100]] 0 .e = tm at a0 a1
  unfold L40
  dsimp only
  cases s with
  | nil =>
    repeat (first | refine W.seq ?_ | refine W.ret ?_ | (apply W.reg; · (simp only [List.length_cons, List.length_nil, Nat.reduceAdd]; rfl)) | refine WO.nil ?_ | (apply WO.op; · first | exact op_mv (by simp only [St.ev, ↓Tr.get_set, ↓reduceIte, Nat.reduceEqDiff, natA, a0, a1, List.beq_nil_eq, List.isEmpty_nil]; rfl) | exact op_bin (by simp only [St.ev, ↓Tr.get_set, ↓reduceIte, Nat.reduceEqDiff, natA, a0, a1, List.beq_nil_eq, List.isEmpty_nil]; rfl) (by simp only [St.ev, ↓Tr.get_set, ↓reduceIte, Nat.reduceEqDiff, natA, a0, a1, List.beq_nil_eq, List.isEmpty_nil]; rfl) (by simp only [binA, intCmpA, strA, natA, a0, a1, List.beq_nil_eq, List.isEmpty_nil]; rfl) | exact op_pick (by simp only [St.ev, ↓Tr.get_set, ↓reduceIte, Nat.reduceEqDiff, natA, a0, a1, List.beq_nil_eq, List.isEmpty_nil]; rfl) (by first | exact .inl ⟨rfl, (by simp only [St.ev, ↓Tr.get_set, ↓reduceIte, Nat.reduceEqDiff, natA, a0, a1, List.beq_nil_eq, List.isEmpty_nil]; rfl)⟩ | exact .inr ⟨rfl, (by simp only [St.ev, ↓Tr.get_set, ↓reduceIte, Nat.reduceEqDiff, natA, a0, a1, List.beq_nil_eq, List.isEmpty_nil]; rfl)⟩)) | (apply WO.gno'; (· (simp only [St.ev, ↓Tr.get_set, ↓reduceIte, Nat.reduceEqDiff, natA, a0, a1, List.beq_nil_eq, List.isEmpty_nil]; rfl)); (· rfl)) | refine pN ?_ | refine pR ?_ | (apply W.condT'; (· (simp only [St.ev, ↓Tr.get_set, ↓reduceIte, Nat.reduceEqDiff, natA, a0, a1, List.beq_nil_eq, List.isEmpty_nil]; rfl)); (· rfl)) | fail)
    exact ⟨fun id q => (by cases q), _, by simp only [resL, resA, Tr.get_set, get_bump, next_bump, next_set, next_add, AHeap.get_set, reduceIte, Nat.reduceEqDiff] <;> rfl, ⟨[], rfl, by simp⟩, (Same.bump _ _).trans ((Same.bump _ _).trans (Same.bump _ _))⟩
  | cons b s =>
    have e1 : ((b :: s : List UInt8) == []) = false := rfl
    have e2 : (([97, 98, 99, 100] : List UInt8) == []) = false := rfl
    have e3 : ((([97, 98, 99, 100] : List UInt8).length : Int) == Int.ofNat 1) = false := rfl
    repeat (first | refine W.seq ?_ | refine W.skip ?_ | (apply W.reg; · (simp only [List.length_cons, List.length_nil, Nat.reduceAdd]; rfl)) | refine WO.nil ?_ | (apply WO.op; · first | exact op_mv (by simp only [St.ev, ↓Tr.get_set, ↓reduceIte, Nat.reduceEqDiff, natA, a0, a1, e1, e2, e3]; rfl) | exact op_bin (by simp only [St.ev, ↓Tr.get_set, ↓reduceIte, Nat.reduceEqDiff, natA, a0, a1, e1, e2, e3]; rfl) (by simp only [St.ev, ↓Tr.get_set, ↓reduceIte, Nat.reduceEqDiff, natA, a0, a1, e1, e2, e3]; rfl) (by simp only [binA, intCmpA, strA, natA, a0, a1, e1, e2, e3]; rfl) | exact op_slen (by simp only [St.ev, ↓Tr.get_set, ↓reduceIte, Nat.reduceEqDiff, natA, a0, a1, e1, e2, e3]; rfl) | exact op_pick (by simp only [St.ev, ↓Tr.get_set, ↓reduceIte, Nat.reduceEqDiff, natA, a0, a1, e1, e2, e3]; rfl) (by first | exact .inl ⟨rfl, (by simp only [St.ev, ↓Tr.get_set, ↓reduceIte, Nat.reduceEqDiff, natA, a0, a1, e1, e2, e3]; rfl)⟩ | exact .inr ⟨rfl, (by simp only [St.ev, ↓Tr.get_set, ↓reduceIte, Nat.reduceEqDiff, natA, a0, a1, e1, e2, e3]; rfl)⟩)) | (apply WO.gop'; (· (simp only [St.ev, ↓Tr.get_set, ↓reduceIte, Nat.reduceEqDiff, natA, a0, a1, e1, e2, e3]; rfl)); (· rfl); (· first | exact op_mv (by simp only [St.ev, ↓Tr.get_set, ↓reduceIte, Nat.reduceEqDiff, natA, a0, a1, e1, e2, e3]; rfl) | exact op_bin (by simp only [St.ev, ↓Tr.get_set, ↓reduceIte, Nat.reduceEqDiff, natA, a0, a1, e1, e2, e3]; rfl) (by simp only [St.ev, ↓Tr.get_set, ↓reduceIte, Nat.reduceEqDiff, natA, a0, a1, e1, e2, e3]; rfl) (by simp only [binA, intCmpA, strA, natA, a0, a1, e1, e2, e3]; rfl))) | (apply WO.gno'; (· (simp only [St.ev, ↓Tr.get_set, ↓reduceIte, Nat.reduceEqDiff, natA, a0, a1, e1, e2, e3]; rfl)); (· rfl)) | refine pN ?_ | (apply W.condF'; (· (simp only [St.ev, ↓Tr.get_set, ↓reduceIte, Nat.reduceEqDiff, natA, a0, a1, e1, e2, e3]; rfl)); (· rfl)) | fail)
    obtain ⟨v1, H1, h1, rfl, hs1⟩ := makeSet_ok (cf := xcallK K0 F 2000 (k + 1)) (H := (((H.bump 1).bump 6).bump 8).bump 8)
    refine WO.op (op_call (cs := []) (l := [.str [97, 98, 99, 100]]) (H1 := H1) (by rfl) (evL1 (by simp only [St.ev, ↓Tr.get_set, ↓reduceIte, Nat.reduceEqDiff, a1])) (by rw [show k + 2 = (k + 1) + 1 from rfl, xcallK_F (by omega) (show F 61 = some L61 from rfl)]; exact h1)) ?_
    refine WO.op (op_mv (v := .tup [.agg setA, .bool true]) (by simp only [St.ev, ↓Tr.get_set, ↓reduceIte, Nat.reduceEqDiff])) ?_
    refine WO.op (op_ext (l := [.agg setA, .bool true]) (v := .agg setA) (by simp only [St.ev, ↓Tr.get_set, ↓reduceIte, Nat.reduceEqDiff]) rfl) ?_
    refine WO.op (op_ext (l := [.agg setA, .bool true]) (v := .bool true) (by simp only [St.ev, ↓Tr.get_set, ↓reduceIte, Nat.reduceEqDiff]) rfl) ?_
    have hsl : setA.length = 256 := by rw [← setI_four, setI_len]
    refine WO.alloc (fun H2 hc2 hg2 hn2 => ?_)
    have hnx : (((H.bump 1).bump 6).bump 8).next = H.next + 15 := rfl
    generalize hA : (((H.bump 1).bump 6).bump 8).next + 1 + 1 + 1 + 1 + 1 = A at *
    have hs1n := hs1.1
    simp only [next_bump] at hs1n
    refine WO.store (i := A) (o := 0) (v := .agg setA) (by simp only [St.ev, ↓Tr.get_set, ↓reduceIte, Nat.reduceEqDiff]) (by simp only [St.ev, ↓Tr.get_set, ↓reduceIte, Nat.reduceEqDiff]) hc2 hsl (by kernel_rfl) (by simp) (fun H3 hc3 hg3 hn3 => ?_)
    have hc4 : H3.get A = some (.cells setA none) := by
      rw [hc3]
      show some (AObj.cells (overA _ 0 setA) none) = _
      rw [over_all (by rw [hsl]; rfl)]
    clear hc2 hc3
    refine WO.op (op_mv (v := .bool true) (by simp only [St.ev, ↓Tr.get_set, ↓reduceIte, Nat.reduceEqDiff])) ?_
    refine WO.nil (pN (W.seq ?_))
    refine W.rg 1 rfl (fun H4 hg4 hn4 => ?_)
    refine WO.op (op_mv (v := .bool true) (by simp only [St.ev, ↓Tr.get_set, ↓reduceIte, Nat.reduceEqDiff])) ?_
    refine WO.nil (pN (W.condT (by simp only [St.ev, ↓Tr.get_set, ↓reduceIte, Nat.reduceEqDiff]) (W.seq ?_)))
    have hsame3 : Same H H3 := by
      refine ⟨by omega, fun j hj => ?_⟩
      rw [hg3 j (by omega), hg2 j (by omega), hs1.2 j (by simp only [next_bump]; omega)]
      rfl
    refine W.rg 4 rfl (fun H5 hg5 hn5 => ?_)
    refine WO.op (op_mv (v := .str (b :: s)) (by simp only [St.ev, ↓Tr.get_set, ↓reduceIte, Nat.reduceEqDiff, a0])) ?_
    have hA5 : H5.get A = some (.cells setA none) := by rw [hg5, hg4]; exact hc4
    have hcon : ∀ (H0 : AHeap), H0.get A = some (.cells setA none) → A < H0.next → ∀ H1, Same H0 H1 → ∀ b, ∃ H2, xcallK K0 F 2000 (k + 1) 82 [.ptr A 0, byteA b] H1 = some (.bool (inS b), H2) ∧ Same H1 H2 := by
      intro H0 h1 h2 H1 h3 b
      obtain ⟨H2, h4, h5⟩ := contains_ok (cf := xcallK K0 F 2000 k) (fuel := 2000) (H := H1) (A := A) (by rw [h3.2 A h2]; exact h1) b
      exact ⟨H2, by rw [xcallK_F (by omega) (show F 82 = some L82 from rfl)]; exact h4, h5⟩
    have hlt5 : A < H5.next := by omega
    obtain ⟨v1, H6, h6, ⟨r1, rfl, q1, q2, hr1⟩, s6⟩ := trimRight_ok (cf := xcallK K0 F 2000 (k + 1)) (fuel := 2000) (H := H5) (A := A) hlt5 (hcon H5 hA5 hlt5) (b :: s) (by omega) hs
    refine WO.op (op_call (cs := []) (l := [.str (b :: s), .ptr A 0]) (v := .str r1) (H1 := H6) (by rfl) (evL2 (by simp only [St.ev, ↓Tr.get_set, ↓reduceIte, Nat.reduceEqDiff]) (by simp only [St.ev, ↓Tr.get_set, ↓reduceIte, Nat.reduceEqDiff])) (by rw [show k + 2 = (k + 1) + 1 from rfl, xcallK_F (by omega) (show F 63 = some L63 from rfl)]; exact h6)) ?_
    have hlt6 : A < H6.next := Nat.lt_of_lt_of_le hlt5 s6.1
    have hA6 : H6.get A = some (.cells setA none) := by rw [s6.2 A hlt5]; exact hA5
    have hr1 : r1.length ≤ 1000 := by omega
    obtain ⟨v2, H7, h7, ⟨r2, rfl, q3, q4, _⟩, s7⟩ := trimLeft_ok (cf := xcallK K0 F 2000 (k + 1)) (fuel := 2000) (H := H6) (A := A) hlt6 (hcon H6 hA6 hlt6) r1 (by omega) hr1
    refine WO.op (op_call (cs := []) (l := [.str r1, .ptr A 0]) (v := .str r2) (H1 := H7) (by rfl) (evL2 (by simp only [St.ev, ↓Tr.get_set, ↓reduceIte, Nat.reduceEqDiff]) (by simp only [St.ev, ↓Tr.get_set, ↓reduceIte, Nat.reduceEqDiff])) (by rw [show k + 2 = (k + 1) + 1 from rfl, xcallK_F (by omega) (show F 62 = some L62 from rfl)]; exact h7)) ?_
    refine WO.op (op_mv (v := .str r2) (by simp only [St.ev, ↓Tr.get_set, ↓reduceIte, Nat.reduceEqDiff])) ?_
    refine WO.nil (pN (W.ret (pR ⟨fun id q => (by cases q), [.str r2], by simp only [resL, resA, Tr.get_set, get_bump, next_bump, next_set, next_add, AHeap.get_set, reduceIte, Nat.reduceEqDiff] <;> rfl, ⟨r2, rfl, all_nil (q3.trans q1) q4⟩, ?_, fun j hj => ?_⟩)))
    · have := s6.1; have := s7.1
      show H.next ≤ H7.next
      omega
    · show H7.get j = _
      rw [s7.2 j (by have := s6.1; omega), s6.2 j (by omega), hg5, hg4]
      exact hsame3.2 j hj
end Go.Proofs.YtfcgofffalmdfaaDoor.PA
namespace Go.Proofs.YtfcgofffalmdfaaDoor.PA
open Go Go.Eng
theorem encPairs_at : ∀ (l : List (Int × Int)) (j : Nat) (p : Int × Int), l[j]? = some p → ((encPairs l).drop (j * 2)).take 2 = [.int .i64 p.1, .int .i64 p.2]
  | [], j, p, h => by cases h
  | q :: l, 0, p, h => by simp at h; subst h; rfl
  | q :: l, j + 1, p, h => by
    rw [show (j + 1) * 2 = j * 2 + 2 by omega]
    exact encPairs_at l j p (by simpa using h)
end Go.Proofs.YtfcgofffalmdfaaDoor.PA
namespace Go.Proofs.YtfcgofffalmdfaaDoor.PA
open Go Go.Eng
section
variable (may : Nat → Nat → Bool)
theorem Fold.app {i : Nat} {u v : List UInt8} (h : Fold may i u) : Fold may (i + u.length) v → Fold may i (u ++ v) := by
  induction h with
  | nil i => exact fun h => h
  | @dot i w h ih =>
    intro hv
    exact .dot (ih (by rw [List.length_cons] at hv; rwa [show i + 1 + w.length = i + (w.length + 1) by omega]))
  | @pair i a b ha hm hb _ ih =>
    intro hv
    have := ih (by
      have e : (40 :: (a ++ 41 :: b) : List UInt8).length = a.length + b.length + 2 := by simp; omega
      rw [e] at hv
      rwa [show i + 2 + a.length + b.length = i + (a.length + b.length + 2) by omega])
    have e : 40 :: (a ++ 41 :: b) ++ v = 40 :: (a ++ 41 :: (b ++ v)) := by simp
    rw [e]
    exact .pair ha hm this
inductive Ctx : Nat → List Nat → List UInt8 → Prop
  | base {w} (h : Fold may 0 w) : Ctx w.length [] w
  | push {a op p w} (hc : Ctx a op p) (hw : Fold may (a + 1) w) : Ctx (a + 1 + w.length) (op ++ [a]) (p ++ 40 :: w)
theorem Ctx.app {i : Nat} {op : List Nat} {p v : List UInt8} (h : Ctx may i op p) (hv : Fold may i v) : Ctx may (i + v.length) op (p ++ v) := by
  cases h with
  | @base w h =>
    have := Ctx.base (may := may) (w := p ++ v) (h.app may (by simpa using hv))
    rwa [List.length_append] at this
  | @push a op p w hc hw =>
    have := Ctx.push hc (hw.app may hv)
    rw [List.length_append, ← Nat.add_assoc] at this
    simpa using this
end
end Go.Proofs.YtfcgofffalmdfaaDoor.PA
namespace Go.Proofs.YtfcgofffalmdfaaDoor.PA
open Go Go.Eng
theorem op_mn2 {cf : CF} {n : Nat} {k : IntKind} {a b : Int} {H : AHeap} {ev : XO → Option AV} {x y : XO} (hx : ev x = some (.int k a)) (hy : ev y = some (.int k b)) : xval cf ev H n (.mn [x, y]) = some (.int k (if b < a then b else a), H) := by
  simp only [xval, xop, evL2 hx hy, Option.bind_some, minA, List.foldlM]; rfl
theorem op_mx2 {cf : CF} {n : Nat} {k : IntKind} {a b : Int} {H : AHeap} {ev : XO → Option AV} {x y : XO} (hx : ev x = some (.int k a)) (hy : ev y = some (.int k b)) : xval cf ev H n (.mx [x, y]) = some (.int k (if b > a then b else a), H) := by
  simp only [xval, xop, evL2 hx hy, Option.bind_some, maxA, List.foldlM]; rfl
theorem op_imm {cf : CF} {n j l z : Nat} {k : IntKind} {cs : List AV} {fl : Bool} {H : AHeap} {ev : XO → Option AV} {x y : XO} (hx : ev x = some (.imm cs l fl)) (hy : ev y = some (.int k (j : Int))) (h : j < l) : xval cf ev H n (.iaddr z x y) = some (.iptr cs (j * z), H) := by
  simp only [xval, xop, hx, hy, iaddrA, idxOk_lt h, if_true, Int.toNat_natCast, AR.ofV]
theorem op_iload {cf : CF} {n m o : Nat} {cs : List AV} {H : AHeap} {ev : XO → Option AV} {x : XO} (hx : ev x = some (.iptr cs o)) (h : m ≤ (cs.drop o).length) : xval cf ev H n (.load (some m) x) = some (.agg ((cs.drop o).take m), H) := by
  simp only [xval, xop, hx, Option.bind_some, loadA, cellsAt]
  rw [if_pos h]
  rfl
theorem xop_loadc {n i o : Nat} {c : List AV} {opn : Option Nat} {v : AV} {H : AHeap} {ev : XO → Option AV} {x : XO} (hx : ev x = some (.ptr i o)) (hH : H.get i = some (.cells c opn)) (h : c[o]? = some v) : xop ev H n (.load none x) = .v v := by
  simp only [xop, hx, Option.bind_some, loadA, cellsAt, hH, List.getElem?_drop, Nat.add_zero, h, AR.ofV]
theorem looseOk_of {ops : List XOper} {tr : List St} {base j : Nat} {es : List Nat} {o : XOper} {s : St} (ho : ops[j]? = some o) (hs : tr[j]? = some s) (hg : o.guard = none) {x : AV} (hx : xop (St.ev s.tm) s.H 0 o.op = .v x)
    (hall : ∀ i ∈ j :: (es ++ es.map (· + 1)), ∃ si, tr[i]? = some si ∧ xop (St.ev s.tm) si.H 0 o.op = .v x) (hb : AV.beq x x = true) : looseOk ops tr base [] (j, es, []) = true := by
  unfold looseOk
  have hw : wantedA s.tm o = some true := by unfold wantedA; rw [hg]
  simp only [ho, hs, hw, hx]
  rw [List.all_eq_true]
  intro i hi
  obtain ⟨si, h1, h2⟩ := hall i hi
  simp only [h1, List.filter_nil, AHeap.less, h2, hb]
theorem WT.store {cf : CF} {n m i o : Nat} {a x : XO} {v : AV} {c : List AV} {opn : Option Nat} {r : List XOper} {tm : Tr AV} {H : AHeap} {Q : List St → Prop} (ha : St.ev tm a = some (.ptr i o)) (hx : St.ev tm x = some v) (hH : H.get i = some (.cells c opn)) (hl : v.cells.length = m) (h1 : v.cells.all AV.oneCell = true) (hf : o + m ≤ c.length)
    (k : ∀ H1 : AHeap, H1.get i = some (.cells (overA c o v.cells) opn) → (∀ j, j ≠ i → H1.get j = H.get j) → H1.next = H.next → WT cf r (n + 1) ⟨tm, H1⟩ fun tr => Q (⟨tm, H⟩ :: tr)) : WT cf (⟨none, .store m a x, none⟩ :: r) n ⟨tm, H⟩ Q :=
  WT.opn (op_store ha hx hH hl h1 hf) (k _ (by rw [AHeap.get_set, if_pos rfl]) (fun j hj => by rw [AHeap.get_set, if_neg hj]) rfl)
def rulesOf (l : List (Int × Int)) : List Bool := l.foldl (fun rl p => (rl.set (p.1.toNat * 4 + p.2.toNat) true).set (p.2.toNat * 4 + p.1.toNat) true) (List.replicate 16 false)
theorem rulesOf_len (l : List (Int × Int)) : (rulesOf l).length = 16 := by
  have : ∀ (l : List (Int × Int)) (rl : List Bool), (l.foldl (fun rl p => (rl.set (p.1.toNat * 4 + p.2.toNat) true).set (p.2.toNat * 4 + p.1.toNat) true) rl).length = rl.length := by
    intro l
    induction l with
    | nil => intro rl; rfl
    | cons p l ih => intro rl; rw [List.foldl_cons, ih]; simp
  rw [rulesOf, this]; rfl
def badP (p : Int × Int) : Bool := decide (p.1 < 0) || decide (p.2 < 0) || decide (p.1 ≥ 4) || decide (p.2 ≥ 4)
theorem ropeA_len {s : List UInt8} {rl : List Bool} {gap : Int} {k f : AV} : (ropeA s rl gap k f).length = rl.length + 4 := by simp [ropeA]
theorem ropeA_set {s : List UInt8} {rl : List Bool} {gap : Int} {k f : AV} {j : Nat} (h : j < rl.length) : overA (ropeA s rl gap k f) (1 + j) [.bool true] = ropeA s (rl.set j true) gap k f := by
  have e : overA (ropeA s rl gap k f) (1 + j) [.bool true] = (ropeA s rl gap k f).set (1 + j) (.bool true) := by
    rw [List.set_eq_take_append_cons_drop, if_pos (by rw [ropeA_len]; omega)]
    simp [overA]
  rw [e, show 1 + j = j + 1 by omega]
  simp only [ropeA, List.set_cons_succ]
  rw [List.set_append_left _ _ (by simpa using h), List.map_set]
def readE (s : List UInt8) (l : List (Int × Int)) (gap : Int) : Int :=
  if 40 < s.length ∨ 16 < l.length then 3 else if l.any badP = true then 1 else if gap < 0 ∨ gap > 5 then 1 else if s.all inS = true then 0 else 2
def ReadQ (s : List UInt8) (l : List (Int × Int)) (gap : Int) (v : AV) (H' : AHeap) : Prop :=
  (readE s l gap ≠ 0 ∧ v = .tup [.nilp, .int .i64 (readE s l gap)]) ∨
  (readE s l gap = 0 ∧ ∃ R kn fn, v = .tup [.ptr R 0, .int .i64 0] ∧ H'.get R = some (.cells (ropeA s (rulesOf l) gap (.map kn) (.map fn)) none) ∧ R < H'.next ∧ H'.get kn = some (.map []) ∧ H'.get fn = some (.map []) ∧ kn < fn ∧ fn < R)
theorem bad_iff (p : Int × Int) : badP p = true ↔ ((if p.2 < p.1 then p.2 else p.1) < 0 ∨ (if p.2 > p.1 then p.2 else p.1) ≥ 4) := by
  simp only [badP, Bool.or_eq_true, decide_eq_true_eq]
  constructor
  · intro h
    split <;> split <;> omega
  · intro h
    split at h <;> split at h <;> omega
set_option maxHeartbeats 8000000 in
set_option maxRecDepth 100000 in
theorem read_ok {k : Nat} {H : AHeap} {s : List UInt8} {l : List (Int × Int)} {gap : Int} : ∃ v H', xfunc (xcallK K0 F 2000 (k + 3)) 2000 L24 [.str s, .imm (encPairs l) l.length false, .int .i64 gap] H = some (v, H') ∧ ReadQ s l gap v H' := by
  refine xfunc_of rfl (by show 3 ≤ 76; omega) ?_
  have a0 : (argsT [.str s, .imm (encPairs l) l.length false, .int .i64 gap] 0 .e).get 0 = some (.str s) := rfl
  have a1 : (argsT [.str s, .imm (encPairs l) l.length false, .int .i64 gap] 0 .e).get 1 = some (.imm (encPairs l) l.length false) := rfl
  have a2 : (argsT [.str s, .imm (encPairs l) l.length false, .int .i64 gap] 0 .e).get 2 = some (.int .i64 gap) := rfl
  generalize argsT [.str s, .imm (encPairs l) l.length false, .int .i64 gap] 0 .e = tm at a0 a1 a2
  have g40 : decide ((s.length : Int) > Int.ofNat 40) = decide (40 < s.length) := by rw [Int.ofNat_eq_natCast, decide_eq_decide]; omega
  have g16 : decide ((l.length : Int) > Int.ofNat 16) = decide (16 < l.length) := by rw [Int.ofNat_eq_natCast, decide_eq_decide]; omega
  unfold L24
  dsimp only
  by_cases h40 : 40 < s.length
  · have c : decide ((s.length : Int) > Int.ofNat 40) = true := by rw [g40, decide_eq_true h40]
    repeat (first | refine W.seq ?_ | refine W.ret ?_ | (apply W.reg; · (simp only [List.length_cons, List.length_nil, Nat.reduceAdd]; rfl)) | refine WO.nil ?_ | (apply WO.op; · first | exact op_mv (by simp only [St.ev, ↓Tr.get_set, ↓reduceIte, Nat.reduceEqDiff, natA, a0, c]; rfl) | exact op_bin (by simp only [St.ev, ↓Tr.get_set, ↓reduceIte, Nat.reduceEqDiff, natA, a0, c]; rfl) (by simp only [St.ev, ↓Tr.get_set, ↓reduceIte, Nat.reduceEqDiff, natA, a0, c]; rfl) (by simp only [binA, intCmpA, strA, natA, a0, c]; rfl) | exact op_slen (by simp only [St.ev, ↓Tr.get_set, ↓reduceIte, Nat.reduceEqDiff, natA, a0, c]; rfl) | exact op_pick (by simp only [St.ev, ↓Tr.get_set, ↓reduceIte, Nat.reduceEqDiff, natA, a0, c]; rfl) (by first | exact .inl ⟨rfl, (by simp only [St.ev, ↓Tr.get_set, ↓reduceIte, Nat.reduceEqDiff, natA, a0, c]; rfl)⟩ | exact .inr ⟨rfl, (by simp only [St.ev, ↓Tr.get_set, ↓reduceIte, Nat.reduceEqDiff, natA, a0, c]; rfl)⟩)) | (apply WO.gno'; (· (simp only [St.ev, ↓Tr.get_set, ↓reduceIte, Nat.reduceEqDiff, natA, a0, c]; rfl)); (· rfl)) | refine pN ?_ | refine pR ?_ | (apply W.condT'; (· (simp only [St.ev, ↓Tr.get_set, ↓reduceIte, Nat.reduceEqDiff, natA, a0, c]; rfl)); (· rfl)) | fail)
    refine ⟨fun id q => (by cases q), _, by simp only [resL, resA, Tr.get_set, get_bump, next_bump, next_set, next_add, AHeap.get_set, reduceIte, Nat.reduceEqDiff] <;> rfl, .inl ?_⟩
    have : readE s l gap = 3 := by unfold readE; rw [if_pos (.inl h40)]
    rw [this]
    exact ⟨by omega, rfl⟩
  · have c : decide ((s.length : Int) > Int.ofNat 40) = false := by rw [g40, decide_eq_false h40]
    by_cases h16 : 16 < l.length
    · have c2 : decide ((l.length : Int) > Int.ofNat 16) = true := by rw [g16, decide_eq_true h16]
      repeat (first | refine W.seq ?_ | refine W.ret ?_ | (apply W.reg; · (simp only [List.length_cons, List.length_nil, Nat.reduceAdd]; rfl)) | refine WO.nil ?_ | (apply WO.op; · first | exact op_mv (by simp only [St.ev, ↓Tr.get_set, ↓reduceIte, Nat.reduceEqDiff, natA, a0, a1, c, c2]; rfl) | exact op_bin (by simp only [St.ev, ↓Tr.get_set, ↓reduceIte, Nat.reduceEqDiff, natA, a0, a1, c, c2]; rfl) (by simp only [St.ev, ↓Tr.get_set, ↓reduceIte, Nat.reduceEqDiff, natA, a0, a1, c, c2]; rfl) (by simp only [binA, intCmpA, strA, natA, a0, a1, c, c2]; rfl) | exact op_slen (by simp only [St.ev, ↓Tr.get_set, ↓reduceIte, Nat.reduceEqDiff, natA, a0, a1, c, c2]; rfl) | exact op_pick (by simp only [St.ev, ↓Tr.get_set, ↓reduceIte, Nat.reduceEqDiff, natA, a0, a1, c, c2]; rfl) (by first | exact .inl ⟨rfl, (by simp only [St.ev, ↓Tr.get_set, ↓reduceIte, Nat.reduceEqDiff, natA, a0, a1, c, c2]; rfl)⟩ | exact .inr ⟨rfl, (by simp only [St.ev, ↓Tr.get_set, ↓reduceIte, Nat.reduceEqDiff, natA, a0, a1, c, c2]; rfl)⟩)) | (apply WO.gop'; (· (simp only [St.ev, ↓Tr.get_set, ↓reduceIte, Nat.reduceEqDiff, natA, a0, a1, c, c2]; rfl)); (· rfl); (· first | exact op_mv (by simp only [St.ev, ↓Tr.get_set, ↓reduceIte, Nat.reduceEqDiff, natA, a0, a1, c, c2]; rfl) | exact op_bin (by simp only [St.ev, ↓Tr.get_set, ↓reduceIte, Nat.reduceEqDiff, natA, a0, a1, c, c2]; rfl) (by simp only [St.ev, ↓Tr.get_set, ↓reduceIte, Nat.reduceEqDiff, natA, a0, a1, c, c2]; rfl) (by simp only [binA, intCmpA, strA, natA, a0, a1, c, c2]; rfl) | (simp only [xval, xop, AR.ofV, St.ev, Tr.get_set, get_bump, next_bump, next_set, next_add, AHeap.get_set, reduceIte, Nat.reduceEqDiff, evL, evParts, fillA, AV.cells, natA, binA, intCmpA, unA, minA, maxA, Nat.add_assoc, Nat.reduceAdd, Nat.add_left_cancel_iff, Nat.add_eq_left, Nat.left_eq_add, loadA, cellsAt, storeA, Option.bind_some, iaddrA, aaddrA, a0, a1, c, c2]; rfl))) | refine pN ?_ | refine pR ?_ | (apply W.condT'; (· (simp only [St.ev, ↓Tr.get_set, ↓reduceIte, Nat.reduceEqDiff, natA, a0, a1, c, c2]; rfl)); (· rfl)) | fail)
      refine ⟨fun id q => (by cases q), _, by simp only [resL, resA, Tr.get_set, get_bump, next_bump, next_set, next_add, AHeap.get_set, reduceIte, Nat.reduceEqDiff] <;> rfl, .inl ?_⟩
      have : readE s l gap = 3 := by unfold readE; rw [if_pos (.inr h16)]
      rw [this]
      exact ⟨by omega, rfl⟩
    · have c2 : decide ((l.length : Int) > Int.ofNat 16) = false := by rw [g16, decide_eq_false h16]
      have hE : readE s l gap = if l.any badP = true then 1 else if gap < 0 ∨ gap > 5 then 1 else if s.all inS = true then 0 else 2 := by
        unfold readE; rw [if_neg (by omega)]
      repeat (first | refine W.seq ?_ | refine W.block ?_ | refine W.skip ?_ | (apply W.reg; · (simp only [List.length_cons, List.length_nil, Nat.reduceAdd]; rfl)) | refine WO.nil ?_ | (apply WO.op; · first | exact op_mv (by simp only [St.ev, ↓Tr.get_set, ↓reduceIte, Nat.reduceEqDiff, natA, a0, a1, a2, c, c2]; rfl) | exact op_bin (by simp only [St.ev, ↓Tr.get_set, ↓reduceIte, Nat.reduceEqDiff, natA, a0, a1, a2, c, c2]; rfl) (by simp only [St.ev, ↓Tr.get_set, ↓reduceIte, Nat.reduceEqDiff, natA, a0, a1, a2, c, c2]; rfl) (by simp only [binA, intCmpA, strA, natA, a0, a1, a2, c, c2]; rfl) | exact op_slen (by simp only [St.ev, ↓Tr.get_set, ↓reduceIte, Nat.reduceEqDiff, natA, a0, a1, a2, c, c2]; rfl) | exact op_pick (by simp only [St.ev, ↓Tr.get_set, ↓reduceIte, Nat.reduceEqDiff, natA, a0, a1, a2, c, c2]; rfl) (by first | exact .inl ⟨rfl, (by simp only [St.ev, ↓Tr.get_set, ↓reduceIte, Nat.reduceEqDiff, natA, a0, a1, a2, c, c2]; rfl)⟩ | exact .inr ⟨rfl, (by simp only [St.ev, ↓Tr.get_set, ↓reduceIte, Nat.reduceEqDiff, natA, a0, a1, a2, c, c2]; rfl)⟩) | (simp only [xval, xop, AR.ofV, St.ev, Tr.get_set, get_bump, next_bump, next_set, next_add, AHeap.get_set, reduceIte, Nat.reduceEqDiff, evL, evParts, fillA, AV.cells, natA, binA, intCmpA, unA, minA, maxA, Nat.add_assoc, Nat.reduceAdd, Nat.add_left_cancel_iff, Nat.add_eq_left, Nat.left_eq_add, loadA, cellsAt, storeA, Option.bind_some, iaddrA, aaddrA, a0, a1, a2, c, c2]; rfl)) | (apply WO.gop'; (· (simp only [St.ev, ↓Tr.get_set, ↓reduceIte, Nat.reduceEqDiff, natA, a0, a1, a2, c, c2]; rfl)); (· rfl); (· first | exact op_mv (by simp only [St.ev, ↓Tr.get_set, ↓reduceIte, Nat.reduceEqDiff, natA, a0, a1, a2, c, c2]; rfl) | exact op_bin (by simp only [St.ev, ↓Tr.get_set, ↓reduceIte, Nat.reduceEqDiff, natA, a0, a1, a2, c, c2]; rfl) (by simp only [St.ev, ↓Tr.get_set, ↓reduceIte, Nat.reduceEqDiff, natA, a0, a1, a2, c, c2]; rfl) (by simp only [binA, intCmpA, strA, natA, a0, a1, a2, c, c2]; rfl) | (simp only [xval, xop, AR.ofV, St.ev, Tr.get_set, get_bump, next_bump, next_set, next_add, AHeap.get_set, reduceIte, Nat.reduceEqDiff, evL, evParts, fillA, AV.cells, natA, binA, intCmpA, unA, minA, maxA, Nat.add_assoc, Nat.reduceAdd, Nat.add_left_cancel_iff, Nat.add_eq_left, Nat.left_eq_add, loadA, cellsAt, storeA, Option.bind_some, iaddrA, aaddrA, a0, a1, a2, c, c2]; rfl))) | refine pN ?_ | (apply W.condF'; (· (simp only [St.ev, ↓Tr.get_set, ↓reduceIte, Nat.reduceEqDiff, natA, a0, a1, a2, c, c2]; rfl)); (· rfl)) | fail)
      refine W.loop (α := Nat) (fun i S => i ≤ l.length ∧ S.tm.get 0 = some (.str s) ∧ S.tm.get 2 = some (.int .i64 gap) ∧ S.tm.get 8 = some (.ptr (H.next + 15) 0) ∧ S.tm.get 25 = some (.imm (encPairs l) l.length false) ∧ S.tm.get 26 = some (.int .i64 (l.length : Int)) ∧ S.tm.get 27 = some (.int .i64 (i : Int)) ∧
        S.H.get (H.next + 15) = some (.cells (ropeA s (rulesOf (l.take i)) gap (.map (H.next + 12)) (.map (H.next + 13))) none) ∧ H.next + 15 < S.H.next ∧ (l.take i).any badP = false ∧ S.H.get (H.next + 12) = some (.map []) ∧ S.H.get (H.next + 13) = some (.map [])) (fun i => l.length - i) 0 ?_ (by omega) ?_
      · refine ⟨Nat.zero_le _, by simp only [Tr.get_set, get_bump, next_bump, next_set, next_add, AHeap.get_set, reduceIte, Nat.reduceEqDiff]; exact a0, by simp only [Tr.get_set, get_bump, next_bump, next_set, next_add, AHeap.get_set, reduceIte, Nat.reduceEqDiff]; exact a2, by simp only [Tr.get_set, get_bump, next_bump, next_set, next_add, AHeap.get_set, reduceIte, Nat.reduceEqDiff], by simp only [Tr.get_set, get_bump, next_bump, next_set, next_add, AHeap.get_set, reduceIte, Nat.reduceEqDiff], by simp only [Tr.get_set, get_bump, next_bump, next_set, next_add, AHeap.get_set, reduceIte, Nat.reduceEqDiff], by simp only [Tr.get_set, get_bump, next_bump, next_set, next_add, AHeap.get_set, reduceIte, Nat.reduceEqDiff] <;> rfl, ?_, ?_, rfl, ?_, ?_⟩
        · simp only [Tr.get_set, get_bump, next_bump, next_set, next_add, AHeap.get_set, reduceIte, Nat.reduceEqDiff, Nat.add_assoc, Nat.reduceAdd, Nat.add_left_cancel_iff, Nat.add_eq_left, Nat.left_eq_add]
          rfl
        · simp only [next_bump, next_set]
          omega
        · simp only [Tr.get_set, get_bump, next_bump, next_set, next_add, AHeap.get_set, reduceIte, Nat.reduceEqDiff, Nat.add_assoc, Nat.reduceAdd, Nat.add_left_cancel_iff, Nat.add_eq_left, Nat.left_eq_add]
        · simp only [Tr.get_set, get_bump, next_bump, next_set, next_add, AHeap.get_set, reduceIte, Nat.reduceEqDiff, Nat.add_assoc, Nat.reduceAdd, Nat.add_left_cancel_iff, Nat.add_eq_left, Nat.left_eq_add]
      · rintro i ⟨tm1, H1⟩ ⟨hi, t0, t2, t8, t25, t26, t27, hR, hRn, hany, hka, hkb⟩
        simp only at t0 t2 t8 t25 t26 t27 hR hRn hka hkb
        by_cases he : i = l.length
        · have ci : decide ((i : Int) < (l.length : Int)) = false := by rw [decide_eq_false_iff_not]; omega
          rw [he, List.take_length] at hany hR
          have hE2 : readE s l gap = if gap < 0 ∨ gap > 5 then 1 else if s.all inS = true then 0 else 2 := by rw [hE, if_neg (by rw [hany]; simp)]
          by_cases hg0 : gap < 0
          · have cg : decide (gap < Int.ofNat 0) = true := decide_eq_true hg0
            repeat (first | refine W.seq ?_ | refine W.block ?_ | refine W.ret ?_ | refine W.exit ?_ | (apply W.reg; · (simp only [List.length_cons, List.length_nil, Nat.reduceAdd]; rfl)) | refine WO.nil ?_ | (apply WO.op; · first | exact op_mv (by simp only [St.ev, ↓Tr.get_set, ↓reduceIte, Nat.reduceEqDiff, natA, t0, t2, t8, t25, t26, t27, ci, cg]; rfl) | exact op_bin (by simp only [St.ev, ↓Tr.get_set, ↓reduceIte, Nat.reduceEqDiff, natA, t0, t2, t8, t25, t26, t27, ci, cg]; rfl) (by simp only [St.ev, ↓Tr.get_set, ↓reduceIte, Nat.reduceEqDiff, natA, t0, t2, t8, t25, t26, t27, ci, cg]; rfl) (by simp only [binA, intCmpA, strA, natA, t0, t2, t8, t25, t26, t27, ci, cg]; rfl) | exact op_pick (by simp only [St.ev, ↓Tr.get_set, ↓reduceIte, Nat.reduceEqDiff, natA, t0, t2, t8, t25, t26, t27, ci, cg]; rfl) (by first | exact .inl ⟨rfl, (by simp only [St.ev, ↓Tr.get_set, ↓reduceIte, Nat.reduceEqDiff, natA, t0, t2, t8, t25, t26, t27, ci, cg]; rfl)⟩ | exact .inr ⟨rfl, (by simp only [St.ev, ↓Tr.get_set, ↓reduceIte, Nat.reduceEqDiff, natA, t0, t2, t8, t25, t26, t27, ci, cg]; rfl)⟩)) | (apply WO.gno'; (· (simp only [St.ev, ↓Tr.get_set, ↓reduceIte, Nat.reduceEqDiff, natA, t0, t2, t8, t25, t26, t27, ci, cg]; rfl)); (· rfl)) | refine pN ?_ | refine pR ?_ | refine pX ?_ | refine bR ?_ | refine bX ?_ | (apply W.condT'; (· (simp only [St.ev, ↓Tr.get_set, ↓reduceIte, Nat.reduceEqDiff, natA, t0, t2, t8, t25, t26, t27, ci, cg]; rfl)); (· rfl)) | (apply W.condF'; (· (simp only [St.ev, ↓Tr.get_set, ↓reduceIte, Nat.reduceEqDiff, natA, t0, t2, t8, t25, t26, t27, ci, cg]; rfl)); (· rfl)) | fail)
            refine ⟨fun id q => (by cases q), _, by simp only [resL, resA, Tr.get_set, get_bump, next_bump, next_set, next_add, AHeap.get_set, reduceIte, Nat.reduceEqDiff] <;> rfl, .inl ?_⟩
            rw [hE2, if_pos (.inl hg0)]
            exact ⟨by omega, rfl⟩
          · have cg : decide (gap < Int.ofNat 0) = false := decide_eq_false hg0
            by_cases hg5 : gap > 5
            · have cg5 : decide (gap > Int.ofNat 5) = true := decide_eq_true hg5
              repeat (first | refine W.seq ?_ | refine W.block ?_ | refine W.ret ?_ | refine W.exit ?_ | (apply W.reg; · (simp only [List.length_cons, List.length_nil, Nat.reduceAdd]; rfl)) | refine WO.nil ?_ | (apply WO.op; · first | exact op_mv (by simp only [St.ev, ↓Tr.get_set, ↓reduceIte, Nat.reduceEqDiff, natA, t0, t2, t8, t25, t26, t27, ci, cg, cg5]; rfl) | exact op_bin (by simp only [St.ev, ↓Tr.get_set, ↓reduceIte, Nat.reduceEqDiff, natA, t0, t2, t8, t25, t26, t27, ci, cg, cg5]; rfl) (by simp only [St.ev, ↓Tr.get_set, ↓reduceIte, Nat.reduceEqDiff, natA, t0, t2, t8, t25, t26, t27, ci, cg, cg5]; rfl) (by simp only [binA, intCmpA, strA, natA, t0, t2, t8, t25, t26, t27, ci, cg, cg5]; rfl) | exact op_pick (by simp only [St.ev, ↓Tr.get_set, ↓reduceIte, Nat.reduceEqDiff, natA, t0, t2, t8, t25, t26, t27, ci, cg, cg5]; rfl) (by first | exact .inl ⟨rfl, (by simp only [St.ev, ↓Tr.get_set, ↓reduceIte, Nat.reduceEqDiff, natA, t0, t2, t8, t25, t26, t27, ci, cg, cg5]; rfl)⟩ | exact .inr ⟨rfl, (by simp only [St.ev, ↓Tr.get_set, ↓reduceIte, Nat.reduceEqDiff, natA, t0, t2, t8, t25, t26, t27, ci, cg, cg5]; rfl)⟩)) | (apply WO.gop'; (· (simp only [St.ev, ↓Tr.get_set, ↓reduceIte, Nat.reduceEqDiff, natA, t0, t2, t8, t25, t26, t27, ci, cg, cg5]; rfl)); (· rfl); (· first | exact op_mv (by simp only [St.ev, ↓Tr.get_set, ↓reduceIte, Nat.reduceEqDiff, natA, t0, t2, t8, t25, t26, t27, ci, cg, cg5]; rfl) | exact op_bin (by simp only [St.ev, ↓Tr.get_set, ↓reduceIte, Nat.reduceEqDiff, natA, t0, t2, t8, t25, t26, t27, ci, cg, cg5]; rfl) (by simp only [St.ev, ↓Tr.get_set, ↓reduceIte, Nat.reduceEqDiff, natA, t0, t2, t8, t25, t26, t27, ci, cg, cg5]; rfl) (by simp only [binA, intCmpA, strA, natA, t0, t2, t8, t25, t26, t27, ci, cg, cg5]; rfl))) | refine pN ?_ | refine pR ?_ | refine pX ?_ | refine bR ?_ | refine bX ?_ | (apply W.condT'; (· (simp only [St.ev, ↓Tr.get_set, ↓reduceIte, Nat.reduceEqDiff, natA, t0, t2, t8, t25, t26, t27, ci, cg, cg5]; rfl)); (· rfl)) | (apply W.condF'; (· (simp only [St.ev, ↓Tr.get_set, ↓reduceIte, Nat.reduceEqDiff, natA, t0, t2, t8, t25, t26, t27, ci, cg, cg5]; rfl)); (· rfl)) | fail)
              refine ⟨fun id q => (by cases q), _, by simp only [resL, resA, Tr.get_set, get_bump, next_bump, next_set, next_add, AHeap.get_set, reduceIte, Nat.reduceEqDiff] <;> rfl, .inl ?_⟩
              rw [hE2, if_pos (.inr hg5)]
              exact ⟨by omega, rfl⟩
            · have cg5 : decide (gap > Int.ofNat 5) = false := decide_eq_false hg5
              rw [if_neg (by omega)] at hE2
              repeat (first | refine W.seq ?_ | refine W.block ?_ | refine W.exit ?_ | (apply W.reg; · (simp only [List.length_cons, List.length_nil, Nat.reduceAdd]; rfl)) | refine WO.nil ?_ | (apply WO.op; · first | exact op_mv (by simp only [St.ev, ↓Tr.get_set, ↓reduceIte, Nat.reduceEqDiff, natA, t0, t2, t8, t25, t26, t27, ci, cg, cg5]; rfl) | exact op_bin (by simp only [St.ev, ↓Tr.get_set, ↓reduceIte, Nat.reduceEqDiff, natA, t0, t2, t8, t25, t26, t27, ci, cg, cg5]; rfl) (by simp only [St.ev, ↓Tr.get_set, ↓reduceIte, Nat.reduceEqDiff, natA, t0, t2, t8, t25, t26, t27, ci, cg, cg5]; rfl) (by simp only [binA, intCmpA, strA, natA, t0, t2, t8, t25, t26, t27, ci, cg, cg5]; rfl) | exact op_pick (by simp only [St.ev, ↓Tr.get_set, ↓reduceIte, Nat.reduceEqDiff, natA, t0, t2, t8, t25, t26, t27, ci, cg, cg5]; rfl) (by first | exact .inl ⟨rfl, (by simp only [St.ev, ↓Tr.get_set, ↓reduceIte, Nat.reduceEqDiff, natA, t0, t2, t8, t25, t26, t27, ci, cg, cg5]; rfl)⟩ | exact .inr ⟨rfl, (by simp only [St.ev, ↓Tr.get_set, ↓reduceIte, Nat.reduceEqDiff, natA, t0, t2, t8, t25, t26, t27, ci, cg, cg5]; rfl)⟩)) | (apply WO.gop'; (· (simp only [St.ev, ↓Tr.get_set, ↓reduceIte, Nat.reduceEqDiff, natA, t0, t2, t8, t25, t26, t27, ci, cg, cg5]; rfl)); (· rfl); (· first | exact op_mv (by simp only [St.ev, ↓Tr.get_set, ↓reduceIte, Nat.reduceEqDiff, natA, t0, t2, t8, t25, t26, t27, ci, cg, cg5]; rfl) | exact op_bin (by simp only [St.ev, ↓Tr.get_set, ↓reduceIte, Nat.reduceEqDiff, natA, t0, t2, t8, t25, t26, t27, ci, cg, cg5]; rfl) (by simp only [St.ev, ↓Tr.get_set, ↓reduceIte, Nat.reduceEqDiff, natA, t0, t2, t8, t25, t26, t27, ci, cg, cg5]; rfl) (by simp only [binA, intCmpA, strA, natA, t0, t2, t8, t25, t26, t27, ci, cg, cg5]; rfl))) | refine pN ?_ | refine pX ?_ | refine bX ?_ | (apply W.condF'; (· (simp only [St.ev, ↓Tr.get_set, ↓reduceIte, Nat.reduceEqDiff, natA, t0, t2, t8, t25, t26, t27, ci, cg, cg5]; rfl)); (· rfl)) | fail)
              obtain ⟨v, H2, h2, ⟨r, rfl, hr⟩, s2⟩ := Trim_ok (H := ((H1.bump 1).bump 7).bump 4) (k := k) s (by omega)
              refine WO.op (op_call (cs := []) (l := [.str s, .str [97, 98, 99, 100]]) (v := .str r) (H1 := H2) (by rfl) (evL2 (by simp only [St.ev, ↓Tr.get_set, ↓reduceIte, Nat.reduceEqDiff]) (by rfl)) h2) ?_
              have hR2 : H2.get (H.next + 15) = some (.cells (ropeA s (rulesOf l) gap (.map (H.next + 12)) (.map (H.next + 13))) none) := by
                rw [s2.2 _ (by simp only [next_bump]; omega)]
                exact hR
              have hka2 : H2.get (H.next + 12) = some (.map []) := by
                rw [s2.2 _ (by simp only [next_bump]; omega)]
                exact hka
              have hkb2 : H2.get (H.next + 13) = some (.map []) := by
                rw [s2.2 _ (by simp only [next_bump]; omega)]
                exact hkb
              have hn2 : H.next + 15 < H2.next := by have := s2.1; simp only [next_bump] at this; omega
              by_cases hall : s.all inS = true
              · have hr0 : r = [] := hr.2 hall
                subst hr0
                have ce : (!(([] : List UInt8) == [])) = false := rfl
                repeat (first | refine W.seq ?_ | refine W.skip ?_ | refine W.ret ?_ | (apply W.reg; · (simp only [List.length_cons, List.length_nil, Nat.reduceAdd]; rfl)) | refine WO.nil ?_ | (apply WO.op; · first | exact op_mv (by simp only [St.ev, ↓Tr.get_set, ↓reduceIte, Nat.reduceEqDiff, natA, t0, t2, t8, ce]; rfl) | exact op_bin (by simp only [St.ev, ↓Tr.get_set, ↓reduceIte, Nat.reduceEqDiff, natA, t0, t2, t8, ce]; rfl) (by simp only [St.ev, ↓Tr.get_set, ↓reduceIte, Nat.reduceEqDiff, natA, t0, t2, t8, ce]; rfl) (by simp only [binA, intCmpA, strA, natA, t0, t2, t8, ce]; rfl)) | refine pN ?_ | refine bN ?_ | (apply W.condF'; (· (simp only [St.ev, ↓Tr.get_set, ↓reduceIte, Nat.reduceEqDiff, natA, t0, t2, t8, ce]; rfl)); (· rfl)) | fail)
                refine ⟨fun id q => (by cases q), _, by simp only [resL, resA, Tr.get_set, get_bump, next_bump, next_set, next_add, AHeap.get_set, reduceIte, Nat.reduceEqDiff] <;> rfl, .inr ⟨by rw [hE2, if_pos hall], H.next + 15, H.next + 12, H.next + 13, rfl, ?_, ?_, hka2, hkb2, by omega, by omega⟩⟩
                · exact hR2
                · simp only [next_bump]; omega
              · have hr0 : ¬ r = [] := fun q => hall (hr.1 q)
                have ce : (!(r == [])) = true := by
                  cases r with
                  | nil => exact absurd rfl hr0
                  | cons b r => rfl
                repeat (first | refine W.seq ?_ | refine W.ret ?_ | (apply W.reg; · (simp only [List.length_cons, List.length_nil, Nat.reduceAdd]; rfl)) | refine WO.nil ?_ | (apply WO.op; · first | exact op_mv (by simp only [St.ev, ↓Tr.get_set, ↓reduceIte, Nat.reduceEqDiff, natA, t0, t2, t8, ce]; rfl) | exact op_bin (by simp only [St.ev, ↓Tr.get_set, ↓reduceIte, Nat.reduceEqDiff, natA, t0, t2, t8, ce]; rfl) (by simp only [St.ev, ↓Tr.get_set, ↓reduceIte, Nat.reduceEqDiff, natA, t0, t2, t8, ce]; rfl) (by simp only [binA, intCmpA, strA, natA, t0, t2, t8, ce]; rfl)) | refine pN ?_ | refine pR ?_ | refine bR ?_ | (apply W.condT'; (· (simp only [St.ev, ↓Tr.get_set, ↓reduceIte, Nat.reduceEqDiff, natA, t0, t2, t8, ce]; rfl)); (· rfl)) | fail)
                refine ⟨fun id q => (by cases q), _, by simp only [resL, resA, Tr.get_set, get_bump, next_bump, next_set, next_add, AHeap.get_set, reduceIte, Nat.reduceEqDiff] <;> rfl, .inl ?_⟩
                rw [hE2, if_neg hall]
                exact ⟨by omega, rfl⟩
        · have hlt : i < l.length := by omega
          have ci : decide ((i : Int) < (l.length : Int)) = true := by rw [decide_eq_true_eq]; omega
          obtain ⟨p, hp⟩ : ∃ p, l[i]? = some p := ⟨_, List.getElem?_eq_getElem hlt⟩
          have hpe := encPairs_at l i p hp
          have hlen2 : 2 ≤ ((encPairs l).drop (i * 2)).length := by
            rw [List.length_drop, encPairs_length]; omega
          have hw : wrapA .i64 ((i : Int) + Int.ofNat 1) = ((i + 1 : Nat) : Int) := by
            show wrapA .i64 ((i : Int) + 1) = _
            rw [wrapI _ (by omega) (by omega)]; omega
          repeat (first | refine W.seq ?_ | refine W.block ?_ | refine W.skip ?_ | (apply W.reg; · (simp only [List.length_cons, List.length_nil, Nat.reduceAdd]; rfl)) | refine WO.nil ?_ | (apply WO.op; · first | exact op_bin (by simp only [St.ev, ↓Tr.get_set, ↓reduceIte, Nat.reduceEqDiff, natA, t0, t2, t8, t25, t26, t27, ci]; rfl) (by simp only [St.ev, ↓Tr.get_set, ↓reduceIte, Nat.reduceEqDiff, natA, t0, t2, t8, t25, t26, t27, ci]; rfl) (by simp only [binA, intCmpA, strA, natA, t0, t2, t8, t25, t26, t27, ci]; rfl)) | refine pN ?_ | (apply W.condT'; (· (simp only [St.ev, ↓Tr.get_set, ↓reduceIte, Nat.reduceEqDiff, natA, t0, t2, t8, t25, t26, t27, ci]; rfl)); (· rfl)) | fail)
          refine WO.op (op_imm (cs := encPairs l) (l := l.length) (fl := false) (j := i) (k := .i64) (by simp only [St.ev, ↓Tr.get_set, ↓reduceIte, Nat.reduceEqDiff, t25]) (by simp only [St.ev, ↓Tr.get_set, ↓reduceIte, Nat.reduceEqDiff, t27]) hlt) ?_
          refine WO.op (op_iload (cs := encPairs l) (o := i * 2) (by simp only [St.ev, ↓Tr.get_set, ↓reduceIte, Nat.reduceEqDiff]) hlen2) ?_
          rw [hpe]
          generalize hPn : (H1.bump 1).next + 1 + 1 = P
          have hP1 : H1.next < P := by rw [← hPn, next_bump]; omega
          have hP2 : P < ((H1.bump 1).bump 4).next := by rw [← hPn]; simp only [next_bump]; omega
          have hR1 : ((H1.bump 1).bump 4).get (H.next + 15) = some (.cells (ropeA s (rulesOf (l.take i)) gap (.map (H.next + 12)) (.map (H.next + 13))) none) := hR
          have hka1 : ((H1.bump 1).bump 4).get (H.next + 12) = some (.map []) := hka
          have hkb1 : ((H1.bump 1).bump 4).get (H.next + 13) = some (.map []) := hkb
          generalize (H1.bump 1).bump 4 = H2 at hP2 hR1 hka1 hkb1
          refine WO.alloc (fun H3 hc3 hg3 hn3 => ?_)
          refine WO.store (i := P) (o := 0) (v := .agg [.int .i64 p.1, .int .i64 p.2]) (by simp only [St.ev, ↓Tr.get_set, ↓reduceIte, Nat.reduceEqDiff]) (by simp only [St.ev, ↓Tr.get_set, ↓reduceIte, Nat.reduceEqDiff]) hc3 rfl rfl (by simp) (fun H4 hc4 hg4 hn4 => ?_)
          have hP4 : H4.get P = some (.cells [.int .i64 p.1, .int .i64 p.2] none) := hc4
          have hR4 : H4.get (H.next + 15) = some (.cells (ropeA s (rulesOf (l.take i)) gap (.map (H.next + 12)) (.map (H.next + 13))) none) := by rw [hg4 _ (by omega), hg3 _ (by omega)]; exact hR1
          have hka4 : H4.get (H.next + 12) = some (.map []) := by rw [hg4 _ (by omega), hg3 _ (by omega)]; exact hka1
          have hkb4 : H4.get (H.next + 13) = some (.map []) := by rw [hg4 _ (by omega), hg3 _ (by omega)]; exact hkb1
          have hn5 : P < H4.next := by omega
          clear hc3 hg3 hc4 hg4
          refine WO.nil (pN (W.seq (W.seq ?_)))
          refine W.rg 14 rfl (fun H5 hg5 hn6 => ?_)
          have hP5 : H5.get P = some (.cells [.int .i64 p.1, .int .i64 p.2] none) := by rw [hg5]; exact hP4
          have hR5 : H5.get (H.next + 15) = some (.cells (ropeA s (rulesOf (l.take i)) gap (.map (H.next + 12)) (.map (H.next + 13))) none) := by rw [hg5]; exact hR4
          have hka5 : H5.get (H.next + 12) = some (.map []) := by rw [hg5]; exact hka4
          have hkb5 : H5.get (H.next + 13) = some (.map []) := by rw [hg5]; exact hkb4
          refine WO.op (op_faddr (i := P) (p := 0) (by simp only [St.ev, ↓Tr.get_set, ↓reduceIte, Nat.reduceEqDiff])) ?_
          refine WO.op (op_loadc (i := P) (o := 0 + 0) (v := .int .i64 p.1) (by simp only [St.ev, ↓Tr.get_set, ↓reduceIte, Nat.reduceEqDiff]) hP5 rfl) ?_
          refine WO.op (op_faddr (i := P) (p := 0) (by simp only [St.ev, ↓Tr.get_set, ↓reduceIte, Nat.reduceEqDiff])) ?_
          refine WO.op (op_loadc (i := P) (o := 0 + 1) (v := .int .i64 p.2) (by simp only [St.ev, ↓Tr.get_set, ↓reduceIte, Nat.reduceEqDiff]) hP5 rfl) ?_
          refine WO.op (op_mn2 (k := .i64) (a := p.1) (b := p.2) (by simp only [St.ev, ↓Tr.get_set, ↓reduceIte, Nat.reduceEqDiff]) (by simp only [St.ev, ↓Tr.get_set, ↓reduceIte, Nat.reduceEqDiff])) ?_
          have hsucc : (l.take (i + 1)).any badP = badP p := by
            rw [List.take_add_one, hp, List.any_append, hany]
            simp
          have hbadE : badP p = true → readE s l gap = 1 := by
            intro hb
            rw [hE, if_pos (List.any_eq_true.2 ⟨p, List.mem_of_getElem? hp, hb⟩)]
          by_cases hmn : (if p.2 < p.1 then p.2 else p.1) < 0
          · have cm : decide ((if p.2 < p.1 then p.2 else p.1) < Int.ofNat 0) = true := decide_eq_true hmn
            have hb : badP p = true := (bad_iff p).2 (.inl hmn)
            refine WO.op (op_bin (a := .int .i64 (if p.2 < p.1 then p.2 else p.1)) (b := .int .i64 (Int.ofNat 0)) (v := .bool true) (by simp only [St.ev, ↓Tr.get_set, ↓reduceIte, Nat.reduceEqDiff]) (by rfl) (by simp only [binA, intCmpA, cm]; rfl)) ?_
            repeat (first | refine W.seq ?_ | refine W.ret ?_ | (apply W.reg; · (simp only [List.length_cons, List.length_nil, Nat.reduceAdd]; rfl)) | refine WO.nil ?_ | (apply WO.op; · first | exact op_mv (by simp only [St.ev, ↓Tr.get_set, ↓reduceIte, Nat.reduceEqDiff, natA]; rfl) | exact op_pick (by simp only [St.ev, ↓Tr.get_set, ↓reduceIte, Nat.reduceEqDiff, natA]; rfl) (by first | exact .inl ⟨rfl, (by simp only [St.ev, ↓Tr.get_set, ↓reduceIte, Nat.reduceEqDiff, natA]; rfl)⟩ | exact .inr ⟨rfl, (by simp only [St.ev, ↓Tr.get_set, ↓reduceIte, Nat.reduceEqDiff, natA]; rfl)⟩)) | (apply WO.gno'; (· (simp only [St.ev, ↓Tr.get_set, ↓reduceIte, Nat.reduceEqDiff, natA]; rfl)); (· rfl)) | refine pN ?_ | refine pR ?_ | refine bR ?_ | (apply W.condT'; (· (simp only [St.ev, ↓Tr.get_set, ↓reduceIte, Nat.reduceEqDiff, natA]; rfl)); (· rfl)) | fail)
            refine ⟨fun id q => (by cases q), _, by simp only [resL, resA, Tr.get_set, get_bump, next_bump, next_set, next_add, AHeap.get_set, reduceIte, Nat.reduceEqDiff] <;> rfl, .inl ?_⟩
            rw [hbadE hb]
            exact ⟨by omega, rfl⟩
          · have cm : decide ((if p.2 < p.1 then p.2 else p.1) < Int.ofNat 0) = false := decide_eq_false hmn
            refine WO.op (op_bin (a := .int .i64 (if p.2 < p.1 then p.2 else p.1)) (b := .int .i64 (Int.ofNat 0)) (v := .bool false) (by simp only [St.ev, ↓Tr.get_set, ↓reduceIte, Nat.reduceEqDiff]) (by rfl) (by simp only [binA, intCmpA, cm]; rfl)) ?_
            refine WO.op (op_mv (v := .bool false) (by simp only [St.ev, ↓Tr.get_set, ↓reduceIte, Nat.reduceEqDiff])) ?_
            refine WO.gop' (by simp only [St.ev, ↓Tr.get_set, ↓reduceIte, Nat.reduceEqDiff]; rfl) (by rfl) (op_faddr (i := P) (p := 0) (by simp only [St.ev, ↓Tr.get_set, ↓reduceIte, Nat.reduceEqDiff])) ?_
            refine WO.gop' (by simp only [St.ev, ↓Tr.get_set, ↓reduceIte, Nat.reduceEqDiff]; rfl) (by rfl) (op_loadc (i := P) (o := 0 + 0) (v := .int .i64 p.1) (by simp only [St.ev, ↓Tr.get_set, ↓reduceIte, Nat.reduceEqDiff]) hP5 rfl) ?_
            refine WO.gop' (by simp only [St.ev, ↓Tr.get_set, ↓reduceIte, Nat.reduceEqDiff]; rfl) (by rfl) (op_faddr (i := P) (p := 0) (by simp only [St.ev, ↓Tr.get_set, ↓reduceIte, Nat.reduceEqDiff])) ?_
            refine WO.gop' (by simp only [St.ev, ↓Tr.get_set, ↓reduceIte, Nat.reduceEqDiff]; rfl) (by rfl) (op_loadc (i := P) (o := 0 + 1) (v := .int .i64 p.2) (by simp only [St.ev, ↓Tr.get_set, ↓reduceIte, Nat.reduceEqDiff]) hP5 rfl) ?_
            refine WO.gop' (by simp only [St.ev, ↓Tr.get_set, ↓reduceIte, Nat.reduceEqDiff]; rfl) (by rfl) (op_mx2 (k := .i64) (a := p.1) (b := p.2) (by simp only [St.ev, ↓Tr.get_set, ↓reduceIte, Nat.reduceEqDiff]) (by simp only [St.ev, ↓Tr.get_set, ↓reduceIte, Nat.reduceEqDiff])) ?_
            by_cases hmx : (if p.2 > p.1 then p.2 else p.1) ≥ 4
            · have cx : decide ((if p.2 > p.1 then p.2 else p.1) ≥ Int.ofNat 4) = true := decide_eq_true hmx
              have hb : badP p = true := (bad_iff p).2 (.inr hmx)
              refine WO.gop' (by simp only [St.ev, ↓Tr.get_set, ↓reduceIte, Nat.reduceEqDiff]; rfl) (by rfl) (op_bin (a := .int .i64 (if p.2 > p.1 then p.2 else p.1)) (b := .int .i64 (Int.ofNat 4)) (v := .bool true) (by simp only [St.ev, ↓Tr.get_set, ↓reduceIte, Nat.reduceEqDiff]) (by rfl) (by simp only [binA, intCmpA, cx]; rfl)) ?_
              repeat (first | refine W.seq ?_ | refine W.ret ?_ | (apply W.reg; · (simp only [List.length_cons, List.length_nil, Nat.reduceAdd]; rfl)) | refine WO.nil ?_ | (apply WO.op; · first | exact op_mv (by simp only [St.ev, ↓Tr.get_set, ↓reduceIte, Nat.reduceEqDiff, natA]; rfl) | exact op_pick (by simp only [St.ev, ↓Tr.get_set, ↓reduceIte, Nat.reduceEqDiff, natA]; rfl) (by first | exact .inl ⟨rfl, (by simp only [St.ev, ↓Tr.get_set, ↓reduceIte, Nat.reduceEqDiff, natA]; rfl)⟩ | exact .inr ⟨rfl, (by simp only [St.ev, ↓Tr.get_set, ↓reduceIte, Nat.reduceEqDiff, natA]; rfl)⟩)) | refine pN ?_ | refine pR ?_ | refine bR ?_ | (apply W.condT'; (· (simp only [St.ev, ↓Tr.get_set, ↓reduceIte, Nat.reduceEqDiff, natA]; rfl)); (· rfl)) | fail)
              refine ⟨fun id q => (by cases q), _, by simp only [resL, resA, Tr.get_set, get_bump, next_bump, next_set, next_add, AHeap.get_set, reduceIte, Nat.reduceEqDiff] <;> rfl, .inl ?_⟩
              rw [hbadE hb]
              exact ⟨by omega, rfl⟩
            · have cx : decide ((if p.2 > p.1 then p.2 else p.1) ≥ Int.ofNat 4) = false := decide_eq_false hmx
              have hb : badP p = false := by
                rw [Bool.eq_false_iff]
                intro q
                rcases (bad_iff p).1 q with q | q
                · exact hmn q
                · exact hmx q
              refine WO.gop' (by simp only [St.ev, ↓Tr.get_set, ↓reduceIte, Nat.reduceEqDiff]; rfl) (by rfl) (op_bin (a := .int .i64 (if p.2 > p.1 then p.2 else p.1)) (b := .int .i64 (Int.ofNat 4)) (v := .bool false) (by simp only [St.ev, ↓Tr.get_set, ↓reduceIte, Nat.reduceEqDiff]) (by rfl) (by simp only [binA, intCmpA, cx]; rfl)) ?_
              refine WO.op (op_pick (w := .bool false) (v := .bool false) (by simp only [St.ev, ↓Tr.get_set, ↓reduceIte, Nat.reduceEqDiff]) (.inr ⟨rfl, (by simp only [St.ev, ↓Tr.get_set, ↓reduceIte, Nat.reduceEqDiff])⟩)) ?_
              refine WO.nil (pN (W.condF (by simp only [St.ev, ↓Tr.get_set, ↓reduceIte, Nat.reduceEqDiff]) (W.skip (pN ?_))))
              -- the letters' numbers
              obtain ⟨⟨x, y⟩, hxy⟩ : ∃ q : Nat × Nat, p = ((q.1 : Int), (q.2 : Int)) := by
                simp only [badP, Bool.or_eq_false_iff, decide_eq_false_iff_not] at hb
                exact ⟨(p.1.toNat, p.2.toNat), by obtain ⟨p1, p2⟩ := p; simp only [Prod.mk.injEq] at hb ⊢; omega⟩
              have hx4 : x < 4 ∧ y < 4 := by
                rw [hxy] at hb
                simp only [badP, Bool.or_eq_false_iff, decide_eq_false_iff_not] at hb
                omega
              rw [hxy] at hP5
              simp only at hP5
              have hRP : H.next + 15 ≠ P := by omega
              refine W.regd 20 rfl ?_
              have hP6 : (H5.bump 20).get P = some (.cells [.int .i64 (x : Int), .int .i64 (y : Int)] none) := hP5
              have hR6 : (H5.bump 20).get (H.next + 15) = some (.cells (ropeA s (rulesOf (l.take i)) gap (.map (H.next + 12)) (.map (H.next + 13))) none) := hR5
              have hn7 : (H5.bump 20).next = H5.next + 20 := rfl
              have hka6 : (H5.bump 20).get (H.next + 12) = some (.map []) := hka5
              have hkb6 : (H5.bump 20).get (H.next + 13) = some (.map []) := hkb5
              generalize H5.bump 20 = H6 at hP6 hR6 hn7 hka6 hkb6
              refine WT.op (op_mv (v := .ptr (H.next + 15) 0) (by simp only [St.ev, ↓Tr.get_set, ↓reduceIte, Nat.reduceEqDiff, t8])) ?_
              refine WT.op (op_faddr (i := P) (p := 0) (by simp only [St.ev, ↓Tr.get_set, ↓reduceIte, Nat.reduceEqDiff])) ?_
              refine WT.op (op_loadc (i := P) (o := 0 + 0) (v := .int .i64 (x : Int)) (by simp only [St.ev, ↓Tr.get_set, ↓reduceIte, Nat.reduceEqDiff]) hP6 rfl) ?_
              refine WT.op (op_faddr (i := P) (p := 0) (by simp only [St.ev, ↓Tr.get_set, ↓reduceIte, Nat.reduceEqDiff])) ?_
              refine WT.op (op_loadc (i := P) (o := 0 + 1) (v := .int .i64 (y : Int)) (by simp only [St.ev, ↓Tr.get_set, ↓reduceIte, Nat.reduceEqDiff]) hP6 rfl) ?_
              refine WT.op (op_mv (v := .ptr (H.next + 15) 0) (by simp only [St.ev, ↓Tr.get_set, ↓reduceIte, Nat.reduceEqDiff, t8])) ?_
              refine WT.op (op_faddr (i := P) (p := 0) (by simp only [St.ev, ↓Tr.get_set, ↓reduceIte, Nat.reduceEqDiff])) ?_
              refine WT.op (op_loadc (i := P) (o := 0 + 1) (v := .int .i64 (y : Int)) (by simp only [St.ev, ↓Tr.get_set, ↓reduceIte, Nat.reduceEqDiff]) hP6 rfl) ?_
              refine WT.op (op_faddr (i := P) (p := 0) (by simp only [St.ev, ↓Tr.get_set, ↓reduceIte, Nat.reduceEqDiff])) ?_
              refine WT.op (op_loadc (i := P) (o := 0 + 0) (v := .int .i64 (x : Int)) (by simp only [St.ev, ↓Tr.get_set, ↓reduceIte, Nat.reduceEqDiff]) hP6 rfl) ?_
              refine WT.op (op_nilc (i := H.next + 15) (p := 0) (by simp only [St.ev, ↓Tr.get_set, ↓reduceIte, Nat.reduceEqDiff])) ?_
              refine WT.op (op_faddr (i := H.next + 15) (p := 0) (by simp only [St.ev, ↓Tr.get_set, ↓reduceIte, Nat.reduceEqDiff])) ?_
              refine WT.op (op_aaddr (i := H.next + 15) (p := 0 + 1) (j := x) (k := .i64) (by simp only [St.ev, ↓Tr.get_set, ↓reduceIte, Nat.reduceEqDiff]) (by simp only [St.ev, ↓Tr.get_set, ↓reduceIte, Nat.reduceEqDiff]) hx4.1) ?_
              refine WT.op (op_aaddr (i := H.next + 15) (p := 0 + 1 + x * 4) (j := y) (k := .i64) (by simp only [St.ev, ↓Tr.get_set, ↓reduceIte, Nat.reduceEqDiff]) (by simp only [St.ev, ↓Tr.get_set, ↓reduceIte, Nat.reduceEqDiff]) hx4.2) ?_
              have hrl := rulesOf_len (l.take i)
              refine WT.store (i := H.next + 15) (o := 0 + 1 + x * 4 + y * 1) (v := .bool true) (by simp only [St.ev, ↓Tr.get_set, ↓reduceIte, Nat.reduceEqDiff]) (by rfl) hR6 rfl rfl (by rw [ropeA_len, hrl]; omega) (fun H7 hc7 hg7 hn8 => ?_)
              have hR7 : H7.get (H.next + 15) = some (.cells (ropeA s ((rulesOf (l.take i)).set (x * 4 + y) true) gap (.map (H.next + 12)) (.map (H.next + 13))) none) := by
                rw [hc7, show 0 + 1 + x * 4 + y * 1 = 1 + (x * 4 + y) by omega]
                simp only [AV.cells]
                rw [ropeA_set (by rw [hrl]; omega)]
              have hP7 : H7.get P = some (.cells [.int .i64 (x : Int), .int .i64 (y : Int)] none) := by rw [hg7 P (fun q => hRP q.symm)]; exact hP6
              refine WT.op (op_nilc (i := H.next + 15) (p := 0) (by simp only [St.ev, ↓Tr.get_set, ↓reduceIte, Nat.reduceEqDiff])) ?_
              refine WT.op (op_faddr (i := H.next + 15) (p := 0) (by simp only [St.ev, ↓Tr.get_set, ↓reduceIte, Nat.reduceEqDiff])) ?_
              refine WT.op (op_aaddr (i := H.next + 15) (p := 0 + 1) (j := y) (k := .i64) (by simp only [St.ev, ↓Tr.get_set, ↓reduceIte, Nat.reduceEqDiff]) (by simp only [St.ev, ↓Tr.get_set, ↓reduceIte, Nat.reduceEqDiff]) hx4.2) ?_
              refine WT.op (op_aaddr (i := H.next + 15) (p := 0 + 1 + y * 4) (j := x) (k := .i64) (by simp only [St.ev, ↓Tr.get_set, ↓reduceIte, Nat.reduceEqDiff]) (by simp only [St.ev, ↓Tr.get_set, ↓reduceIte, Nat.reduceEqDiff]) hx4.1) ?_
              refine WT.store (i := H.next + 15) (o := 0 + 1 + y * 4 + x * 1) (v := .bool true) (by simp only [St.ev, ↓Tr.get_set, ↓reduceIte, Nat.reduceEqDiff]) (by rfl) hR7 rfl rfl (by rw [ropeA_len, List.length_set, hrl]; omega) (fun H8 hc8 hg8 hn9 => ?_)
              have hR8 : H8.get (H.next + 15) = some (.cells (ropeA s (rulesOf (l.take (i + 1))) gap (.map (H.next + 12)) (.map (H.next + 13))) none) := by
                rw [hc8, show 0 + 1 + y * 4 + x * 1 = 1 + (y * 4 + x) by omega]
                simp only [AV.cells]
                rw [ropeA_set (by rw [List.length_set, hrl]; omega)]
                have : rulesOf (l.take (i + 1)) = ((rulesOf (l.take i)).set (x * 4 + y) true).set (y * 4 + x) true := by
                  rw [List.take_add_one, hp, rulesOf, List.foldl_append]
                  simp only [Option.toList_some, List.foldl_cons, List.foldl_nil, hxy, Int.toNat_natCast]
                  rfl
                rw [this]
              have hka8 : H8.get (H.next + 12) = some (.map []) := by rw [hg8 _ (by omega), hg7 _ (by omega)]; exact hka6
              have hkb8 : H8.get (H.next + 13) = some (.map []) := by rw [hg8 _ (by omega), hg7 _ (by omega)]; exact hkb6
              refine WT.nil ⟨?_, rfl, _, rfl, bN (pN ?_)⟩
              · rw [List.all_cons, List.all_cons, List.all_nil, Bool.and_true, Bool.and_eq_true]
                constructor
                · refine looseOk_of (o := ⟨some 52, .load none (.t 51), none⟩) rfl rfl rfl (x := .int .i64 (y : Int)) (xop_loadc (i := P) (o := 0 + 1) (by simp only [St.ev, ↓Tr.get_set, ↓reduceIte, Nat.reduceEqDiff]) hP6 rfl) (fun j hj => ?_) (by simp [AV.beq])
                  simp only [List.map_cons, List.map_nil, List.cons_append, List.nil_append, List.mem_cons, List.not_mem_nil, or_false] at hj
                  rcases hj with rfl | rfl | rfl
                  · exact ⟨_, rfl, xop_loadc (i := P) (o := 0 + 1) (by simp only [St.ev, ↓Tr.get_set, ↓reduceIte, Nat.reduceEqDiff]) hP6 rfl⟩
                  · exact ⟨_, rfl, xop_loadc (i := P) (o := 0 + 1) (by simp only [St.ev, ↓Tr.get_set, ↓reduceIte, Nat.reduceEqDiff]) hP6 rfl⟩
                  · exact ⟨_, rfl, xop_loadc (i := P) (o := 0 + 1) (by simp only [St.ev, ↓Tr.get_set, ↓reduceIte, Nat.reduceEqDiff]) hP7 rfl⟩
                · refine looseOk_of (o := ⟨some 54, .load none (.t 53), none⟩) rfl rfl rfl (x := .int .i64 (x : Int)) (xop_loadc (i := P) (o := 0 + 0) (by simp only [St.ev, ↓Tr.get_set, ↓reduceIte, Nat.reduceEqDiff]) hP6 rfl) (fun j hj => ?_) (by simp [AV.beq])
                  simp only [List.map_cons, List.map_nil, List.cons_append, List.nil_append, List.mem_cons, List.not_mem_nil, or_false] at hj
                  rcases hj with rfl | rfl | rfl
                  · exact ⟨_, rfl, xop_loadc (i := P) (o := 0 + 0) (by simp only [St.ev, ↓Tr.get_set, ↓reduceIte, Nat.reduceEqDiff]) hP6 rfl⟩
                  · exact ⟨_, rfl, xop_loadc (i := P) (o := 0 + 0) (by simp only [St.ev, ↓Tr.get_set, ↓reduceIte, Nat.reduceEqDiff]) hP6 rfl⟩
                  · exact ⟨_, rfl, xop_loadc (i := P) (o := 0 + 0) (by simp only [St.ev, ↓Tr.get_set, ↓reduceIte, Nat.reduceEqDiff]) hP7 rfl⟩
              · repeat (first | (apply W.reg; · (simp only [List.length_cons, List.length_nil, Nat.reduceAdd]; rfl)) | refine WO.nil ?_ | (apply WO.op; · first | exact op_mv (by simp only [St.ev, ↓Tr.get_set, ↓reduceIte, Nat.reduceEqDiff, natA, t27, hw]; rfl) | exact op_bin (by simp only [St.ev, ↓Tr.get_set, ↓reduceIte, Nat.reduceEqDiff, natA, t27, hw]; rfl) (by simp only [St.ev, ↓Tr.get_set, ↓reduceIte, Nat.reduceEqDiff, natA, t27, hw]; rfl) (by simp only [binA, intCmpA, strA, natA, t27, hw]; rfl)) | refine pN ?_ | fail)
                exact ⟨i + 1, ⟨by omega, by simp only [Tr.get_set, get_bump, next_bump, next_set, next_add, AHeap.get_set, reduceIte, Nat.reduceEqDiff]; exact t0, by simp only [Tr.get_set, get_bump, next_bump, next_set, next_add, AHeap.get_set, reduceIte, Nat.reduceEqDiff]; exact t2, by simp only [Tr.get_set, get_bump, next_bump, next_set, next_add, AHeap.get_set, reduceIte, Nat.reduceEqDiff]; exact t8, by simp only [Tr.get_set, get_bump, next_bump, next_set, next_add, AHeap.get_set, reduceIte, Nat.reduceEqDiff]; exact t25, by simp only [Tr.get_set, get_bump, next_bump, next_set, next_add, AHeap.get_set, reduceIte, Nat.reduceEqDiff]; exact t26, by simp only [Tr.get_set, get_bump, next_bump, next_set, next_add, AHeap.get_set, reduceIte, Nat.reduceEqDiff], hR8, by show H.next + 15 < H8.next + 2; omega, by rw [hsucc, hb], hka8, hkb8⟩, by omega⟩
end Go.Proofs.YtfcgofffalmdfaaDoor.PA
namespace Go.Eng
mutual
theorem AV.beq_refl : ∀ v : AV, AV.beq v v = true
  | .bool a => by simp [AV.beq]
  | .int k a => by simp [AV.beq]
  | .str a => by simp [AV.beq]
  | .ptr a b => by simp [AV.beq]
  | .nilp => by simp [AV.beq]
  | .nils => by simp [AV.beq]
  | .nilm => by simp [AV.beq]
  | .nilf => by simp [AV.beq]
  | .nili => by simp [AV.beq]
  | .sl a b c d => by simp [AV.beq]
  | .map a => by simp [AV.beq]
  | .fn f l => by simp [AV.beq, AV.beqL_refl l]
  | .ifc t x => by simp [AV.beq, AV.beq_refl x]
  | .agg l => by simp [AV.beq, AV.beqL_refl l]
  | .tup l => by simp [AV.beq, AV.beqL_refl l]
  | .imm l a b => by simp [AV.beq, AV.beqL_refl l]
  | .iptr l a => by simp [AV.beq, AV.beqL_refl l]
  | .glob a b => by simp [AV.beq]
theorem AV.beqL_refl : ∀ l : List AV, AV.beqL l l = true
  | [] => by simp [AV.beqL]
  | x :: l => by simp [AV.beqL, AV.beq_refl x, AV.beqL_refl l]
end
def WC (cf : CF) (ops : List XOper) (n : Nat) (tm : Tr AV) (H : AHeap) (Q : St → Prop) : Prop :=
  ∃ tr, xtrace cf ops n ⟨tm, H⟩ = some tr ∧ (∀ t ∈ tr, t.H = H) ∧ ∃ s', tr.getLast? = some s' ∧ Q s'
section
variable {cf : CF} {n : Nat} {tm : Tr AV} {H : AHeap} {Q : St → Prop}
theorem WC.nil (h : Q ⟨tm, H⟩) : WC cf [] n tm H Q := ⟨_, rfl, by simp, _, rfl, h⟩
theorem WC.step {o : XOper} {r : List XOper} {tm1 : Tr AV} (h : xstep cf ⟨tm, H⟩ n o = some ⟨tm1, H⟩) (k : WC cf r (n + 1) tm1 H Q) : WC cf (o :: r) n tm H Q := by
  obtain ⟨tr, h1, h2, s', h3, h4⟩ := k
  refine ⟨⟨tm, H⟩ :: tr, by simp only [xtrace, h, h1, Option.map_some], fun t ht => ?_, s', by rw [List.getLast?_cons, h3]; rfl, h4⟩
  rcases List.mem_cons.1 ht with rfl | ht
  · rfl
  · exact h2 t ht
theorem WC.op {d : Nat} {op : XOp} {r : List XOper} {v : AV} (h : xval cf (St.ev tm) H n op = some (v, H)) (k : WC cf r (n + 1) (tm.set d (some v)) H Q) : WC cf (⟨some d, op, none⟩ :: r) n tm H Q :=
  WC.step (by simp only [xstep, wantedA, h, putT]) k
theorem WC.gop' {d : Nat} {op : XOp} {r : List XOper} {v u : AV} {g : Nat} {b : Bool} (hg : tm.get g = some u) (hu : u = .bool b) (h : xval cf (St.ev tm) H n op = some (v, H)) (k : WC cf r (n + 1) (tm.set d (some v)) H Q) : WC cf (⟨some d, op, some (g, b)⟩ :: r) n tm H Q :=
  WC.step (by subst hu; simp only [xstep, wantedA, hg, beq_self_eq_true, h, putT]) k
theorem WC.gno' {d : Nat} {op : XOp} {r : List XOper} {u : AV} {g : Nat} {b : Bool} (hg : tm.get g = some u) (hu : u = .bool (!b)) (k : WC cf r (n + 1) (tm.set d (some undefA)) H Q) : WC cf (⟨some d, op, some (g, b)⟩ :: r) n tm H Q :=
  WC.step (by subst hu; cases b <;> simp [xstep, wantedA, hg, putT]) k
theorem WC.named {ops : List XOper} (h : ∀ tX, tX = tm → WC cf ops n tX H Q) : WC cf ops n tm H Q := h tm rfl
theorem xtrace_len : ∀ (ops : List XOper) (n : Nat) (s : St) (tr : List St), xtrace cf ops n s = some tr → tr.length = ops.length + 1
  | [], _, _, tr, h => by cases h; rfl
  | o :: r, n, s, tr, h => by
    simp only [xtrace] at h
    split at h
    · rename_i s1 h1
      obtain ⟨tr1, h2, rfl⟩ := Option.map_eq_some_iff.1 h
      simp [xtrace_len r _ _ _ h2]
    · cases h
theorem xtrace_at : ∀ (ops : List XOper) (n : Nat) (s : St) (tr : List St), xtrace cf ops n s = some tr → ∀ i o, ops[i]? = some o → ∃ t t', tr[i]? = some t ∧ xstep cf t (n + i) o = some t'
  | [], _, _, tr, h, i, o, hi => by simp at hi
  | o :: r, n, s, tr, h, i, o', hi => by
    simp only [xtrace] at h
    split at h
    · rename_i s1 h1
      obtain ⟨tr1, h2, rfl⟩ := Option.map_eq_some_iff.1 h
      cases i with
      | zero => simp at hi; subst hi; exact ⟨s, s1, rfl, h1⟩
      | succ i =>
        obtain ⟨t, t', q1, q2⟩ := xtrace_at r _ _ _ h2 i o' (by simpa using hi)
        exact ⟨t, t', by simpa using q1, by rw [show n + (i + 1) = n + 1 + i by omega]; exact q2⟩
    · cases h
def looseB (ops : List XOper) (l : Nat × List Nat × List Nat) : Bool :=
  l.2.2.isEmpty && (l.1 :: (l.2.1 ++ l.2.1.map (· + 1))).all (fun i => Nat.ble i ops.length) && (match ops[l.1]? with | some ⟨_, .load _ _, _⟩ => true | _ => false)
theorem W.regC {fuel : Nat} {ops : List XOper} {lo : List (Nat × List Nat × List Nat)} {Q : XE → St → Prop} (k : Nat) (hk : ops.length = k) (hlo : lo.all (looseB ops) = true) (h : ∀ H1 : AHeap, (∀ j, H1.get j = H.get j) → H1.next = H.next + k → WC cf ops H.next tm H1 (Q .normal)) : W cf fuel (.regd ops lo []) ⟨tm, H⟩ Q := by
  refine W.regd k hk ?_
  obtain ⟨tr, h1, h2, s', h3, h4⟩ := h (H.bump k) (fun j => get_bump _ _ _) rfl
  refine ⟨tr, h1, ?_, by simp [freshOk], s', h3, h4⟩
  rw [List.all_eq_true] at hlo ⊢
  intro l hl
  have hb := hlo l hl
  unfold looseB at hb
  rw [Bool.and_eq_true, Bool.and_eq_true] at hb
  obtain ⟨⟨b1, b2⟩, b3⟩ := hb
  have b1' : l.2.2 = [] := by simpa using b1
  have hlen := xtrace_len _ _ _ _ h1
  have hin : ∀ i ∈ (l.1 :: (l.2.1 ++ l.2.1.map (· + 1))), ∃ si, tr[i]? = some si ∧ si.H = H.bump k := by
    intro i hi
    rw [List.all_eq_true] at b2
    have := b2 i hi
    have hi' : i < tr.length := by rw [hlen]; have := Nat.le_of_ble_eq_true this; omega
    exact ⟨tr[i], List.getElem?_eq_getElem hi', h2 _ (List.getElem_mem hi')⟩
  split at b3
  · rename_i d m x g ho
    obtain ⟨t, t', q1, q2⟩ := xtrace_at _ _ _ _ h1 _ _ ho
    have ht : t.H = H.bump k := h2 t (List.mem_of_getElem? q1)
    unfold looseOk
    rw [ho, q1]
    dsimp only
    unfold xstep at q2
    generalize wantedA t.tm { dst := d, op := XOp.load m x, guard := g } = wd at q2 ⊢
    cases wd with
    | none => cases q2
    | some wb =>
      cases wb with
      | false => rfl
      | true =>
        dsimp only at q2 ⊢
        have hv : ∃ y, ∀ n, xop (St.ev t.tm) t.H n (XOp.load m x) = .v y := by
          cases hx : (St.ev t.tm x).bind (loadA t.H m) with
          | none => simp only [xval, xop, hx, AR.ofV] at q2; cases q2
          | some y => exact ⟨y, fun n => by simp only [xop, hx, AR.ofV]⟩
        obtain ⟨y, hy⟩ := hv
        rw [hy 0]
        dsimp only
        rw [List.all_eq_true]
        intro i hi
        obtain ⟨si, s1, s2⟩ := hin i hi
        rw [s1]
        dsimp only
        rw [b1', List.filter_nil]
        simp only [AHeap.less]
        rw [s2, ← ht, hy 0]
        exact AV.beq_refl y
  · cases b3
end
theorem op_ia {cf : CF} {z n : Nat} {a b c : AV} {H : AHeap} {ev : XO → Option AV} {x y : XO} (hx : ev x = some a) (hy : ev y = some b) (h : iaddrA z a b = some c) : xval cf ev H n (.iaddr z x y) = some (c, H) := by
  simp only [xval, xop, hx, hy, h] <;> rfl
def lenN : AV → Option Nat
  | .nils => some 0
  | .sl _ _ l _ => some l
  | .imm _ l _ => some l
  | _ => none
theorem Row.lenN {z l : Nat} {H : AHeap} {v : AV} {cs : List AV} (h : Row z H v l cs) : lenN v = some l := by
  rcases h with ⟨_, ⟨rfl, rfl⟩ | ⟨i, full, rfl, _⟩⟩ <;> rfl
theorem op_lenL {cf : CF} {n l : Nat} {a : AV} {H : AHeap} {ev : XO → Option AV} {x : XO} (hx : ev x = some a) (h : Go.Eng.lenN a = some l) : xval cf ev H n (.len x) = some (.int .i64 (l : Int), H) := by
  unfold Go.Eng.lenN at h
  split at h
  all_goals first | (cases h; simp only [xval, xop, hx] <;> rfl) | cases h
end Go.Eng
namespace Go.Eng
abbrev KL0 := List (Nat × AV)
def look : KL0 → Nat → Option AV
  | [], _ => none
  | (e, v) :: r, d => match Nat.beq d e with
    | true => some v
    | false => look r d
def evK (l : KL0) : XO → Option AV
  | .t d => look l d
  | .k v => some v
def Kw (tm : Tr AV) (l : KL0) : Prop := ∀ d v, look l d = some v → tm.get d = some v
theorem Kw.nil (tm : Tr AV) : Kw tm [] := fun d v h => by cases h
theorem Kw.set {tm : Tr AV} {l : KL0} (h : Kw tm l) (d : Nat) (v : AV) : Kw (tm.set d (some v)) ((d, v) :: l) := by
  intro e u he
  unfold look at he
  split at he
  · rename_i q
    have : e = d := by simpa using q
    subst this
    cases he
    exact Tr.get_set_self _ _ _
  · rename_i q
    have : e ≠ d := by
      intro w
      subst w
      simp at q
    rw [Tr.get_set_ne _ _ this]
    exact h e u he
theorem Kw.ev {tm : Tr AV} {l : KL0} (h : Kw tm l) {x : XO} {v : AV} (hx : evK l x = some v) : St.ev tm x = some v := by
  cases x with
  | t d => exact h d v hx
  | k u => exact hx
def Sub (l' l : KL0) : Prop := ∀ d v, look l d = some v → look l' d = some v
theorem Sub.nil (l : KL0) : Sub l [] := fun d v h => by cases h
theorem Sub.cons {l l' : KL0} {d : Nat} {v : AV} (h : look l' d = some v) (k : Sub l' l) : Sub l' ((d, v) :: l) := by
  intro e u he
  unfold look at he
  split at he
  · rename_i q
    have : e = d := by simpa using q
    subst this
    cases he
    exact h
  · exact k e u he
theorem Sub.refl (l : KL0) : Sub l l := fun _ _ h => h
theorem Kw.sub {tm : Tr AV} {l l' : KL0} (h : Kw tm l') (s : Sub l' l) : Kw tm l := fun d v q => h d v (s d v q)
def allSm (l : KL0) (xs : List XO) : Bool := xs.all fun x => (evK l x).isSome
theorem xval_kw {cf : CF} {tm : Tr AV} {l : KL0} (h : Kw tm l) {H : AHeap} {n : Nat} {y : XOp} (ha : allSm l y.opnds = true) : xval cf (St.ev tm) H n y = xval cf (evK l) H n y := by
  refine xval_congr fun x hx => ?_
  have := List.all_eq_true.1 ha x hx
  cases q : evK l x with
  | none => rw [q] at this; cases this
  | some v => exact h.ev q
def XV (cf : CF) (l : KL0) (H : AHeap) (n : Nat) (y : XOp) : Option (AV × AHeap) := xval cf (evK l) H n y
theorem loose_calm {cf : CF} {ops : List XOper} {lo : List (Nat × List Nat × List Nat)} {tm : Tr AV} {H : AHeap} {n b : Nat} {tr : List St} (h1 : xtrace cf ops n ⟨tm, H⟩ = some tr) (h2 : ∀ t ∈ tr, t.H = H) (hlo : lo.all (looseB ops) = true) : lo.all (looseOk ops tr b []) = true := by
  rw [List.all_eq_true] at hlo ⊢
  intro l hl
  have hb := hlo l hl
  unfold looseB at hb
  rw [Bool.and_eq_true, Bool.and_eq_true] at hb
  obtain ⟨⟨b1, b2⟩, b3⟩ := hb
  have b1' : l.2.2 = [] := by simpa using b1
  have hlen := xtrace_len _ _ _ _ h1
  have hin : ∀ i ∈ (l.1 :: (l.2.1 ++ l.2.1.map (· + 1))), ∃ si, tr[i]? = some si ∧ si.H = H := by
    intro i hi
    rw [List.all_eq_true] at b2
    have := b2 i hi
    have hi' : i < tr.length := by rw [hlen]; have := Nat.le_of_ble_eq_true this; omega
    exact ⟨tr[i], List.getElem?_eq_getElem hi', h2 _ (List.getElem_mem hi')⟩
  split at b3
  · rename_i d m x g ho
    obtain ⟨t, t', q1, q2⟩ := xtrace_at _ _ _ _ h1 _ _ ho
    have ht : t.H = H := h2 t (List.mem_of_getElem? q1)
    unfold looseOk
    rw [ho, q1]
    dsimp only
    unfold xstep at q2
    generalize wantedA t.tm { dst := d, op := XOp.load m x, guard := g } = wd at q2 ⊢
    cases wd with
    | none => cases q2
    | some wb =>
      cases wb with
      | false => rfl
      | true =>
        dsimp only at q2 ⊢
        have hv : ∃ y, ∀ n, xop (St.ev t.tm) t.H n (XOp.load m x) = .v y := by
          cases hx : (St.ev t.tm x).bind (loadA t.H m) with
          | none => simp only [xval, xop, hx, AR.ofV] at q2; cases q2
          | some y => exact ⟨y, fun n => by simp only [xop, hx, AR.ofV]⟩
        obtain ⟨y, hy⟩ := hv
        rw [hy 0]
        dsimp only
        rw [List.all_eq_true]
        intro i hi
        obtain ⟨si, s1, s2⟩ := hin i hi
        rw [s1]
        dsimp only
        rw [b1', List.filter_nil]
        simp only [AHeap.less]
        rw [s2, ← ht, hy 0]
        exact AV.beq_refl y
  · cases b3
def WK (cf : CF) (fuel : Nat) (c : XCode) (l : KL0) (H : AHeap) (Q : XE → KL0 → AHeap → Prop) : Prop :=
  ∀ tm, Kw tm l → W cf fuel c ⟨tm, H⟩ fun e s' => ∃ l', Kw s'.tm l' ∧ Q e l' s'.H
def WKO (cf : CF) (ops : List XOper) (n : Nat) (l : KL0) (H : AHeap) (Q : KL0 → AHeap → Prop) : Prop :=
  ∀ tm, Kw tm l → WO cf ops n ⟨tm, H⟩ fun s' => ∃ l', Kw s'.tm l' ∧ Q l' s'.H
def WKC (cf : CF) (ops : List XOper) (n : Nat) (l : KL0) (H : AHeap) (Q : KL0 → Prop) : Prop :=
  ∀ tm, Kw tm l → WC cf ops n tm H fun s' => s'.H = H ∧ ∃ l', Kw s'.tm l' ∧ Q l'
def calmB (o : XOper) : Bool := match o.op with
  | .call .. => true
  | y => match y.cls with
    | .p | .r => true
    | _ => false
section
variable {cf : CF} {fuel n : Nat} {l : KL0} {H : AHeap} {Q : XE → KL0 → AHeap → Prop} {R : KL0 → AHeap → Prop} {S : KL0 → Prop}
theorem WK.mono {c : XCode} {Q' : XE → KL0 → AHeap → Prop} (h : WK cf fuel c l H Q) (hq : ∀ e l' H', Q e l' H' → Q' e l' H') : WK cf fuel c l H Q' :=
  fun tm ht => (h tm ht).mono fun e s' ⟨l', h1, h2⟩ => ⟨l', h1, hq _ _ _ h2⟩
theorem WK.sub {c : XCode} {l' : KL0} (s : Sub l l') (h : WK cf fuel c l' H Q) : WK cf fuel c l H Q := fun tm ht => h tm (ht.sub s)
theorem WK.skip (h : Q .normal l H) : WK cf fuel .skip l H Q := fun tm ht => W.skip ⟨l, ht, h⟩
theorem WK.ret (h : Q .ret l H) : WK cf fuel .ret l H Q := fun tm ht => W.ret ⟨l, ht, h⟩
theorem WK.exit {id : Nat} (h : Q (.exit id) l H) : WK cf fuel (.exit id) l H Q := fun tm ht => W.exit ⟨l, ht, h⟩
theorem WK.seq {a b : XCode} (h : WK cf fuel a l H fun e l' H' => (e = .normal → WK cf fuel b l' H' Q) ∧ (e ≠ .normal → Q e l' H')) : WK cf fuel (.seq a b) l H Q :=
  fun tm ht => W.seq ((h tm ht).mono fun e s' ⟨l', h1, h2, h3⟩ => ⟨fun q => h2 q s'.tm h1, fun q => ⟨l', h1, h3 q⟩⟩)
theorem WK.block {id : Nat} {c : XCode} (h : WK cf fuel c l H fun e l' H' => (e = .exit id → Q .normal l' H') ∧ (e ≠ .exit id → Q e l' H')) : WK cf fuel (.block id c) l H Q :=
  fun tm ht => W.block ((h tm ht).mono fun e s' ⟨l', h1, h2, h3⟩ => ⟨fun q => ⟨l', h1, h2 q⟩, fun q => ⟨l', h1, h3 q⟩⟩)
theorem WK.condT {c : XO} {a b : XCode} {v : Bool} (hc : evK l c = some (.bool v)) (hv : v = true) (h : WK cf fuel a l H Q) : WK cf fuel (.cond c a b) l H Q :=
  fun tm ht => by subst hv; exact W.condT (ht.ev hc) (h tm ht)
theorem WK.condF {c : XO} {a b : XCode} {v : Bool} (hc : evK l c = some (.bool v)) (hv : v = false) (h : WK cf fuel b l H Q) : WK cf fuel (.cond c a b) l H Q :=
  fun tm ht => by subst hv; exact W.condF (ht.ev hc) (h tm ht)
theorem WK.condD {c : XO} {a b : XCode} {p : Prop} {_ : Decidable p} (hc : evK l c = some (.bool (decide p))) (h1 : p → WK cf fuel a l H Q) (h2 : ¬ p → WK cf fuel b l H Q) : WK cf fuel (.cond c a b) l H Q := by
  by_cases q : p
  · exact WK.condT hc (decide_eq_true q) (h1 q)
  · exact WK.condF hc (decide_eq_false q) (h2 q)
theorem WK.loop {α : Type} {c : XCode} (L : α → KL0) (P : α → AHeap → Prop) (μ : α → Nat) (i : α) (hl : Sub l (L i)) (hP : P i H) (hm : μ i < fuel)
    (h : ∀ i H, P i H → WK cf fuel c (L i) H fun e l' H' => (e = .normal → ∃ j, Sub l' (L j) ∧ P j H' ∧ μ j < μ i) ∧ (e ≠ .normal → Q e l' H')) : WK cf fuel (.loop c) l H Q := by
  intro tm ht
  refine W.loop (fun i s => Kw s.tm (L i) ∧ P i s.H) μ i ⟨ht.sub hl, hP⟩ hm (fun i s ⟨h1, h2⟩ => ?_)
  obtain ⟨tm1, H1⟩ := s
  refine (h i H1 h2 tm1 h1).mono fun e s' ⟨l', q1, q2, q3⟩ => ⟨fun he => ?_, fun he => ⟨l', q1, q3 he⟩⟩
  obtain ⟨j, r1, r2, r3⟩ := q2 he
  exact ⟨j, ⟨q1.sub r1, r2⟩, r3⟩
theorem WK.cut {α : Type} {a b : XCode} (L : α → KL0) (P : α → AHeap → Prop) (h : WK cf fuel a l H fun e l' H' => (e = .normal → ∃ x, Sub l' (L x) ∧ P x H') ∧ (e ≠ .normal → Q e l' H')) (k : ∀ x H', P x H' → WK cf fuel b (L x) H' Q) : WK cf fuel (.seq a b) l H Q :=
  WK.seq (h.mono fun e l' H' ⟨h1, h2⟩ => ⟨fun he => by
    obtain ⟨x, q1, q2⟩ := h1 he
    exact (k x H' q2).sub q1, h2⟩)
def Stop (p : Prop) : Prop := p
theorem WK.reg {ops : List XOper} {k : Nat} (hk : ops.length = k) (h : WKO cf ops H.next l (H.bump k) fun l' H' => Q .normal l' H') : WK cf fuel (.reg ops) l H Q :=
  fun tm ht => W.reg k hk (h tm ht)
theorem WK.regC {ops : List XOper} {lo : List (Nat × List Nat × List Nat)} {k : Nat} (_ : ops.all calmB = true) (hk : ops.length = k) (hlo : lo.all (looseB ops) = true) (h : WKC cf ops H.next l (H.bump k) fun l' => Q .normal l' (H.bump k)) : WK cf fuel (.regd ops lo []) l H Q := by
  intro tm ht
  refine W.regd k hk ?_
  have h1 := h tm ht
  unfold WC at h1
  obtain ⟨tr, q1, q1', s', q2, q3, l', q4, q5⟩ := h1
  unfold WT
  refine ⟨tr, q1, ?_, by simp [freshOk], s', q2, l', q4, by rw [q3]; exact q5⟩
  exact loose_calm q1 q1' hlo
theorem WK.regd0 {ops : List XOper} {k : Nat} (hk : ops.length = k) (h : WKO cf ops H.next l (H.bump k) fun l' H' => Q .normal l' H') : WK cf fuel (.regd ops [] []) l H Q :=
  fun tm ht => W.regd0 k hk (h tm ht)
theorem WKO.nil (h : R l H) : WKO cf [] n l H R := fun tm ht => WO.nil ⟨l, ht, h⟩
theorem WKO.op {d : Nat} {op : XOp} {r : List XOper} {v : AV} {H1 : AHeap} (h : XV cf l H n op = some (v, H1)) (ha : allSm l op.opnds = true) (k : WKO cf r (n + 1) ((d, v) :: l) H1 R) : WKO cf (⟨some d, op, none⟩ :: r) n l H R :=
  fun tm ht => WO.op ((xval_kw ht ha).trans h) (k _ (ht.set d v))
theorem WKO.opn {op : XOp} {r : List XOper} {v : AV} {H1 : AHeap} (h : XV cf l H n op = some (v, H1)) (ha : allSm l op.opnds = true) (k : WKO cf r (n + 1) l H1 R) : WKO cf (⟨none, op, none⟩ :: r) n l H R :=
  fun tm ht => WO.opn ((xval_kw ht ha).trans h) (k _ ht)
theorem WKO.callV {d g : Nat} {x : XO} {xs : List XO} {cs avs : List AV} {P : AV → AHeap → Prop} {r : List XOper} (hx : evK l x = some (.fn g cs)) (hl : evL (evK l) xs = some avs) (ha : allSm l (x :: xs) = true) (h : ∃ v H', cf g (avs ++ cs) H = some (v, H') ∧ P v H')
    (k : ∀ v H', P v H' → WKO cf r (n + 1) ((d, v) :: l) H' R) : WKO cf (⟨some d, .call x xs, none⟩ :: r) n l H R := by
  obtain ⟨v, H', h1, h2⟩ := h
  exact WKO.op (H1 := H') (op_call hx hl h1) ha (k v H' h2)
theorem WKO.gop {d g : Nat} {b c : Bool} {op : XOp} {r : List XOper} {v : AV} {H1 : AHeap} (hg : look l g = some (.bool c)) (hc : c = b) (h : XV cf l H n op = some (v, H1)) (ha : allSm l op.opnds = true) (k : WKO cf r (n + 1) ((d, v) :: l) H1 R) : WKO cf (⟨some d, op, some (g, b)⟩ :: r) n l H R :=
  fun tm ht => WO.gop' (ht _ _ hg) (by rw [hc]) ((xval_kw ht ha).trans h) (k _ (ht.set d v))
theorem WKO.gnoT {d g : Nat} {c : Bool} {op : XOp} {r : List XOper} (hg : look l g = some (.bool c)) (hc : c = false) (k : WKO cf r (n + 1) ((d, undefA) :: l) H R) : WKO cf (⟨some d, op, some (g, true)⟩ :: r) n l H R :=
  fun tm ht => WO.gno' (ht _ _ hg) (by rw [hc]; rfl) (k _ (ht.set d undefA))
theorem WKO.gnoF {d g : Nat} {c : Bool} {op : XOp} {r : List XOper} (hg : look l g = some (.bool c)) (hc : c = true) (k : WKO cf r (n + 1) ((d, undefA) :: l) H R) : WKO cf (⟨some d, op, some (g, false)⟩ :: r) n l H R :=
  fun tm ht => WO.gno' (ht _ _ hg) (by rw [hc]; rfl) (k _ (ht.set d undefA))
theorem WKO.gsp {d g : Nat} {b : Bool} {op : XOp} {p : Prop} {_ : Decidable p} {r : List XOper} (hg : look l g = some (.bool (decide p))) (h1 : p → WKO cf (⟨some d, op, some (g, b)⟩ :: r) n l H R) (h2 : ¬ p → WKO cf (⟨some d, op, some (g, b)⟩ :: r) n l H R) : WKO cf (⟨some d, op, some (g, b)⟩ :: r) n l H R := by
  by_cases q : p
  · exact h1 q
  · exact h2 q
theorem WKO.gnu {d g : Nat} {b : Bool} {op : XOp} {r : List XOper} (hg : look l g = some undefA) (k : WKO cf r (n + 1) ((d, undefA) :: l) H R) : WKO cf (⟨some d, op, some (g, b)⟩ :: r) n l H R := by
  intro tm ht
  have h := k _ (ht.set d undefA)
  unfold WO at h ⊢
  obtain ⟨s', h1, h2⟩ := h
  refine ⟨s', ?_, h2⟩
  have : xstep cf ⟨tm, H⟩ n ⟨some d, op, some (g, b)⟩ = some ⟨tm.set d (some undefA), H⟩ := by
    simp only [xstep, wantedA, ht _ _ hg, undefA, putT]
  simp only [xops, this]
  exact h1
theorem WKC.nil (h : S l) : WKC cf [] n l H S := fun tm ht => WC.nil ⟨rfl, l, ht, h⟩
theorem WKC.op {d : Nat} {op : XOp} {r : List XOper} {v : AV} (h : XV cf l H n op = some (v, H)) (ha : allSm l op.opnds = true) (k : WKC cf r (n + 1) ((d, v) :: l) H S) : WKC cf (⟨some d, op, none⟩ :: r) n l H S :=
  fun tm ht => WC.op ((xval_kw ht ha).trans h) (k _ (ht.set d v))
theorem WKC.gop {d g : Nat} {b c : Bool} {op : XOp} {r : List XOper} {v : AV} (hg : look l g = some (.bool c)) (hc : c = b) (h : XV cf l H n op = some (v, H)) (ha : allSm l op.opnds = true) (k : WKC cf r (n + 1) ((d, v) :: l) H S) : WKC cf (⟨some d, op, some (g, b)⟩ :: r) n l H S :=
  fun tm ht => WC.gop' (ht _ _ hg) (by rw [hc]) ((xval_kw ht ha).trans h) (k _ (ht.set d v))
theorem WKC.gnoT {d g : Nat} {c : Bool} {op : XOp} {r : List XOper} (hg : look l g = some (.bool c)) (hc : c = false) (k : WKC cf r (n + 1) ((d, undefA) :: l) H S) : WKC cf (⟨some d, op, some (g, true)⟩ :: r) n l H S :=
  fun tm ht => WC.gno' (ht _ _ hg) (by rw [hc]; rfl) (k _ (ht.set d undefA))
theorem WKC.gnoF {d g : Nat} {c : Bool} {op : XOp} {r : List XOper} (hg : look l g = some (.bool c)) (hc : c = true) (k : WKC cf r (n + 1) ((d, undefA) :: l) H S) : WKC cf (⟨some d, op, some (g, false)⟩ :: r) n l H S :=
  fun tm ht => WC.gno' (ht _ _ hg) (by rw [hc]; rfl) (k _ (ht.set d undefA))
theorem WKC.gnu {d g : Nat} {b : Bool} {op : XOp} {r : List XOper} (hg : look l g = some undefA) (k : WKC cf r (n + 1) ((d, undefA) :: l) H S) : WKC cf (⟨some d, op, some (g, b)⟩ :: r) n l H S :=
  fun tm ht => WC.step (tm1 := tm.set d (some undefA)) (by simp only [xstep, wantedA, ht _ _ hg, undefA, putT]) (k _ (ht.set d undefA))
theorem WKC.gsp {d g : Nat} {b : Bool} {op : XOp} {p : Prop} {_ : Decidable p} {r : List XOper} (hg : look l g = some (.bool (decide p))) (h1 : p → WKC cf (⟨some d, op, some (g, b)⟩ :: r) n l H S) (h2 : ¬ p → WKC cf (⟨some d, op, some (g, b)⟩ :: r) n l H S) : WKC cf (⟨some d, op, some (g, b)⟩ :: r) n l H S := by
  by_cases q : p
  · exact h1 q
  · exact h2 q
theorem notT {c : Bool} (h : c = false) : (!c) = true := by rw [h]; rfl
theorem notF {c : Bool} (h : c = true) : (!c) = false := by rw [h]; rfl
theorem known {p G : Prop} (_ : p) (g : G) : p → G := fun _ => g
def argsL : List AV → Nat → KL0
  | [], _ => []
  | x :: r, n => (n, x) :: argsL r (n + 1)
theorem argsT_lt : ∀ (avs : List AV) (n d : Nat) (t : Tr AV), d < n → (argsT avs n t).get d = t.get d
  | [], _, _, _, _ => rfl
  | x :: r, n, d, t, h => by
    unfold argsT
    rw [argsT_lt r (n + 1) d _ (by omega), Tr.get_set_ne _ _ (by omega)]
theorem args_kw : ∀ (avs : List AV) (n : Nat) (t : Tr AV), Kw (argsT avs n t) (argsL avs n)
  | [], _, _ => Kw.nil _
  | x :: r, n, t => by
    intro d v h
    unfold argsL at h
    unfold look at h
    unfold argsT
    split at h
    · rename_i q
      have : d = n := by simpa using q
      subst this
      rw [argsT_lt _ _ _ _ (by omega), Tr.get_set_self]
      exact h
    · exact args_kw r (n + 1) _ d v h
def resK1 (l : KL0) (H : AHeap) : XRes → Option AV
  | .t n => look l n
  | .c a n => (look l a).bind (loadA H n)
def resK (l : KL0) (H : AHeap) : List XRes → Option (List AV)
  | [] => some []
  | r :: rs => (resK1 l H r).bind fun x => (resK l H rs).bind fun xs => some (x :: xs)
theorem resK_L {tm : Tr AV} (ht : Kw tm l) : ∀ {rs : List XRes} {xs : List AV}, resK l H rs = some xs → resL ⟨tm, H⟩ rs = some xs
  | [], xs, h => h
  | r :: rs, xs, h => by
    unfold resK at h
    simp only [Option.bind_eq_some_iff] at h
    obtain ⟨x, h1, ys, h2, h3⟩ := h
    have h4 : resA ⟨tm, H⟩ r = some x := by
      cases r with
      | t n => exact ht _ _ h1
      | c a n =>
        simp only [resK1, Option.bind_eq_some_iff] at h1
        obtain ⟨y, q1, q2⟩ := h1
        simp only [resA, ht _ _ q1, Option.bind_some, q2]
    simp only [resL, h4, resK_L ht h2, bind, Option.bind_some]
    exact h3
theorem xfunc_ofK {fn : XFunc} {args : List AV} (hn : args.length = fn.np) (ht : args.length ≤ fn.nt) {Q : AV → AHeap → Prop}
    (h : WK cf fuel fn.code (argsL args 0) H fun e l' H' => (∀ id, e ≠ .exit id) ∧ ∃ r, resK l' H' fn.res = some r ∧ Q (wrapL r) H') : ∃ v H', xfunc cf fuel fn args H = some (v, H') ∧ Q v H' :=
  xfunc_of hn ht ((h _ (args_kw args 0 .e)).mono fun e s' ⟨l', h1, h2, r, h3, h4⟩ => ⟨h2, r, resK_L h1 h3, h4⟩)
end
def nA (n : Nat) : AV := .int .i64 (n : Int)
section
variable {cf : CF} {n a b : Nat} {H : AHeap} {l : KL0} {x y : XO}
theorem k_addN (hx : evK l x = some (nA a)) (hy : evK l y = some (nA b)) (h : a + b < 9223372036854775808) : XV cf l H n (.bin .add x y) = some (nA (a + b), H) :=
  op_bin hx hy (by
    show some (AV.int .i64 (wrapA .i64 ((a : Int) + (b : Int)))) = _
    rw [wrapI _ (by omega) (by omega)]
    rfl)
theorem k_subN (hx : evK l x = some (nA a)) (hy : evK l y = some (nA b)) (h : b ≤ a) (h' : a < 9223372036854775808) : XV cf l H n (.bin .sub x y) = some (nA (a - b), H) :=
  op_bin hx hy (by
    show some (AV.int .i64 (wrapA .i64 ((a : Int) - (b : Int)))) = _
    rw [wrapI _ (by omega) (by omega), show (a : Int) - (b : Int) = ((a - b : Nat) : Int) by omega]
    rfl)
theorem k_mulN (hx : evK l x = some (nA a)) (hy : evK l y = some (nA b)) (h : a * b < 9223372036854775808) : XV cf l H n (.bin .mul x y) = some (nA (a * b), H) :=
  op_bin hx hy (by
    show some (AV.int .i64 (wrapA .i64 ((a : Int) * (b : Int)))) = _
    rw [← Int.natCast_mul, wrapI _ (by omega) (by omega)]
    rfl)
theorem k_quoN (hx : evK l x = some (nA a)) (hy : evK l y = some (nA b)) (h : 0 < b) (h' : a < 9223372036854775808) : XV cf l H n (.bin .quo x y) = some (nA (a / b), H) :=
  op_bin hx hy (by
    show (if (b : Int) = 0 then none else some (AV.int .i64 (wrapA .i64 ((a : Int).tdiv (b : Int))))) = _
    have e : (a : Int).tdiv (b : Int) = ((a / b : Nat) : Int) := (Int.ofNat_tdiv a b).symm
    have := Nat.div_le_self a b
    rw [if_neg (by omega), e, wrapI _ (Int.le_trans (by decide) (Int.natCast_nonneg _)) (by omega)]
    rfl)
theorem k_remN (hx : evK l x = some (nA a)) (hy : evK l y = some (nA b)) (h : 0 < b) : XV cf l H n (.bin .rem x y) = some (nA (a % b), H) :=
  op_bin hx hy (by
    show (if (b : Int) = 0 then none else some (AV.int .i64 ((a : Int).tmod (b : Int)))) = _
    rw [if_neg (by omega), ← Int.ofNat_tmod]
    rfl)
theorem k_lssN (hx : evK l x = some (nA a)) (hy : evK l y = some (nA b)) : XV cf l H n (.bin .lss x y) = some (.bool (decide (a < b)), H) :=
  op_bin hx hy (by show some (AV.bool (decide ((a : Int) < (b : Int)))) = _; simp)
theorem k_leqN (hx : evK l x = some (nA a)) (hy : evK l y = some (nA b)) : XV cf l H n (.bin .leq x y) = some (.bool (decide (a ≤ b)), H) :=
  op_bin hx hy (by show some (AV.bool (decide ((a : Int) ≤ (b : Int)))) = _; simp)
theorem k_gtrN (hx : evK l x = some (nA a)) (hy : evK l y = some (nA b)) : XV cf l H n (.bin .gtr x y) = some (.bool (decide (a > b)), H) :=
  op_bin hx hy (by show some (AV.bool (decide ((a : Int) > (b : Int)))) = _; simp)
theorem k_geqN (hx : evK l x = some (nA a)) (hy : evK l y = some (nA b)) : XV cf l H n (.bin .geq x y) = some (.bool (decide (a ≥ b)), H) :=
  op_bin hx hy (by show some (AV.bool (decide ((a : Int) ≥ (b : Int)))) = _; simp)
theorem k_eqlN (hx : evK l x = some (nA a)) (hy : evK l y = some (nA b)) : XV cf l H n (.bin .eql x y) = some (.bool (decide (a = b)), H) :=
  op_bin hx hy (by
    show some (AV.bool ((a : Int) == (b : Int))) = _
    congr 2
    rw [Bool.eq_iff_iff]
    simp
    omega)
theorem k_neqN (hx : evK l x = some (nA a)) (hy : evK l y = some (nA b)) : XV cf l H n (.bin .neq x y) = some (.bool (decide (a ≠ b)), H) :=
  op_bin hx hy (by
    show some (AV.bool ((a : Int) != (b : Int))) = _
    congr 2
    rw [Bool.eq_iff_iff]
    simp
    omega)
theorem k_notD {p : Prop} {_ : Decidable p} (hx : evK l x = some (.bool (decide p))) : XV cf l H n (.un .not x) = some (.bool (decide (¬ p)), H) :=
  op_un hx (by
    show some (AV.bool (!decide p)) = _
    simp)
theorem k_pickT {y z : XO} {c : Bool} {v : AV} (hx : evK l x = some (.bool c)) (hc : c = true) (h : evK l y = some v) : XV cf l H n (.pick x y z) = some (v, H) := op_pick hx (.inl ⟨by rw [hc], h⟩)
theorem k_pickF {y z : XO} {c : Bool} {v : AV} (hx : evK l x = some (.bool c)) (hc : c = false) (h : evK l z = some v) : XV cf l H n (.pick x y z) = some (v, H) := op_pick hx (.inr ⟨by rw [hc], h⟩)
theorem k_mv {v : AV} (hx : evK l x = some v) : XV cf l H n (.mv x) = some (v, H) := op_mv hx
theorem k_bin {u v w : AV} {o : BinOp} (hx : evK l x = some u) (hy : evK l y = some v) (h : binA o u v = some w) : XV cf l H n (.bin o x y) = some (w, H) := op_bin hx hy h
theorem k_un {u v : AV} {o : UnOp} (hx : evK l x = some u) (h : unA o u = some v) : XV cf l H n (.un o x) = some (v, H) := op_un hx h
theorem k_ext {i : Nat} {r : List AV} {v : AV} (hx : evK l x = some (.tup r)) (h : r[i]? = some v) : XV cf l H n (.ext x i) = some (v, H) := op_ext hx h
theorem k_lenL {u : AV} {m : Nat} (hx : evK l x = some u) (h : lenN u = some m) : XV cf l H n (.len x) = some (nA m, H) := op_lenL hx h
theorem k_call {g : Nat} {H1 : AHeap} {v : AV} {xs : List XO} {cs r : List AV} (hx : evK l x = some (.fn g cs)) (hl : evL (evK l) xs = some r) (h : cf g (r ++ cs) H = some (v, H1)) : XV cf l H n (.call x xs) = some (v, H1) := op_call hx hl h
theorem k_faddr {o i p : Nat} (hx : evK l x = some (.ptr i p)) : XV cf l H n (.faddr o x) = some (.ptr i (p + o), H) := op_faddr hx
theorem k_nilc {i p : Nat} (hx : evK l x = some (.ptr i p)) : XV cf l H n (.nilc x) = some (.ptr i p, H) := op_nilc hx
theorem k_load {m : Option Nat} {u v : AV} (hx : evK l x = some u) (h : loadA H m u = some v) : XV cf l H n (.load m x) = some (v, H) := op_load hx h
theorem k_eqn {neg : Bool} {k : NK} {u v : AV} {b c : Bool} (hx : evK l x = some u) (hy : evK l y = some v) (h : eqnA k u v = some b) (hc : (b != neg) = c) : XV cf l H n (.eqn neg k x y) = some (.bool c, H) := by
  show xval cf (evK l) H n _ = _
  simp only [xval, xop, hx, hy, h, hc]
theorem k_build {z : List AV} {ps : List (Nat × Nat × XO)} {v : AV} (h : ((evParts (evK l) ps).bind fun q => (fillA z q).map .agg) = some v) : XV cf l H n (.build z ps) = some (v, H) := by
  show xval cf (evK l) H n _ = _
  simp only [xval, xop, h, AR.ofV]
theorem k_any {y : XOp} {r : AV × AHeap} (h : xval cf (evK l) H n y = some r) : XV cf l H n y = some r := h
theorem k_iaN {z i o len c : Nat} (hx : evK l x = some (.sl i o len c)) (hy : evK l y = some (nA a)) (h : a < len) : XV cf l H n (.iaddr z x y) = some (.ptr i (o + a * z), H) :=
  op_ia hx hy (by
    show (if idxOk (a : Int) len then some (AV.ptr i (o + (a : Int).toNat * z)) else none) = _
    rw [idxOk_lt h]
    simp)
theorem k_iaM {z len : Nat} {cs : List AV} {f : Bool} (hx : evK l x = some (.imm cs len f)) (hy : evK l y = some (nA a)) (h : a < len) : XV cf l H n (.iaddr z x y) = some (.iptr cs (a * z), H) :=
  op_ia hx hy (by
    show (if idxOk (a : Int) len then some (AV.iptr cs ((a : Int).toNat * z)) else none) = _
    rw [idxOk_lt h]
    simp)
end
theorem dcd {p : Prop} (h : p := by first | with_reducible rfl | with_reducible assumption | exact (rfl : (!true) = false) | exact (rfl : (!false) = true) | exact notT (by assumption) | exact notF (by assumption) | exact decide_eq_true (by assumption) | exact decide_eq_false (by assumption) | exact decide_eq_true (by omega) | exact decide_eq_false (by omega)) : p := h
theorem nxx {p : Prop} (h : p := by first | omega | (simp only [next_bump] at *; omega)) : p := h
theorem lnn {p : Prop} (h : p := by simp only [List.length_cons, List.length_nil, Nat.reduceAdd]; rfl) : p := h
theorem mmb {p : Prop} (h : p := by first | exact .head _ | exact .tail _ (.head _) | exact .tail _ (.tail _ (.head _)) | exact .tail _ (.tail _ (.tail _ (.head _))) | exact .tail _ (.tail _ (.tail _ (.tail _ (.head _))))) : p := h
theorem opA {p : Prop} (h : p := by first | exact k_mv rfl | exact k_addN rfl rfl (by omega) | exact k_subN rfl rfl (by omega) (by omega) | exact k_lssN rfl rfl | exact k_leqN rfl rfl | exact k_gtrN rfl rfl | exact k_geqN rfl rfl | exact k_eqlN rfl rfl | exact k_neqN rfl rfl | exact k_notD rfl | exact k_pickT rfl dcd rfl | exact k_pickF rfl dcd rfl | exact k_ext rfl rfl | exact k_lenL rfl rfl | exact k_quoN rfl rfl (by omega) (by omega) | exact k_remN rfl rfl (by omega) | exact k_mulN rfl rfl (by omega) | exact k_un rfl rfl | exact k_build rfl | exact k_eqn rfl rfl rfl rfl | exact k_bin rfl rfl rfl) : p := h
attribute [irreducible] XV Stop WK WKO WKC
end Go.Eng
