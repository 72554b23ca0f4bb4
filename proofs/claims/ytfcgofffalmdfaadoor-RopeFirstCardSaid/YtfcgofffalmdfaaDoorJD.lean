/- The functions' abstract code. No condition. -/
import Derived.Test.YtfcgofffalmdfaaDoorJC
import Derived.Test.YtfcgofffalmdfaaDoorProg
import Derived.KernelRfl
import Derived.Shelf.SlSortCmp.WholeK
import Derived.Ground.SlsfProg
import Derived.WalkKit
set_option linter.unusedSectionVars false
set_option linter.unusedVariables false
set_option linter.unusedSimpArgs false
namespace Go.Proofs.YtfcgofffalmdfaaDoor.PA
open Go Go.Eng Go.Proofs
abbrev o (d : Nat) (x : XOp) : XOper := ⟨some d, x, none⟩
abbrev og (d : Nat) (x : XOp) (g : Nat) (b : Bool) : XOper := ⟨some d, x, some (g, b)⟩
def L5 : XFunc := .mk (.seq (.reg [o 2 (.box (.t 0)), o 4 (.mv (.k (.bool false)))]) (.seq (.reg [o 21 (.load (some 3) (.t 2)), o 22 (.call (.k (.fn 15 [])) [.t 21, .k (.int .i64 (.ofNat 40))]), o 20 (.mv (.t 22)), o 23 (.ext (.t 20) 0), o 24 (.ext (.t 20) 1), o 25 (.ext (.t 20) 2), o 5 (.mv (.t 23)), o 6 (.mv (.t 24)), o 7 (.mv (.t 25))]) (.seq (.reg [o 27 (.mv (.t 5)), o 28 (.mv (.t 6)), o 29 (.mv (.t 7)), o 30 (.call (.k (.fn 16 [])) [.t 27, .t 28, .t 29]), o 26 (.mv (.t 30)), o 31 (.ext (.t 26) 0), o 32 (.ext (.t 26) 1), o 8 (.mv (.t 31)), o 9 (.mv (.t 32))]) (.seq (.reg [o 34 (.mv (.t 5)), o 35 (.mv (.t 6)), o 36 (.mv (.t 7)), o 37 (.call (.k (.fn 17 [])) [.t 34, .t 35, .t 36]), o 33 (.mv (.t 37)), o 38 (.ext (.t 33) 0), o 39 (.ext (.t 33) 1), o 10 (.mv (.t 38)), o 11 (.mv (.t 39))]) (.seq (.seq (.reg [o 40 (.mv (.t 9)), o 41 (.bin .neq (.t 40) (.k (.int .i64 (.ofNat 0)))), o 42 (.mv (.t 41)), og 43 (.mv (.t 11)) 42 false, og 44 (.bin .neq (.t 43) (.k (.int .i64 (.ofNat 0)))) 42 false, o 45 (.pick (.t 42) (.k (.bool true)) (.t 44)), o 46 (.mv (.t 45)), og 47 (.mv (.t 5)) 46 false, og 48 (.mv (.t 6)) 46 false, og 49 (.mv (.t 7)) 46 false, og 50 (.mv (.t 10)) 46 false, og 51 (.call (.k (.fn 14 [])) [.t 47, .t 48, .t 49, .t 50]) 46 false, og 52 (.un .not (.t 51)) 46 false, o 53 (.pick (.t 46) (.k (.bool true)) (.t 52)), o 54 (.mv (.t 53)), og 55 (.mv (.t 10)) 54 false, og 56 (.call (.k (.fn 18 [])) [.t 55]) 54 false, og 57 (.mv (.t 8)) 54 false, og 58 (.bin .neq (.t 56) (.t 57)) 54 false, o 59 (.pick (.t 54) (.k (.bool true)) (.t 58)), o 60 (.mv (.t 59)), og 61 (.call (.k (.fn 9 [])) []) 60 false, og 62 (.un .not (.t 61)) 60 false, o 63 (.pick (.t 60) (.k (.bool true)) (.t 62))]) (.cond (.t 63) (.seq (.reg [o 4 (.mv (.k (.bool false)))]) .ret) .skip)) (.seq (.reg [o 64 (.mv (.t 5)), o 65 (.scut (.t 64) none (some (.k (.int .i64 (.ofNat 0))))), o 12 (.mv (.t 65))]) (.seq (.seq (.reg [o 13 (.mv (.k (.int .i64 (.ofNat 0))))]) (.block 0 (.loop (.seq (.seq (.reg [o 66 (.mv (.t 13)), o 67 (.mv (.t 5)), o 68 (.slen (.t 67)), o 69 (.bin .lss (.t 66) (.t 68))]) (.cond (.t 69) .skip (.exit 0))) (.seq (.block 1 (.reg [o 72 (.mv (.t 12)), o 73 (.bin .add (.t 72) (.k (.str [UInt8.ofNat 46]))), o 12 (.mv (.t 73))])) (.reg [o 70 (.mv (.t 13)), o 71 (.bin .add (.t 70) (.k (.int .i64 (.ofNat 1)))), o 13 (.mv (.t 71))])))))) (.seq (.seq (.reg [o 14 (.mv (.k (.int .i64 (.ofNat 0))))]) (.block 2 (.loop (.seq (.seq (.reg [o 74 (.mv (.t 14)), o 75 (.bin .add (.t 74) (.k (.int .i64 (.ofNat 1)))), o 76 (.mv (.t 1)), o 77 (.len (.t 76)), o 78 (.bin .lss (.t 75) (.t 77)), o 79 (.mv (.t 78)), og 80 (.mv (.t 14)) 79 true, og 81 (.bin .lss (.t 80) (.k (.int .i64 (.ofNat 40)))) 79 true, o 82 (.pick (.t 79) (.t 81) (.k (.bool false))), o 83 (.mv (.t 82)), og 84 (.mv (.t 5)) 83 true, og 85 (.slen (.t 84)) 83 true, og 86 (.bin .gtr (.t 85) (.k (.int .i64 (.ofNat 1)))) 83 true, o 87 (.pick (.t 83) (.t 86) (.k (.bool false)))]) (.cond (.t 87) .skip (.exit 2))) (.seq (.block 3 (.seq (.regd [o 90 (.mv (.t 1)), o 91 (.mv (.t 14)), o 92 (.iaddr 1 (.t 90) (.t 91)), o 93 (.load none (.t 92)), o 94 (.conv .i64 (.t 93)), o 95 (.mv (.t 5)), o 96 (.slen (.t 95)), o 97 (.bin .rem (.t 94) (.t 96)), o 98 (.mv (.t 1)), o 99 (.mv (.t 14)), o 100 (.bin .add (.t 99) (.k (.int .i64 (.ofNat 1)))), o 101 (.iaddr 1 (.t 98) (.t 100)), o 102 (.load none (.t 101)), o 103 (.conv .i64 (.t 102)), o 104 (.mv (.t 5)), o 105 (.slen (.t 104)), o 106 (.bin .rem (.t 103) (.t 105)), o 15 (.mv (.t 97)), o 16 (.mv (.t 106))] [] []) (.seq (.reg [o 107 (.mv (.t 15)), o 108 (.mv (.t 16)), o 109 (.mn [.t 107, .t 108]), o 110 (.mv (.t 15)), o 111 (.mv (.t 16)), o 112 (.mx [.t 110, .t 111]), o 15 (.mv (.t 109)), o 16 (.mv (.t 112))]) (.seq (.seq (.reg [o 113 (.mv (.t 15)), o 114 (.mv (.t 16)), o 115 (.bin .eql (.t 113) (.t 114)), o 116 (.mv (.t 115)), og 117 (.mv (.t 12)) 116 false, og 118 (.mv (.t 15)) 116 false, og 119 (.sidx (.t 117) (.t 118)) 116 false, og 120 (.bin .neq (.t 119) (.k (.int .u8 (.ofNat 46)))) 116 false, o 121 (.pick (.t 116) (.k (.bool true)) (.t 120)), o 122 (.mv (.t 121)), og 123 (.mv (.t 12)) 122 false, og 124 (.mv (.t 16)) 122 false, og 125 (.sidx (.t 123) (.t 124)) 122 false, og 126 (.bin .neq (.t 125) (.k (.int .u8 (.ofNat 46)))) 122 false, o 127 (.pick (.t 122) (.k (.bool true)) (.t 126))]) (.cond (.t 127) (.exit 3) .skip)) (.seq (.regd [o 128 (.mv (.t 12)), o 129 (.mv (.t 15)), o 130 (.scut (.t 128) none (some (.t 129))), o 131 (.bin .add (.t 130) (.k (.str [UInt8.ofNat 40]))), o 132 (.mv (.t 12)), o 133 (.mv (.t 15)), o 134 (.bin .add (.t 133) (.k (.int .i64 (.ofNat 1)))), o 135 (.mv (.t 16)), o 136 (.scut (.t 132) (some (.t 134)) (some (.t 135))), o 137 (.bin .add (.t 131) (.t 136)), o 138 (.bin .add (.t 137) (.k (.str [UInt8.ofNat 41]))), o 139 (.mv (.t 12)), o 140 (.mv (.t 16)), o 141 (.bin .add (.t 140) (.k (.int .i64 (.ofNat 1)))), o 142 (.scut (.t 139) (some (.t 141)) none), o 143 (.bin .add (.t 138) (.t 142)), o 17 (.mv (.t 143))] [] []) (.seq (.reg [o 144 (.mv (.t 5)), o 145 (.mv (.t 6)), o 146 (.mv (.t 7)), o 147 (.mv (.t 17)), o 148 (.call (.k (.fn 14 [])) [.t 144, .t 145, .t 146, .t 147])]) (.cond (.t 148) (.reg [o 149 (.mv (.t 17)), o 12 (.mv (.t 149))]) .skip))))))) (.reg [o 88 (.mv (.t 14)), o 89 (.bin .add (.t 88) (.k (.int .i64 (.ofNat 2)))), o 14 (.mv (.t 89))])))))) (.seq (.reg [o 151 (.mv (.t 5)), o 152 (.mv (.t 6)), o 153 (.mv (.t 7)), o 154 (.mv (.t 12)), o 155 (.call (.k (.fn 12 [])) [.t 151, .t 152, .t 153, .t 154]), o 150 (.mv (.t 155)), o 156 (.ext (.t 150) 0), o 157 (.ext (.t 150) 1), o 18 (.mv (.t 156)), o 19 (.mv (.t 157))]) (.seq (.reg [o 158 (.mv (.t 18)), o 159 (.mv (.t 158)), og 160 (.mv (.t 19)) 159 true, og 161 (.bin .eql (.t 160) (.k (.int .i64 (.ofNat 0)))) 159 true, o 162 (.pick (.t 159) (.t 161) (.k (.bool false))), o 163 (.mv (.t 162)), og 164 (.mv (.t 12)) 163 true, og 165 (.call (.k (.fn 18 [])) [.t 164]) 163 true, og 166 (.mv (.t 8)) 163 true, og 167 (.bin .leq (.t 165) (.t 166)) 163 true, o 168 (.pick (.t 163) (.t 167) (.k (.bool false))), o 4 (.mv (.t 168))]) .ret)))))))))) 169 2 [.t 4]
theorem l5 : compFunc Tryd.prog 5 = some L5 := by kernel_rfl
def L7 : XFunc := .mk (.seq (.reg [o 2 (.mv (.k .nils)), o 3 (.mv (.k (.int .i64 (.ofNat 0)))), o 4 (.mv (.k (.int .i64 (.ofNat 0))))]) (.seq (.seq (.reg [o 8 (.mv (.t 0)), o 9 (.slen (.t 8)), o 10 (.bin .gtr (.t 9) (.k (.int .i64 (.ofNat 40))))]) (.cond (.t 10) (.seq (.reg [o 2 (.mv (.k .nils)), o 3 (.mv (.k (.int .i64 (.ofNat 0)))), o 4 (.mv (.k (.int .i64 (.ofNat 3))))]) .ret) .skip)) (.seq (.reg [o 12 (.mv (.t 0)), o 13 (.call (.k (.fn 21 [])) [.t 12]), o 11 (.mv (.t 13)), o 14 (.ext (.t 11) 0), o 15 (.ext (.t 11) 1), o 16 (.ext (.t 11) 2), o 5 (.mv (.t 14)), o 6 (.mv (.t 15)), o 7 (.mv (.t 16))]) (.seq (.seq (.reg [o 17 (.mv (.t 7)), o 18 (.un .not (.t 17))]) (.cond (.t 18) (.seq (.reg [o 2 (.mv (.k .nils)), o 3 (.mv (.k (.int .i64 (.ofNat 0)))), o 4 (.mv (.k (.int .i64 (.ofNat 2))))]) .ret) .skip)) (.seq (.reg [o 19 (.mv (.t 5)), o 20 (.mv (.t 6)), o 2 (.mv (.t 19)), o 3 (.mv (.t 20)), o 4 (.mv (.k (.int .i64 (.ofNat 0))))]) .ret))))) 21 1 [.t 2, .t 3, .t 4]
theorem l7 : compFunc Tryd.prog 7 = some L7 := by kernel_rfl
def L8 : XFunc := .mk (.seq (.reg [o 2 (.mv (.k .nils)), o 3 (.mv (.k (.bool false)))]) (.seq (.reg [o 8 (.bslice [.int .i64 (.ofNat 0)] [] 0), o 9 (.bslice [.int .i64 (.ofNat 0)] [] 0), o 4 (.mv (.t 8)), o 5 (.mv (.t 9))]) (.seq (.seq (.reg [o 6 (.mv (.k (.int .i64 (.ofNat 0))))]) (.block 0 (.loop (.seq (.seq (.reg [o 10 (.mv (.t 6)), o 11 (.mv (.t 0)), o 12 (.slen (.t 11)), o 13 (.bin .lss (.t 10) (.t 12))]) (.cond (.t 13) .skip (.exit 0))) (.seq (.block 1 (.seq (.reg [o 16 (.mv (.t 4)), o 17 (.bslice [.int .i64 (.ofNat 0)] [(0, 1, .k (.int .i64 (.negSucc 0)))] 1), o 18 (.app 1 8 (.t 16) (.t 17)), o 4 (.mv (.t 18))]) (.seq (.reg [o 19 (.mv (.t 0)), o 20 (.mv (.t 6)), o 21 (.sidx (.t 19) (.t 20))]) (.block 2 (.seq (.reg [o 23 (.bin .eql (.t 21) (.k (.int .u8 (.ofNat 40)))), o 22 (.mv (.t 23))]) (.cond (.t 22) (.reg [o 24 (.bslice [.int .i64 (.ofNat 0)] [] 0), o 25 (.mv (.t 5)), o 26 (.app 1 8 (.t 24) (.t 25)), o 27 (.mv (.t 6)), o 28 (.bslice [.int .i64 (.ofNat 0)] [(0, 1, .t 27)] 1), o 29 (.app 1 8 (.t 26) (.t 28)), o 5 (.mv (.t 29))]) (.seq (.reg [o 31 (.bin .eql (.t 21) (.k (.int .u8 (.ofNat 41)))), o 30 (.mv (.t 31))]) (.cond (.t 30) (.seq (.seq (.reg [o 32 (.mv (.t 5)), o 33 (.len (.t 32)), o 34 (.bin .eql (.t 33) (.k (.int .i64 (.ofNat 0))))]) (.cond (.t 34) (.seq (.reg [o 2 (.mv (.k .nils)), o 3 (.mv (.k (.bool false)))]) .ret) .skip)) (.seq (.reg [o 35 (.mv (.t 5)), o 36 (.mv (.t 5)), o 37 (.len (.t 36)), o 38 (.bin .sub (.t 37) (.k (.int .i64 (.ofNat 1)))), o 39 (.iaddr 1 (.t 35) (.t 38)), o 40 (.load none (.t 39)), o 7 (.mv (.t 40))]) (.seq (.reg [o 41 (.bslice [.int .i64 (.ofNat 0)] [] 0), o 42 (.mv (.t 5)), o 43 (.mv (.t 5)), o 44 (.len (.t 43)), o 45 (.bin .sub (.t 44) (.k (.int .i64 (.ofNat 1)))), o 46 (.cut 1 (.t 42) none (some (.t 45)) none), o 47 (.app 1 8 (.t 41) (.t 46)), o 5 (.mv (.t 47))]) (.reg [o 48 (.mv (.t 4)), o 49 (.mv (.t 7)), o 50 (.mv (.t 4)), o 51 (.mv (.t 6)), o 52 (.mv (.t 6)), o 53 (.mv (.t 7)), o 54 (.iaddr 1 (.t 48) (.t 49)), .mk none (.store 1 (.t 54) (.t 52)) none, o 55 (.iaddr 1 (.t 50) (.t 51)), .mk none (.store 1 (.t 55) (.t 53)) none])))) (.seq (.reg [o 57 (.bin .eql (.t 21) (.k (.int .u8 (.ofNat 46)))), o 56 (.mv (.t 57))]) (.cond (.t 56) .skip (.seq (.reg [o 2 (.mv (.k .nils)), o 3 (.mv (.k (.bool false)))]) .ret))))))))))) (.reg [o 14 (.mv (.t 6)), o 15 (.bin .add (.t 14) (.k (.int .i64 (.ofNat 1)))), o 6 (.mv (.t 15))])))))) (.seq (.reg [o 58 (.mv (.t 4)), o 59 (.mv (.t 5)), o 60 (.len (.t 59)), o 61 (.bin .eql (.t 60) (.k (.int .i64 (.ofNat 0)))), o 2 (.mv (.t 58)), o 3 (.mv (.t 61))]) .ret)))) 62 1 [.t 2, .t 3]
theorem l8 : compFunc Tryd.prog 8 = some L8 := by kernel_rfl
def L9 : XFunc := .mk (.seq (.reg [o 0 (.mv (.k (.bool false)))]) (.seq (.reg [o 11 (.build [.int .i64 (.ofNat 0), .int .i64 (.ofNat 0)] [(0, 1, .k (.int .i64 (.ofNat 0))), (1, 1, .k (.int .i64 (.ofNat 1)))]), o 12 (.bslice [.int .i64 (.ofNat 0), .int .i64 (.ofNat 0)] [(0, 2, .t 11)] 1), o 1 (.mv (.t 12))]) (.seq (.reg [o 14 (.mv (.t 1)), o 15 (.call (.k (.fn 17 [])) [.k (.str [UInt8.ofNat 97, UInt8.ofNat 97, UInt8.ofNat 98, UInt8.ofNat 98]), .t 14, .k (.int .i64 (.ofNat 0))]), o 13 (.mv (.t 15)), o 16 (.ext (.t 13) 0), o 17 (.ext (.t 13) 1), o 2 (.mv (.t 16)), o 3 (.mv (.t 17))]) (.seq (.reg [o 19 (.mv (.t 1)), o 20 (.call (.k (.fn 22 [])) [.k (.str [UInt8.ofNat 97, UInt8.ofNat 97, UInt8.ofNat 98, UInt8.ofNat 98]), .t 19, .k (.int .i64 (.ofNat 0))]), o 18 (.mv (.t 20)), o 21 (.ext (.t 18) 0), o 22 (.ext (.t 18) 1), o 4 (.mv (.t 21)), o 5 (.mv (.t 22))]) (.seq (.reg [o 24 (.call (.k (.fn 7 [])) [.k (.str [UInt8.ofNat 40, UInt8.ofNat 40, UInt8.ofNat 41, UInt8.ofNat 41, UInt8.ofNat 46, UInt8.ofNat 40, UInt8.ofNat 41])]), o 23 (.mv (.t 24)), o 25 (.ext (.t 23) 0), o 26 (.ext (.t 23) 1), o 27 (.ext (.t 23) 2), o 6 (.mv (.t 25)), o 7 (.mv (.t 26)), o 8 (.mv (.t 27))]) (.seq (.reg [o 29 (.mv (.t 1)), o 30 (.call (.k (.fn 23 [])) [.k (.str [UInt8.ofNat 97, UInt8.ofNat 97, UInt8.ofNat 98, UInt8.ofNat 98]), .t 29, .k (.int .i64 (.ofNat 0)), .k (.str [UInt8.ofNat 46, UInt8.ofNat 46, UInt8.ofNat 46, UInt8.ofNat 46])]), o 28 (.mv (.t 30)), o 31 (.ext (.t 28) 0), o 32 (.ext (.t 28) 1), o 9 (.mv (.t 31)), o 10 (.mv (.t 32))]) (.seq (.reg [o 33 (.mv (.t 2)), o 34 (.bin .eql (.t 33) (.k (.str [UInt8.ofNat 40, UInt8.ofNat 40, UInt8.ofNat 41, UInt8.ofNat 41]))), o 35 (.mv (.t 34)), og 36 (.mv (.t 3)) 35 true, og 37 (.bin .eql (.t 36) (.k (.int .i64 (.ofNat 0)))) 35 true, o 38 (.pick (.t 35) (.t 37) (.k (.bool false))), o 39 (.mv (.t 38)), og 40 (.mv (.t 4)) 39 true, og 41 (.bin .eql (.t 40) (.k (.str [UInt8.ofNat 54]))) 39 true, o 42 (.pick (.t 39) (.t 41) (.k (.bool false))), o 43 (.mv (.t 42)), og 44 (.mv (.t 5)) 43 true, og 45 (.bin .eql (.t 44) (.k (.int .i64 (.ofNat 0)))) 43 true, o 46 (.pick (.t 43) (.t 45) (.k (.bool false))), o 47 (.mv (.t 46)), og 48 (.mv (.t 6)) 47 true, og 49 (.len (.t 48)) 47 true, og 50 (.bin .eql (.t 49) (.k (.int .i64 (.ofNat 3)))) 47 true, o 51 (.pick (.t 47) (.t 50) (.k (.bool false))), o 52 (.mv (.t 51)), og 53 (.mv (.t 6)) 52 true, og 54 (.iaddr 2 (.t 53) (.k (.int .i64 (.ofNat 2)))) 52 true, og 55 (.load (some 2) (.t 54)) 52 true, og 56 (.build [.int .i64 (.ofNat 0), .int .i64 (.ofNat 0)] [(0, 1, .k (.int .i64 (.ofNat 5))), (1, 1, .k (.int .i64 (.ofNat 6)))]) 52 true, og 57 (.eqf false (.mk true [.i .i64, .i .i64]) (.t 55) (.t 56)) 52 true, o 58 (.pick (.t 52) (.t 57) (.k (.bool false))), o 59 (.mv (.t 58)), og 60 (.mv (.t 7)) 59 true, og 61 (.bin .eql (.t 60) (.k (.int .i64 (.ofNat 2)))) 59 true, o 62 (.pick (.t 59) (.t 61) (.k (.bool false))), o 63 (.mv (.t 62)), og 64 (.mv (.t 8)) 63 true, og 65 (.bin .eql (.t 64) (.k (.int .i64 (.ofNat 0)))) 63 true, o 66 (.pick (.t 63) (.t 65) (.k (.bool false))), o 67 (.mv (.t 66)), og 68 (.mv (.t 9)) 67 true, og 69 (.bin .eql (.t 68) (.k (.str [UInt8.ofNat 53]))) 67 true, o 70 (.pick (.t 67) (.t 69) (.k (.bool false))), o 71 (.mv (.t 70)), og 72 (.mv (.t 10)) 71 true, og 73 (.bin .eql (.t 72) (.k (.int .i64 (.ofNat 0)))) 71 true, o 74 (.pick (.t 71) (.t 73) (.k (.bool false))), o 0 (.mv (.t 74))]) .ret))))))) 75 0 [.t 0]
theorem l9 : compFunc Tryd.prog 9 = some L9 := by kernel_rfl
def L12 : XFunc := .mk (.seq (.reg [o 8 (.mv (.k (.bool false))), o 9 (.mv (.k (.int .i64 (.ofNat 0))))]) (.seq (.reg [o 13 (.mv (.t 0)), o 14 (.mv (.t 1)), o 15 (.mv (.t 2)), o 16 (.call (.k (.fn 24 [])) [.t 13, .t 14, .t 15]), o 12 (.mv (.t 16)), o 17 (.ext (.t 12) 0), o 18 (.ext (.t 12) 1), o 10 (.mv (.t 17)), o 11 (.mv (.t 18))]) (.seq (.seq (.reg [o 19 (.mv (.t 11)), o 20 (.bin .neq (.t 19) (.k (.int .i64 (.ofNat 0))))]) (.cond (.t 20) (.seq (.reg [o 21 (.mv (.t 11)), o 8 (.mv (.k (.bool false))), o 9 (.mv (.t 21))]) .ret) .skip)) (.seq (.reg [o 22 (.mv (.t 10)), o 23 (.mv (.t 3)), o 24 (.call (.k (.fn 25 [])) [.t 22, .t 23]), o 8 (.mv (.t 24)), o 9 (.mv (.k (.int .i64 (.ofNat 0))))]) .ret)))) 25 4 [.t 8, .t 9]
theorem l12 : compFunc Tryd.prog 12 = some L12 := by kernel_rfl
def L14 : XFunc := .mk (.seq (.reg [o 8 (.mv (.k (.bool false)))]) (.seq (.reg [o 13 (.mv (.t 3)), o 14 (.call (.k (.fn 8 [])) [.t 13]), o 12 (.mv (.t 14)), o 15 (.ext (.t 12) 0), o 16 (.ext (.t 12) 1), o 9 (.mv (.t 15)), o 10 (.mv (.t 16))]) (.seq (.seq (.reg [o 17 (.mv (.t 10)), o 18 (.un .not (.t 17)), o 19 (.mv (.t 18)), og 20 (.mv (.t 3)) 19 false, og 21 (.slen (.t 20)) 19 false, og 22 (.mv (.t 0)) 19 false, og 23 (.slen (.t 22)) 19 false, og 24 (.bin .neq (.t 21) (.t 23)) 19 false, o 25 (.pick (.t 19) (.k (.bool true)) (.t 24))]) (.cond (.t 25) (.seq (.reg [o 8 (.mv (.k (.bool false)))]) .ret) .skip)) (.seq (.seq (.reg [o 11 (.mv (.k (.int .i64 (.ofNat 0))))]) (.block 0 (.loop (.seq (.seq (.reg [o 26 (.mv (.t 11)), o 27 (.mv (.t 9)), o 28 (.len (.t 27)), o 29 (.bin .lss (.t 26) (.t 28))]) (.cond (.t 29) .skip (.exit 0))) (.seq (.block 1 (.seq (.reg [o 32 (.mv (.t 9)), o 33 (.mv (.t 11)), o 34 (.iaddr 1 (.t 32) (.t 33)), o 35 (.load none (.t 34)), o 36 (.mv (.t 11)), o 37 (.bin .gtr (.t 35) (.t 36)), o 38 (.mv (.t 37)), og 39 (.mv (.t 0)) 38 true, og 40 (.mv (.t 1)) 38 true, og 41 (.mv (.t 2)) 38 true, og 42 (.mv (.t 11)) 38 true, og 43 (.mv (.t 9)) 38 true, og 44 (.mv (.t 11)) 38 true, og 45 (.iaddr 1 (.t 43) (.t 44)) 38 true, og 46 (.load none (.t 45)) 38 true, og 47 (.call (.k (.fn 27 [])) [.t 39, .t 40, .t 41, .t 42, .t 46]) 38 true, og 48 (.un .not (.t 47)) 38 true, o 49 (.pick (.t 38) (.t 48) (.k (.bool false)))]) (.cond (.t 49) (.seq (.reg [o 8 (.mv (.k (.bool false)))]) .ret) .skip))) (.reg [o 30 (.mv (.t 11)), o 31 (.bin .add (.t 30) (.k (.int .i64 (.ofNat 1)))), o 11 (.mv (.t 31))])))))) (.seq (.reg [o 8 (.mv (.k (.bool true)))]) .ret))))) 50 4 [.t 8]
theorem l14 : compFunc Tryd.prog 14 = some L14 := by kernel_rfl
def L15 : XFunc := .mk (.seq (.reg [o 2 (.box (.t 0)), o 4 (.mv (.k (.str []))), o 5 (.mv (.k .nils)), o 6 (.mv (.k (.int .i64 (.ofNat 0))))]) (.seq (.reg [o 13 (.bslice [.int .i64 (.ofNat 0), .int .i64 (.ofNat 0)] [] 0), o 7 (.mv (.k (.str []))), o 8 (.mv (.t 13)), o 9 (.mv (.k (.int .i64 (.ofNat 0))))]) (.seq (.seq (.reg [o 10 (.mv (.k (.int .i64 (.ofNat 0))))]) (.block 0 (.loop (.seq (.seq (.reg [o 14 (.mv (.t 10)), o 15 (.bin .lss (.t 14) (.k (.int .i64 (.ofNat 4))))]) (.cond (.t 15) .skip (.exit 0))) (.seq (.block 1 (.seq (.reg [o 11 (.mv (.k (.int .i64 (.ofNat 0))))]) (.block 2 (.loop (.seq (.seq (.reg [o 18 (.mv (.t 11)), o 19 (.mv (.t 10)), o 20 (.bin .leq (.t 18) (.t 19))]) (.cond (.t 20) .skip (.exit 2))) (.seq (.block 3 (.seq (.seq (.reg [o 23 (.faddr 0 (.t 2)), o 24 (.load none (.t 23)), o 25 (.mv (.t 9)), o 26 (.bin .shr (.t 24) (.t 25)), o 27 (.bin .and (.t 26) (.k (.int .u16 (.ofNat 1)))), o 28 (.bin .eql (.t 27) (.k (.int .u16 (.ofNat 1))))]) (.cond (.t 28) (.reg [o 29 (.mv (.t 8)), o 30 (.mv (.t 10)), o 31 (.mv (.t 11)), o 32 (.build [.int .i64 (.ofNat 0), .int .i64 (.ofNat 0)] [(0, 1, .t 30), (1, 1, .t 31)]), o 33 (.bslice [.int .i64 (.ofNat 0), .int .i64 (.ofNat 0)] [(0, 2, .t 32)] 1), o 34 (.app 2 16 (.t 29) (.t 33)), o 8 (.mv (.t 34))]) .skip)) (.reg [o 35 (.mv (.t 9)), o 36 (.bin .add (.t 35) (.k (.int .i64 (.ofNat 1)))), o 9 (.mv (.t 36))]))) (.reg [o 21 (.mv (.t 11)), o 22 (.bin .add (.t 21) (.k (.int .i64 (.ofNat 1)))), o 11 (.mv (.t 22))]))))))) (.reg [o 16 (.mv (.t 10)), o 17 (.bin .add (.t 16) (.k (.int .i64 (.ofNat 1)))), o 10 (.mv (.t 17))])))))) (.seq (.seq (.reg [o 12 (.mv (.k (.int .i64 (.ofNat 0))))]) (.block 4 (.loop (.seq (.seq (.reg [o 37 (.mv (.t 12)), o 38 (.faddr 2 (.t 2)), o 39 (.load none (.t 38)), o 40 (.len (.t 39)), o 41 (.bin .lss (.t 37) (.t 40)), o 42 (.mv (.t 41)), og 43 (.mv (.t 12)) 42 true, og 44 (.mv (.t 1)) 42 true, og 45 (.bin .lss (.t 43) (.t 44)) 42 true, o 46 (.pick (.t 42) (.t 45) (.k (.bool false)))]) (.cond (.t 46) .skip (.exit 4))) (.seq (.block 5 (.regd [o 49 (.mv (.t 7)), o 50 (.faddr 2 (.t 2)), o 51 (.load none (.t 50)), o 52 (.mv (.t 12)), o 53 (.iaddr 1 (.t 51) (.t 52)), o 54 (.load none (.t 53)), o 55 (.bin .rem (.t 54) (.k (.int .u8 (.ofNat 4)))), o 56 (.faddr 2 (.t 2)), o 57 (.load none (.t 56)), o 58 (.mv (.t 12)), o 59 (.iaddr 1 (.t 57) (.t 58)), o 60 (.load none (.t 59)), o 61 (.bin .rem (.t 60) (.k (.int .u8 (.ofNat 4)))), o 62 (.bin .add (.t 61) (.k (.int .u8 (.ofNat 1)))), o 63 (.scut (.k (.str [UInt8.ofNat 97, UInt8.ofNat 98, UInt8.ofNat 99, UInt8.ofNat 100])) (some (.t 55)) (some (.t 62))), o 64 (.bin .add (.t 49) (.t 63)), o 7 (.mv (.t 64))] [] [])) (.reg [o 47 (.mv (.t 12)), o 48 (.bin .add (.t 47) (.k (.int .i64 (.ofNat 1)))), o 12 (.mv (.t 48))])))))) (.seq (.regd [o 65 (.mv (.t 7)), o 66 (.mv (.t 8)), o 67 (.faddr 1 (.t 2)), o 68 (.load none (.t 67)), o 69 (.conv .i64 (.t 68)), o 70 (.bin .rem (.t 69) (.k (.int .i64 (.ofNat 6)))), o 4 (.mv (.t 65)), o 5 (.mv (.t 66)), o 6 (.mv (.t 70))] [] []) .ret))))) 71 2 [.t 4, .t 5, .t 6]
theorem l15 : compFunc Tryd.prog 15 = some L15 := by kernel_rfl
def L16 : XFunc := .mk (.seq (.reg [o 6 (.mv (.k (.int .i64 (.ofNat 0)))), o 7 (.mv (.k (.int .i64 (.ofNat 0))))]) (.seq (.reg [o 11 (.mv (.t 0)), o 12 (.mv (.t 1)), o 13 (.mv (.t 2)), o 14 (.call (.k (.fn 24 [])) [.t 11, .t 12, .t 13]), o 10 (.mv (.t 14)), o 15 (.ext (.t 10) 0), o 16 (.ext (.t 10) 1), o 8 (.mv (.t 15)), o 9 (.mv (.t 16))]) (.seq (.seq (.reg [o 17 (.mv (.t 9)), o 18 (.bin .neq (.t 17) (.k (.int .i64 (.ofNat 0))))]) (.cond (.t 18) (.seq (.reg [o 19 (.mv (.t 9)), o 6 (.mv (.k (.int .i64 (.ofNat 0)))), o 7 (.mv (.t 19))]) .ret) .skip)) (.seq (.reg [o 20 (.mv (.t 8)), o 21 (.mv (.t 8)), o 22 (.call (.k (.fn 29 [])) [.t 21]), o 23 (.call (.k (.fn 28 [])) [.t 20, .t 22]), o 24 (.len (.t 23)), o 25 (.bin .sub (.t 24) (.k (.int .i64 (.ofNat 1)))), o 6 (.mv (.t 25)), o 7 (.mv (.k (.int .i64 (.ofNat 0))))]) .ret)))) 26 3 [.t 6, .t 7]
theorem l16 : compFunc Tryd.prog 16 = some L16 := by kernel_rfl
def L17 : XFunc := .mk (.seq (.reg [o 6 (.mv (.k (.str []))), o 7 (.mv (.k (.int .i64 (.ofNat 0))))]) (.seq (.reg [o 11 (.mv (.t 0)), o 12 (.mv (.t 1)), o 13 (.mv (.t 2)), o 14 (.call (.k (.fn 24 [])) [.t 11, .t 12, .t 13]), o 10 (.mv (.t 14)), o 15 (.ext (.t 10) 0), o 16 (.ext (.t 10) 1), o 8 (.mv (.t 15)), o 9 (.mv (.t 16))]) (.seq (.seq (.reg [o 17 (.mv (.t 9)), o 18 (.bin .neq (.t 17) (.k (.int .i64 (.ofNat 0))))]) (.cond (.t 18) (.seq (.reg [o 19 (.mv (.t 9)), o 6 (.mv (.k (.str []))), o 7 (.mv (.t 19))]) .ret) .skip)) (.seq (.reg [o 20 (.mv (.t 8)), o 21 (.mv (.t 8)), o 22 (.call (.k (.fn 29 [])) [.t 21]), o 23 (.call (.k (.fn 30 [])) [.t 20, .t 22]), o 6 (.mv (.t 23)), o 7 (.mv (.k (.int .i64 (.ofNat 0))))]) .ret)))) 24 3 [.t 6, .t 7]
theorem l17 : compFunc Tryd.prog 17 = some L17 := by kernel_rfl
def L18 : XFunc := .mk (.seq (.reg [o 2 (.mv (.k (.int .i64 (.ofNat 0))))]) (.seq (.reg [o 3 (.mv (.k (.int .i64 (.ofNat 0))))]) (.seq (.seq (.reg [o 4 (.mv (.k (.int .i64 (.ofNat 0))))]) (.block 0 (.loop (.seq (.seq (.reg [o 5 (.mv (.t 4)), o 6 (.mv (.t 0)), o 7 (.slen (.t 6)), o 8 (.bin .lss (.t 5) (.t 7))]) (.cond (.t 8) .skip (.exit 0))) (.seq (.block 1 (.seq (.reg [o 11 (.mv (.t 0)), o 12 (.mv (.t 4)), o 13 (.sidx (.t 11) (.t 12)), o 14 (.bin .eql (.t 13) (.k (.int .u8 (.ofNat 40))))]) (.cond (.t 14) (.reg [o 15 (.mv (.t 3)), o 16 (.bin .add (.t 15) (.k (.int .i64 (.ofNat 1)))), o 3 (.mv (.t 16))]) .skip))) (.reg [o 9 (.mv (.t 4)), o 10 (.bin .add (.t 9) (.k (.int .i64 (.ofNat 1)))), o 4 (.mv (.t 10))])))))) (.seq (.reg [o 17 (.mv (.t 3)), o 2 (.mv (.t 17))]) .ret)))) 18 1 [.t 2]
theorem l18 : compFunc Tryd.prog 18 = some L18 := by kernel_rfl
def L21 : XFunc := .mk (.seq (.reg [o 2 (.mv (.k .nils)), o 3 (.mv (.k (.int .i64 (.ofNat 0)))), o 4 (.mv (.k (.bool false)))]) (.seq (.reg [o 5 (.mv (.k .nils))]) (.seq (.reg [o 6 (.mv (.k .nils))]) (.seq (.reg [o 7 (.mv (.k (.int .i64 (.ofNat 0))))]) (.seq (.seq (.reg [o 9 (.mv (.t 0)), o 10 (.slen (.t 9)), o 11 (.mv (.k (.int .i64 (.ofNat 0))))]) (.block 0 (.loop (.seq (.reg [o 12 (.bin .lss (.t 11) (.t 10))]) (.seq (.cond (.t 12) .skip (.exit 0)) (.seq (.block 1 (.seq (.reg [o 13 (.mv (.t 11)), o 8 (.mv (.t 13))]) (.seq (.reg [o 14 (.mv (.t 0)), o 15 (.mv (.t 8)), o 16 (.sidx (.t 14) (.t 15))]) (.block 2 (.seq (.reg [o 18 (.bin .eql (.t 16) (.k (.int .u8 (.ofNat 40)))), o 17 (.mv (.t 18))]) (.cond (.t 17) (.seq (.reg [o 19 (.mv (.t 6)), o 20 (.mv (.t 8)), o 21 (.bslice [.int .i64 (.ofNat 0)] [(0, 1, .t 20)] 1), o 22 (.app 1 8 (.t 19) (.t 21)), o 6 (.mv (.t 22))]) (.reg [o 23 (.mv (.t 7)), o 24 (.mv (.t 6)), o 25 (.len (.t 24)), o 26 (.mx [.t 23, .t 25]), o 7 (.mv (.t 26))])) (.seq (.reg [o 28 (.bin .eql (.t 16) (.k (.int .u8 (.ofNat 41)))), o 27 (.mv (.t 28))]) (.cond (.t 27) (.seq (.seq (.reg [o 29 (.mv (.t 6)), o 30 (.len (.t 29)), o 31 (.bin .eql (.t 30) (.k (.int .i64 (.ofNat 0))))]) (.cond (.t 31) (.seq (.reg [o 2 (.mv (.k .nils)), o 3 (.mv (.k (.int .i64 (.ofNat 0)))), o 4 (.mv (.k (.bool false)))]) .ret) .skip)) (.seq (.reg [o 32 (.mv (.t 5)), o 33 (.mv (.t 6)), o 34 (.mv (.t 6)), o 35 (.len (.t 34)), o 36 (.bin .sub (.t 35) (.k (.int .i64 (.ofNat 1)))), o 37 (.iaddr 1 (.t 33) (.t 36)), o 38 (.load none (.t 37)), o 39 (.mv (.t 8)), o 40 (.build [.int .i64 (.ofNat 0), .int .i64 (.ofNat 0)] [(0, 1, .t 38), (1, 1, .t 39)]), o 41 (.bslice [.int .i64 (.ofNat 0), .int .i64 (.ofNat 0)] [(0, 2, .t 40)] 1), o 42 (.app 2 16 (.t 32) (.t 41)), o 5 (.mv (.t 42))]) (.reg [o 43 (.mv (.t 6)), o 44 (.mv (.t 6)), o 45 (.len (.t 44)), o 46 (.bin .sub (.t 45) (.k (.int .i64 (.ofNat 1)))), o 47 (.cut 1 (.t 43) none (some (.t 46)) none), o 6 (.mv (.t 47))]))) (.seq (.reg [o 49 (.bin .eql (.t 16) (.k (.int .u8 (.ofNat 46)))), o 48 (.mv (.t 49))]) (.cond (.t 48) .skip (.seq (.reg [o 2 (.mv (.k .nils)), o 3 (.mv (.k (.int .i64 (.ofNat 0)))), o 4 (.mv (.k (.bool false)))]) .ret))))))))))) (.reg [o 50 (.bin .add (.t 11) (.k (.int .i64 (.ofNat 1)))), o 11 (.mv (.t 50))]))))))) (.seq (.reg [o 51 (.mv (.t 5)), o 52 (.call (.k (.fn 33 [])) [.t 51, .k (.fn 34 [])])]) (.seq (.reg [o 53 (.mv (.t 5)), o 54 (.mv (.t 7)), o 55 (.mv (.t 6)), o 56 (.len (.t 55)), o 57 (.bin .eql (.t 56) (.k (.int .i64 (.ofNat 0)))), o 2 (.mv (.t 53)), o 3 (.mv (.t 54)), o 4 (.mv (.t 57))]) .ret))))))) 58 1 [.t 2, .t 3, .t 4]
theorem l21 : compFunc Tryd.prog 21 = some L21 := by kernel_rfl
def L22 : XFunc := .mk (.seq (.reg [o 6 (.mv (.k (.str []))), o 7 (.mv (.k (.int .i64 (.ofNat 0))))]) (.seq (.reg [o 11 (.mv (.t 0)), o 12 (.mv (.t 1)), o 13 (.mv (.t 2)), o 14 (.call (.k (.fn 24 [])) [.t 11, .t 12, .t 13]), o 10 (.mv (.t 14)), o 15 (.ext (.t 10) 0), o 16 (.ext (.t 10) 1), o 8 (.mv (.t 15)), o 9 (.mv (.t 16))]) (.seq (.seq (.reg [o 17 (.mv (.t 9)), o 18 (.bin .neq (.t 17) (.k (.int .i64 (.ofNat 0))))]) (.cond (.t 18) (.seq (.reg [o 19 (.mv (.t 9)), o 6 (.mv (.k (.str []))), o 7 (.mv (.t 19))]) .ret) .skip)) (.seq (.reg [o 20 (.mv (.t 8)), o 21 (.mv (.t 8)), o 22 (.call (.k (.fn 29 [])) [.t 21]), o 23 (.call (.k (.fn 28 [])) [.t 20, .t 22]), o 24 (.call (.k (.fn 35 [])) [.t 23]), o 25 (.call (.k (.fn 31 [])) [.t 24]), o 26 (.call (.k (.fn 32 [])) [.t 25]), o 27 (.ext (.t 26) 0), o 28 (.ext (.t 26) 1), o 6 (.mv (.t 27)), o 7 (.mv (.t 28))]) .ret)))) 29 3 [.t 6, .t 7]
theorem l22 : compFunc Tryd.prog 22 = some L22 := by kernel_rfl
def L23 : XFunc := .mk (.seq (.reg [o 8 (.mv (.k (.str []))), o 9 (.mv (.k (.int .i64 (.ofNat 0))))]) (.seq (.reg [o 20 (.mv (.t 0)), o 21 (.mv (.t 1)), o 22 (.mv (.t 2)), o 23 (.call (.k (.fn 24 [])) [.t 20, .t 21, .t 22]), o 19 (.mv (.t 23)), o 24 (.ext (.t 19) 0), o 25 (.ext (.t 19) 1), o 10 (.mv (.t 24)), o 11 (.mv (.t 25))]) (.seq (.block 0 (.seq (.reg [o 27 (.mv (.t 11)), o 28 (.bin .neq (.t 27) (.k (.int .i64 (.ofNat 0)))), o 26 (.mv (.t 28))]) (.cond (.t 26) (.seq (.reg [o 29 (.mv (.t 11)), o 8 (.mv (.k (.str []))), o 9 (.mv (.t 29))]) .ret) (.seq (.reg [o 31 (.mv (.t 10)), o 32 (.mv (.t 3)), o 33 (.call (.k (.fn 25 [])) [.t 31, .t 32]), o 34 (.un .not (.t 33)), o 30 (.mv (.t 34))]) (.cond (.t 30) (.seq (.reg [o 8 (.mv (.k (.str []))), o 9 (.mv (.k (.int .i64 (.ofNat 2))))]) .ret) .skip))))) (.seq (.reg [o 35 (.mv (.t 10)), o 36 .mkmap, o 37 (.build [.nilp, .nilm] [(0, 1, .t 35), (1, 1, .t 36)]), o 38 (.box (.t 37)), o 12 (.mv (.t 38))]) (.seq (.reg [o 39 (.call (.k (.fn 36 [])) [.k (.int .i64 (.ofNat 0))]), o 13 (.alloc [.bool false, .nils]), .mk none (.store 2 (.t 13) (.t 39)) none]) (.seq (.reg [o 14 (.mv (.k .nils))]) (.seq (.seq (.reg [o 40 (.mv (.t 0)), o 41 (.slen (.t 40)), o 42 (.mv (.k (.int .i64 (.ofNat 0))))]) (.block 1 (.loop (.seq (.reg [o 43 (.bin .lss (.t 42) (.t 41))]) (.seq (.cond (.t 43) .skip (.exit 1)) (.seq (.block 2 (.seq (.reg [o 44 (.mv (.t 42)), o 15 (.mv (.t 44))]) (.seq (.seq (.reg [o 16 (.mv (.k (.int .i64 (.ofNat 0))))]) (.block 3 (.loop (.seq (.seq (.regd [o 45 (.mv (.t 16)), o 46 (.sidx (.k (.str [UInt8.ofNat 40, UInt8.ofNat 41, UInt8.ofNat 46])) (.t 45)), o 47 (.mv (.t 3)), o 48 (.mv (.t 15)), o 49 (.sidx (.t 47) (.t 48)), o 50 (.bin .neq (.t 46) (.t 49))] [] []) (.cond (.t 50) .skip (.exit 3))) (.seq (.block 4 (.seq (.reg [o 54 (.mv (.t 12)), o 55 (.mv (.t 15)), o 56 (.mv (.t 14)), o 57 (.mv (.t 16)), o 58 (.sidx (.k (.str [UInt8.ofNat 40, UInt8.ofNat 41, UInt8.ofNat 46])) (.t 57)), o 59 (.call (.k (.fn 37 [])) [.t 54, .t 55, .t 56, .t 58]), o 53 (.mv (.t 59)), o 60 (.ext (.t 53) 0), o 61 (.ext (.t 53) 1), o 17 (.mv (.t 60)), o 18 (.mv (.t 61))]) (.seq (.reg [o 62 (.mv (.t 18))]) (.cond (.t 62) (.regd [o 63 (.load (some 2) (.t 13)), o 64 (.mv (.t 12)), o 65 (.mv (.t 15)), o 66 (.bin .add (.t 65) (.k (.int .i64 (.ofNat 1)))), o 67 (.mv (.t 17)), o 68 (.call (.k (.fn 39 [])) [.t 64, .t 66, .t 67]), o 69 (.call (.k (.fn 38 [])) [.t 63, .t 68]), .mk none (.store 2 (.t 13) (.t 69)) none] [(0, [5], [])] []) .skip)))) (.reg [o 51 (.mv (.t 16)), o 52 (.bin .add (.t 51) (.k (.int .i64 (.ofNat 1)))), o 16 (.mv (.t 52))])))))) (.reg [o 71 (.mv (.t 12)), o 72 (.mv (.t 15)), o 73 (.mv (.t 14)), o 74 (.mv (.t 3)), o 75 (.mv (.t 15)), o 76 (.sidx (.t 74) (.t 75)), o 77 (.call (.k (.fn 37 [])) [.t 71, .t 72, .t 73, .t 76]), o 70 (.mv (.t 77)), o 78 (.ext (.t 70) 0), o 79 (.ext (.t 70) 1), o 14 (.mv (.t 78))])))) (.reg [o 80 (.bin .add (.t 42) (.k (.int .i64 (.ofNat 1)))), o 42 (.mv (.t 80))]))))))) (.seq (.reg [o 81 (.load (some 2) (.t 13)), o 82 (.call (.k (.fn 31 [])) [.t 81]), o 83 (.call (.k (.fn 32 [])) [.t 82]), o 84 (.ext (.t 83) 0), o 85 (.ext (.t 83) 1), o 8 (.mv (.t 84)), o 9 (.mv (.t 85))]) .ret)))))))) 86 4 [.t 8, .t 9]
theorem l23 : compFunc Tryd.prog 23 = some L23 := by kernel_rfl
def L24 : XFunc := .mk (.seq (.reg [o 6 (.mv (.k .nilp)), o 7 (.mv (.k (.int .i64 (.ofNat 0))))]) (.seq (.seq (.reg [o 11 (.mv (.t 0)), o 12 (.slen (.t 11)), o 13 (.bin .gtr (.t 12) (.k (.int .i64 (.ofNat 40)))), o 14 (.mv (.t 13)), og 15 (.mv (.t 1)) 14 false, og 16 (.len (.t 15)) 14 false, og 17 (.bin .gtr (.t 16) (.k (.int .i64 (.ofNat 16)))) 14 false, o 18 (.pick (.t 14) (.k (.bool true)) (.t 17))]) (.cond (.t 18) (.seq (.reg [o 6 (.mv (.k .nilp)), o 7 (.mv (.k (.int .i64 (.ofNat 3))))]) .ret) .skip)) (.seq (.reg [o 19 (.mv (.t 0)), o 20 (.mv (.t 2)), o 21 .mkmap, o 22 .mkmap, o 23 (.build [.str [], .bool false, .bool false, .bool false, .bool false, .bool false, .bool false, .bool false, .bool false, .bool false, .bool false, .bool false, .bool false, .bool false, .bool false, .bool false, .bool false, .int .i64 (.ofNat 0), .nilm, .nilm] [(0, 1, .t 19), (17, 1, .t 20), (18, 1, .t 21), (19, 1, .t 22)]), o 24 (.box (.t 23)), o 8 (.mv (.t 24))]) (.seq (.seq (.reg [o 25 (.mv (.t 1)), o 26 (.len (.t 25)), o 27 (.mv (.k (.int .i64 (.ofNat 0))))]) (.block 0 (.loop (.seq (.reg [o 28 (.bin .lss (.t 27) (.t 26))]) (.seq (.cond (.t 28) .skip (.exit 0)) (.seq (.block 1 (.seq (.reg [o 29 (.iaddr 2 (.t 25) (.t 27)), o 30 (.load (some 2) (.t 29)), o 10 (.alloc [.int .i64 (.ofNat 0), .int .i64 (.ofNat 0)]), .mk none (.store 2 (.t 10) (.t 30)) none]) (.seq (.seq (.reg [o 31 (.faddr 0 (.t 10)), o 32 (.load none (.t 31)), o 33 (.faddr 1 (.t 10)), o 34 (.load none (.t 33)), o 35 (.mn [.t 32, .t 34]), o 36 (.bin .lss (.t 35) (.k (.int .i64 (.ofNat 0)))), o 37 (.mv (.t 36)), og 38 (.faddr 0 (.t 10)) 37 false, og 39 (.load none (.t 38)) 37 false, og 40 (.faddr 1 (.t 10)) 37 false, og 41 (.load none (.t 40)) 37 false, og 42 (.mx [.t 39, .t 41]) 37 false, og 43 (.bin .geq (.t 42) (.k (.int .i64 (.ofNat 4)))) 37 false, o 44 (.pick (.t 37) (.k (.bool true)) (.t 43))]) (.cond (.t 44) (.seq (.reg [o 6 (.mv (.k .nilp)), o 7 (.mv (.k (.int .i64 (.ofNat 1))))]) .ret) .skip)) (.regd [o 45 (.mv (.t 8)), o 46 (.faddr 0 (.t 10)), o 47 (.load none (.t 46)), o 48 (.faddr 1 (.t 10)), o 49 (.load none (.t 48)), o 50 (.mv (.t 8)), o 51 (.faddr 1 (.t 10)), o 52 (.load none (.t 51)), o 53 (.faddr 0 (.t 10)), o 54 (.load none (.t 53)), o 55 (.nilc (.t 45)), o 56 (.faddr 1 (.t 55)), o 57 (.aaddr 4 4 (.t 56) (.t 47)), o 58 (.aaddr 4 1 (.t 57) (.t 49)), .mk none (.store 1 (.t 58) (.k (.bool true))) none, o 59 (.nilc (.t 50)), o 60 (.faddr 1 (.t 59)), o 61 (.aaddr 4 4 (.t 60) (.t 52)), o 62 (.aaddr 4 1 (.t 61) (.t 54)), .mk none (.store 1 (.t 62) (.k (.bool true))) none] [(7, [14], []), (9, [14], [])] [])))) (.reg [o 63 (.bin .add (.t 27) (.k (.int .i64 (.ofNat 1)))), o 27 (.mv (.t 63))]))))))) (.seq (.block 2 (.seq (.reg [o 65 (.mv (.t 2)), o 66 (.bin .lss (.t 65) (.k (.int .i64 (.ofNat 0)))), o 67 (.mv (.t 66)), og 68 (.mv (.t 2)) 67 false, og 69 (.bin .gtr (.t 68) (.k (.int .i64 (.ofNat 5)))) 67 false, o 70 (.pick (.t 67) (.k (.bool true)) (.t 69)), o 64 (.mv (.t 70))]) (.cond (.t 64) (.seq (.reg [o 6 (.mv (.k .nilp)), o 7 (.mv (.k (.int .i64 (.ofNat 1))))]) .ret) (.seq (.reg [o 72 (.mv (.t 0)), o 73 (.call (.k (.fn 40 [])) [.t 72, .k (.str [UInt8.ofNat 97, UInt8.ofNat 98, UInt8.ofNat 99, UInt8.ofNat 100])]), o 74 (.bin .neq (.t 73) (.k (.str []))), o 71 (.mv (.t 74))]) (.cond (.t 71) (.seq (.reg [o 6 (.mv (.k .nilp)), o 7 (.mv (.k (.int .i64 (.ofNat 2))))]) .ret) .skip))))) (.seq (.reg [o 75 (.mv (.t 8)), o 6 (.mv (.t 75)), o 7 (.mv (.k (.int .i64 (.ofNat 0))))]) .ret)))))) 76 3 [.t 6, .t 7]
theorem l24 : compFunc Tryd.prog 24 = some L24 := by kernel_rfl
def L25 : XFunc := .mk (.seq (.reg [o 2 (.box (.t 0)), o 4 (.mv (.k (.bool false)))]) (.seq (.reg [o 9 (.mv (.t 1)), o 10 (.call (.k (.fn 21 [])) [.t 9]), o 8 (.mv (.t 10)), o 11 (.ext (.t 8) 0), o 12 (.ext (.t 8) 1), o 13 (.ext (.t 8) 2), o 5 (.mv (.t 11)), o 6 (.mv (.t 12)), o 7 (.mv (.t 13))]) (.seq (.reg [o 14 (.mv (.t 7)), o 15 (.mv (.t 14)), og 16 (.mv (.t 1)) 15 true, og 17 (.slen (.t 16)) 15 true, og 18 (.load none (.t 2)) 15 true, og 19 (.nilc (.t 18)) 15 true, og 20 (.faddr 0 (.t 19)) 15 true, og 21 (.load none (.t 20)) 15 true, og 22 (.slen (.t 21)) 15 true, og 23 (.bin .eql (.t 17) (.t 22)) 15 true, o 24 (.pick (.t 15) (.t 23) (.k (.bool false))), o 25 (.mv (.t 24)), og 26 (.mv (.t 5)) 25 true, og 27 (.mkfn 42 [.t 2]) 25 true, og 28 (.call (.k (.fn 41 [])) [.t 26, .t 27]) 25 true, og 29 (.un .not (.t 28)) 25 true, o 30 (.pick (.t 25) (.t 29) (.k (.bool false))), o 4 (.mv (.t 30))]) .ret))) 31 2 [.t 4]
theorem l25 : compFunc Tryd.prog 25 = some L25 := by kernel_rfl
def L27 : XFunc := .mk (.seq (.reg [o 10 (.mv (.k (.bool false)))]) (.seq (.seq (.reg [o 11 (.mv (.k (.int .i64 (.ofNat 0))))]) (.block 0 (.loop (.seq (.seq (.reg [o 14 (.mv (.t 11)), o 15 (.mv (.t 1)), o 16 (.len (.t 15)), o 17 (.bin .lss (.t 14) (.t 16))]) (.cond (.t 17) .skip (.exit 0))) (.seq (.block 1 (.seq (.regd [o 20 (.mv (.t 1)), o 21 (.mv (.t 11)), o 22 (.iaddr 2 (.t 20) (.t 21)), o 23 (.faddr 0 (.t 22)), o 24 (.load none (.t 23)), o 25 (.bin .add (.k (.int .i64 (.ofNat 97))) (.t 24)), o 26 (.conv .u8 (.t 25)), o 27 (.mv (.t 1)), o 28 (.mv (.t 11)), o 29 (.iaddr 2 (.t 27) (.t 28)), o 30 (.faddr 1 (.t 29)), o 31 (.load none (.t 30)), o 32 (.bin .add (.k (.int .i64 (.ofNat 97))) (.t 31)), o 33 (.conv .u8 (.t 32)), o 12 (.mv (.t 26)), o 13 (.mv (.t 33))] [] []) (.seq (.reg [o 34 (.mv (.t 12)), o 35 (.mv (.t 0)), o 36 (.mv (.t 3)), o 37 (.sidx (.t 35) (.t 36)), o 38 (.bin .eql (.t 34) (.t 37)), o 39 (.mv (.t 38)), og 40 (.mv (.t 13)) 39 true, og 41 (.mv (.t 0)) 39 true, og 42 (.mv (.t 4)) 39 true, og 43 (.sidx (.t 41) (.t 42)) 39 true, og 44 (.bin .eql (.t 40) (.t 43)) 39 true, o 45 (.pick (.t 39) (.t 44) (.k (.bool false))), o 46 (.mv (.t 45)), og 47 (.mv (.t 12)) 46 false, og 48 (.mv (.t 0)) 46 false, og 49 (.mv (.t 4)) 46 false, og 50 (.sidx (.t 48) (.t 49)) 46 false, og 51 (.bin .eql (.t 47) (.t 50)) 46 false, og 52 (.mv (.t 51)) 46 false, og 53 (.mv (.t 13)) 52 true, og 54 (.mv (.t 0)) 52 true, og 55 (.mv (.t 3)) 52 true, og 56 (.sidx (.t 54) (.t 55)) 52 true, og 57 (.bin .eql (.t 53) (.t 56)) 52 true, og 58 (.pick (.t 52) (.t 57) (.k (.bool false))) 46 false, o 59 (.pick (.t 46) (.k (.bool true)) (.t 58)), o 60 (.mv (.t 59)), og 61 (.mv (.t 4)) 60 true, og 62 (.mv (.t 3)) 60 true, og 63 (.bin .sub (.t 61) (.t 62)) 60 true, og 64 (.mv (.t 2)) 60 true, og 65 (.bin .gtr (.t 63) (.t 64)) 60 true, o 66 (.pick (.t 60) (.t 65) (.k (.bool false)))]) (.cond (.t 66) (.seq (.reg [o 10 (.mv (.k (.bool true)))]) .ret) .skip)))) (.reg [o 18 (.mv (.t 11)), o 19 (.bin .add (.t 18) (.k (.int .i64 (.ofNat 1)))), o 11 (.mv (.t 19))])))))) (.seq (.reg [o 10 (.mv (.k (.bool false)))]) .ret))) 67 5 [.t 10]
theorem l27 : compFunc Tryd.prog 27 = some L27 := by kernel_rfl
def L28 : XFunc := .mk (.seq (.reg [o 3 (.box (.t 1)), o 4 (.mv (.k .nils))]) (.seq (.seq (.reg [o 9 (.faddr 1 (.t 3)), o 10 (.load none (.t 9)), o 11 (.faddr 0 (.t 3)), o 12 (.load none (.t 11)), o 13 (.bin .sub (.t 10) (.t 12)), o 14 (.bin .lss (.t 13) (.k (.int .i64 (.ofNat 2))))]) (.cond (.t 14) (.seq (.reg [o 15 (.call (.k (.fn 36 [])) [.k (.int .i64 (.ofNat 1))]), o 16 (.bslice [.bool false, .nils] [(0, 2, .t 15)] 1), o 4 (.mv (.t 16))]) .ret) .skip)) (.seq (.seq (.regd [o 18 (.mv (.t 0)), o 19 (.nilc (.t 18)), o 20 (.faddr 18 (.t 19)), o 21 (.load none (.t 20)), o 22 (.load (some 2) (.t 3)), o 23 (.look (.mk true [.i .i64, .i .i64]) .nils (.t 21) (.t 22) true), o 17 (.mv (.t 23)), o 24 (.ext (.t 17) 0), o 25 (.ext (.t 17) 1), o 5 (.mv (.t 24)), o 6 (.mv (.t 25))] [] []) (.seq (.reg [o 26 (.mv (.t 6))]) (.cond (.t 26) (.seq (.reg [o 27 (.mv (.t 5)), o 4 (.mv (.t 27))]) .ret) .skip))) (.seq (.reg [o 28 (.mv (.t 0)), o 29 (.faddr 0 (.t 3)), o 30 (.load none (.t 29)), o 31 (.bin .add (.t 30) (.k (.int .i64 (.ofNat 1)))), o 32 (.faddr 1 (.t 3)), o 33 (.load none (.t 32)), o 34 (.build [.int .i64 (.ofNat 0), .int .i64 (.ofNat 0)] [(0, 1, .t 31), (1, 1, .t 33)]), o 35 (.call (.k (.fn 28 [])) [.t 28, .t 34]), o 36 (.call (.k (.fn 44 [])) [.t 35]), o 7 (.mv (.t 36))]) (.seq (.seq (.reg [o 37 (.faddr 0 (.t 3)), o 38 (.load none (.t 37)), o 39 (.bin .add (.t 38) (.k (.int .i64 (.ofNat 1)))), o 8 (.mv (.t 39))]) (.block 0 (.loop (.seq (.seq (.reg [o 40 (.mv (.t 8)), o 41 (.faddr 1 (.t 3)), o 42 (.load none (.t 41)), o 43 (.bin .lss (.t 40) (.t 42))]) (.cond (.t 43) .skip (.exit 0))) (.seq (.block 1 (.seq (.reg [o 46 (.mv (.t 0)), o 47 (.faddr 0 (.t 3)), o 48 (.load none (.t 47)), o 49 (.mv (.t 8)), o 50 (.call (.k (.fn 43 [])) [.t 46, .t 48, .t 49])]) (.cond (.t 50) (.regd [o 51 (.mv (.t 7)), o 52 (.mv (.t 0)), o 53 (.faddr 0 (.t 3)), o 54 (.load none (.t 53)), o 55 (.bin .add (.t 54) (.k (.int .i64 (.ofNat 1)))), o 56 (.mv (.t 8)), o 57 (.build [.int .i64 (.ofNat 0), .int .i64 (.ofNat 0)] [(0, 1, .t 55), (1, 1, .t 56)]), o 58 (.call (.k (.fn 28 [])) [.t 52, .t 57]), o 59 (.mv (.t 0)), o 60 (.mv (.t 8)), o 61 (.bin .add (.t 60) (.k (.int .i64 (.ofNat 1)))), o 62 (.faddr 1 (.t 3)), o 63 (.load none (.t 62)), o 64 (.build [.int .i64 (.ofNat 0), .int .i64 (.ofNat 0)] [(0, 1, .t 61), (1, 1, .t 63)]), o 65 (.call (.k (.fn 28 [])) [.t 59, .t 64]), o 66 (.call (.k (.fn 46 [])) [.t 58, .t 65]), o 67 (.call (.k (.fn 45 [])) [.t 51, .t 66, .k (.int .i64 (.ofNat 1))]), o 7 (.mv (.t 67))] [(12, [7], [])] []) .skip))) (.reg [o 44 (.mv (.t 8)), o 45 (.bin .add (.t 44) (.k (.int .i64 (.ofNat 1)))), o 8 (.mv (.t 45))])))))) (.seq (.regd [o 68 (.mv (.t 0)), o 69 (.nilc (.t 68)), o 70 (.faddr 18 (.t 69)), o 71 (.load none (.t 70)), o 72 (.load (some 2) (.t 3)), o 73 (.mv (.t 7)), .mk none (.upd (.mk true [.i .i64, .i .i64]) (.t 71) (.t 72) (.t 73)) none] [] []) (.seq (.reg [o 74 (.mv (.t 7)), o 4 (.mv (.t 74))]) .ret))))))) 75 2 [.t 4]
theorem l28 : compFunc Tryd.prog 28 = some L28 := by kernel_rfl
def L29 : XFunc := .mk (.seq (.reg [o 2 (.alloc [.int .i64 (.ofNat 0), .int .i64 (.ofNat 0)])]) (.seq (.reg [o 3 (.mv (.t 0)), o 4 (.nilc (.t 3)), o 5 (.faddr 0 (.t 4)), o 6 (.load none (.t 5)), o 7 (.slen (.t 6)), o 8 (.build [.int .i64 (.ofNat 0), .int .i64 (.ofNat 0)] [(0, 1, .k (.int .i64 (.ofNat 0))), (1, 1, .t 7)]), .mk none (.store 2 (.t 2) (.t 8)) none]) .ret)) 9 1 [.c 2 (some 2)]
theorem l29 : compFunc Tryd.prog 29 = some L29 := by kernel_rfl
def L30 : XFunc := .mk (.seq (.reg [o 3 (.box (.t 1)), o 4 (.mv (.k (.str [])))]) (.seq (.seq (.reg [o 10 (.faddr 1 (.t 3)), o 11 (.load none (.t 10)), o 12 (.faddr 0 (.t 3)), o 13 (.load none (.t 12)), o 14 (.bin .eql (.t 11) (.t 13))]) (.cond (.t 14) (.seq (.reg [o 4 (.mv (.k (.str [])))]) .ret) .skip)) (.seq (.seq (.regd [o 16 (.mv (.t 0)), o 17 (.nilc (.t 16)), o 18 (.faddr 19 (.t 17)), o 19 (.load none (.t 18)), o 20 (.load (some 2) (.t 3)), o 21 (.look (.mk true [.i .i64, .i .i64]) (.str []) (.t 19) (.t 20) true), o 15 (.mv (.t 21)), o 22 (.ext (.t 15) 0), o 23 (.ext (.t 15) 1), o 5 (.mv (.t 22)), o 6 (.mv (.t 23))] [] []) (.seq (.reg [o 24 (.mv (.t 6))]) (.cond (.t 24) (.seq (.reg [o 25 (.mv (.t 5)), o 4 (.mv (.t 25))]) .ret) .skip))) (.seq (.reg [o 7 (.mv (.k (.str [])))]) (.seq (.seq (.reg [o 26 (.faddr 0 (.t 3)), o 27 (.load none (.t 26)), o 28 (.bin .add (.t 27) (.k (.int .i64 (.ofNat 1)))), o 8 (.mv (.t 28))]) (.block 0 (.loop (.seq (.seq (.reg [o 29 (.mv (.t 8)), o 30 (.faddr 1 (.t 3)), o 31 (.load none (.t 30)), o 32 (.bin .lss (.t 29) (.t 31))]) (.cond (.t 32) .skip (.exit 0))) (.seq (.block 1 (.seq (.regd [o 35 (.mv (.t 0)), o 36 (.faddr 0 (.t 3)), o 37 (.load none (.t 36)), o 38 (.mv (.t 8)), o 39 (.call (.k (.fn 43 [])) [.t 35, .t 37, .t 38]), o 40 (.mv (.t 39)), og 41 (.mv (.t 0)) 40 true, og 42 (.faddr 0 (.t 3)) 40 true, og 43 (.load none (.t 42)) 40 true, og 44 (.bin .add (.t 43) (.k (.int .i64 (.ofNat 1)))) 40 true, og 45 (.mv (.t 8)) 40 true, og 46 (.build [.int .i64 (.ofNat 0), .int .i64 (.ofNat 0)] [(0, 1, .t 44), (1, 1, .t 45)]) 40 true, og 47 (.call (.k (.fn 47 [])) [.t 41, .t 46]) 40 true, og 48 (.bin .add (.k (.int .i64 (.ofNat 1))) (.t 47)) 40 true, og 49 (.mv (.t 0)) 40 true, og 50 (.mv (.t 8)) 40 true, og 51 (.bin .add (.t 50) (.k (.int .i64 (.ofNat 1)))) 40 true, og 52 (.faddr 1 (.t 3)) 40 true, og 53 (.load none (.t 52)) 40 true, og 54 (.build [.int .i64 (.ofNat 0), .int .i64 (.ofNat 0)] [(0, 1, .t 51), (1, 1, .t 53)]) 40 true, og 55 (.call (.k (.fn 47 [])) [.t 49, .t 54]) 40 true, og 56 (.bin .add (.t 48) (.t 55)) 40 true, og 57 (.mv (.t 0)) 40 true, og 58 (.load (some 2) (.t 3)) 40 true, og 59 (.call (.k (.fn 47 [])) [.t 57, .t 58]) 40 true, og 60 (.bin .eql (.t 56) (.t 59)) 40 true, o 61 (.pick (.t 40) (.t 60) (.k (.bool false)))] [(18, [12], []), (23, [12, 20], [])] []) (.cond (.t 61) (.seq (.regd [o 62 (.mv (.t 0)), o 63 (.faddr 0 (.t 3)), o 64 (.load none (.t 63)), o 65 (.bin .add (.t 64) (.k (.int .i64 (.ofNat 1)))), o 66 (.mv (.t 8)), o 67 (.build [.int .i64 (.ofNat 0), .int .i64 (.ofNat 0)] [(0, 1, .t 65), (1, 1, .t 66)]), o 68 (.call (.k (.fn 30 [])) [.t 62, .t 67]), o 69 (.bin .add (.k (.str [UInt8.ofNat 40])) (.t 68)), o 70 (.bin .add (.t 69) (.k (.str [UInt8.ofNat 41]))), o 71 (.mv (.t 0)), o 72 (.mv (.t 8)), o 73 (.bin .add (.t 72) (.k (.int .i64 (.ofNat 1)))), o 74 (.faddr 1 (.t 3)), o 75 (.load none (.t 74)), o 76 (.build [.int .i64 (.ofNat 0), .int .i64 (.ofNat 0)] [(0, 1, .t 73), (1, 1, .t 75)]), o 77 (.call (.k (.fn 30 [])) [.t 71, .t 76]), o 78 (.bin .add (.t 70) (.t 77)), o 9 (.mv (.t 78))] [(13, [6], [])] []) (.seq (.reg [o 79 (.mv (.t 7)), o 80 (.bin .eql (.t 79) (.k (.str []))), o 81 (.mv (.t 80)), og 82 (.mv (.t 9)) 81 false, og 83 (.mv (.t 7)) 81 false, og 84 (.bin .lss (.t 82) (.t 83)) 81 false, o 85 (.pick (.t 81) (.k (.bool true)) (.t 84))]) (.cond (.t 85) (.reg [o 86 (.mv (.t 9)), o 7 (.mv (.t 86))]) .skip))) .skip))) (.reg [o 33 (.mv (.t 8)), o 34 (.bin .add (.t 33) (.k (.int .i64 (.ofNat 1)))), o 8 (.mv (.t 34))])))))) (.seq (.seq (.reg [o 87 (.mv (.t 7)), o 88 (.bin .eql (.t 87) (.k (.str [])))]) (.cond (.t 88) (.reg [o 89 (.mv (.t 0)), o 90 (.faddr 0 (.t 3)), o 91 (.load none (.t 90)), o 92 (.bin .add (.t 91) (.k (.int .i64 (.ofNat 1)))), o 93 (.faddr 1 (.t 3)), o 94 (.load none (.t 93)), o 95 (.build [.int .i64 (.ofNat 0), .int .i64 (.ofNat 0)] [(0, 1, .t 92), (1, 1, .t 94)]), o 96 (.call (.k (.fn 30 [])) [.t 89, .t 95]), o 97 (.bin .add (.k (.str [UInt8.ofNat 46])) (.t 96)), o 7 (.mv (.t 97))]) .skip)) (.seq (.regd [o 98 (.mv (.t 0)), o 99 (.nilc (.t 98)), o 100 (.faddr 19 (.t 99)), o 101 (.load none (.t 100)), o 102 (.load (some 2) (.t 3)), o 103 (.mv (.t 7)), .mk none (.upd (.mk true [.i .i64, .i .i64]) (.t 101) (.t 102) (.t 103)) none] [] []) (.seq (.reg [o 104 (.mv (.t 7)), o 4 (.mv (.t 104))]) .ret)))))))) 105 2 [.t 4]
theorem l30 : compFunc Tryd.prog 30 = some L30 := by kernel_rfl
def L31 : XFunc := .mk (.seq (.reg [o 1 (.box (.t 0)), o 2 (.alloc [.bool false, .nils, .bool false, .nils])]) (.seq (.regd [o 3 (.load (some 2) (.t 1)), o 4 (.call (.k (.fn 36 [])) [.k (.int .i64 (.ofNat 1))]), o 5 (.build [.bool false, .nils, .bool false, .nils] [(0, 2, .t 3), (2, 2, .t 4)]), .mk none (.store 4 (.t 2) (.t 5)) none] [(0, [1], [])] []) .ret)) 6 1 [.c 2 (some 4)]
theorem l31 : compFunc Tryd.prog 31 = some L31 := by kernel_rfl
def L32 : XFunc := .mk (.seq (.reg [o 1 (.box (.t 0)), o 2 (.mv (.k (.str []))), o 3 (.mv (.k (.int .i64 (.ofNat 0))))]) (.seq (.reg [o 6 (.faddr 0 (.t 1)), o 7 (.faddr 1 (.t 6)), o 8 (.load none (.t 7)), o 9 (.call (.k (.fn 48 [])) [.t 8]), o 4 (.mv (.t 9))]) (.seq (.seq (.reg [o 10 (.mv (.t 4)), o 11 (.slen (.t 10)), o 12 (.bin .gtr (.t 11) (.k (.int .i64 (.ofNat 4000))))]) (.cond (.t 12) (.seq (.reg [o 2 (.mv (.k (.str []))), o 3 (.mv (.k (.int .i64 (.ofNat 4))))]) .ret) .skip)) (.seq (.seq (.reg [o 13 (.faddr 0 (.t 1)), o 14 (.faddr 0 (.t 13)), o 15 (.load none (.t 14))]) (.cond (.t 15) (.reg [o 16 (.mv (.t 4)), o 17 (.bin .add (.k (.str [UInt8.ofNat 45])) (.t 16)), o 4 (.mv (.t 17))]) .skip)) (.seq (.seq (.reg [o 18 (.load (some 4) (.t 1)), o 19 (.call (.k (.fn 49 [])) [.t 18])]) (.cond (.t 19) (.seq (.reg [o 20 (.mv (.t 4)), o 2 (.mv (.t 20)), o 3 (.mv (.k (.int .i64 (.ofNat 0))))]) .ret) .skip)) (.seq (.reg [o 21 (.faddr 2 (.t 1)), o 22 (.faddr 1 (.t 21)), o 23 (.load none (.t 22)), o 24 (.call (.k (.fn 48 [])) [.t 23]), o 5 (.mv (.t 24))]) (.seq (.seq (.reg [o 25 (.mv (.t 5)), o 26 (.slen (.t 25)), o 27 (.bin .gtr (.t 26) (.k (.int .i64 (.ofNat 4000))))]) (.cond (.t 27) (.seq (.reg [o 2 (.mv (.k (.str []))), o 3 (.mv (.k (.int .i64 (.ofNat 4))))]) .ret) .skip)) (.seq (.reg [o 28 (.mv (.t 4)), o 29 (.bin .add (.t 28) (.k (.str [UInt8.ofNat 47]))), o 30 (.mv (.t 5)), o 31 (.bin .add (.t 29) (.t 30)), o 2 (.mv (.t 31)), o 3 (.mv (.k (.int .i64 (.ofNat 0))))]) .ret)))))))) 32 1 [.t 2, .t 3]
theorem l32 : compFunc Tryd.prog 32 = some L32 := by kernel_rfl
def L33 : XFunc := .mk (.seq (.reg [o 5 (.mv (.t 0)), o 6 (.len (.t 5)), o 4 (.mv (.t 6))]) (.reg [o 7 (.mv (.t 0)), o 8 (.mv (.t 4)), o 9 (.mv (.t 4)), o 10 (.conv .u64 (.t 9)), o 11 (.call (.k (.fn 51 [])) [.t 10]), o 12 (.mv (.t 1)), o 13 (.call (.k (.fn 50 [])) [.t 7, .k (.int .i64 (.ofNat 0)), .t 8, .t 11, .t 12])])) 14 2 []
theorem l33 : compFunc Tryd.prog 33 = some L33 := by kernel_rfl
def L34 : XFunc := .mk (.seq (.reg [o 2 (.box (.t 0)), o 3 (.box (.t 1)), o 4 (.mv (.k (.int .i64 (.ofNat 0))))]) (.seq (.reg [o 5 (.faddr 0 (.t 2)), o 6 (.load none (.t 5)), o 7 (.faddr 0 (.t 3)), o 8 (.load none (.t 7)), o 9 (.bin .sub (.t 6) (.t 8)), o 4 (.mv (.t 9))]) .ret)) 10 2 [.t 4]
theorem l34 : compFunc Tryd.prog 34 = some L34 := by kernel_rfl
def L35 : XFunc := .mk (.seq (.reg [o 2 (.alloc [.bool false, .nils])]) (.seq (.reg [o 6 (.call (.k (.fn 36 [])) [.k (.int .i64 (.ofNat 0))]), o 3 (.alloc [.bool false, .nils]), .mk none (.store 2 (.t 3) (.t 6)) none]) (.seq (.seq (.reg [o 7 (.mv (.t 0)), o 8 (.len (.t 7)), o 9 (.mv (.k (.int .i64 (.ofNat 0))))]) (.block 0 (.loop (.seq (.reg [o 10 (.bin .lss (.t 9) (.t 8))]) (.seq (.cond (.t 10) .skip (.exit 0)) (.seq (.block 1 (.seq (.reg [o 11 (.iaddr 2 (.t 7) (.t 9)), o 12 (.load (some 2) (.t 11)), o 5 (.alloc [.bool false, .nils]), .mk none (.store 2 (.t 5) (.t 12)) none]) (.reg [o 13 (.load (some 2) (.t 3)), o 14 (.load (some 2) (.t 5)), o 15 (.call (.k (.fn 38 [])) [.t 13, .t 14]), .mk none (.store 2 (.t 3) (.t 15)) none]))) (.reg [o 16 (.bin .add (.t 9) (.k (.int .i64 (.ofNat 1)))), o 9 (.mv (.t 16))]))))))) (.seq (.reg [o 17 (.load (some 2) (.t 3)), .mk none (.store 2 (.t 2) (.t 17)) none]) .ret)))) 18 1 [.c 2 (some 2)]
theorem l35 : compFunc Tryd.prog 35 = some L35 := by kernel_rfl
def L36 : XFunc := .mk (.seq (.reg [o 2 (.alloc [.bool false, .nils])]) (.seq (.reg [o 4 (.mv (.t 0)), o 5 (.conv .u64 (.t 4)), o 3 (.mv (.t 5))]) (.seq (.seq (.reg [o 6 (.mv (.t 0)), o 7 (.bin .lss (.t 6) (.k (.int .i64 (.ofNat 0))))]) (.cond (.t 7) (.reg [o 8 (.mv (.t 3)), o 9 (.un .neg (.t 8)), o 3 (.mv (.t 9))]) .skip)) (.seq (.reg [o 10 (.mv (.t 0)), o 11 (.bin .lss (.t 10) (.k (.int .i64 (.ofNat 0)))), o 12 (.mv (.t 3)), o 13 (.conv .u32 (.t 12)), o 14 (.mv (.t 3)), o 15 (.bin .shr (.t 14) (.k (.int .u64 (.ofNat 32)))), o 16 (.conv .u32 (.t 15)), o 17 (.bslice [.int .u32 (.ofNat 0)] [(0, 1, .t 13), (1, 1, .t 16)] 2), o 18 (.call (.k (.fn 53 [])) [.t 17]), o 19 (.call (.k (.fn 52 [])) [.t 11, .t 18]), .mk none (.store 2 (.t 2) (.t 19)) none]) .ret)))) 20 1 [.c 2 (some 2)]
theorem l36 : compFunc Tryd.prog 36 = some L36 := by kernel_rfl
def L37 : XFunc := .mk (.seq (.reg [o 8 (.mv (.k .nils)), o 9 (.mv (.k (.bool false)))]) (.seq (.seq (.reg [o 10 (.mv (.t 3))]) (.block 0 (.seq (.reg [o 12 (.bin .eql (.t 10) (.k (.int .u8 (.ofNat 40)))), o 11 (.mv (.t 12))]) (.cond (.t 11) (.seq (.reg [o 13 (.mv (.t 2)), o 14 (.mv (.t 2)), o 15 (.len (.t 14)), o 16 (.mv (.t 2)), o 17 (.len (.t 16)), o 18 (.cut 1 (.t 13) none (some (.t 15)) (some (.t 17))), o 19 (.mv (.t 1)), o 20 (.bslice [.int .i64 (.ofNat 0)] [(0, 1, .t 19)] 1), o 21 (.app 1 8 (.t 18) (.t 20)), o 8 (.mv (.t 21)), o 9 (.mv (.k (.bool true)))]) .ret) (.seq (.reg [o 23 (.bin .eql (.t 10) (.k (.int .u8 (.ofNat 41)))), o 22 (.mv (.t 23))]) (.cond (.t 22) (.seq (.seq (.regd [o 24 (.mv (.t 2)), o 25 (.len (.t 24)), o 26 (.bin .eql (.t 25) (.k (.int .i64 (.ofNat 0)))), o 27 (.mv (.t 26)), og 28 (.mv (.t 0)) 27 false, og 29 (.nilc (.t 28)) 27 false, og 30 (.faddr 0 (.t 29)) 27 false, og 31 (.load none (.t 30)) 27 false, og 32 (.mv (.t 2)) 27 false, og 33 (.mv (.t 2)) 27 false, og 34 (.len (.t 33)) 27 false, og 35 (.bin .sub (.t 34) (.k (.int .i64 (.ofNat 1)))) 27 false, og 36 (.iaddr 1 (.t 32) (.t 35)) 27 false, og 37 (.load none (.t 36)) 27 false, og 38 (.mv (.t 1)) 27 false, og 39 (.call (.k (.fn 43 [])) [.t 31, .t 37, .t 38]) 27 false, og 40 (.un .not (.t 39)) 27 false, o 41 (.pick (.t 27) (.k (.bool true)) (.t 40))] [] []) (.cond (.t 41) (.seq (.reg [o 8 (.mv (.k .nils)), o 9 (.mv (.k (.bool false)))]) .ret) .skip)) (.seq (.reg [o 42 (.mv (.t 2)), o 43 (.mv (.t 2)), o 44 (.len (.t 43)), o 45 (.bin .sub (.t 44) (.k (.int .i64 (.ofNat 1)))), o 46 (.cut 1 (.t 42) none (some (.t 45)) none), o 8 (.mv (.t 46)), o 9 (.mv (.k (.bool true)))]) .ret)) .skip)))))) (.seq (.reg [o 47 (.mv (.t 2)), o 8 (.mv (.t 47)), o 9 (.mv (.k (.bool true)))]) .ret))) 48 4 [.t 8, .t 9]
theorem l37 : compFunc Tryd.prog 37 = some L37 := by kernel_rfl
def L38 : XFunc := .mk (.seq (.reg [o 2 (.box (.t 0)), o 3 (.box (.t 1)), o 4 (.alloc [.bool false, .nils])]) (.seq (.block 0 (.seq (.reg [o 6 (.faddr 0 (.t 2)), o 7 (.load none (.t 6)), o 8 (.faddr 0 (.t 3)), o 9 (.load none (.t 8)), o 10 (.eqf false (.mk false [.b]) (.t 7) (.t 9)), o 5 (.mv (.t 10))]) (.cond (.t 5) (.seq (.regd [o 11 (.faddr 0 (.t 2)), o 12 (.load none (.t 11)), o 13 (.faddr 1 (.t 2)), o 14 (.load none (.t 13)), o 15 (.faddr 1 (.t 3)), o 16 (.load none (.t 15)), o 17 (.call (.k (.fn 54 [])) [.t 14, .t 16]), o 18 (.call (.k (.fn 52 [])) [.t 12, .t 17]), .mk none (.store 2 (.t 4) (.t 18)) none] [(1, [6], [])] []) .ret) (.seq (.reg [o 20 (.faddr 1 (.t 2)), o 21 (.load none (.t 20)), o 22 (.faddr 1 (.t 3)), o 23 (.load none (.t 22)), o 24 (.call (.k (.fn 55 [])) [.t 21, .t 23]), o 25 (.bin .geq (.t 24) (.k (.int .i64 (.ofNat 0)))), o 19 (.mv (.t 25))]) (.cond (.t 19) (.seq (.regd [o 26 (.faddr 0 (.t 2)), o 27 (.load none (.t 26)), o 28 (.faddr 1 (.t 2)), o 29 (.load none (.t 28)), o 30 (.faddr 1 (.t 3)), o 31 (.load none (.t 30)), o 32 (.call (.k (.fn 56 [])) [.t 29, .t 31]), o 33 (.call (.k (.fn 52 [])) [.t 27, .t 32]), .mk none (.store 2 (.t 4) (.t 33)) none] [(1, [6], [])] []) .ret) .skip))))) (.seq (.regd [o 34 (.faddr 0 (.t 3)), o 35 (.load none (.t 34)), o 36 (.faddr 1 (.t 3)), o 37 (.load none (.t 36)), o 38 (.faddr 1 (.t 2)), o 39 (.load none (.t 38)), o 40 (.call (.k (.fn 56 [])) [.t 37, .t 39]), o 41 (.call (.k (.fn 52 [])) [.t 35, .t 40]), .mk none (.store 2 (.t 4) (.t 41)) none] [(1, [6], [])] []) .ret))) 42 2 [.c 4 (some 2)]
theorem l38 : compFunc Tryd.prog 38 = some L38 := by kernel_rfl
def L39 : XFunc := .mk (.seq (.reg [o 6 (.alloc [.bool false, .nils])]) (.seq (.seq (.reg [o 14 (.mv (.t 2)), o 15 (.len (.t 14)), o 16 (.mv (.t 0)), o 17 (.nilc (.t 16)), o 18 (.faddr 0 (.t 17)), o 19 (.load none (.t 18)), o 20 (.nilc (.t 19)), o 21 (.faddr 0 (.t 20)), o 22 (.load none (.t 21)), o 23 (.slen (.t 22)), o 24 (.mv (.t 1)), o 25 (.bin .sub (.t 23) (.t 24)), o 26 (.bin .gtr (.t 15) (.t 25))]) (.cond (.t 26) (.seq (.reg [o 27 (.call (.k (.fn 36 [])) [.k (.int .i64 (.ofNat 0))]), .mk none (.store 2 (.t 6) (.t 27)) none]) .ret) .skip)) (.seq (.seq (.reg [o 28 (.mv (.t 2)), o 29 (.len (.t 28)), o 30 (.bin .eql (.t 29) (.k (.int .i64 (.ofNat 0))))]) (.cond (.t 30) (.seq (.regd [o 31 (.mv (.t 0)), o 32 (.nilc (.t 31)), o 33 (.faddr 0 (.t 32)), o 34 (.load none (.t 33)), o 35 (.mv (.t 1)), o 36 (.mv (.t 0)), o 37 (.nilc (.t 36)), o 38 (.faddr 0 (.t 37)), o 39 (.load none (.t 38)), o 40 (.nilc (.t 39)), o 41 (.faddr 0 (.t 40)), o 42 (.load none (.t 41)), o 43 (.slen (.t 42)), o 44 (.build [.int .i64 (.ofNat 0), .int .i64 (.ofNat 0)] [(0, 1, .t 35), (1, 1, .t 43)]), o 45 (.call (.k (.fn 28 [])) [.t 34, .t 44]), o 46 (.call (.k (.fn 35 [])) [.t 45]), .mk none (.store 2 (.t 6) (.t 46)) none] [] []) .ret) .skip)) (.seq (.reg [o 47 (.mv (.t 1)), o 48 (.mv (.t 2)), o 49 (.call (.k (.fn 57 [])) [.t 47, .t 48]), o 7 (.mv (.t 49))]) (.seq (.seq (.reg [o 51 (.mv (.t 0)), o 52 (.nilc (.t 51)), o 53 (.faddr 1 (.t 52)), o 54 (.load none (.t 53)), o 55 (.mv (.t 7)), o 56 (.look (.mk false [.s]) (.agg [.bool false, .nils]) (.t 54) (.t 55) true), o 50 (.mv (.t 56)), o 57 (.ext (.t 50) 0), o 58 (.ext (.t 50) 1), o 8 (.alloc [.bool false, .nils]), .mk none (.store 2 (.t 8) (.t 57)) none, o 9 (.mv (.t 58))]) (.seq (.reg [o 59 (.mv (.t 9))]) (.cond (.t 59) (.seq (.reg [o 60 (.load (some 2) (.t 8)), .mk none (.store 2 (.t 6) (.t 60)) none]) .ret) .skip))) (.seq (.reg [o 61 (.mv (.t 2)), o 62 (.mv (.t 2)), o 63 (.len (.t 62)), o 64 (.bin .sub (.t 63) (.k (.int .i64 (.ofNat 1)))), o 65 (.iaddr 1 (.t 61) (.t 64)), o 66 (.load none (.t 65)), o 10 (.mv (.t 66))]) (.seq (.reg [o 67 (.call (.k (.fn 36 [])) [.k (.int .i64 (.ofNat 0))]), o 11 (.alloc [.bool false, .nils]), .mk none (.store 2 (.t 11) (.t 67)) none]) (.seq (.seq (.reg [o 68 (.mv (.t 1)), o 12 (.mv (.t 68))]) (.block 0 (.loop (.seq (.seq (.reg [o 69 (.mv (.t 12)), o 70 (.mv (.t 0)), o 71 (.nilc (.t 70)), o 72 (.faddr 0 (.t 71)), o 73 (.load none (.t 72)), o 74 (.nilc (.t 73)), o 75 (.faddr 0 (.t 74)), o 76 (.load none (.t 75)), o 77 (.slen (.t 76)), o 78 (.bin .lss (.t 69) (.t 77))]) (.cond (.t 78) .skip (.exit 0))) (.seq (.block 1 (.seq (.reg [o 81 (.mv (.t 0)), o 82 (.nilc (.t 81)), o 83 (.faddr 0 (.t 82)), o 84 (.load none (.t 83)), o 85 (.mv (.t 10)), o 86 (.mv (.t 12)), o 87 (.call (.k (.fn 43 [])) [.t 84, .t 85, .t 86])]) (.cond (.t 87) (.seq (.reg [o 88 (.mv (.t 0)), o 89 (.nilc (.t 88)), o 90 (.faddr 0 (.t 89)), o 91 (.load none (.t 90)), o 92 (.mv (.t 1)), o 93 (.mv (.t 12)), o 94 (.build [.int .i64 (.ofNat 0), .int .i64 (.ofNat 0)] [(0, 1, .t 92), (1, 1, .t 93)]), o 95 (.call (.k (.fn 28 [])) [.t 91, .t 94]), o 96 (.call (.k (.fn 35 [])) [.t 95]), o 13 (.alloc [.bool false, .nils]), .mk none (.store 2 (.t 13) (.t 96)) none]) (.regd [o 97 (.load (some 2) (.t 11)), o 98 (.load (some 2) (.t 13)), o 99 (.mv (.t 0)), o 100 (.mv (.t 12)), o 101 (.bin .add (.t 100) (.k (.int .i64 (.ofNat 1)))), o 102 (.mv (.t 2)), o 103 (.mv (.t 2)), o 104 (.len (.t 103)), o 105 (.bin .sub (.t 104) (.k (.int .i64 (.ofNat 1)))), o 106 (.cut 1 (.t 102) none (some (.t 105)) none), o 107 (.call (.k (.fn 39 [])) [.t 99, .t 101, .t 106]), o 108 (.call (.k (.fn 58 [])) [.t 98, .t 107]), o 109 (.call (.k (.fn 38 [])) [.t 97, .t 108]), .mk none (.store 2 (.t 11) (.t 109)) none] [(0, [10, 11], []), (1, [10], [])] [])) .skip))) (.reg [o 79 (.mv (.t 12)), o 80 (.bin .add (.t 79) (.k (.int .i64 (.ofNat 1)))), o 12 (.mv (.t 80))])))))) (.seq (.regd [o 110 (.mv (.t 0)), o 111 (.nilc (.t 110)), o 112 (.faddr 1 (.t 111)), o 113 (.load none (.t 112)), o 114 (.mv (.t 7)), o 115 (.load (some 2) (.t 11)), .mk none (.upd (.mk false [.s]) (.t 113) (.t 114) (.t 115)) none] [] []) (.seq (.reg [o 116 (.load (some 2) (.t 11)), .mk none (.store 2 (.t 6) (.t 116)) none]) .ret)))))))))) 117 3 [.c 6 (some 2)]
theorem l39 : compFunc Tryd.prog 39 = some L39 := by kernel_rfl
def L40 : XFunc := .mk (.seq (.reg [o 4 (.mv (.k (.str [])))]) (.seq (.seq (.reg [o 7 (.mv (.t 0)), o 8 (.bin .eql (.t 7) (.k (.str []))), o 9 (.mv (.t 8)), og 10 (.mv (.t 1)) 9 false, og 11 (.bin .eql (.t 10) (.k (.str []))) 9 false, o 12 (.pick (.t 9) (.k (.bool true)) (.t 11))]) (.cond (.t 12) (.seq (.reg [o 13 (.mv (.t 0)), o 4 (.mv (.t 13))]) .ret) .skip)) (.seq (.seq (.reg [o 14 (.mv (.t 1)), o 15 (.slen (.t 14)), o 16 (.bin .eql (.t 15) (.k (.int .i64 (.ofNat 1)))), o 17 (.mv (.t 16)), og 18 (.mv (.t 1)) 17 true, og 19 (.sidx (.t 18) (.k (.int .i64 (.ofNat 0)))) 17 true, og 20 (.bin .lss (.t 19) (.k (.int .u8 (.ofNat 128)))) 17 true, o 21 (.pick (.t 17) (.t 20) (.k (.bool false)))]) (.cond (.t 21) (.seq (.regd [o 22 (.mv (.t 0)), o 23 (.mv (.t 1)), o 24 (.sidx (.t 23) (.k (.int .i64 (.ofNat 0)))), o 25 (.call (.k (.fn 60 [])) [.t 22, .t 24]), o 26 (.mv (.t 1)), o 27 (.sidx (.t 26) (.k (.int .i64 (.ofNat 0)))), o 28 (.call (.k (.fn 59 [])) [.t 25, .t 27]), o 4 (.mv (.t 28))] [] []) .ret) .skip)) (.seq (.seq (.reg [o 30 (.mv (.t 1)), o 31 (.call (.k (.fn 61 [])) [.t 30]), o 29 (.mv (.t 31)), o 32 (.ext (.t 29) 0), o 33 (.ext (.t 29) 1), o 5 (.alloc [.bool false, .bool false, .bool false, .bool false, .bool false, .bool false, .bool false, .bool false, .bool false, .bool false, .bool false, .bool false, .bool false, .bool false, .bool false, .bool false, .bool false, .bool false, .bool false, .bool false, .bool false, .bool false, .bool false, .bool false, .bool false, .bool false, .bool false, .bool false, .bool false, .bool false, .bool false, .bool false, .bool false, .bool false, .bool false, .bool false, .bool false, .bool false, .bool false, .bool false, .bool false, .bool false, .bool false, .bool false, .bool false, .bool false, .bool false, .bool false, .bool false, .bool false, .bool false, .bool false, .bool false, .bool false, .bool false, .bool false, .bool false, .bool false, .bool false, .bool false, .bool false, .bool false, .bool false, .bool false, .bool false, .bool false, .bool false, .bool false, .bool false, .bool false, .bool false, .bool false, .bool false, .bool false, .bool false, .bool false, .bool false, .bool false, .bool false, .bool false, .bool false, .bool false, .bool false, .bool false, .bool false, .bool false, .bool false, .bool false, .bool false, .bool false, .bool false, .bool false, .bool false, .bool false, .bool false, .bool false, .bool false, .bool false, .bool false, .bool false, .bool false, .bool false, .bool false, .bool false, .bool false, .bool false, .bool false, .bool false, .bool false, .bool false, .bool false, .bool false, .bool false, .bool false, .bool false, .bool false, .bool false, .bool false, .bool false, .bool false, .bool false, .bool false, .bool false, .bool false, .bool false, .bool false, .bool false, .bool false, .bool false, .bool false, .bool false, .bool false, .bool false, .bool false, .bool false, .bool false, .bool false, .bool false, .bool false, .bool false, .bool false, .bool false, .bool false, .bool false, .bool false, .bool false, .bool false, .bool false, .bool false, .bool false, .bool false, .bool false, .bool false, .bool false, .bool false, .bool false, .bool false, .bool false, .bool false, .bool false, .bool false, .bool false, .bool false, .bool false, .bool false, .bool false, .bool false, .bool false, .bool false, .bool false, .bool false, .bool false, .bool false, .bool false, .bool false, .bool false, .bool false, .bool false, .bool false, .bool false, .bool false, .bool false, .bool false, .bool false, .bool false, .bool false, .bool false, .bool false, .bool false, .bool false, .bool false, .bool false, .bool false, .bool false, .bool false, .bool false, .bool false, .bool false, .bool false, .bool false, .bool false, .bool false, .bool false, .bool false, .bool false, .bool false, .bool false, .bool false, .bool false, .bool false, .bool false, .bool false, .bool false, .bool false, .bool false, .bool false, .bool false, .bool false, .bool false, .bool false, .bool false, .bool false, .bool false, .bool false, .bool false, .bool false, .bool false, .bool false, .bool false, .bool false, .bool false, .bool false, .bool false, .bool false, .bool false, .bool false, .bool false, .bool false, .bool false, .bool false, .bool false, .bool false, .bool false, .bool false, .bool false, .bool false, .bool false, .bool false, .bool false, .bool false, .bool false, .bool false, .bool false, .bool false, .bool false, .bool false]), .mk none (.store 256 (.t 5) (.t 32)) none, o 6 (.mv (.t 33))]) (.seq (.reg [o 34 (.mv (.t 6))]) (.cond (.t 34) (.seq (.reg [o 35 (.mv (.t 0)), o 36 (.call (.k (.fn 63 [])) [.t 35, .t 5]), o 37 (.call (.k (.fn 62 [])) [.t 36, .t 5]), o 4 (.mv (.t 37))]) .ret) .skip))) (.seq (.reg [o 38 (.mv (.t 0)), o 39 (.mv (.t 1)), o 40 (.call (.k (.fn 65 [])) [.t 38, .t 39]), o 41 (.mv (.t 1)), o 42 (.call (.k (.fn 64 [])) [.t 40, .t 41]), o 4 (.mv (.t 42))]) .ret))))) 43 2 [.t 4]
theorem l40 : compFunc Tryd.prog 40 = some L40 := by kernel_rfl
def L41 : XFunc := .mk (.seq (.reg [o 4 (.mv (.k (.bool false)))]) (.seq (.reg [o 5 (.mv (.t 0)), o 6 (.mv (.t 1)), o 7 (.call (.k (.fn 66 [])) [.t 5, .t 6]), o 8 (.bin .geq (.t 7) (.k (.int .i64 (.ofNat 0)))), o 4 (.mv (.t 8))]) .ret)) 9 2 [.t 4]
theorem l41 : compFunc Tryd.prog 41 = some L41 := by kernel_rfl
def L42 : XFunc := .mk (.seq (.reg [o 2 (.box (.t 0)), o 3 (.mv (.k (.bool false)))]) (.seq (.reg [o 4 (.load none (.t 1)), o 5 (.faddr 0 (.t 2)), o 6 (.load none (.t 5)), o 7 (.faddr 1 (.t 2)), o 8 (.load none (.t 7)), o 9 (.call (.k (.fn 43 [])) [.t 4, .t 6, .t 8]), o 10 (.un .not (.t 9)), o 3 (.mv (.t 10))]) .ret)) 11 2 [.t 3]
theorem l42 : compFunc Tryd.prog 42 = some L42 := by kernel_rfl
def L43 : XFunc := .mk (.seq (.reg [o 6 (.mv (.k (.bool false)))]) (.seq (.regd [o 7 (.mv (.t 2)), o 8 (.mv (.t 1)), o 9 (.bin .sub (.t 7) (.t 8)), o 10 (.mv (.t 0)), o 11 (.nilc (.t 10)), o 12 (.faddr 17 (.t 11)), o 13 (.load none (.t 12)), o 14 (.bin .gtr (.t 9) (.t 13)), o 15 (.mv (.t 14)), og 16 (.mv (.t 0)) 15 true, og 17 (.mv (.t 0)) 15 true, og 18 (.nilc (.t 17)) 15 true, og 19 (.faddr 0 (.t 18)) 15 true, og 20 (.load none (.t 19)) 15 true, og 21 (.mv (.t 1)) 15 true, og 22 (.sidx (.t 20) (.t 21)) 15 true, og 23 (.bin .sub (.t 22) (.k (.int .u8 (.ofNat 97)))) 15 true, og 24 (.mv (.t 0)) 15 true, og 25 (.nilc (.t 24)) 15 true, og 26 (.faddr 0 (.t 25)) 15 true, og 27 (.load none (.t 26)) 15 true, og 28 (.mv (.t 2)) 15 true, og 29 (.sidx (.t 27) (.t 28)) 15 true, og 30 (.bin .sub (.t 29) (.k (.int .u8 (.ofNat 97)))) 15 true, og 31 (.nilc (.t 16)) 15 true, og 32 (.faddr 1 (.t 31)) 15 true, og 33 (.aaddr 4 4 (.t 32) (.t 23)) 15 true, og 34 (.aaddr 4 1 (.t 33) (.t 30)) 15 true, og 35 (.load none (.t 34)) 15 true, o 36 (.pick (.t 15) (.t 35) (.k (.bool false))), o 6 (.mv (.t 36))] [] []) .ret)) 37 3 [.t 6]
theorem l43 : compFunc Tryd.prog 43 = some L43 := by kernel_rfl
def L44 : XFunc := .mk (.seq (.reg [o 2 (.mv (.k .nils))]) (.seq (.seq (.reg [o 3 (.mv (.t 0)), o 4 (.eqn false .s (.t 3) (.k .nils))]) (.cond (.t 4) (.seq (.reg [o 2 (.mv (.k .nils))]) .ret) .skip)) (.seq (.reg [o 5 (.bslice [.bool false, .nils] [] 0), o 6 (.mv (.t 0)), o 7 (.app 2 32 (.t 5) (.t 6)), o 2 (.mv (.t 7))]) .ret))) 8 1 [.t 2]
theorem l44 : compFunc Tryd.prog 44 = some L44 := by kernel_rfl
def L45 : XFunc := .mk (.seq (.reg [o 6 (.mv (.k .nils))]) (.seq (.block 0 (.loop (.seq (.seq (.reg [o 9 (.mv (.t 0)), o 10 (.len (.t 9)), o 11 (.mv (.t 1)), o 12 (.len (.t 11)), o 13 (.mv (.t 2)), o 14 (.bin .add (.t 12) (.t 13)), o 15 (.bin .lss (.t 10) (.t 14))]) (.cond (.t 15) .skip (.exit 0))) (.block 1 (.reg [o 16 (.mv (.t 0)), o 17 (.call (.k (.fn 36 [])) [.k (.int .i64 (.ofNat 0))]), o 18 (.bslice [.bool false, .nils] [(0, 2, .t 17)] 1), o 19 (.app 2 32 (.t 16) (.t 18)), o 0 (.mv (.t 19))]))))) (.seq (.seq (.reg [o 20 (.mv (.t 1)), o 21 (.len (.t 20)), o 22 (.mv (.k (.int .i64 (.ofNat 0))))]) (.block 2 (.loop (.seq (.reg [o 23 (.bin .lss (.t 22) (.t 21))]) (.seq (.cond (.t 23) .skip (.exit 2)) (.seq (.block 3 (.seq (.reg [o 24 (.mv (.t 22)), o 25 (.iaddr 2 (.t 20) (.t 22)), o 26 (.load (some 2) (.t 25)), o 8 (.alloc [.bool false, .nils]), o 7 (.mv (.t 24)), .mk none (.store 2 (.t 8) (.t 26)) none]) (.regd [o 27 (.mv (.t 0)), o 28 (.mv (.t 7)), o 29 (.mv (.t 2)), o 30 (.bin .add (.t 28) (.t 29)), o 31 (.mv (.t 0)), o 32 (.mv (.t 7)), o 33 (.mv (.t 2)), o 34 (.bin .add (.t 32) (.t 33)), o 35 (.iaddr 2 (.t 31) (.t 34)), o 36 (.load (some 2) (.t 35)), o 37 (.load (some 2) (.t 8)), o 38 (.call (.k (.fn 38 [])) [.t 36, .t 37]), o 39 (.iaddr 2 (.t 27) (.t 30)), .mk none (.store 2 (.t 39) (.t 38)) none] [] []))) (.reg [o 40 (.bin .add (.t 22) (.k (.int .i64 (.ofNat 1)))), o 22 (.mv (.t 40))]))))))) (.seq (.reg [o 41 (.mv (.t 0)), o 6 (.mv (.t 41))]) .ret)))) 42 3 [.t 6]
theorem l45 : compFunc Tryd.prog 45 = some L45 := by kernel_rfl
def L46 : XFunc := .mk (.seq (.reg [o 4 (.mv (.k .nils))]) (.seq (.reg [o 5 (.mv (.k .nils))]) (.seq (.seq (.reg [o 11 (.mv (.t 0)), o 12 (.len (.t 11)), o 13 (.mv (.k (.int .i64 (.ofNat 0))))]) (.block 0 (.loop (.seq (.reg [o 14 (.bin .lss (.t 13) (.t 12))]) (.seq (.cond (.t 14) .skip (.exit 0)) (.seq (.block 1 (.seq (.reg [o 15 (.mv (.t 13)), o 16 (.iaddr 2 (.t 11) (.t 13)), o 17 (.load (some 2) (.t 16)), o 7 (.alloc [.bool false, .nils]), o 6 (.mv (.t 15)), .mk none (.store 2 (.t 7) (.t 17)) none]) (.seq (.reg [o 8 (.mv (.k .nils))]) (.seq (.seq (.reg [o 18 (.mv (.t 1)), o 19 (.len (.t 18)), o 20 (.mv (.k (.int .i64 (.ofNat 0))))]) (.block 2 (.loop (.seq (.reg [o 21 (.bin .lss (.t 20) (.t 19))]) (.seq (.cond (.t 21) .skip (.exit 2)) (.seq (.block 3 (.seq (.reg [o 22 (.iaddr 2 (.t 18) (.t 20)), o 23 (.load (some 2) (.t 22)), o 10 (.alloc [.bool false, .nils]), .mk none (.store 2 (.t 10) (.t 23)) none]) (.reg [o 24 (.mv (.t 8)), o 25 (.load (some 2) (.t 7)), o 26 (.load (some 2) (.t 10)), o 27 (.call (.k (.fn 58 [])) [.t 25, .t 26]), o 28 (.bslice [.bool false, .nils] [(0, 2, .t 27)] 1), o 29 (.app 2 32 (.t 24) (.t 28)), o 8 (.mv (.t 29))]))) (.reg [o 30 (.bin .add (.t 20) (.k (.int .i64 (.ofNat 1)))), o 20 (.mv (.t 30))]))))))) (.reg [o 31 (.mv (.t 5)), o 32 (.mv (.t 8)), o 33 (.mv (.t 6)), o 34 (.call (.k (.fn 45 [])) [.t 31, .t 32, .t 33]), o 5 (.mv (.t 34))]))))) (.reg [o 35 (.bin .add (.t 13) (.k (.int .i64 (.ofNat 1)))), o 13 (.mv (.t 35))]))))))) (.seq (.reg [o 36 (.mv (.t 5)), o 4 (.mv (.t 36))]) .ret)))) 37 2 [.t 4]
theorem l46 : compFunc Tryd.prog 46 = some L46 := by kernel_rfl
def L47 : XFunc := .mk (.seq (.reg [o 3 (.box (.t 1)), o 4 (.mv (.k (.int .i64 (.ofNat 0))))]) (.seq (.reg [o 5 (.mv (.t 0)), o 6 (.load (some 2) (.t 3)), o 7 (.call (.k (.fn 28 [])) [.t 5, .t 6]), o 8 (.len (.t 7)), o 9 (.bin .sub (.t 8) (.k (.int .i64 (.ofNat 1)))), o 4 (.mv (.t 9))]) .ret)) 10 2 [.t 4]
theorem l47 : compFunc Tryd.prog 47 = some L47 := by kernel_rfl
def L48 : XFunc := .mk (.seq (.reg [o 2 (.mv (.k (.str [])))]) (.seq (.seq (.reg [o 7 (.mv (.t 0)), o 8 (.len (.t 7)), o 9 (.bin .eql (.t 8) (.k (.int .i64 (.ofNat 0))))]) (.cond (.t 9) (.seq (.reg [o 2 (.mv (.k (.str [UInt8.ofNat 48])))]) .ret) .skip)) (.seq (.reg [o 3 (.mv (.k .nils))]) (.seq (.block 0 (.loop (.seq (.seq (.reg [o 10 (.mv (.t 0)), o 11 (.len (.t 10)), o 12 (.bin .gtr (.t 11) (.k (.int .i64 (.ofNat 0))))]) (.cond (.t 12) .skip (.exit 0))) (.block 1 (.seq (.reg [o 14 (.mv (.t 0)), o 15 (.call (.k (.fn 67 [])) [.t 14, .k (.int .u32 (.ofNat 1000000000))]), o 13 (.mv (.t 15)), o 16 (.ext (.t 13) 0), o 17 (.ext (.t 13) 1), o 4 (.mv (.t 16)), o 5 (.mv (.t 17))]) (.seq (.seq (.reg [o 6 (.mv (.k (.int .i64 (.ofNat 0))))]) (.block 2 (.loop (.seq (.seq (.reg [o 18 (.mv (.t 6)), o 19 (.bin .lss (.t 18) (.k (.int .i64 (.ofNat 9)))), o 20 (.mv (.t 19)), og 21 (.mv (.t 4)) 20 true, og 22 (.len (.t 21)) 20 true, og 23 (.bin .gtr (.t 22) (.k (.int .i64 (.ofNat 0)))) 20 true, og 24 (.mv (.t 23)) 20 true, og 25 (.mv (.t 5)) 24 false, og 26 (.bin .gtr (.t 25) (.k (.int .u32 (.ofNat 0)))) 24 false, og 27 (.pick (.t 24) (.k (.bool true)) (.t 26)) 20 true, o 28 (.pick (.t 20) (.t 27) (.k (.bool false)))]) (.cond (.t 28) .skip (.exit 2))) (.seq (.block 3 (.seq (.reg [o 31 (.mv (.t 3)), o 32 (.mv (.t 5)), o 33 (.bin .rem (.t 32) (.k (.int .u32 (.ofNat 10)))), o 34 (.bin .add (.k (.int .u32 (.ofNat 48))) (.t 33)), o 35 (.conv .u8 (.t 34)), o 36 (.bslice [.int .u8 (.ofNat 0)] [(0, 1, .t 35)] 1), o 37 (.app 1 1 (.t 31) (.t 36)), o 3 (.mv (.t 37))]) (.reg [o 38 (.mv (.t 5)), o 39 (.bin .quo (.t 38) (.k (.int .u32 (.ofNat 10)))), o 5 (.mv (.t 39))]))) (.reg [o 29 (.mv (.t 6)), o 30 (.bin .add (.t 29) (.k (.int .i64 (.ofNat 1)))), o 6 (.mv (.t 30))])))))) (.reg [o 40 (.mv (.t 4)), o 0 (.mv (.t 40))]))))))) (.seq (.reg [o 41 (.mv (.t 3)), o 42 (.call (.k (.fn 68 [])) [.t 41])]) (.seq (.reg [o 43 (.mv (.t 3)), o 44 (.bts (.t 43)), o 2 (.mv (.t 44))]) .ret)))))) 45 1 [.t 2]
theorem l48 : compFunc Tryd.prog 48 = some L48 := by kernel_rfl
def L49 : XFunc := .mk (.seq (.reg [o 1 (.box (.t 0)), o 2 (.mv (.k (.bool false)))]) (.seq (.reg [o 3 (.faddr 2 (.t 1)), o 4 (.faddr 1 (.t 3)), o 5 (.load none (.t 4)), o 6 (.len (.t 5)), o 7 (.bin .eql (.t 6) (.k (.int .i64 (.ofNat 1)))), o 8 (.mv (.t 7)), og 9 (.faddr 2 (.t 1)) 8 true, og 10 (.faddr 1 (.t 9)) 8 true, og 11 (.load none (.t 10)) 8 true, og 12 (.iaddr 1 (.t 11) (.k (.int .i64 (.ofNat 0)))) 8 true, og 13 (.load none (.t 12)) 8 true, og 14 (.bin .eql (.t 13) (.k (.int .u32 (.ofNat 1)))) 8 true, o 15 (.pick (.t 8) (.t 14) (.k (.bool false))), o 2 (.mv (.t 15))]) .ret)) 16 1 [.t 2]
theorem l49 : compFunc Tryd.prog 49 = some L49 := by kernel_rfl
def L50 : XFunc := .mk (.seq (.reg [o 10 (.mv (.k (.bool true)))]) (.seq (.reg [o 11 (.mv (.k (.bool true)))]) (.block 0 (.loop (.block 1 (.seq (.reg [o 21 (.mv (.t 2)), o 22 (.mv (.t 1)), o 23 (.bin .sub (.t 21) (.t 22)), o 12 (.mv (.t 23))]) (.seq (.seq (.reg [o 24 (.mv (.t 12)), o 25 (.bin .leq (.t 24) (.k (.int .i64 (.ofNat 12))))]) (.cond (.t 25) (.seq (.reg [o 26 (.mv (.t 0)), o 27 (.mv (.t 1)), o 28 (.mv (.t 2)), o 29 (.mv (.t 4)), o 30 (.call (.k (.fn 69 [])) [.t 26, .t 27, .t 28, .t 29])]) .ret) .skip)) (.seq (.seq (.reg [o 31 (.mv (.t 3)), o 32 (.bin .eql (.t 31) (.k (.int .i64 (.ofNat 0))))]) (.cond (.t 32) (.seq (.reg [o 33 (.mv (.t 0)), o 34 (.mv (.t 1)), o 35 (.mv (.t 2)), o 36 (.mv (.t 4)), o 37 (.call (.k (.fn 70 [])) [.t 33, .t 34, .t 35, .t 36])]) .ret) .skip)) (.seq (.seq (.reg [o 38 (.mv (.t 10)), o 39 (.un .not (.t 38))]) (.cond (.t 39) (.seq (.reg [o 40 (.mv (.t 0)), o 41 (.mv (.t 1)), o 42 (.mv (.t 2)), o 43 (.mv (.t 4)), o 44 (.call (.k (.fn 71 [])) [.t 40, .t 41, .t 42, .t 43])]) (.reg [o 45 (.mv (.t 3)), o 46 (.bin .sub (.t 45) (.k (.int .i64 (.ofNat 1)))), o 3 (.mv (.t 46))])) .skip)) (.seq (.reg [o 48 (.mv (.t 0)), o 49 (.mv (.t 1)), o 50 (.mv (.t 2)), o 51 (.mv (.t 4)), o 52 (.call (.k (.fn 72 [])) [.t 48, .t 49, .t 50, .t 51]), o 47 (.mv (.t 52)), o 53 (.ext (.t 47) 0), o 54 (.ext (.t 47) 1), o 13 (.mv (.t 53)), o 14 (.mv (.t 54))]) (.seq (.seq (.reg [o 55 (.mv (.t 14)), o 56 (.bin .eql (.t 55) (.k (.int .i64 (.ofNat 2))))]) (.cond (.t 56) (.seq (.reg [o 57 (.mv (.t 0)), o 58 (.mv (.t 1)), o 59 (.mv (.t 2)), o 60 (.mv (.t 4)), o 61 (.call (.k (.fn 73 [])) [.t 57, .t 58, .t 59, .t 60])]) (.seq (.reg [o 62 (.mv (.t 2)), o 63 (.bin .sub (.t 62) (.k (.int .i64 (.ofNat 1)))), o 64 (.mv (.t 13)), o 65 (.mv (.t 1)), o 66 (.bin .sub (.t 64) (.t 65)), o 67 (.bin .sub (.t 63) (.t 66)), o 13 (.mv (.t 67))]) (.reg [o 14 (.mv (.k (.int .i64 (.ofNat 1))))]))) .skip)) (.seq (.seq (.reg [o 68 (.mv (.t 10)), o 69 (.mv (.t 68)), og 70 (.mv (.t 11)) 69 true, o 71 (.pick (.t 69) (.t 70) (.k (.bool false))), o 72 (.mv (.t 71)), og 73 (.mv (.t 14)) 72 true, og 74 (.bin .eql (.t 73) (.k (.int .i64 (.ofNat 1)))) 72 true, o 75 (.pick (.t 72) (.t 74) (.k (.bool false)))]) (.cond (.t 75) (.seq (.reg [o 76 (.mv (.t 0)), o 77 (.mv (.t 1)), o 78 (.mv (.t 2)), o 79 (.mv (.t 4)), o 80 (.call (.k (.fn 74 [])) [.t 76, .t 77, .t 78, .t 79])]) (.cond (.t 80) .ret .skip)) .skip)) (.seq (.seq (.regd [o 81 (.mv (.t 1)), o 82 (.bin .gtr (.t 81) (.k (.int .i64 (.ofNat 0)))), o 83 (.mv (.t 82)), og 84 (.mv (.t 4)) 83 true, og 85 (.mv (.t 0)) 83 true, og 86 (.mv (.t 1)) 83 true, og 87 (.bin .sub (.t 86) (.k (.int .i64 (.ofNat 1)))) 83 true, og 88 (.iaddr 2 (.t 85) (.t 87)) 83 true, og 89 (.load (some 2) (.t 88)) 83 true, og 90 (.mv (.t 0)) 83 true, og 91 (.mv (.t 13)) 83 true, og 92 (.iaddr 2 (.t 90) (.t 91)) 83 true, og 93 (.load (some 2) (.t 92)) 83 true, og 94 (.call (.t 84) [.t 89, .t 93]) 83 true, og 95 (.bin .lss (.t 94) (.k (.int .i64 (.ofNat 0)))) 83 true, og 96 (.un .not (.t 95)) 83 true, o 97 (.pick (.t 83) (.t 96) (.k (.bool false)))] [] []) (.cond (.t 97) (.seq (.reg [o 98 (.mv (.t 0)), o 99 (.mv (.t 1)), o 100 (.mv (.t 2)), o 101 (.mv (.t 13)), o 102 (.mv (.t 4)), o 103 (.call (.k (.fn 75 [])) [.t 98, .t 99, .t 100, .t 101, .t 102]), o 15 (.mv (.t 103))]) (.seq (.reg [o 104 (.mv (.t 15)), o 1 (.mv (.t 104))]) (.exit 1))) .skip)) (.seq (.reg [o 106 (.mv (.t 0)), o 107 (.mv (.t 1)), o 108 (.mv (.t 2)), o 109 (.mv (.t 13)), o 110 (.mv (.t 4)), o 111 (.call (.k (.fn 76 [])) [.t 106, .t 107, .t 108, .t 109, .t 110]), o 105 (.mv (.t 111)), o 112 (.ext (.t 105) 0), o 113 (.ext (.t 105) 1), o 16 (.mv (.t 112)), o 17 (.mv (.t 113))]) (.seq (.reg [o 114 (.mv (.t 17)), o 11 (.mv (.t 114))]) (.seq (.reg [o 115 (.mv (.t 16)), o 116 (.mv (.t 1)), o 117 (.bin .sub (.t 115) (.t 116)), o 118 (.mv (.t 2)), o 119 (.mv (.t 16)), o 120 (.bin .sub (.t 118) (.t 119)), o 18 (.mv (.t 117)), o 19 (.mv (.t 120))]) (.seq (.reg [o 121 (.mv (.t 12)), o 122 (.bin .quo (.t 121) (.k (.int .i64 (.ofNat 8)))), o 20 (.mv (.t 122))]) (.seq (.reg [o 123 (.mv (.t 18)), o 124 (.mv (.t 19)), o 125 (.bin .lss (.t 123) (.t 124))]) (.cond (.t 125) (.seq (.reg [o 126 (.mv (.t 18)), o 127 (.mv (.t 20)), o 128 (.bin .geq (.t 126) (.t 127)), o 10 (.mv (.t 128))]) (.seq (.reg [o 129 (.mv (.t 0)), o 130 (.mv (.t 1)), o 131 (.mv (.t 16)), o 132 (.mv (.t 3)), o 133 (.mv (.t 4)), o 134 (.call (.k (.fn 50 [])) [.t 129, .t 130, .t 131, .t 132, .t 133])]) (.reg [o 135 (.mv (.t 16)), o 136 (.bin .add (.t 135) (.k (.int .i64 (.ofNat 1)))), o 1 (.mv (.t 136))]))) (.seq (.reg [o 137 (.mv (.t 19)), o 138 (.mv (.t 20)), o 139 (.bin .geq (.t 137) (.t 138)), o 10 (.mv (.t 139))]) (.seq (.reg [o 140 (.mv (.t 0)), o 141 (.mv (.t 16)), o 142 (.bin .add (.t 141) (.k (.int .i64 (.ofNat 1)))), o 143 (.mv (.t 2)), o 144 (.mv (.t 3)), o 145 (.mv (.t 4)), o 146 (.call (.k (.fn 50 [])) [.t 140, .t 142, .t 143, .t 144, .t 145])]) (.reg [o 147 (.mv (.t 16)), o 2 (.mv (.t 147))])))))))))))))))))))))) 148 5 []
theorem l50 : compFunc Tryd.prog 50 = some L50 := by kernel_rfl
def L51 : XFunc := .mk (.seq (.reg [o 2 (.mv (.k (.int .i64 (.ofNat 0))))]) (.seq (.cond (.k (.bool false)) (.seq (.reg [o 3 (.mv (.t 0)), o 4 (.conv .u32 (.t 3)), o 5 (.call (.k (.fn 77 [])) [.t 4]), o 2 (.mv (.t 5))]) .ret) .skip) (.seq (.reg [o 6 (.mv (.t 0)), o 7 (.call (.k (.fn 78 [])) [.t 6]), o 2 (.mv (.t 7))]) .ret))) 8 1 [.t 2]
theorem l51 : compFunc Tryd.prog 51 = some L51 := by kernel_rfl
def L52 : XFunc := .mk (.seq (.reg [o 4 (.alloc [.bool false, .nils])]) (.seq (.reg [o 5 (.mv (.t 0)), o 6 (.mv (.t 5)), og 7 (.mv (.t 1)) 6 true, og 8 (.len (.t 7)) 6 true, og 9 (.bin .gtr (.t 8) (.k (.int .i64 (.ofNat 0)))) 6 true, o 10 (.pick (.t 6) (.t 9) (.k (.bool false))), o 11 (.mv (.t 1)), o 12 (.build [.bool false, .nils] [(0, 1, .t 10), (1, 1, .t 11)]), .mk none (.store 2 (.t 4) (.t 12)) none]) .ret)) 13 2 [.c 4 (some 2)]
theorem l52 : compFunc Tryd.prog 52 = some L52 := by kernel_rfl
def L53 : XFunc := .mk (.seq (.reg [o 2 (.mv (.k .nils))]) (.seq (.block 0 (.loop (.seq (.seq (.reg [o 3 (.mv (.t 0)), o 4 (.len (.t 3)), o 5 (.bin .gtr (.t 4) (.k (.int .i64 (.ofNat 0)))), o 6 (.mv (.t 5)), og 7 (.mv (.t 0)) 6 true, og 8 (.mv (.t 0)) 6 true, og 9 (.len (.t 8)) 6 true, og 10 (.bin .sub (.t 9) (.k (.int .i64 (.ofNat 1)))) 6 true, og 11 (.iaddr 1 (.t 7) (.t 10)) 6 true, og 12 (.load none (.t 11)) 6 true, og 13 (.bin .eql (.t 12) (.k (.int .u32 (.ofNat 0)))) 6 true, o 14 (.pick (.t 6) (.t 13) (.k (.bool false)))]) (.cond (.t 14) .skip (.exit 0))) (.block 1 (.reg [o 15 (.mv (.t 0)), o 16 (.mv (.t 0)), o 17 (.len (.t 16)), o 18 (.bin .sub (.t 17) (.k (.int .i64 (.ofNat 1)))), o 19 (.cut 1 (.t 15) none (some (.t 18)) none), o 0 (.mv (.t 19))]))))) (.seq (.reg [o 20 (.mv (.t 0)), o 2 (.mv (.t 20))]) .ret))) 21 1 [.t 2]
theorem l53 : compFunc Tryd.prog 53 = some L53 := by kernel_rfl
def L54 : XFunc := .mk (.seq (.reg [o 4 (.mv (.k .nils))]) (.seq (.seq (.reg [o 9 (.mv (.t 0)), o 10 (.len (.t 9)), o 11 (.mv (.t 1)), o 12 (.len (.t 11)), o 13 (.bin .lss (.t 10) (.t 12))]) (.cond (.t 13) (.reg [o 14 (.mv (.t 1)), o 15 (.mv (.t 0)), o 0 (.mv (.t 14)), o 1 (.mv (.t 15))]) .skip)) (.seq (.reg [o 16 (.mv (.t 0)), o 17 (.len (.t 16)), o 18 (.bin .add (.t 17) (.k (.int .i64 (.ofNat 1)))), o 19 (.mkslice [.int .u32 (.ofNat 0)] 4 (.t 18) (.t 18)), o 5 (.mv (.t 19))]) (.seq (.reg [o 6 (.mv (.k (.int .u32 (.ofNat 0))))]) (.seq (.seq (.reg [o 20 (.mv (.t 0)), o 21 (.len (.t 20)), o 22 (.mv (.k (.int .i64 (.ofNat 0))))]) (.block 0 (.loop (.seq (.reg [o 23 (.bin .lss (.t 22) (.t 21))]) (.seq (.cond (.t 23) .skip (.exit 0)) (.seq (.block 1 (.seq (.reg [o 24 (.mv (.t 22)), o 7 (.mv (.t 24))]) (.seq (.reg [o 8 (.mv (.k (.int .u32 (.ofNat 0))))]) (.seq (.seq (.reg [o 25 (.mv (.t 7)), o 26 (.mv (.t 1)), o 27 (.len (.t 26)), o 28 (.bin .lss (.t 25) (.t 27))]) (.cond (.t 28) (.reg [o 29 (.mv (.t 1)), o 30 (.mv (.t 7)), o 31 (.iaddr 1 (.t 29) (.t 30)), o 32 (.load none (.t 31)), o 8 (.mv (.t 32))]) .skip)) (.reg [o 34 (.mv (.t 5)), o 35 (.mv (.t 7)), o 36 (.mv (.t 0)), o 37 (.mv (.t 7)), o 38 (.iaddr 1 (.t 36) (.t 37)), o 39 (.load none (.t 38)), o 40 (.mv (.t 8)), o 41 (.mv (.t 6)), o 42 (.call (.k (.fn 79 [])) [.t 39, .t 40, .t 41]), o 33 (.mv (.t 42)), o 43 (.ext (.t 33) 0), o 44 (.ext (.t 33) 1), o 45 (.iaddr 1 (.t 34) (.t 35)), .mk none (.store 1 (.t 45) (.t 43)) none, o 6 (.mv (.t 44))]))))) (.reg [o 46 (.bin .add (.t 22) (.k (.int .i64 (.ofNat 1)))), o 22 (.mv (.t 46))]))))))) (.seq (.reg [o 47 (.mv (.t 5)), o 48 (.mv (.t 0)), o 49 (.len (.t 48)), o 50 (.mv (.t 6)), o 51 (.iaddr 1 (.t 47) (.t 49)), .mk none (.store 1 (.t 51) (.t 50)) none]) (.seq (.reg [o 52 (.mv (.t 5)), o 53 (.call (.k (.fn 53 [])) [.t 52]), o 4 (.mv (.t 53))]) .ret))))))) 54 2 [.t 4]
theorem l54 : compFunc Tryd.prog 54 = some L54 := by kernel_rfl
def L55 : XFunc := .mk (.seq (.reg [o 4 (.mv (.k (.int .i64 (.ofNat 0))))]) (.seq (.seq (.reg [o 6 (.mv (.t 0)), o 7 (.len (.t 6)), o 8 (.mv (.t 1)), o 9 (.len (.t 8)), o 10 (.bin .neq (.t 7) (.t 9))]) (.cond (.t 10) (.seq (.seq (.reg [o 11 (.mv (.t 0)), o 12 (.len (.t 11)), o 13 (.mv (.t 1)), o 14 (.len (.t 13)), o 15 (.bin .lss (.t 12) (.t 14))]) (.cond (.t 15) (.seq (.reg [o 4 (.mv (.k (.int .i64 (.negSucc 0))))]) .ret) .skip)) (.seq (.reg [o 4 (.mv (.k (.int .i64 (.ofNat 1))))]) .ret)) .skip)) (.seq (.seq (.reg [o 16 (.mv (.t 0)), o 17 (.len (.t 16)), o 18 (.bin .sub (.t 17) (.k (.int .i64 (.ofNat 1)))), o 5 (.mv (.t 18))]) (.block 0 (.loop (.seq (.seq (.reg [o 19 (.mv (.t 5)), o 20 (.bin .geq (.t 19) (.k (.int .i64 (.ofNat 0))))]) (.cond (.t 20) .skip (.exit 0))) (.seq (.block 1 (.seq (.regd [o 23 (.mv (.t 0)), o 24 (.mv (.t 5)), o 25 (.iaddr 1 (.t 23) (.t 24)), o 26 (.load none (.t 25)), o 27 (.mv (.t 1)), o 28 (.mv (.t 5)), o 29 (.iaddr 1 (.t 27) (.t 28)), o 30 (.load none (.t 29)), o 31 (.bin .neq (.t 26) (.t 30))] [] []) (.cond (.t 31) (.seq (.seq (.regd [o 32 (.mv (.t 0)), o 33 (.mv (.t 5)), o 34 (.iaddr 1 (.t 32) (.t 33)), o 35 (.load none (.t 34)), o 36 (.mv (.t 1)), o 37 (.mv (.t 5)), o 38 (.iaddr 1 (.t 36) (.t 37)), o 39 (.load none (.t 38)), o 40 (.bin .lss (.t 35) (.t 39))] [] []) (.cond (.t 40) (.seq (.reg [o 4 (.mv (.k (.int .i64 (.negSucc 0))))]) .ret) .skip)) (.seq (.reg [o 4 (.mv (.k (.int .i64 (.ofNat 1))))]) .ret)) .skip))) (.reg [o 21 (.mv (.t 5)), o 22 (.bin .sub (.t 21) (.k (.int .i64 (.ofNat 1)))), o 5 (.mv (.t 22))])))))) (.seq (.reg [o 4 (.mv (.k (.int .i64 (.ofNat 0))))]) .ret)))) 41 2 [.t 4]
theorem l55 : compFunc Tryd.prog 55 = some L55 := by kernel_rfl
def L56 : XFunc := .mk (.seq (.reg [o 4 (.mv (.k .nils))]) (.seq (.reg [o 9 (.mv (.t 0)), o 10 (.len (.t 9)), o 11 (.mkslice [.int .u32 (.ofNat 0)] 4 (.t 10) (.t 10)), o 5 (.mv (.t 11))]) (.seq (.reg [o 6 (.mv (.k (.int .u32 (.ofNat 0))))]) (.seq (.seq (.reg [o 12 (.mv (.t 0)), o 13 (.len (.t 12)), o 14 (.mv (.k (.int .i64 (.ofNat 0))))]) (.block 0 (.loop (.seq (.reg [o 15 (.bin .lss (.t 14) (.t 13))]) (.seq (.cond (.t 15) .skip (.exit 0)) (.seq (.block 1 (.seq (.reg [o 16 (.mv (.t 14)), o 7 (.mv (.t 16))]) (.seq (.reg [o 8 (.mv (.k (.int .u32 (.ofNat 0))))]) (.seq (.seq (.reg [o 17 (.mv (.t 7)), o 18 (.mv (.t 1)), o 19 (.len (.t 18)), o 20 (.bin .lss (.t 17) (.t 19))]) (.cond (.t 20) (.reg [o 21 (.mv (.t 1)), o 22 (.mv (.t 7)), o 23 (.iaddr 1 (.t 21) (.t 22)), o 24 (.load none (.t 23)), o 8 (.mv (.t 24))]) .skip)) (.reg [o 26 (.mv (.t 5)), o 27 (.mv (.t 7)), o 28 (.mv (.t 0)), o 29 (.mv (.t 7)), o 30 (.iaddr 1 (.t 28) (.t 29)), o 31 (.load none (.t 30)), o 32 (.mv (.t 8)), o 33 (.mv (.t 6)), o 34 (.call (.k (.fn 80 [])) [.t 31, .t 32, .t 33]), o 25 (.mv (.t 34)), o 35 (.ext (.t 25) 0), o 36 (.ext (.t 25) 1), o 37 (.iaddr 1 (.t 26) (.t 27)), .mk none (.store 1 (.t 37) (.t 35)) none, o 6 (.mv (.t 36))]))))) (.reg [o 38 (.bin .add (.t 14) (.k (.int .i64 (.ofNat 1)))), o 14 (.mv (.t 38))]))))))) (.seq (.reg [o 39 (.mv (.t 5)), o 40 (.call (.k (.fn 53 [])) [.t 39]), o 4 (.mv (.t 40))]) .ret))))) 41 2 [.t 4]
theorem l56 : compFunc Tryd.prog 56 = some L56 := by kernel_rfl
def L57 : XFunc := .mk (.seq (.reg [o 4 (.mv (.k (.str [])))]) (.seq (.reg [o 8 (.mv (.t 0)), o 9 (.conv .u8 (.t 8)), o 10 (.bslice [.int .u8 (.ofNat 0)] [(0, 1, .t 9)] 1), o 5 (.mv (.t 10))]) (.seq (.seq (.reg [o 11 (.mv (.t 1)), o 12 (.len (.t 11)), o 13 (.mv (.k (.int .i64 (.ofNat 0))))]) (.block 0 (.loop (.seq (.reg [o 14 (.bin .lss (.t 13) (.t 12))]) (.seq (.cond (.t 14) .skip (.exit 0)) (.seq (.block 1 (.seq (.reg [o 15 (.iaddr 1 (.t 11) (.t 13)), o 16 (.load none (.t 15)), o 7 (.mv (.t 16))]) (.reg [o 17 (.mv (.t 5)), o 18 (.mv (.t 7)), o 19 (.conv .u8 (.t 18)), o 20 (.bslice [.int .u8 (.ofNat 0)] [(0, 1, .t 19)] 1), o 21 (.app 1 1 (.t 17) (.t 20)), o 5 (.mv (.t 21))]))) (.reg [o 22 (.bin .add (.t 13) (.k (.int .i64 (.ofNat 1)))), o 13 (.mv (.t 22))]))))))) (.seq (.reg [o 23 (.mv (.t 5)), o 24 (.bts (.t 23)), o 4 (.mv (.t 24))]) .ret)))) 25 2 [.t 4]
theorem l57 : compFunc Tryd.prog 57 = some L57 := by kernel_rfl
def L58 : XFunc := .mk (.seq (.reg [o 2 (.box (.t 0)), o 3 (.box (.t 1)), o 4 (.alloc [.bool false, .nils])]) (.seq (.regd [o 5 (.faddr 0 (.t 2)), o 6 (.load none (.t 5)), o 7 (.faddr 0 (.t 3)), o 8 (.load none (.t 7)), o 9 (.eqf true (.mk false [.b]) (.t 6) (.t 8)), o 10 (.faddr 1 (.t 2)), o 11 (.load none (.t 10)), o 12 (.faddr 1 (.t 3)), o 13 (.load none (.t 12)), o 14 (.call (.k (.fn 81 [])) [.t 11, .t 13]), o 15 (.call (.k (.fn 52 [])) [.t 9, .t 14]), .mk none (.store 2 (.t 4) (.t 15)) none] [(1, [9], []), (3, [9], [])] []) .ret)) 16 2 [.c 4 (some 2)]
theorem l58 : compFunc Tryd.prog 58 = some L58 := by kernel_rfl
def L59 : XFunc := .mk (.seq (.reg [o 4 (.mv (.k (.str [])))]) (.seq (.block 0 (.loop (.seq (.seq (.reg [o 5 (.mv (.t 0)), o 6 (.slen (.t 5)), o 7 (.bin .gtr (.t 6) (.k (.int .i64 (.ofNat 0)))), o 8 (.mv (.t 7)), og 9 (.mv (.t 0)) 8 true, og 10 (.sidx (.t 9) (.k (.int .i64 (.ofNat 0)))) 8 true, og 11 (.mv (.t 1)) 8 true, og 12 (.bin .eql (.t 10) (.t 11)) 8 true, o 13 (.pick (.t 8) (.t 12) (.k (.bool false)))]) (.cond (.t 13) .skip (.exit 0))) (.block 1 (.reg [o 14 (.mv (.t 0)), o 15 (.scut (.t 14) (some (.k (.int .i64 (.ofNat 1)))) none), o 0 (.mv (.t 15))]))))) (.seq (.reg [o 16 (.mv (.t 0)), o 4 (.mv (.t 16))]) .ret))) 17 2 [.t 4]
theorem l59 : compFunc Tryd.prog 59 = some L59 := by kernel_rfl
def L60 : XFunc := .mk (.seq (.reg [o 4 (.mv (.k (.str [])))]) (.seq (.block 0 (.loop (.seq (.seq (.reg [o 5 (.mv (.t 0)), o 6 (.slen (.t 5)), o 7 (.bin .gtr (.t 6) (.k (.int .i64 (.ofNat 0)))), o 8 (.mv (.t 7)), og 9 (.mv (.t 0)) 8 true, og 10 (.mv (.t 0)) 8 true, og 11 (.slen (.t 10)) 8 true, og 12 (.bin .sub (.t 11) (.k (.int .i64 (.ofNat 1)))) 8 true, og 13 (.sidx (.t 9) (.t 12)) 8 true, og 14 (.mv (.t 1)) 8 true, og 15 (.bin .eql (.t 13) (.t 14)) 8 true, o 16 (.pick (.t 8) (.t 15) (.k (.bool false)))]) (.cond (.t 16) .skip (.exit 0))) (.block 1 (.reg [o 17 (.mv (.t 0)), o 18 (.mv (.t 0)), o 19 (.slen (.t 18)), o 20 (.bin .sub (.t 19) (.k (.int .i64 (.ofNat 1)))), o 21 (.scut (.t 17) none (some (.t 20))), o 0 (.mv (.t 21))]))))) (.seq (.reg [o 22 (.mv (.t 0)), o 4 (.mv (.t 22))]) .ret))) 23 2 [.t 4]
theorem l60 : compFunc Tryd.prog 60 = some L60 := by kernel_rfl
def L61 : XFunc := .mk (.seq (.reg [o 2 (.alloc [.bool false, .bool false, .bool false, .bool false, .bool false, .bool false, .bool false, .bool false, .bool false, .bool false, .bool false, .bool false, .bool false, .bool false, .bool false, .bool false, .bool false, .bool false, .bool false, .bool false, .bool false, .bool false, .bool false, .bool false, .bool false, .bool false, .bool false, .bool false, .bool false, .bool false, .bool false, .bool false, .bool false, .bool false, .bool false, .bool false, .bool false, .bool false, .bool false, .bool false, .bool false, .bool false, .bool false, .bool false, .bool false, .bool false, .bool false, .bool false, .bool false, .bool false, .bool false, .bool false, .bool false, .bool false, .bool false, .bool false, .bool false, .bool false, .bool false, .bool false, .bool false, .bool false, .bool false, .bool false, .bool false, .bool false, .bool false, .bool false, .bool false, .bool false, .bool false, .bool false, .bool false, .bool false, .bool false, .bool false, .bool false, .bool false, .bool false, .bool false, .bool false, .bool false, .bool false, .bool false, .bool false, .bool false, .bool false, .bool false, .bool false, .bool false, .bool false, .bool false, .bool false, .bool false, .bool false, .bool false, .bool false, .bool false, .bool false, .bool false, .bool false, .bool false, .bool false, .bool false, .bool false, .bool false, .bool false, .bool false, .bool false, .bool false, .bool false, .bool false, .bool false, .bool false, .bool false, .bool false, .bool false, .bool false, .bool false, .bool false, .bool false, .bool false, .bool false, .bool false, .bool false, .bool false, .bool false, .bool false, .bool false, .bool false, .bool false, .bool false, .bool false, .bool false, .bool false, .bool false, .bool false, .bool false, .bool false, .bool false, .bool false, .bool false, .bool false, .bool false, .bool false, .bool false, .bool false, .bool false, .bool false, .bool false, .bool false, .bool false, .bool false, .bool false, .bool false, .bool false, .bool false, .bool false, .bool false, .bool false, .bool false, .bool false, .bool false, .bool false, .bool false, .bool false, .bool false, .bool false, .bool false, .bool false, .bool false, .bool false, .bool false, .bool false, .bool false, .bool false, .bool false, .bool false, .bool false, .bool false, .bool false, .bool false, .bool false, .bool false, .bool false, .bool false, .bool false, .bool false, .bool false, .bool false, .bool false, .bool false, .bool false, .bool false, .bool false, .bool false, .bool false, .bool false, .bool false, .bool false, .bool false, .bool false, .bool false, .bool false, .bool false, .bool false, .bool false, .bool false, .bool false, .bool false, .bool false, .bool false, .bool false, .bool false, .bool false, .bool false, .bool false, .bool false, .bool false, .bool false, .bool false, .bool false, .bool false, .bool false, .bool false, .bool false, .bool false, .bool false, .bool false, .bool false, .bool false, .bool false, .bool false, .bool false, .bool false, .bool false, .bool false, .bool false, .bool false, .bool false, .bool false, .bool false, .bool false, .bool false, .bool false, .bool false, .bool false, .bool false, .bool false, .bool false, .bool false, .bool false, .bool false, .bool false, .bool false, .bool false]), o 3 (.mv (.k (.bool false)))]) (.seq (.seq (.reg [o 4 (.mv (.k (.int .i64 (.ofNat 0))))]) (.block 0 (.loop (.seq (.seq (.reg [o 6 (.mv (.t 4)), o 7 (.mv (.t 0)), o 8 (.slen (.t 7)), o 9 (.bin .lss (.t 6) (.t 8))]) (.cond (.t 9) .skip (.exit 0))) (.seq (.block 1 (.seq (.reg [o 12 (.mv (.t 0)), o 13 (.mv (.t 4)), o 14 (.sidx (.t 12) (.t 13)), o 5 (.mv (.t 14))]) (.seq (.seq (.reg [o 15 (.mv (.t 5)), o 16 (.bin .geq (.t 15) (.k (.int .u8 (.ofNat 128))))]) (.cond (.t 16) (.seq (.reg [o 17 (.load (some 256) (.t 2)), .mk none (.store 256 (.t 2) (.t 17)) none, o 3 (.mv (.k (.bool false)))]) .ret) .skip)) (.reg [o 18 (.mv (.t 5)), o 19 (.aaddr 256 1 (.t 2) (.t 18)), .mk none (.store 1 (.t 19) (.k (.bool true))) none])))) (.reg [o 10 (.mv (.t 4)), o 11 (.bin .add (.t 10) (.k (.int .i64 (.ofNat 1)))), o 4 (.mv (.t 11))])))))) (.seq (.reg [o 20 (.load (some 256) (.t 2)), .mk none (.store 256 (.t 2) (.t 20)) none, o 3 (.mv (.k (.bool true)))]) .ret))) 21 1 [.c 2 (some 256), .t 3]
theorem l61 : compFunc Tryd.prog 61 = some L61 := by kernel_rfl
def L62 : XFunc := .mk (.seq (.reg [o 4 (.mv (.k (.str [])))]) (.seq (.block 0 (.loop (.seq (.seq (.reg [o 5 (.mv (.t 0)), o 6 (.slen (.t 5)), o 7 (.bin .gtr (.t 6) (.k (.int .i64 (.ofNat 0))))]) (.cond (.t 7) .skip (.exit 0))) (.block 1 (.seq (.seq (.reg [o 8 (.mv (.t 1)), o 9 (.mv (.t 0)), o 10 (.sidx (.t 9) (.k (.int .i64 (.ofNat 0)))), o 11 (.call (.k (.fn 82 [])) [.t 8, .t 10]), o 12 (.un .not (.t 11))]) (.cond (.t 12) (.exit 0) .skip)) (.reg [o 13 (.mv (.t 0)), o 14 (.scut (.t 13) (some (.k (.int .i64 (.ofNat 1)))) none), o 0 (.mv (.t 14))])))))) (.seq (.reg [o 15 (.mv (.t 0)), o 4 (.mv (.t 15))]) .ret))) 16 2 [.t 4]
theorem l62 : compFunc Tryd.prog 62 = some L62 := by kernel_rfl
def L63 : XFunc := .mk (.seq (.reg [o 4 (.mv (.k (.str [])))]) (.seq (.block 0 (.loop (.seq (.seq (.reg [o 5 (.mv (.t 0)), o 6 (.slen (.t 5)), o 7 (.bin .gtr (.t 6) (.k (.int .i64 (.ofNat 0))))]) (.cond (.t 7) .skip (.exit 0))) (.block 1 (.seq (.seq (.reg [o 8 (.mv (.t 1)), o 9 (.mv (.t 0)), o 10 (.mv (.t 0)), o 11 (.slen (.t 10)), o 12 (.bin .sub (.t 11) (.k (.int .i64 (.ofNat 1)))), o 13 (.sidx (.t 9) (.t 12)), o 14 (.call (.k (.fn 82 [])) [.t 8, .t 13]), o 15 (.un .not (.t 14))]) (.cond (.t 15) (.exit 0) .skip)) (.reg [o 16 (.mv (.t 0)), o 17 (.mv (.t 0)), o 18 (.slen (.t 17)), o 19 (.bin .sub (.t 18) (.k (.int .i64 (.ofNat 1)))), o 20 (.scut (.t 16) none (some (.t 19))), o 0 (.mv (.t 20))])))))) (.seq (.reg [o 21 (.mv (.t 0)), o 4 (.mv (.t 21))]) .ret))) 22 2 [.t 4]
theorem l63 : compFunc Tryd.prog 63 = some L63 := by kernel_rfl
def L66 : XFunc := .mk (.seq (.reg [o 4 (.mv (.k (.int .i64 (.ofNat 0))))]) (.seq (.seq (.reg [o 6 (.mv (.t 0)), o 7 (.len (.t 6)), o 8 (.mv (.k (.int .i64 (.ofNat 0))))]) (.block 0 (.loop (.seq (.reg [o 9 (.bin .lss (.t 8) (.t 7))]) (.seq (.cond (.t 9) .skip (.exit 0)) (.seq (.block 1 (.seq (.reg [o 10 (.mv (.t 8)), o 5 (.mv (.t 10))]) (.seq (.reg [o 11 (.mv (.t 1)), o 12 (.mv (.t 0)), o 13 (.mv (.t 5)), o 14 (.iaddr 2 (.t 12) (.t 13)), o 15 (.load (some 2) (.t 14)), o 16 (.call (.t 11) [.t 15])]) (.cond (.t 16) (.seq (.reg [o 17 (.mv (.t 5)), o 4 (.mv (.t 17))]) .ret) .skip)))) (.reg [o 18 (.bin .add (.t 8) (.k (.int .i64 (.ofNat 1)))), o 8 (.mv (.t 18))]))))))) (.seq (.reg [o 4 (.mv (.k (.int .i64 (.negSucc 0))))]) .ret))) 19 2 [.t 4]
theorem l66 : compFunc Tryd.prog 66 = some L66 := by kernel_rfl
def L67 : XFunc := .mk (.seq (.reg [o 4 (.mv (.k .nils)), o 5 (.mv (.k (.int .u32 (.ofNat 0))))]) (.seq (.reg [o 10 (.mv (.t 0)), o 11 (.len (.t 10)), o 12 (.mkslice [.int .u32 (.ofNat 0)] 4 (.t 11) (.t 11)), o 6 (.mv (.t 12))]) (.seq (.reg [o 7 (.mv (.k (.int .u64 (.ofNat 0))))]) (.seq (.seq (.reg [o 13 (.mv (.t 0)), o 14 (.len (.t 13)), o 15 (.bin .sub (.t 14) (.k (.int .i64 (.ofNat 1)))), o 8 (.mv (.t 15))]) (.block 0 (.loop (.seq (.seq (.reg [o 16 (.mv (.t 8)), o 17 (.bin .geq (.t 16) (.k (.int .i64 (.ofNat 0))))]) (.cond (.t 17) .skip (.exit 0))) (.seq (.block 1 (.seq (.reg [o 20 (.mv (.t 7)), o 21 (.bin .shl (.t 20) (.k (.int .u64 (.ofNat 32)))), o 22 (.mv (.t 0)), o 23 (.mv (.t 8)), o 24 (.iaddr 1 (.t 22) (.t 23)), o 25 (.load none (.t 24)), o 26 (.conv .u64 (.t 25)), o 27 (.bin .or (.t 21) (.t 26)), o 9 (.mv (.t 27))]) (.regd [o 28 (.mv (.t 6)), o 29 (.mv (.t 8)), o 30 (.mv (.t 9)), o 31 (.mv (.t 1)), o 32 (.conv .u64 (.t 31)), o 33 (.bin .quo (.t 30) (.t 32)), o 34 (.conv .u32 (.t 33)), o 35 (.mv (.t 9)), o 36 (.mv (.t 1)), o 37 (.conv .u64 (.t 36)), o 38 (.bin .rem (.t 35) (.t 37)), o 39 (.iaddr 1 (.t 28) (.t 29)), .mk none (.store 1 (.t 39) (.t 34)) none, o 7 (.mv (.t 38))] [] []))) (.reg [o 18 (.mv (.t 8)), o 19 (.bin .sub (.t 18) (.k (.int .i64 (.ofNat 1)))), o 8 (.mv (.t 19))])))))) (.seq (.reg [o 40 (.mv (.t 6)), o 41 (.call (.k (.fn 53 [])) [.t 40]), o 42 (.mv (.t 7)), o 43 (.conv .u32 (.t 42)), o 4 (.mv (.t 41)), o 5 (.mv (.t 43))]) .ret))))) 44 2 [.t 4, .t 5]
theorem l67 : compFunc Tryd.prog 67 = some L67 := by kernel_rfl
def L68 : XFunc := .mk (.seq (.reg [o 4 (.mv (.t 0)), o 5 (.len (.t 4)), o 6 (.bin .sub (.t 5) (.k (.int .i64 (.ofNat 1)))), o 2 (.mv (.k (.int .i64 (.ofNat 0)))), o 3 (.mv (.t 6))]) (.block 0 (.loop (.seq (.seq (.reg [o 7 (.mv (.t 2)), o 8 (.mv (.t 3)), o 9 (.bin .lss (.t 7) (.t 8))]) (.cond (.t 9) .skip (.exit 0))) (.seq (.block 1 (.regd [o 14 (.mv (.t 0)), o 15 (.mv (.t 2)), o 16 (.mv (.t 0)), o 17 (.mv (.t 3)), o 18 (.mv (.t 0)), o 19 (.mv (.t 3)), o 20 (.iaddr 1 (.t 18) (.t 19)), o 21 (.load none (.t 20)), o 22 (.mv (.t 0)), o 23 (.mv (.t 2)), o 24 (.iaddr 1 (.t 22) (.t 23)), o 25 (.load none (.t 24)), o 26 (.iaddr 1 (.t 14) (.t 15)), .mk none (.store 1 (.t 26) (.t 21)) none, o 27 (.iaddr 1 (.t 16) (.t 17)), .mk none (.store 1 (.t 27) (.t 25)) none] [] [])) (.reg [o 10 (.mv (.t 2)), o 11 (.bin .add (.t 10) (.k (.int .i64 (.ofNat 1)))), o 12 (.mv (.t 3)), o 13 (.bin .sub (.t 12) (.k (.int .i64 (.ofNat 1)))), o 2 (.mv (.t 11)), o 3 (.mv (.t 13))])))))) 28 1 []
theorem l68 : compFunc Tryd.prog 68 = some L68 := by kernel_rfl
def L69 : XFunc := .mk (.seq (.reg [o 10 (.mv (.t 1)), o 11 (.bin .add (.t 10) (.k (.int .i64 (.ofNat 1)))), o 8 (.mv (.t 11))]) (.block 0 (.loop (.seq (.seq (.reg [o 12 (.mv (.t 8)), o 13 (.mv (.t 2)), o 14 (.bin .lss (.t 12) (.t 13))]) (.cond (.t 14) .skip (.exit 0))) (.seq (.block 1 (.seq (.reg [o 17 (.mv (.t 8)), o 9 (.mv (.t 17))]) (.block 2 (.loop (.seq (.seq (.regd [o 18 (.mv (.t 9)), o 19 (.mv (.t 1)), o 20 (.bin .gtr (.t 18) (.t 19)), o 21 (.mv (.t 20)), og 22 (.mv (.t 3)) 21 true, og 23 (.mv (.t 0)) 21 true, og 24 (.mv (.t 9)) 21 true, og 25 (.iaddr 2 (.t 23) (.t 24)) 21 true, og 26 (.load (some 2) (.t 25)) 21 true, og 27 (.mv (.t 0)) 21 true, og 28 (.mv (.t 9)) 21 true, og 29 (.bin .sub (.t 28) (.k (.int .i64 (.ofNat 1)))) 21 true, og 30 (.iaddr 2 (.t 27) (.t 29)) 21 true, og 31 (.load (some 2) (.t 30)) 21 true, og 32 (.call (.t 22) [.t 26, .t 31]) 21 true, og 33 (.bin .lss (.t 32) (.k (.int .i64 (.ofNat 0)))) 21 true, o 34 (.pick (.t 21) (.t 33) (.k (.bool false)))] [] []) (.cond (.t 34) .skip (.exit 2))) (.seq (.block 3 (.regd [o 37 (.mv (.t 0)), o 38 (.mv (.t 9)), o 39 (.mv (.t 0)), o 40 (.mv (.t 9)), o 41 (.bin .sub (.t 40) (.k (.int .i64 (.ofNat 1)))), o 42 (.mv (.t 0)), o 43 (.mv (.t 9)), o 44 (.bin .sub (.t 43) (.k (.int .i64 (.ofNat 1)))), o 45 (.iaddr 2 (.t 42) (.t 44)), o 46 (.load (some 2) (.t 45)), o 47 (.mv (.t 0)), o 48 (.mv (.t 9)), o 49 (.iaddr 2 (.t 47) (.t 48)), o 50 (.load (some 2) (.t 49)), o 51 (.iaddr 2 (.t 37) (.t 38)), .mk none (.store 2 (.t 51) (.t 46)) none, o 52 (.iaddr 2 (.t 39) (.t 41)), .mk none (.store 2 (.t 52) (.t 50)) none] [] [])) (.reg [o 35 (.mv (.t 9)), o 36 (.bin .sub (.t 35) (.k (.int .i64 (.ofNat 1)))), o 9 (.mv (.t 36))]))))))) (.reg [o 15 (.mv (.t 8)), o 16 (.bin .add (.t 15) (.k (.int .i64 (.ofNat 1)))), o 8 (.mv (.t 16))])))))) 53 4 []
theorem l69 : compFunc Tryd.prog 69 = some L69 := by kernel_rfl
def L77 : XFunc := .mk (.seq (.reg [o 2 (.mv (.k (.int .i64 (.ofNat 0))))]) (.seq (.seq (.reg [o 3 (.mv (.t 0)), o 4 (.bin .geq (.t 3) (.k (.int .u32 (.ofNat 65536))))]) (.cond (.t 4) (.seq (.reg [o 5 (.mv (.t 0)), o 6 (.bin .shr (.t 5) (.k (.int .u64 (.ofNat 16)))), o 0 (.mv (.t 6))]) (.reg [o 2 (.mv (.k (.int .i64 (.ofNat 16))))])) .skip)) (.seq (.seq (.reg [o 7 (.mv (.t 0)), o 8 (.bin .geq (.t 7) (.k (.int .u32 (.ofNat 256))))]) (.cond (.t 8) (.seq (.reg [o 9 (.mv (.t 0)), o 10 (.bin .shr (.t 9) (.k (.int .u64 (.ofNat 8)))), o 0 (.mv (.t 10))]) (.reg [o 11 (.mv (.t 2)), o 12 (.bin .add (.t 11) (.k (.int .i64 (.ofNat 8)))), o 2 (.mv (.t 12))])) .skip)) (.seq (.reg [o 13 (.mv (.t 2)), o 14 (.mv (.t 0)), o 15 (.conv .u8 (.t 14)), o 16 (.sidx (.k (.str [UInt8.ofNat 0, UInt8.ofNat 1, UInt8.ofNat 2, UInt8.ofNat 2, UInt8.ofNat 3, UInt8.ofNat 3, UInt8.ofNat 3, UInt8.ofNat 3, UInt8.ofNat 4, UInt8.ofNat 4, UInt8.ofNat 4, UInt8.ofNat 4, UInt8.ofNat 4, UInt8.ofNat 4, UInt8.ofNat 4, UInt8.ofNat 4, UInt8.ofNat 5, UInt8.ofNat 5, UInt8.ofNat 5, UInt8.ofNat 5, UInt8.ofNat 5, UInt8.ofNat 5, UInt8.ofNat 5, UInt8.ofNat 5, UInt8.ofNat 5, UInt8.ofNat 5, UInt8.ofNat 5, UInt8.ofNat 5, UInt8.ofNat 5, UInt8.ofNat 5, UInt8.ofNat 5, UInt8.ofNat 5, UInt8.ofNat 6, UInt8.ofNat 6, UInt8.ofNat 6, UInt8.ofNat 6, UInt8.ofNat 6, UInt8.ofNat 6, UInt8.ofNat 6, UInt8.ofNat 6, UInt8.ofNat 6, UInt8.ofNat 6, UInt8.ofNat 6, UInt8.ofNat 6, UInt8.ofNat 6, UInt8.ofNat 6, UInt8.ofNat 6, UInt8.ofNat 6, UInt8.ofNat 6, UInt8.ofNat 6, UInt8.ofNat 6, UInt8.ofNat 6, UInt8.ofNat 6, UInt8.ofNat 6, UInt8.ofNat 6, UInt8.ofNat 6, UInt8.ofNat 6, UInt8.ofNat 6, UInt8.ofNat 6, UInt8.ofNat 6, UInt8.ofNat 6, UInt8.ofNat 6, UInt8.ofNat 6, UInt8.ofNat 6, UInt8.ofNat 7, UInt8.ofNat 7, UInt8.ofNat 7, UInt8.ofNat 7, UInt8.ofNat 7, UInt8.ofNat 7, UInt8.ofNat 7, UInt8.ofNat 7, UInt8.ofNat 7, UInt8.ofNat 7, UInt8.ofNat 7, UInt8.ofNat 7, UInt8.ofNat 7, UInt8.ofNat 7, UInt8.ofNat 7, UInt8.ofNat 7, UInt8.ofNat 7, UInt8.ofNat 7, UInt8.ofNat 7, UInt8.ofNat 7, UInt8.ofNat 7, UInt8.ofNat 7, UInt8.ofNat 7, UInt8.ofNat 7, UInt8.ofNat 7, UInt8.ofNat 7, UInt8.ofNat 7, UInt8.ofNat 7, UInt8.ofNat 7, UInt8.ofNat 7, UInt8.ofNat 7, UInt8.ofNat 7, UInt8.ofNat 7, UInt8.ofNat 7, UInt8.ofNat 7, UInt8.ofNat 7, UInt8.ofNat 7, UInt8.ofNat 7, UInt8.ofNat 7, UInt8.ofNat 7, UInt8.ofNat 7, UInt8.ofNat 7, UInt8.ofNat 7, UInt8.ofNat 7, UInt8.ofNat 7, UInt8.ofNat 7, UInt8.ofNat 7, UInt8.ofNat 7, UInt8.ofNat 7, UInt8.ofNat 7, UInt8.ofNat 7, UInt8.ofNat 7, UInt8.ofNat 7, UInt8.ofNat 7, UInt8.ofNat 7, UInt8.ofNat 7, UInt8.ofNat 7, UInt8.ofNat 7, UInt8.ofNat 7, UInt8.ofNat 7, UInt8.ofNat 7, UInt8.ofNat 7, UInt8.ofNat 7, UInt8.ofNat 7, UInt8.ofNat 8, UInt8.ofNat 8, UInt8.ofNat 8, UInt8.ofNat 8, UInt8.ofNat 8, UInt8.ofNat 8, UInt8.ofNat 8, UInt8.ofNat 8, UInt8.ofNat 8, UInt8.ofNat 8, UInt8.ofNat 8, UInt8.ofNat 8, UInt8.ofNat 8, UInt8.ofNat 8, UInt8.ofNat 8, UInt8.ofNat 8, UInt8.ofNat 8, UInt8.ofNat 8, UInt8.ofNat 8, UInt8.ofNat 8, UInt8.ofNat 8, UInt8.ofNat 8, UInt8.ofNat 8, UInt8.ofNat 8, UInt8.ofNat 8, UInt8.ofNat 8, UInt8.ofNat 8, UInt8.ofNat 8, UInt8.ofNat 8, UInt8.ofNat 8, UInt8.ofNat 8, UInt8.ofNat 8, UInt8.ofNat 8, UInt8.ofNat 8, UInt8.ofNat 8, UInt8.ofNat 8, UInt8.ofNat 8, UInt8.ofNat 8, UInt8.ofNat 8, UInt8.ofNat 8, UInt8.ofNat 8, UInt8.ofNat 8, UInt8.ofNat 8, UInt8.ofNat 8, UInt8.ofNat 8, UInt8.ofNat 8, UInt8.ofNat 8, UInt8.ofNat 8, UInt8.ofNat 8, UInt8.ofNat 8, UInt8.ofNat 8, UInt8.ofNat 8, UInt8.ofNat 8, UInt8.ofNat 8, UInt8.ofNat 8, UInt8.ofNat 8, UInt8.ofNat 8, UInt8.ofNat 8, UInt8.ofNat 8, UInt8.ofNat 8, UInt8.ofNat 8, UInt8.ofNat 8, UInt8.ofNat 8, UInt8.ofNat 8, UInt8.ofNat 8, UInt8.ofNat 8, UInt8.ofNat 8, UInt8.ofNat 8, UInt8.ofNat 8, UInt8.ofNat 8, UInt8.ofNat 8, UInt8.ofNat 8, UInt8.ofNat 8, UInt8.ofNat 8, UInt8.ofNat 8, UInt8.ofNat 8, UInt8.ofNat 8, UInt8.ofNat 8, UInt8.ofNat 8, UInt8.ofNat 8, UInt8.ofNat 8, UInt8.ofNat 8, UInt8.ofNat 8, UInt8.ofNat 8, UInt8.ofNat 8, UInt8.ofNat 8, UInt8.ofNat 8, UInt8.ofNat 8, UInt8.ofNat 8, UInt8.ofNat 8, UInt8.ofNat 8, UInt8.ofNat 8, UInt8.ofNat 8, UInt8.ofNat 8, UInt8.ofNat 8, UInt8.ofNat 8, UInt8.ofNat 8, UInt8.ofNat 8, UInt8.ofNat 8, UInt8.ofNat 8, UInt8.ofNat 8, UInt8.ofNat 8, UInt8.ofNat 8, UInt8.ofNat 8, UInt8.ofNat 8, UInt8.ofNat 8, UInt8.ofNat 8, UInt8.ofNat 8, UInt8.ofNat 8, UInt8.ofNat 8, UInt8.ofNat 8, UInt8.ofNat 8, UInt8.ofNat 8, UInt8.ofNat 8, UInt8.ofNat 8, UInt8.ofNat 8, UInt8.ofNat 8, UInt8.ofNat 8, UInt8.ofNat 8, UInt8.ofNat 8, UInt8.ofNat 8, UInt8.ofNat 8, UInt8.ofNat 8, UInt8.ofNat 8, UInt8.ofNat 8, UInt8.ofNat 8, UInt8.ofNat 8, UInt8.ofNat 8])) (.t 15)), o 17 (.conv .i64 (.t 16)), o 18 (.bin .add (.t 13) (.t 17)), o 2 (.mv (.t 18))]) .ret)))) 19 1 [.t 2]
theorem l77 : compFunc Tryd.prog 77 = some L77 := by kernel_rfl
def L78 : XFunc := .mk (.seq (.reg [o 2 (.mv (.k (.int .i64 (.ofNat 0))))]) (.seq (.seq (.reg [o 3 (.mv (.t 0)), o 4 (.bin .geq (.t 3) (.k (.int .u64 (.ofNat 4294967296))))]) (.cond (.t 4) (.seq (.reg [o 5 (.mv (.t 0)), o 6 (.bin .shr (.t 5) (.k (.int .u64 (.ofNat 32)))), o 0 (.mv (.t 6))]) (.reg [o 2 (.mv (.k (.int .i64 (.ofNat 32))))])) .skip)) (.seq (.seq (.reg [o 7 (.mv (.t 0)), o 8 (.bin .geq (.t 7) (.k (.int .u64 (.ofNat 65536))))]) (.cond (.t 8) (.seq (.reg [o 9 (.mv (.t 0)), o 10 (.bin .shr (.t 9) (.k (.int .u64 (.ofNat 16)))), o 0 (.mv (.t 10))]) (.reg [o 11 (.mv (.t 2)), o 12 (.bin .add (.t 11) (.k (.int .i64 (.ofNat 16)))), o 2 (.mv (.t 12))])) .skip)) (.seq (.seq (.reg [o 13 (.mv (.t 0)), o 14 (.bin .geq (.t 13) (.k (.int .u64 (.ofNat 256))))]) (.cond (.t 14) (.seq (.reg [o 15 (.mv (.t 0)), o 16 (.bin .shr (.t 15) (.k (.int .u64 (.ofNat 8)))), o 0 (.mv (.t 16))]) (.reg [o 17 (.mv (.t 2)), o 18 (.bin .add (.t 17) (.k (.int .i64 (.ofNat 8)))), o 2 (.mv (.t 18))])) .skip)) (.seq (.reg [o 19 (.mv (.t 2)), o 20 (.mv (.t 0)), o 21 (.conv .u8 (.t 20)), o 22 (.sidx (.k (.str [UInt8.ofNat 0, UInt8.ofNat 1, UInt8.ofNat 2, UInt8.ofNat 2, UInt8.ofNat 3, UInt8.ofNat 3, UInt8.ofNat 3, UInt8.ofNat 3, UInt8.ofNat 4, UInt8.ofNat 4, UInt8.ofNat 4, UInt8.ofNat 4, UInt8.ofNat 4, UInt8.ofNat 4, UInt8.ofNat 4, UInt8.ofNat 4, UInt8.ofNat 5, UInt8.ofNat 5, UInt8.ofNat 5, UInt8.ofNat 5, UInt8.ofNat 5, UInt8.ofNat 5, UInt8.ofNat 5, UInt8.ofNat 5, UInt8.ofNat 5, UInt8.ofNat 5, UInt8.ofNat 5, UInt8.ofNat 5, UInt8.ofNat 5, UInt8.ofNat 5, UInt8.ofNat 5, UInt8.ofNat 5, UInt8.ofNat 6, UInt8.ofNat 6, UInt8.ofNat 6, UInt8.ofNat 6, UInt8.ofNat 6, UInt8.ofNat 6, UInt8.ofNat 6, UInt8.ofNat 6, UInt8.ofNat 6, UInt8.ofNat 6, UInt8.ofNat 6, UInt8.ofNat 6, UInt8.ofNat 6, UInt8.ofNat 6, UInt8.ofNat 6, UInt8.ofNat 6, UInt8.ofNat 6, UInt8.ofNat 6, UInt8.ofNat 6, UInt8.ofNat 6, UInt8.ofNat 6, UInt8.ofNat 6, UInt8.ofNat 6, UInt8.ofNat 6, UInt8.ofNat 6, UInt8.ofNat 6, UInt8.ofNat 6, UInt8.ofNat 6, UInt8.ofNat 6, UInt8.ofNat 6, UInt8.ofNat 6, UInt8.ofNat 6, UInt8.ofNat 7, UInt8.ofNat 7, UInt8.ofNat 7, UInt8.ofNat 7, UInt8.ofNat 7, UInt8.ofNat 7, UInt8.ofNat 7, UInt8.ofNat 7, UInt8.ofNat 7, UInt8.ofNat 7, UInt8.ofNat 7, UInt8.ofNat 7, UInt8.ofNat 7, UInt8.ofNat 7, UInt8.ofNat 7, UInt8.ofNat 7, UInt8.ofNat 7, UInt8.ofNat 7, UInt8.ofNat 7, UInt8.ofNat 7, UInt8.ofNat 7, UInt8.ofNat 7, UInt8.ofNat 7, UInt8.ofNat 7, UInt8.ofNat 7, UInt8.ofNat 7, UInt8.ofNat 7, UInt8.ofNat 7, UInt8.ofNat 7, UInt8.ofNat 7, UInt8.ofNat 7, UInt8.ofNat 7, UInt8.ofNat 7, UInt8.ofNat 7, UInt8.ofNat 7, UInt8.ofNat 7, UInt8.ofNat 7, UInt8.ofNat 7, UInt8.ofNat 7, UInt8.ofNat 7, UInt8.ofNat 7, UInt8.ofNat 7, UInt8.ofNat 7, UInt8.ofNat 7, UInt8.ofNat 7, UInt8.ofNat 7, UInt8.ofNat 7, UInt8.ofNat 7, UInt8.ofNat 7, UInt8.ofNat 7, UInt8.ofNat 7, UInt8.ofNat 7, UInt8.ofNat 7, UInt8.ofNat 7, UInt8.ofNat 7, UInt8.ofNat 7, UInt8.ofNat 7, UInt8.ofNat 7, UInt8.ofNat 7, UInt8.ofNat 7, UInt8.ofNat 7, UInt8.ofNat 7, UInt8.ofNat 7, UInt8.ofNat 7, UInt8.ofNat 8, UInt8.ofNat 8, UInt8.ofNat 8, UInt8.ofNat 8, UInt8.ofNat 8, UInt8.ofNat 8, UInt8.ofNat 8, UInt8.ofNat 8, UInt8.ofNat 8, UInt8.ofNat 8, UInt8.ofNat 8, UInt8.ofNat 8, UInt8.ofNat 8, UInt8.ofNat 8, UInt8.ofNat 8, UInt8.ofNat 8, UInt8.ofNat 8, UInt8.ofNat 8, UInt8.ofNat 8, UInt8.ofNat 8, UInt8.ofNat 8, UInt8.ofNat 8, UInt8.ofNat 8, UInt8.ofNat 8, UInt8.ofNat 8, UInt8.ofNat 8, UInt8.ofNat 8, UInt8.ofNat 8, UInt8.ofNat 8, UInt8.ofNat 8, UInt8.ofNat 8, UInt8.ofNat 8, UInt8.ofNat 8, UInt8.ofNat 8, UInt8.ofNat 8, UInt8.ofNat 8, UInt8.ofNat 8, UInt8.ofNat 8, UInt8.ofNat 8, UInt8.ofNat 8, UInt8.ofNat 8, UInt8.ofNat 8, UInt8.ofNat 8, UInt8.ofNat 8, UInt8.ofNat 8, UInt8.ofNat 8, UInt8.ofNat 8, UInt8.ofNat 8, UInt8.ofNat 8, UInt8.ofNat 8, UInt8.ofNat 8, UInt8.ofNat 8, UInt8.ofNat 8, UInt8.ofNat 8, UInt8.ofNat 8, UInt8.ofNat 8, UInt8.ofNat 8, UInt8.ofNat 8, UInt8.ofNat 8, UInt8.ofNat 8, UInt8.ofNat 8, UInt8.ofNat 8, UInt8.ofNat 8, UInt8.ofNat 8, UInt8.ofNat 8, UInt8.ofNat 8, UInt8.ofNat 8, UInt8.ofNat 8, UInt8.ofNat 8, UInt8.ofNat 8, UInt8.ofNat 8, UInt8.ofNat 8, UInt8.ofNat 8, UInt8.ofNat 8, UInt8.ofNat 8, UInt8.ofNat 8, UInt8.ofNat 8, UInt8.ofNat 8, UInt8.ofNat 8, UInt8.ofNat 8, UInt8.ofNat 8, UInt8.ofNat 8, UInt8.ofNat 8, UInt8.ofNat 8, UInt8.ofNat 8, UInt8.ofNat 8, UInt8.ofNat 8, UInt8.ofNat 8, UInt8.ofNat 8, UInt8.ofNat 8, UInt8.ofNat 8, UInt8.ofNat 8, UInt8.ofNat 8, UInt8.ofNat 8, UInt8.ofNat 8, UInt8.ofNat 8, UInt8.ofNat 8, UInt8.ofNat 8, UInt8.ofNat 8, UInt8.ofNat 8, UInt8.ofNat 8, UInt8.ofNat 8, UInt8.ofNat 8, UInt8.ofNat 8, UInt8.ofNat 8, UInt8.ofNat 8, UInt8.ofNat 8, UInt8.ofNat 8, UInt8.ofNat 8, UInt8.ofNat 8, UInt8.ofNat 8, UInt8.ofNat 8, UInt8.ofNat 8, UInt8.ofNat 8, UInt8.ofNat 8, UInt8.ofNat 8, UInt8.ofNat 8, UInt8.ofNat 8, UInt8.ofNat 8, UInt8.ofNat 8, UInt8.ofNat 8, UInt8.ofNat 8, UInt8.ofNat 8, UInt8.ofNat 8, UInt8.ofNat 8, UInt8.ofNat 8, UInt8.ofNat 8, UInt8.ofNat 8])) (.t 21)), o 23 (.conv .i64 (.t 22)), o 24 (.bin .add (.t 19) (.t 23)), o 2 (.mv (.t 24))]) .ret))))) 25 1 [.t 2]
theorem l78 : compFunc Tryd.prog 78 = some L78 := by kernel_rfl
def L79 : XFunc := .mk (.seq (.reg [o 6 (.mv (.k (.int .u32 (.ofNat 0)))), o 7 (.mv (.k (.int .u32 (.ofNat 0))))]) (.seq (.reg [o 9 (.mv (.t 0)), o 10 (.conv .u64 (.t 9)), o 11 (.mv (.t 1)), o 12 (.conv .u64 (.t 11)), o 13 (.bin .add (.t 10) (.t 12)), o 14 (.mv (.t 2)), o 15 (.conv .u64 (.t 14)), o 16 (.bin .add (.t 13) (.t 15)), o 8 (.mv (.t 16))]) (.seq (.reg [o 17 (.mv (.t 8)), o 18 (.conv .u32 (.t 17)), o 6 (.mv (.t 18))]) (.seq (.reg [o 19 (.mv (.t 8)), o 20 (.bin .shr (.t 19) (.k (.int .u64 (.ofNat 32)))), o 21 (.conv .u32 (.t 20)), o 7 (.mv (.t 21))]) .ret)))) 22 3 [.t 6, .t 7]
theorem l79 : compFunc Tryd.prog 79 = some L79 := by kernel_rfl
def L80 : XFunc := .mk (.seq (.reg [o 6 (.mv (.k (.int .u32 (.ofNat 0)))), o 7 (.mv (.k (.int .u32 (.ofNat 0))))]) (.seq (.reg [o 8 (.mv (.t 0)), o 9 (.mv (.t 1)), o 10 (.bin .sub (.t 8) (.t 9)), o 11 (.mv (.t 2)), o 12 (.bin .sub (.t 10) (.t 11)), o 6 (.mv (.t 12))]) (.seq (.reg [o 13 (.mv (.t 0)), o 14 (.un .xor (.t 13)), o 15 (.mv (.t 1)), o 16 (.bin .and (.t 14) (.t 15)), o 17 (.mv (.t 0)), o 18 (.mv (.t 1)), o 19 (.bin .xor (.t 17) (.t 18)), o 20 (.un .xor (.t 19)), o 21 (.mv (.t 6)), o 22 (.bin .and (.t 20) (.t 21)), o 23 (.bin .or (.t 16) (.t 22)), o 24 (.bin .shr (.t 23) (.k (.int .u64 (.ofNat 31)))), o 7 (.mv (.t 24))]) .ret))) 25 3 [.t 6, .t 7]
theorem l80 : compFunc Tryd.prog 80 = some L80 := by kernel_rfl
def L81 : XFunc := .mk (.seq (.reg [o 4 (.mv (.k .nils))]) (.seq (.reg [o 12 (.mv (.t 0)), o 13 (.len (.t 12)), o 14 (.mv (.t 1)), o 15 (.len (.t 14)), o 16 (.bin .add (.t 13) (.t 15)), o 17 (.mkslice [.int .u32 (.ofNat 0)] 4 (.t 16) (.t 16)), o 5 (.mv (.t 17))]) (.seq (.seq (.reg [o 18 (.mv (.t 0)), o 19 (.len (.t 18)), o 20 (.mv (.k (.int .i64 (.ofNat 0))))]) (.block 0 (.loop (.seq (.reg [o 21 (.bin .lss (.t 20) (.t 19))]) (.seq (.cond (.t 21) .skip (.exit 0)) (.seq (.block 1 (.seq (.reg [o 22 (.mv (.t 20)), o 23 (.iaddr 1 (.t 18) (.t 20)), o 24 (.load none (.t 23)), o 6 (.mv (.t 22)), o 7 (.mv (.t 24))]) (.seq (.reg [o 8 (.mv (.k (.int .u64 (.ofNat 0))))]) (.seq (.seq (.reg [o 25 (.mv (.t 1)), o 26 (.len (.t 25)), o 27 (.mv (.k (.int .i64 (.ofNat 0))))]) (.block 2 (.loop (.seq (.reg [o 28 (.bin .lss (.t 27) (.t 26))]) (.seq (.cond (.t 28) .skip (.exit 2)) (.seq (.block 3 (.seq (.reg [o 29 (.mv (.t 27)), o 30 (.iaddr 1 (.t 25) (.t 27)), o 31 (.load none (.t 30)), o 9 (.mv (.t 29)), o 10 (.mv (.t 31))]) (.seq (.reg [o 32 (.mv (.t 7)), o 33 (.conv .u64 (.t 32)), o 34 (.mv (.t 10)), o 35 (.conv .u64 (.t 34)), o 36 (.bin .mul (.t 33) (.t 35)), o 37 (.mv (.t 5)), o 38 (.mv (.t 6)), o 39 (.mv (.t 9)), o 40 (.bin .add (.t 38) (.t 39)), o 41 (.iaddr 1 (.t 37) (.t 40)), o 42 (.load none (.t 41)), o 43 (.conv .u64 (.t 42)), o 44 (.bin .add (.t 36) (.t 43)), o 45 (.mv (.t 8)), o 46 (.bin .add (.t 44) (.t 45)), o 11 (.mv (.t 46))]) (.reg [o 47 (.mv (.t 5)), o 48 (.mv (.t 6)), o 49 (.mv (.t 9)), o 50 (.bin .add (.t 48) (.t 49)), o 51 (.mv (.t 11)), o 52 (.conv .u32 (.t 51)), o 53 (.mv (.t 11)), o 54 (.bin .shr (.t 53) (.k (.int .u64 (.ofNat 32)))), o 55 (.iaddr 1 (.t 47) (.t 50)), .mk none (.store 1 (.t 55) (.t 52)) none, o 8 (.mv (.t 54))])))) (.reg [o 56 (.bin .add (.t 27) (.k (.int .i64 (.ofNat 1)))), o 27 (.mv (.t 56))]))))))) (.reg [o 57 (.mv (.t 5)), o 58 (.mv (.t 6)), o 59 (.mv (.t 1)), o 60 (.len (.t 59)), o 61 (.bin .add (.t 58) (.t 60)), o 62 (.mv (.t 8)), o 63 (.conv .u32 (.t 62)), o 64 (.iaddr 1 (.t 57) (.t 61)), .mk none (.store 1 (.t 64) (.t 63)) none]))))) (.reg [o 65 (.bin .add (.t 20) (.k (.int .i64 (.ofNat 1)))), o 20 (.mv (.t 65))]))))))) (.seq (.reg [o 66 (.mv (.t 5)), o 67 (.call (.k (.fn 53 [])) [.t 66]), o 4 (.mv (.t 67))]) .ret)))) 68 2 [.t 4]
theorem l81 : compFunc Tryd.prog 81 = some L81 := by kernel_rfl
def L82 : XFunc := .mk (.seq (.reg [o 4 (.mv (.k (.bool false)))]) (.seq (.reg [o 5 (.mv (.t 0)), o 6 (.mv (.t 1)), o 7 (.nilc (.t 5)), o 8 (.aaddr 256 1 (.t 7) (.t 6)), o 9 (.load none (.t 8)), o 4 (.mv (.t 9))]) .ret)) 10 2 [.t 4]
theorem l82 : compFunc Tryd.prog 82 = some L82 := by kernel_rfl
def F : Nat → Option XFunc
  | 5 => some L5
  | 7 => some L7
  | 8 => some L8
  | 9 => some L9
  | 12 => some L12
  | 14 => some L14
  | 15 => some L15
  | 16 => some L16
  | 17 => some L17
  | 18 => some L18
  | 21 => some L21
  | 22 => some L22
  | 23 => some L23
  | 24 => some L24
  | 25 => some L25
  | 27 => some L27
  | 28 => some L28
  | 29 => some L29
  | 30 => some L30
  | 31 => some L31
  | 32 => some L32
  | 33 => some L33
  | 34 => some L34
  | 35 => some L35
  | 36 => some L36
  | 37 => some L37
  | 38 => some L38
  | 39 => some L39
  | 40 => some L40
  | 41 => some L41
  | 42 => some L42
  | 43 => some L43
  | 44 => some L44
  | 45 => some L45
  | 46 => some L46
  | 47 => some L47
  | 48 => some L48
  | 49 => some L49
  | 50 => some L50
  | 51 => some L51
  | 52 => some L52
  | 53 => some L53
  | 54 => some L54
  | 55 => some L55
  | 56 => some L56
  | 57 => some L57
  | 58 => some L58
  | 59 => some L59
  | 60 => some L60
  | 61 => some L61
  | 62 => some L62
  | 63 => some L63
  | 66 => some L66
  | 67 => some L67
  | 68 => some L68
  | 69 => some L69
  | 77 => some L77
  | 78 => some L78
  | 79 => some L79
  | 80 => some L80
  | 81 => some L81
  | 82 => some L82
  | _ => none
theorem F_ok : ∀ f fn, F f = some fn → compFunc Tryd.prog f = some fn := by
  intro f fn h
  unfold F at h
  split at h
  · cases h; exact l5
  · cases h; exact l7
  · cases h; exact l8
  · cases h; exact l9
  · cases h; exact l12
  · cases h; exact l14
  · cases h; exact l15
  · cases h; exact l16
  · cases h; exact l17
  · cases h; exact l18
  · cases h; exact l21
  · cases h; exact l22
  · cases h; exact l23
  · cases h; exact l24
  · cases h; exact l25
  · cases h; exact l27
  · cases h; exact l28
  · cases h; exact l29
  · cases h; exact l30
  · cases h; exact l31
  · cases h; exact l32
  · cases h; exact l33
  · cases h; exact l34
  · cases h; exact l35
  · cases h; exact l36
  · cases h; exact l37
  · cases h; exact l38
  · cases h; exact l39
  · cases h; exact l40
  · cases h; exact l41
  · cases h; exact l42
  · cases h; exact l43
  · cases h; exact l44
  · cases h; exact l45
  · cases h; exact l46
  · cases h; exact l47
  · cases h; exact l48
  · cases h; exact l49
  · cases h; exact l50
  · cases h; exact l51
  · cases h; exact l52
  · cases h; exact l53
  · cases h; exact l54
  · cases h; exact l55
  · cases h; exact l56
  · cases h; exact l57
  · cases h; exact l58
  · cases h; exact l59
  · cases h; exact l60
  · cases h; exact l61
  · cases h; exact l62
  · cases h; exact l63
  · cases h; exact l66
  · cases h; exact l67
  · cases h; exact l68
  · cases h; exact l69
  · cases h; exact l77
  · cases h; exact l78
  · cases h; exact l79
  · cases h; exact l80
  · cases h; exact l81
  · cases h; exact l82
  · cases h
end Go.Proofs.YtfcgofffalmdfaaDoor.PA
namespace Go.Eng
open Go.Sort
variable {P : Program}
def decPairs : List AV → Option (List (Int × Int))
  | [] => some []
  | .int .i64 a :: .int .i64 b :: r => (decPairs r).map ((a, b) :: ·)
  | _ => none
def encPairs (l : List (Int × Int)) : List AV := (l.map fun p => [AV.int .i64 p.1, AV.int .i64 p.2]).flatten
theorem decPairs_enc : ∀ l, decPairs (encPairs l) = some l
  | [] => rfl
  | p :: l => by
    have := decPairs_enc l
    simp only [encPairs, List.map_cons, List.flatten_cons, List.cons_append, List.nil_append, decPairs] at this ⊢
    rw [this]; rfl
theorem encPairs_dec : ∀ {c : List AV} {l : List (Int × Int)}, decPairs c = some l → c = encPairs l
  | [], l, h => by simp [decPairs] at h; subst h; rfl
  | [_], l, h => by rename_i x; cases x <;> simp [decPairs] at h
  | x :: y :: r, l, h => by
    cases x <;> try (simp [decPairs] at h; done)
    rename_i k a
    cases k <;> try (simp [decPairs] at h; done)
    cases y <;> try (simp [decPairs] at h; done)
    rename_i k b
    cases k <;> try (simp [decPairs] at h; done)
    simp only [decPairs] at h
    obtain ⟨m, hm, rfl⟩ := Option.map_eq_some_iff.1 h
    rw [encPairs_dec hm]
    simp [encPairs]
theorem encPairs_length (l : List (Int × Int)) : (encPairs l).length = l.length * 2 := by
  induction l with
  | nil => rfl
  | cons p l ih => simp only [encPairs, List.map_cons, List.flatten_cons, List.length_append, List.length_cons, List.length_nil] at ih ⊢; omega
def sortP (l : List (Int × Int)) : List (Int × Int) := l.mergeSort fun x y => decide (x.1 ≤ y.1)
def okP (p : Int × Int) : Bool := decide (0 ≤ p.1) && decide (p.1 < 4611686018427387904)
def apartP : List (Int × Int) → Bool
  | [] => true
  | p :: l => l.all (fun q => q.1 != p.1) && apartP l
def sortK (S C : Nat) : CF := fun f args H =>
  if f = S then
    match args with
    | [.sl i o l c, .fn g []] =>
      if g = C ∧ 1 ≤ l ∧ l < 4611686018427387904 then
        match H.get i with
        | some (.cells cs opn) =>
          match decPairs ((cs.drop o).take (l * 2)) with
          | some ps => if ps.length = l ∧ ps.all okP = true ∧ apartP ps = true then some (.tup [], H.set i (some (.cells (overA cs o (encPairs (sortP ps))) opn))) else none
          | none => none
        | _ => none
      else none
    | _ => none
  else none
abbrev BP := {p : Int × Int // okP p = true}
instance : Inhabited BP := ⟨⟨(0, 0), rfl⟩⟩
def encBP (x : BP) : List Value := [.int .i64 x.1.1, .int .i64 x.1.2]
def ltBP (x y : BP) : Bool := decide (x.1.1 < y.1.1)
def cmpBP (x y : BP) : Int := x.1.1 - y.1.1
def SortC (P : Program) (S C : Nat) : Prop := ∀ (blk off cap : Nat) (d : Array BP) (w : World), HoldsK encBP 2 w blk off d → blk < w.heap.size → d.size < 4611686018427387904 →
  Calls P S #[.slice (some ⟨blk, off, none⟩) d.size cap, .func (.func C) #[] #[]] w fun e w' => e = .returned (.tuple #[]) ∧ ∃ d' n os, PermIn 0 d.size d d' ∧ SortedIn ltBP 0 d.size d' ∧ w' = Go.Proofs.sortWorldK encBP 2 w blk off n d' os
theorem Step.grow {E : Env} {H : AHeap} {w : World} (hR : Rel E H w) (os : Array Obj) : Step E H w E H (Go.Sort.grow w os) := by
  have hg : ∀ b, b < w.heap.size → (Go.Sort.grow w os).heap[b]? = w.heap[b]? := fun b hb => by
    show (w.heap ++ os)[b]? = _
    rw [Array.getElem?_append_left hb]
  have hs : w.heap.size ≤ (Go.Sort.grow w os).heap.size := by
    show _ ≤ (w.heap ++ os).size
    simp
  have hext : Env.Ext E E w (Go.Sort.grow w os) := ⟨fun _ _ q => q, fun _ q => q, fun b hb => hg b (hR.imm b hb), fun _ _ _ q => q⟩
  refine ⟨hext, ⟨fun i L h => ?_, fun b h => ?_, fun i o h => ?_, hR.inj⟩, ⟨rfl, rfl, rfl, hs, fun b hb _ => hg b hb⟩, fun i o L h1 h2 => .inr ⟨i, o, L, h1, h2, rfl⟩, Nat.le_refl _, fun _ _ h => .inl h, fun _ h => .inl h⟩
  · have := hR.dom i L h; exact ⟨this.1, by omega⟩
  · have := hR.imm b h; omega
  · obtain ⟨L, q1, q2, q3⟩ := hR.obj i o h
    exact ⟨L, q1, ObjR.mono hext (hg _ (hR.dom i L q1).2) q2, q3⟩
theorem apartP_inj : ∀ {l : List (Int × Int)}, apartP l = true → ∀ x ∈ l, ∀ y ∈ l, x.1 = y.1 → x = y
  | [], _, x, hx, _, _, _ => by cases hx
  | p :: l, h, x, hx, y, hy, e => by
    simp only [apartP, Bool.and_eq_true, List.all_eq_true, bne_iff_ne] at h
    rcases List.mem_cons.1 hx with q1 | q1
    · rcases List.mem_cons.1 hy with q2 | q2
      · rw [q1, q2]
      · rw [q1] at e; exact absurd e.symm (h.1 y q2)
    · rcases List.mem_cons.1 hy with q2 | q2
      · rw [q2] at e; exact absurd e (h.1 x q1)
      · exact apartP_inj h.2 x q1 y q2 e
theorem sortP_perm (l : List (Int × Int)) : (sortP l).Perm l := List.mergeSort_perm _ _
theorem sortP_pw (l : List (Int × Int)) : (sortP l).Pairwise fun x y => x.1 ≤ y.1 := by
  refine (List.pairwise_mergeSort (le := fun x y : Int × Int => decide (x.1 ≤ y.1)) (fun a b c h1 h2 => ?_) (fun a b => ?_) l).imp (fun h => by simpa using h)
  · simp only [decide_eq_true_eq] at h1 h2 ⊢; omega
  · simp only [Bool.or_eq_true, decide_eq_true_eq]; omega
theorem sortP_unique {l m : List (Int × Int)} (ha : apartP l = true) (hp : m.Perm l) (hs : m.Pairwise fun x y => x.1 ≤ y.1) : m = sortP l :=
  List.Perm.eq_of_pairwise (le := fun x y : Int × Int => x.1 ≤ y.1) (fun a b h1 h2 h3 h4 => apartP_inj ha a (hp.subset h1) b ((sortP_perm l).subset h2) (by omega)) hs (sortP_pw l) (hp.trans (sortP_perm l).symm)
def vals (l : List (Int × Int)) : List Value := (l.map fun p => [Value.int .i64 p.1, Value.int .i64 p.2]).flatten
theorem vals_length (l : List (Int × Int)) : (vals l).length = l.length * 2 := by
  induction l with
  | nil => rfl
  | cons p l ih => simp only [vals, List.map_cons, List.flatten_cons, List.length_append, List.length_cons, List.length_nil] at ih ⊢; omega
theorem vals_get : ∀ (l : List (Int × Int)) (j : Nat), (vals l)[j]? = (l[j / 2]?).map fun p => if j % 2 = 0 then Value.int .i64 p.1 else Value.int .i64 p.2
  | [], j => by simp [vals]
  | p :: l, 0 => by simp [vals]
  | p :: l, 1 => by simp [vals]
  | p :: l, j + 2 => by
    have := vals_get l j
    simp only [vals, List.map_cons, List.flatten_cons, List.cons_append, List.nil_append, List.getElem?_cons_succ] at this ⊢
    rw [this, show (j + 2) / 2 = j / 2 + 1 by omega, show (j + 2) % 2 = j % 2 by omega, List.getElem?_cons_succ]
theorem encPairs_rel {E : Env} {w : World} : ∀ (l : List (Int × Int)), AVRelL E w (encPairs l) (vals l)
  | [] => by simp [encPairs, vals, AVRelL]
  | p :: l => by
    have := encPairs_rel (E := E) (w := w) l
    simp only [encPairs, vals, List.map_cons, List.flatten_cons, List.cons_append, List.nil_append, AVRelL, AVRel] at this ⊢
    exact ⟨_, _, rfl, rfl, _, _, rfl, rfl, this⟩
theorem rel_vals {E : Env} {w : World} : ∀ {l : List (Int × Int)} {us : List Value}, AVRelL E w (encPairs l) us → us = vals l
  | [], us, h => by simpa [encPairs, vals, AVRelL] using h
  | p :: l, us, h => by
    simp only [encPairs, vals, List.map_cons, List.flatten_cons, List.cons_append, List.nil_append, AVRelL, AVRel] at h ⊢
    obtain ⟨u, us1, rfl, rfl, v, us2, rfl, rfl, h⟩ := h
    rw [rel_vals (l := l) h]
    rfl
theorem flat_vals (d : Array BP) : (flatK encBP 2 d).toList = vals (d.toList.map (·.1)) := by
  apply List.ext_getElem?
  intro j
  rw [vals_get]
  by_cases hj : j < d.size * 2
  · have hd : j / 2 < d.size := by omega
    have e1 : (flatK encBP 2 d).toList[j]? = some (flatK encBP 2 d)[j]! := by
      rw [Array.getElem?_toList, getElem!_pos _ j (by simpa using hj), Array.getElem?_eq_getElem (by simpa using hj)]
    rw [e1, get_flatK _ _ _ _ hj]
    simp only [List.getElem?_map, Array.getElem?_toList, Array.getElem?_eq_getElem hd, Option.map_some]
    rw [getElem!_pos d _ hd]
    congr 1
    rcases Nat.mod_two_eq_zero_or_one j with h | h <;> rw [h] <;> simp [encBP]
  · rw [List.getElem?_eq_none (by simp; omega), List.getElem?_eq_none (by simp; omega)]
    rfl
theorem attach_ok : ∀ (l : List (Int × Int)), l.all okP = true → ∃ d : List BP, d.map (·.1) = l
  | [], _ => ⟨[], rfl⟩
  | p :: l, h => by
    simp only [List.all_cons, Bool.and_eq_true] at h
    obtain ⟨d, rfl⟩ := attach_ok l h.2
    exact ⟨⟨p, h.1⟩ :: d, rfl⟩
theorem sortK_ok {S C : Nat} (hS : ∃ fn, P.funcs[S]? = some fn ∧ fn.body.isNone = false ∧ (fn.name == "runtime.NumGoroutine") = false) (hC : SortC P S C) : CFok P (sortK S C) := by
  intro f args H v H' h
  unfold sortK at h
  split at h
  · rename_i hf
    subst hf
    split at h
    · rename_i i o l c g
      split at h
      · rename_i hg
        obtain ⟨rfl, hl1, hl2⟩ := hg
        split at h
        · rename_i cs opn hget
          split at h
          · rename_i ps hps
            split at h
            · rename_i hall
              obtain ⟨hlen, hok, hap⟩ := hall
              cases h
              refine ⟨hS, fun E w us hR hus => ?_⟩
              simp only [AVRelL] at hus
              obtain ⟨u1, us1, rfl, hu1, u2, us2, rfl, hu2, rfl⟩ := hus
              simp only [AVRel] at hu2
              obtain ⟨cap, rfl, hcap⟩ := hu2
              simp only [AVRelL] at hcap
              have hcape : cap = #[] := by simpa using hcap
              subst hcape
              obtain ⟨L, ad, c', Ca, t, fz, us, hρ, rfl, hsl, hlc, hblk, hr, hcell, hsp, hfz, hft⟩ := row_sound hR hu1 hget
              obtain rfl := hsl.addr hlc (by omega)
              have hcs := encPairs_dec hps
              obtain ⟨dl, hdl⟩ := attach_ok ps hok
              have hdsz : dl.toArray.size = l := by
                have : dl.length = ps.length := by rw [← hdl]; simp
                simp [this, hlen]
              have hul := hr.length
              have hol : o + l * 2 ≤ cs.length := by
                have := encPairs_length ps
                rw [← hcs] at this
                simp only [List.length_take, List.length_drop] at this
                omega
              have hrow : (us.drop o).take (l * 2) = vals ps := by
                have := (hr.drop o).take (l * 2)
                rw [hcs] at this
                exact rel_vals this
              have hspan := span_ge L cs.length opn
              have hlt := (hR.dom i L hρ).2
              have hH : HoldsK encBP 2 w L.b (L.s + o) dl.toArray := by
                intro j hj
                rw [size_flatK, hdsz] at hj
                have e1 : (flatK encBP 2 dl.toArray)[j]? = (us.drop o)[j]? := by
                  rw [← Array.getElem?_toList, flat_vals, List.toList_toArray, hdl, ← hrow, List.getElem?_take, if_pos hj]
                have hj' : j < (flatK encBP 2 dl.toArray).size := by rw [size_flatK, hdsz]; exact hj
                rw [Array.getElem?_eq_getElem hj', List.getElem?_drop] at e1
                have e2 := hcell _ _ e1.symm
                refine ⟨?_, ?_⟩
                · simp only [World.cell?, hblk, Option.isSome_none, Bool.false_eq_true, if_false, id]
                  rw [show L.s + o + j = L.s + (o + j) by omega, e2, getElem!_pos _ j hj']
                · have := hfz (o + j) (by omega)
                  simp only [World.frozen?, hblk]
                  rw [show L.s + o + j = L.s + (o + j) by omega]
                  simp only [Bool.and_eq_false_iff, decide_eq_false_iff_not]
                  by_cases h1 : fz.1 ≤ L.s + (o + j)
                  · exact .inr (fun h2 => this ⟨h1, h2⟩)
                  · exact .inl h1
              have hcall := hC L.b (L.s + o) c' dl.toArray w hH hlt (by rw [hdsz]; exact hl2)
              rw [hdsz] at hcall
              refine Calls.mono hcall ?_
              rintro e w' ⟨rfl, d', n, os, hp, hso, rfl⟩
              have hd'sz : d'.size = l := hp.1.trans hdsz
              have hperm : (d'.toList.map (·.1)).Perm ps := by
                have := hp.2.2
                rw [← hdl]
                have e1 : d'.extract 0 l = d' := by rw [← hd'sz]; exact Array.extract_size
                have e2 : dl.toArray.extract 0 l = dl.toArray := by rw [← hdsz]; exact Array.extract_size
                rw [e1, e2] at this
                exact this.map _
              have hpw : (d'.toList.map (·.1)).Pairwise fun x y => x.1 ≤ y.1 := by
                rw [List.pairwise_iff_getElem]
                intro a b ha hb hab
                simp only [List.length_map, Array.length_toList] at ha hb
                have := hso a b (Nat.zero_le _) hab (by omega)
                rw [getElem!_pos d' b hb, getElem!_pos d' a ha] at this
                simp only [ltBP, decide_eq_false_iff_not] at this
                simp only [List.getElem_map, Array.getElem_toList]
                omega
              have hsort := sortP_unique hap hperm hpw
              have hmany : setMany (flatK encBP 2 dl.toArray) 0 (vals (sortP ps)) = flatK encBP 2 d' := by
                rw [← hsort, ← flat_vals]
                refine ext_get! (by rw [size_setMany, size_flatK, size_flatK, hdsz, hd'sz]) (fun t ht => ?_)
                rw [size_setMany] at ht
                rw [get_setMany _ _ _ t ht, if_pos ⟨Nat.zero_le _, by rw [Array.length_toList, size_flatK, hd'sz]; rw [size_flatK, hdsz] at ht; omega⟩, Nat.sub_zero]
                have ht2 : t < (flatK encBP 2 d').size := by rw [size_flatK, hd'sz]; rw [size_flatK, hdsz] at ht; exact ht
                rw [List.getElem!_eq_getElem?_getD, Array.getElem?_toList, Array.getElem?_eq_getElem ht2, getElem!_pos _ t ht2]
                rfl
              have hset : (Sort.ahead w n).setCells L.b (L.s + o) (vals (sortP ps)) = putRowK encBP 2 (Sort.ahead w n) L.b (L.s + o) d' := by
                unfold putRowK
                have hH2 : Holds id (Sort.ahead w n) L.b (L.s + o) (flatK encBP 2 dl.toArray) := hH
                conv => lhs; rw [← putRow_self id (Sort.ahead w n) L.b (L.s + o) (flatK encBP 2 dl.toArray) hH2]
                have := setCells_putRow (Sort.ahead w n) L.b (L.s + o) (vals (sortP ps)) 0 (flatK encBP 2 dl.toArray) (by rw [vals_length, (sortP_perm ps).length_eq, hlen, size_flatK, hdsz]; omega)
                rw [Nat.add_zero, hmany] at this
                exact this
              have s1 : Step E H w E H (Sort.ahead w n) := Step.of_heap hR rfl rfl rfl rfl
              have hencl : (encPairs (sortP ps)).length = l * 2 := by rw [encPairs_length, (sortP_perm ps).length_eq, hlen]
              have s2 := Step.write (w := Sort.ahead w n) s1.rel (o := o) (new := encPairs (sortP ps)) (vs := vals (sortP ps)) hget hρ hblk (AVRelL.mono s1.ext _ _ hr) hcell hsp hfz hft (encPairs_rel _) (by rw [hencl]; omega) (by omega) rfl
              rw [hset] at s2
              have s3 := Step.grow s2.rel os
              refine ⟨_, E, rfl, (s1.trans s2).trans s3, ?_⟩
              simp only [AVRel, AVRelL]
              exact ⟨_, rfl, rfl⟩
            · cases h
          · cases h
        · cases h
      · cases h
    · cases h
  · cases h
end Go.Eng
namespace Go.Proofs.YtfcgofffalmdfaaDoor.PA
def scanL : List UInt8 → Nat → List Nat → List (Nat × Nat) → Nat → Option (List Nat × List (Nat × Nat) × Nat)
  | [], _, op, out, d => some (op, out, d)
  | b :: r, i, op, out, d =>
    if b = 40 then scanL r (i + 1) (op ++ [i]) out (max d (op.length + 1))
    else if b = 41 then match op.getLast? with
      | none => none
      | some a => scanL r (i + 1) op.dropLast (out ++ [(a, i)]) d
    else if b = 46 then scanL r (i + 1) op out d
    else none
def castP (p : Nat × Nat) : Int × Int := (p.1, p.2)
end Go.Proofs.YtfcgofffalmdfaaDoor.PA
namespace Go.Proofs.YtfcgofffalmdfaaDoor.PA
open Go Go.Eng
def natA (n : Nat) : AV := .int .i64 (n : Int)
def pairA (l : List (Nat × Nat)) : List AV := encPairs (l.map castP)
structure LI (H0 : AHeap) (b r : List UInt8) (i : Nat) (op : List Nat) (out : List (Nat × Nat)) (d : Nat) (s : St) : Prop where
  rest : b.drop i = r
  le : i + r.length = b.length
  opl : op.length ≤ i
  outl : out.length ≤ i
  t0 : s.tm.get 0 = some (.str b)
  t10 : s.tm.get 10 = some (natA b.length)
  t11 : s.tm.get 11 = some (natA i)
  t7 : s.tm.get 7 = some (natA d)
  rows : ∃ v5 v6, s.tm.get 5 = some v5 ∧ s.tm.get 6 = some v6 ∧ Row 2 s.H v5 out.length (pairA out) ∧ Row 1 s.H v6 op.length (op.map natA) ∧
    (∀ j, v5.own = some j → v6.own ≠ some j ∧ H0.next ≤ j) ∧ (∀ j, v6.own = some j → H0.next ≤ j)
  nx : H0.next ≤ s.H.next
  fr : ∀ j, j < H0.next → s.H.get j = H0.get j
def body21 : XCode := match L21.code with
  | .seq _ (.seq _ (.seq _ (.seq _ (.seq (.seq _ (.block _ (.loop c))) _)))) => c
  | _ => .skip
theorem body21_ok {cf : CF} {fuel : Nat} {H0 : AHeap} {b : List UInt8} (hb : b.length ≤ 1000) (r : List UInt8) (i : Nat) (op : List Nat) (out : List (Nat × Nat)) (d : Nat) (s : St) (h : LI H0 b r i op out d s) :
    W cf fuel body21 s fun e s' => (e = .normal → ∃ x r' i' op' out' d', r = x :: r' ∧ scanL r i op out d = scanL r' i' op' out' d' ∧ LI H0 b r' i' op' out' d' s') ∧
      (e ≠ .normal → (e = .exit 0 ∧ r = [] ∧ LI H0 b r i op out d s') ∨ (e = .ret ∧ scanL r i op out d = none ∧ s'.tm.get 2 = some .nils ∧ s'.tm.get 3 = some (natA 0) ∧ s'.tm.get 4 = some (.bool false) ∧ H0.next ≤ s'.H.next ∧ ∀ j, j < H0.next → s'.H.get j = H0.get j)) := by
  obtain ⟨hrest, hle, hopl, houtl, t0, t10, t11, t7, ⟨v5, v6, t5, t6, R5, R6, hd5, hd6⟩, nx, fr⟩ := h
  obtain ⟨tm, H⟩ := s
  simp only at t0 t10 t11 t7 t5 t6 R5 R6 nx fr
  unfold body21 L21
  dsimp only
  refine W.seqN ?_
  refine W.rg 1 rfl (fun H1 hg1 hn1 => ?_)
  refine WO.op (by simp only [xval, xop, AR.ofV, St.ev, Tr.get_set, get_bump, next_bump, next_set, next_add, AHeap.get_set, reduceIte, Nat.reduceEqDiff, evL, evParts, fillA, AV.cells, natA, binA, intCmpA, unA, minA, maxA, t11, t10]; rfl) ?_
  refine WO.nil ⟨rfl, ?_⟩
  cases r with
  | nil =>
    have hil : decide ((i : Int) < (b.length : Int)) = false := by simp only [List.length_nil] at hle; simp; omega
    refine W.seq (W.condF (by simp only [St.ev, Tr.get_set, get_bump, next_bump, next_set, next_add, AHeap.get_set, reduceIte, Nat.reduceEqDiff, hil]) ?_)
    refine W.exit ⟨fun q => (by cases q), fun _ => ⟨fun q => (by cases q), fun _ => .inl ⟨rfl, rfl, ?_⟩⟩⟩
    refine ⟨hrest, hle, hopl, houtl, ?_, ?_, ?_, ?_, ⟨v5, v6, ?_, ?_, R5.frame (by show H.next ≤ H1.next; omega) (fun j _ => hg1 j), R6.frame (by show H.next ≤ H1.next; omega) (fun j _ => hg1 j), hd5, hd6⟩, by simp only; omega, fun j hj => (hg1 j).trans (fr j hj)⟩
    all_goals (simp only [Tr.get_set, get_bump, next_bump, next_set, next_add, AHeap.get_set, reduceIte, Nat.reduceEqDiff]; assumption)
  | cons x r =>
    simp only [List.length_cons] at hle
    have hil : decide ((i : Int) < (b.length : Int)) = true := by simp; omega
    have hi : i < b.length := by omega
    have hbx : b[i]? = some x := by
      have : (b.drop i)[0]? = some x := by rw [hrest]; rfl
      rwa [List.getElem?_drop, Nat.add_zero] at this
    have hrest' : b.drop (i + 1) = r := by
      have : (b.drop i).drop 1 = r := by rw [hrest]; rfl
      rwa [List.drop_drop] at this
    have hw : wrapA .i64 ((i : Int) + Int.ofNat 1) = ((i + 1 : Nat) : Int) := by
      show wrapA .i64 ((i : Int) + 1) = _
      rw [wrapI _ (by omega) (by omega)]; omega
    refine W.seqN (W.condT (by simp only [St.ev, Tr.get_set, get_bump, next_bump, next_set, next_add, AHeap.get_set, reduceIte, Nat.reduceEqDiff, hil]) (W.skip ⟨rfl, ?_⟩))
    refine W.seq (W.block (W.seqN ?_))
    refine W.rg 2 rfl (fun H2 hg2 hn2 => ?_)
    refine WO.op (by simp only [xval, xop, AR.ofV, St.ev, Tr.get_set, get_bump, next_bump, next_set, next_add, AHeap.get_set, reduceIte, Nat.reduceEqDiff, evL, evParts, fillA, AV.cells, natA, binA, intCmpA, unA, minA, maxA, t11, t10]; rfl) ?_
    refine WO.op (by simp only [xval, xop, AR.ofV, St.ev, Tr.get_set, get_bump, next_bump, next_set, next_add, AHeap.get_set, reduceIte, Nat.reduceEqDiff, evL, evParts, fillA, AV.cells, natA, binA, intCmpA, unA, minA, maxA, t11, t10]; rfl) ?_
    refine WO.nil ⟨rfl, W.seqN ?_⟩
    refine W.rg 3 rfl (fun H3 hg3 hn3 => ?_)
    refine WO.op (by simp only [xval, xop, AR.ofV, St.ev, Tr.get_set, get_bump, next_bump, next_set, next_add, AHeap.get_set, reduceIte, Nat.reduceEqDiff, evL, evParts, fillA, AV.cells, natA, binA, intCmpA, unA, minA, maxA, t11, t10, t0, idxOk_lt hi, Int.toNat_natCast, hbx, Option.map_some, if_true]; rfl) ?_
    refine WO.op (by simp only [xval, xop, AR.ofV, St.ev, Tr.get_set, get_bump, next_bump, next_set, next_add, AHeap.get_set, reduceIte, Nat.reduceEqDiff, evL, evParts, fillA, AV.cells, natA, binA, intCmpA, unA, minA, maxA, t11, t10, t0, idxOk_lt hi, Int.toNat_natCast, hbx, Option.map_some, if_true]; rfl) ?_
    refine WO.op (by simp only [xval, xop, AR.ofV, St.ev, Tr.get_set, get_bump, next_bump, next_set, next_add, AHeap.get_set, reduceIte, Nat.reduceEqDiff, evL, evParts, fillA, AV.cells, natA, binA, intCmpA, unA, minA, maxA, t11, t10, t0, idxOk_lt hi, Int.toNat_natCast, hbx, Option.map_some, if_true]; rfl) ?_
    refine WO.nil ⟨rfl, W.block (W.seqN ?_)⟩
    refine W.rg 2 rfl (fun H4 hg4 hn4 => ?_)
    refine WO.op (by simp only [xval, xop, AR.ofV, St.ev, Tr.get_set, get_bump, next_bump, next_set, next_add, AHeap.get_set, reduceIte, Nat.reduceEqDiff, evL, evParts, fillA, AV.cells, natA, binA, intCmpA, unA, minA, maxA]; rfl) ?_
    refine WO.op (by simp only [xval, xop, AR.ofV, St.ev, Tr.get_set, get_bump, next_bump, next_set, next_add, AHeap.get_set, reduceIte, Nat.reduceEqDiff, evL, evParts, fillA, AV.cells, natA, binA, intCmpA, unA, minA, maxA]; rfl) ?_
    refine WO.nil ⟨rfl, ?_⟩
    by_cases h40 : x = 40
    · subst h40
      refine W.condT (by simp only [St.ev, Tr.get_set, get_bump, next_bump, next_set, next_add, AHeap.get_set, reduceIte, Nat.reduceEqDiff]; rfl) (W.seqN ?_)
      -- open = append(open, i)
      refine W.rg 5 rfl (fun H5 hg5 hn5 => ?_)
      refine WO.op (by simp only [xval, xop, AR.ofV, St.ev, Tr.get_set, get_bump, next_bump, next_set, next_add, AHeap.get_set, reduceIte, Nat.reduceEqDiff, evL, evParts, fillA, AV.cells, natA, binA, intCmpA, unA, minA, maxA, t6]; rfl) ?_
      refine WO.op (by simp only [xval, xop, AR.ofV, St.ev, Tr.get_set, get_bump, next_bump, next_set, next_add, AHeap.get_set, reduceIte, Nat.reduceEqDiff, evL, evParts, fillA, AV.cells, natA, binA, intCmpA, unA, minA, maxA, t6]; rfl) ?_
      refine WO.append1 (n := H4.next + 1 + 1) (l := op.length) (cs := op.map natA) (new := [natA i]) (v := v6) (R6.frame (by omega) (fun j _ => by rw [hg5, hg4, hg3, hg2, hg1])) (by simp only [St.ev, Tr.get_set, get_bump, next_bump, next_set, next_add, AHeap.get_set, reduceIte, Nat.reduceEqDiff, t6]) (by simp only [xval, xop, AR.ofV, St.ev, Tr.get_set, get_bump, next_bump, next_set, next_add, AHeap.get_set, reduceIte, Nat.reduceEqDiff, evL, evParts, fillA, AV.cells, natA, binA, intCmpA, unA, minA, maxA]; rfl) (by omega) (by omega) (by omega) rfl rfl (by omega) (fun q => by have := R6.own_lt q; omega) (fun v6' H6 R6' hn6 hg6 ho6 => ?_)
      refine WO.op (by simp only [xval, xop, AR.ofV, St.ev, Tr.get_set, get_bump, next_bump, next_set, next_add, AHeap.get_set, reduceIte, Nat.reduceEqDiff, evL, evParts, fillA, AV.cells, natA, binA, intCmpA, unA, minA, maxA]; rfl) ?_
      have hmax : (if ((op.length + 1 : Nat) : Int) > (d : Int) then ((op.length + 1 : Nat) : Int) else (d : Int)) = ((max d (op.length + 1) : Nat) : Int) := by split <;> omega
      refine WO.nil ⟨rfl, ?_⟩
      refine W.rg 5 rfl (fun H7 hg7 hn7 => ?_)
      refine WO.op (by simp only [xval, xop, AR.ofV, St.ev, Tr.get_set, get_bump, next_bump, next_set, next_add, AHeap.get_set, reduceIte, Nat.reduceEqDiff, evL, evParts, fillA, AV.cells, natA, binA, intCmpA, unA, minA, maxA, t7]; rfl) ?_
      refine WO.op (by simp only [xval, xop, AR.ofV, St.ev, Tr.get_set, get_bump, next_bump, next_set, next_add, AHeap.get_set, reduceIte, Nat.reduceEqDiff, evL, evParts, fillA, AV.cells, natA, binA, intCmpA, unA, minA, maxA, t7]; rfl) ?_
      refine WO.op (op_len (R6'.frame (by omega) (fun j _ => hg7 j)) (by simp only [St.ev, Tr.get_set, get_bump, next_bump, next_set, next_add, AHeap.get_set, reduceIte, Nat.reduceEqDiff])) ?_
      refine WO.op (by simp only [xval, xop, AR.ofV, St.ev, Tr.get_set, get_bump, next_bump, next_set, next_add, AHeap.get_set, reduceIte, Nat.reduceEqDiff, evL, evParts, fillA, AV.cells, natA, binA, intCmpA, unA, minA, maxA, List.foldlM, Option.bind_some, hmax]; rfl) ?_
      refine WO.op (by simp only [xval, xop, AR.ofV, St.ev, Tr.get_set, get_bump, next_bump, next_set, next_add, AHeap.get_set, reduceIte, Nat.reduceEqDiff, evL, evParts, fillA, AV.cells, natA, binA, intCmpA, unA, minA, maxA]; rfl) ?_
      refine WO.nil (bN (bN (pN ?_)))
      refine W.rg 2 rfl (fun H9 hg9 hn9 => ?_)
      refine WO.op (by simp only [xval, xop, AR.ofV, St.ev, Tr.get_set, get_bump, next_bump, next_set, next_add, AHeap.get_set, reduceIte, Nat.reduceEqDiff, evL, evParts, fillA, AV.cells, natA, binA, intCmpA, unA, minA, maxA, t11, hw]; rfl) ?_
      refine WO.op (by simp only [xval, xop, AR.ofV, St.ev, Tr.get_set, get_bump, next_bump, next_set, next_add, AHeap.get_set, reduceIte, Nat.reduceEqDiff, evL, evParts, fillA, AV.cells, natA, binA, intCmpA, unA, minA, maxA, t11, hw]; rfl) ?_
      refine WO.nil (pN ⟨40, r, i + 1, op ++ [i], out, max d (op.length + 1), rfl, rfl, ?_⟩)
      have e6 : (op ++ [i]).map natA = op.map natA ++ [natA i] := by simp
      have R5' : Row 2 H9 v5 out.length (pairA out) := R5.frame (by omega) (fun j hj => by rw [hg9, hg7, hg6 j (by have := R5.own_lt hj; omega) (by have := R5.own_lt hj; omega) (hd5 j hj).1, hg5, hg4, hg3, hg2, hg1])
      refine ⟨hrest', by omega, by simp; omega, by omega, ?_, ?_, ?_, ?_, ⟨v5, v6', ?_, ?_, R5', by rw [e6, List.length_append]; exact R6'.frame (by show H6.next ≤ H9.next; omega) (fun j _ => by show H9.get j = _; rw [hg9, hg7]), fun j hj => ⟨fun q => ?_, (hd5 j hj).2⟩, fun j hj => ?_⟩, by show H0.next ≤ H9.next; omega, fun j hj => ?_⟩
      · simp only [Tr.get_set, get_bump, next_bump, next_set, next_add, AHeap.get_set, reduceIte, Nat.reduceEqDiff]; exact t0
      · simp only [Tr.get_set, get_bump, next_bump, next_set, next_add, AHeap.get_set, reduceIte, Nat.reduceEqDiff]; exact t10
      · simp only [Tr.get_set, get_bump, next_bump, next_set, next_add, AHeap.get_set, reduceIte, Nat.reduceEqDiff]; rfl
      · simp only [Tr.get_set, get_bump, next_bump, next_set, next_add, AHeap.get_set, reduceIte, Nat.reduceEqDiff, hmax]; rfl
      · simp only [Tr.get_set, get_bump, next_bump, next_set, next_add, AHeap.get_set, reduceIte, Nat.reduceEqDiff]; exact t5
      · simp only [Tr.get_set, get_bump, next_bump, next_set, next_add, AHeap.get_set, reduceIte, Nat.reduceEqDiff]
      · rcases ho6 j q with q1 | q1
        · exact (hd5 j hj).1 q1
        · have := R5.own_lt hj; omega
      · rcases ho6 j hj with q1 | q1
        · exact hd6 j q1
        · omega
      · show H9.get j = _
        rw [hg9, hg7, hg6 j (by omega) (by omega) (fun q => by have := hd6 j q; omega), hg5, hg4, hg3, hg2, hg1, fr j hj]
    · have hx40 : ((x.toNat : Int) == Int.ofNat 40) = false := by
        rw [Int.ofNat_eq_natCast, beq_eq_false_iff_ne]
        intro q
        exact h40 (UInt8.toNat_inj.1 (by show x.toNat = 40; omega))
      refine W.condF (by simp only [St.ev, Tr.get_set, get_bump, next_bump, next_set, next_add, AHeap.get_set, reduceIte, Nat.reduceEqDiff, hx40]) (W.seqN ?_)
      refine W.rg 2 rfl (fun HA hgA hnA => ?_)
      refine WO.op (by simp only [xval, xop, AR.ofV, St.ev, Tr.get_set, get_bump, next_bump, next_set, next_add, AHeap.get_set, reduceIte, Nat.reduceEqDiff, evL, evParts, fillA, AV.cells, natA, binA, intCmpA, unA, minA, maxA]; rfl) ?_
      refine WO.op (by simp only [xval, xop, AR.ofV, St.ev, Tr.get_set, get_bump, next_bump, next_set, next_add, AHeap.get_set, reduceIte, Nat.reduceEqDiff, evL, evParts, fillA, AV.cells, natA, binA, intCmpA, unA, minA, maxA]; rfl) ?_
      refine WO.nil ⟨rfl, ?_⟩
      by_cases h41 : x = 41
      · subst h41
        refine W.condT (by simp only [St.ev, Tr.get_set, get_bump, next_bump, next_set, next_add, AHeap.get_set, reduceIte, Nat.reduceEqDiff]; rfl) (W.seq (W.seqN ?_))
        refine W.rg 3 rfl (fun HB hgB hnB => ?_)
        refine WO.op (by simp only [xval, xop, AR.ofV, St.ev, Tr.get_set, get_bump, next_bump, next_set, next_add, AHeap.get_set, reduceIte, Nat.reduceEqDiff, evL, evParts, fillA, AV.cells, natA, binA, intCmpA, unA, minA, maxA, t6]; rfl) ?_
        refine WO.op (op_len (R6.frame (by omega) (fun j _ => by rw [hgB, hgA, hg4, hg3, hg2, hg1])) (by simp only [St.ev, Tr.get_set, get_bump, next_bump, next_set, next_add, AHeap.get_set, reduceIte, Nat.reduceEqDiff, t6])) ?_
        refine WO.op (by simp only [xval, xop, AR.ofV, St.ev, Tr.get_set, get_bump, next_bump, next_set, next_add, AHeap.get_set, reduceIte, Nat.reduceEqDiff, evL, evParts, fillA, AV.cells, natA, binA, intCmpA, unA, minA, maxA]; rfl) ?_
        refine WO.nil ⟨rfl, ?_⟩
        by_cases hop0 : op.length = 0
        · have hz : ((op.length : Int) == Int.ofNat 0) = true := by rw [hop0]; rfl
          refine W.condT (by simp only [St.ev, Tr.get_set, get_bump, next_bump, next_set, next_add, AHeap.get_set, reduceIte, Nat.reduceEqDiff, hz]) (W.seqN ?_)
          refine W.rg 3 rfl (fun HC hgC hnC => ?_)
          refine WO.op (by simp only [xval, xop, AR.ofV, St.ev, Tr.get_set, get_bump, next_bump, next_set, next_add, AHeap.get_set, reduceIte, Nat.reduceEqDiff, evL, evParts, fillA, AV.cells, natA, binA, intCmpA, unA, minA, maxA]; rfl) ?_
          refine WO.op (by simp only [xval, xop, AR.ofV, St.ev, Tr.get_set, get_bump, next_bump, next_set, next_add, AHeap.get_set, reduceIte, Nat.reduceEqDiff, evL, evParts, fillA, AV.cells, natA, binA, intCmpA, unA, minA, maxA]; rfl) ?_
          refine WO.op (by simp only [xval, xop, AR.ofV, St.ev, Tr.get_set, get_bump, next_bump, next_set, next_add, AHeap.get_set, reduceIte, Nat.reduceEqDiff, evL, evParts, fillA, AV.cells, natA, binA, intCmpA, unA, minA, maxA]; rfl) ?_
          refine WO.nil ⟨rfl, W.ret (pR (bR (bR (pR ⟨fun q => (by cases q), fun _ => .inr ⟨rfl, ?_, ?_, ?_, ?_, ?_, ?_⟩⟩))))⟩
          · have : op = [] := List.eq_nil_of_length_eq_zero hop0
            subst this; rfl
          · simp only [Tr.get_set, get_bump, next_bump, next_set, next_add, AHeap.get_set, reduceIte, Nat.reduceEqDiff]
          · simp only [Tr.get_set, get_bump, next_bump, next_set, next_add, AHeap.get_set, reduceIte, Nat.reduceEqDiff]; rfl
          · simp only [Tr.get_set, get_bump, next_bump, next_set, next_add, AHeap.get_set, reduceIte, Nat.reduceEqDiff]
          · show H0.next ≤ HC.next; omega
          · intro j hj; show HC.get j = _; rw [hgC, hgB, hgA, hg4, hg3, hg2, hg1, fr j hj]
        · have hz : ((op.length : Int) == Int.ofNat 0) = false := by rw [Int.ofNat_eq_natCast, beq_eq_false_iff_ne]; omega
          have hpred : wrapA .i64 ((op.length : Int) - Int.ofNat 1) = ((op.length - 1 : Nat) : Int) := by
            show wrapA .i64 ((op.length : Int) - 1) = _
            rw [wrapI _ (by omega) (by omega)]; omega
          obtain ⟨a, ha⟩ : ∃ a, op[op.length - 1]? = some a := ⟨_, List.getElem?_eq_getElem (by omega)⟩
          have hgl : op.getLast? = some a := by rw [List.getLast?_eq_getElem?, ha]
          refine W.condF (by simp only [St.ev, Tr.get_set, get_bump, next_bump, next_set, next_add, AHeap.get_set, reduceIte, Nat.reduceEqDiff, hz]) (W.skip (pN (W.seqN ?_)))
          refine W.rg 12 rfl (fun HC hgC hnC => ?_)
          refine WO.op (by simp only [xval, xop, AR.ofV, St.ev, Tr.get_set, get_bump, next_bump, next_set, next_add, AHeap.get_set, reduceIte, Nat.reduceEqDiff, evL, evParts, fillA, AV.cells, natA, binA, intCmpA, unA, minA, maxA, t5]; rfl) ?_
          refine WO.op (by simp only [xval, xop, AR.ofV, St.ev, Tr.get_set, get_bump, next_bump, next_set, next_add, AHeap.get_set, reduceIte, Nat.reduceEqDiff, evL, evParts, fillA, AV.cells, natA, binA, intCmpA, unA, minA, maxA, t6]; rfl) ?_
          refine WO.op (by simp only [xval, xop, AR.ofV, St.ev, Tr.get_set, get_bump, next_bump, next_set, next_add, AHeap.get_set, reduceIte, Nat.reduceEqDiff, evL, evParts, fillA, AV.cells, natA, binA, intCmpA, unA, minA, maxA, t6]; rfl) ?_
          have R6c : Row 1 HC v6 op.length (op.map natA) := R6.frame (by omega) (fun j _ => by rw [hgC, hgB, hgA, hg4, hg3, hg2, hg1])
          have R5c : Row 2 HC v5 out.length (pairA out) := R5.frame (by omega) (fun j _ => by rw [hgC, hgB, hgA, hg4, hg3, hg2, hg1])
          refine WO.op (op_len R6c (by simp only [St.ev, Tr.get_set, get_bump, next_bump, next_set, next_add, AHeap.get_set, reduceIte, Nat.reduceEqDiff])) ?_
          refine WO.op (v := natA (op.length - 1)) (H1 := HC) (by simp only [xval, xop, AR.ofV, St.ev, Tr.get_set, get_bump, next_bump, next_set, next_add, AHeap.get_set, reduceIte, Nat.reduceEqDiff, evL, evParts, fillA, AV.cells, natA, binA, intCmpA, unA, minA, maxA, hpred]; rfl) ?_
          refine WO.cell1 (j := op.length - 1) (c := natA a) R6c (by simp only [St.ev, Tr.get_set, get_bump, next_bump, next_set, next_add, AHeap.get_set, reduceIte, Nat.reduceEqDiff]) (by simp only [St.ev, Tr.get_set, get_bump, next_bump, next_set, next_add, AHeap.get_set, reduceIte, Nat.reduceEqDiff]; rfl) (by omega) (by rw [List.getElem?_map, ha]; rfl) (fun o6 ho6 => ?_)
          refine WO.op (by simp only [xval, xop, AR.ofV, St.ev, Tr.get_set, get_bump, next_bump, next_set, next_add, AHeap.get_set, reduceIte, Nat.reduceEqDiff, evL, evParts, fillA, AV.cells, natA, binA, intCmpA, unA, minA, maxA, t11]; rfl) ?_
          refine WO.op (by simp only [xval, xop, AR.ofV, St.ev, Tr.get_set, get_bump, next_bump, next_set, next_add, AHeap.get_set, reduceIte, Nat.reduceEqDiff, evL, evParts, fillA, AV.cells, natA, binA, intCmpA, unA, minA, maxA, t11]; rfl) ?_
          refine WO.append1 (n := HB.next + 1 + 1 + 1 + 1 + 1 + 1 + 1 + 1 + 1) (l := out.length) (cs := pairA out) (new := [natA a, natA i]) (v := v5) R5c (by simp only [St.ev, Tr.get_set, get_bump, next_bump, next_set, next_add, AHeap.get_set, reduceIte, Nat.reduceEqDiff]) (by simp only [xval, xop, AR.ofV, St.ev, Tr.get_set, get_bump, next_bump, next_set, next_add, AHeap.get_set, reduceIte, Nat.reduceEqDiff, evL, evParts, fillA, AV.cells, natA, binA, intCmpA, unA, minA, maxA]; rfl) (by omega) (by omega) (by omega) rfl rfl (by omega) (fun q => by have := R5.own_lt q; omega) (fun v5' HD R5' hnD hgD ho5 => ?_)
          refine WO.op (by simp only [xval, xop, AR.ofV, St.ev, Tr.get_set, get_bump, next_bump, next_set, next_add, AHeap.get_set, reduceIte, Nat.reduceEqDiff, evL, evParts, fillA, AV.cells, natA, binA, intCmpA, unA, minA, maxA]; rfl) ?_
          refine WO.nil ⟨rfl, ?_⟩
          have R6d : Row 1 HD v6 op.length (op.map natA) := R6c.frame (by omega) (fun j hj => hgD j (by have := R6.own_lt hj; omega) (by have := R6.own_lt hj; omega) (fun q => (hd5 j q).1 hj))
          refine W.rg 6 rfl (fun HE hgE hnE => ?_)
          have R6e : Row 1 HE v6 op.length (op.map natA) := R6d.frame (by omega) (fun j _ => hgE j)
          refine WO.op (by simp only [xval, xop, AR.ofV, St.ev, Tr.get_set, get_bump, next_bump, next_set, next_add, AHeap.get_set, reduceIte, Nat.reduceEqDiff, evL, evParts, fillA, AV.cells, natA, binA, intCmpA, unA, minA, maxA, t6]; rfl) ?_
          refine WO.op (by simp only [xval, xop, AR.ofV, St.ev, Tr.get_set, get_bump, next_bump, next_set, next_add, AHeap.get_set, reduceIte, Nat.reduceEqDiff, evL, evParts, fillA, AV.cells, natA, binA, intCmpA, unA, minA, maxA, t6]; rfl) ?_
          refine WO.op (op_len R6e (by simp only [St.ev, Tr.get_set, get_bump, next_bump, next_set, next_add, AHeap.get_set, reduceIte, Nat.reduceEqDiff])) ?_
          refine WO.op (v := natA (op.length - 1)) (H1 := HE) (by simp only [xval, xop, AR.ofV, St.ev, Tr.get_set, get_bump, next_bump, next_set, next_add, AHeap.get_set, reduceIte, Nat.reduceEqDiff, evL, evParts, fillA, AV.cells, natA, binA, intCmpA, unA, minA, maxA, hpred]; rfl) ?_
          refine WO.front (m := op.length - 1) R6e (by simp only [St.ev, Tr.get_set, get_bump, next_bump, next_set, next_add, AHeap.get_set, reduceIte, Nat.reduceEqDiff]) (by simp only [St.ev, Tr.get_set, get_bump, next_bump, next_set, next_add, AHeap.get_set, reduceIte, Nat.reduceEqDiff]; rfl) (by omega) (by omega) (fun v6' R6f hof => ?_)
          refine WO.op (by simp only [xval, xop, AR.ofV, St.ev, Tr.get_set, get_bump, next_bump, next_set, next_add, AHeap.get_set, reduceIte, Nat.reduceEqDiff, evL, evParts, fillA, AV.cells, natA, binA, intCmpA, unA, minA, maxA]; rfl) ?_
          refine WO.nil (bN (bN (pN ?_)))
          refine W.rg 2 rfl (fun HF hgF hnF => ?_)
          refine WO.op (by simp only [xval, xop, AR.ofV, St.ev, Tr.get_set, get_bump, next_bump, next_set, next_add, AHeap.get_set, reduceIte, Nat.reduceEqDiff, evL, evParts, fillA, AV.cells, natA, binA, intCmpA, unA, minA, maxA, t11, hw]; rfl) ?_
          refine WO.op (by simp only [xval, xop, AR.ofV, St.ev, Tr.get_set, get_bump, next_bump, next_set, next_add, AHeap.get_set, reduceIte, Nat.reduceEqDiff, evL, evParts, fillA, AV.cells, natA, binA, intCmpA, unA, minA, maxA, t11, hw]; rfl) ?_
          refine WO.nil (pN ⟨41, r, i + 1, op.dropLast, out ++ [(a, i)], d, rfl, ?_, ?_⟩)
          · show (match op.getLast? with | none => none | some a => scanL r (i + 1) op.dropLast (out ++ [(a, i)]) d) = _
            rw [hgl]
          have e5 : pairA (out ++ [(a, i)]) = pairA out ++ [natA a, natA i] := by simp [pairA, encPairs, castP, natA]
          have e6 : op.dropLast.map natA = (op.map natA).take ((op.length - 1) * 1) := by rw [Nat.mul_one, List.dropLast_eq_take, List.map_take]
          have e7 : op.dropLast.length = op.length - 1 := List.length_dropLast
          refine ⟨hrest', by omega, by omega, by rw [List.length_append]; simp; omega, ?_, ?_, ?_, ?_, ⟨v5', v6', ?_, ?_, by rw [e5, List.length_append]; exact R5'.frame (by show HD.next ≤ HF.next; omega) (fun j _ => by show HF.get j = _; rw [hgF, hgE]), by rw [e6, e7]; exact R6f.frame (by show HE.next ≤ HF.next; omega) (fun j _ => hgF j), fun j hj => ⟨fun q => ?_, ?_⟩, fun j hj => hd6 j (hof ▸ hj)⟩, by show H0.next ≤ HF.next; omega, fun j hj => ?_⟩
          · simp only [Tr.get_set, get_bump, next_bump, next_set, next_add, AHeap.get_set, reduceIte, Nat.reduceEqDiff]; exact t0
          · simp only [Tr.get_set, get_bump, next_bump, next_set, next_add, AHeap.get_set, reduceIte, Nat.reduceEqDiff]; exact t10
          · simp only [Tr.get_set, get_bump, next_bump, next_set, next_add, AHeap.get_set, reduceIte, Nat.reduceEqDiff]; rfl
          · simp only [Tr.get_set, get_bump, next_bump, next_set, next_add, AHeap.get_set, reduceIte, Nat.reduceEqDiff]; exact t7
          · simp only [Tr.get_set, get_bump, next_bump, next_set, next_add, AHeap.get_set, reduceIte, Nat.reduceEqDiff]
          · simp only [Tr.get_set, get_bump, next_bump, next_set, next_add, AHeap.get_set, reduceIte, Nat.reduceEqDiff]
          · rw [hof] at q
            rcases ho5 j hj with q1 | q1
            · exact (hd5 j q1).1 q
            · have := R6.own_lt q; omega
          · rcases ho5 j hj with q1 | q1
            · exact (hd5 j q1).2
            · omega
          · show HF.get j = _
            rw [hgF, hgE, hgD j (by omega) (by omega) (fun q => by have := (hd5 j q).2; omega), hgC, hgB, hgA, hg4, hg3, hg2, hg1, fr j hj]
      · have hx41 : ((x.toNat : Int) == Int.ofNat 41) = false := by
          rw [Int.ofNat_eq_natCast, beq_eq_false_iff_ne]
          intro q
          exact h41 (UInt8.toNat_inj.1 (by show x.toNat = 41; omega))
        refine W.condF (by simp only [St.ev, Tr.get_set, get_bump, next_bump, next_set, next_add, AHeap.get_set, reduceIte, Nat.reduceEqDiff, hx41]) (W.seqN ?_)
        refine W.rg 2 rfl (fun HG hgG hnG => ?_)
        refine WO.op (by simp only [xval, xop, AR.ofV, St.ev, Tr.get_set, get_bump, next_bump, next_set, next_add, AHeap.get_set, reduceIte, Nat.reduceEqDiff, evL, evParts, fillA, AV.cells, natA, binA, intCmpA, unA, minA, maxA]; rfl) ?_
        refine WO.op (by simp only [xval, xop, AR.ofV, St.ev, Tr.get_set, get_bump, next_bump, next_set, next_add, AHeap.get_set, reduceIte, Nat.reduceEqDiff, evL, evParts, fillA, AV.cells, natA, binA, intCmpA, unA, minA, maxA]; rfl) ?_
        refine WO.nil ⟨rfl, ?_⟩
        by_cases h46 : x = 46
        · subst h46
          refine W.condT (by simp only [St.ev, Tr.get_set, get_bump, next_bump, next_set, next_add, AHeap.get_set, reduceIte, Nat.reduceEqDiff]; rfl) (W.skip (bN (bN (pN ?_))))
          refine W.rg 2 rfl (fun HH hgH hnH => ?_)
          refine WO.op (by simp only [xval, xop, AR.ofV, St.ev, Tr.get_set, get_bump, next_bump, next_set, next_add, AHeap.get_set, reduceIte, Nat.reduceEqDiff, evL, evParts, fillA, AV.cells, natA, binA, intCmpA, unA, minA, maxA, t11, hw]; rfl) ?_
          refine WO.op (by simp only [xval, xop, AR.ofV, St.ev, Tr.get_set, get_bump, next_bump, next_set, next_add, AHeap.get_set, reduceIte, Nat.reduceEqDiff, evL, evParts, fillA, AV.cells, natA, binA, intCmpA, unA, minA, maxA, t11, hw]; rfl) ?_
          refine WO.nil (pN ⟨46, r, i + 1, op, out, d, rfl, rfl, ?_⟩)
          refine ⟨hrest', by omega, by omega, by omega, ?_, ?_, ?_, ?_, ⟨v5, v6, ?_, ?_, R5.frame (by show H.next ≤ HH.next; omega) (fun j _ => by show HH.get j = _; rw [hgH, hgG, hgA, hg4, hg3, hg2, hg1]), R6.frame (by show H.next ≤ HH.next; omega) (fun j _ => by show HH.get j = _; rw [hgH, hgG, hgA, hg4, hg3, hg2, hg1]), hd5, hd6⟩, by show H0.next ≤ HH.next; omega, fun j hj => ?_⟩
          · simp only [Tr.get_set, get_bump, next_bump, next_set, next_add, AHeap.get_set, reduceIte, Nat.reduceEqDiff]; exact t0
          · simp only [Tr.get_set, get_bump, next_bump, next_set, next_add, AHeap.get_set, reduceIte, Nat.reduceEqDiff]; exact t10
          · simp only [Tr.get_set, get_bump, next_bump, next_set, next_add, AHeap.get_set, reduceIte, Nat.reduceEqDiff]; rfl
          · simp only [Tr.get_set, get_bump, next_bump, next_set, next_add, AHeap.get_set, reduceIte, Nat.reduceEqDiff]; exact t7
          · simp only [Tr.get_set, get_bump, next_bump, next_set, next_add, AHeap.get_set, reduceIte, Nat.reduceEqDiff]; exact t5
          · simp only [Tr.get_set, get_bump, next_bump, next_set, next_add, AHeap.get_set, reduceIte, Nat.reduceEqDiff]; exact t6
          · show HH.get j = _
            rw [hgH, hgG, hgA, hg4, hg3, hg2, hg1, fr j hj]
        · have hx46 : ((x.toNat : Int) == Int.ofNat 46) = false := by
            rw [Int.ofNat_eq_natCast, beq_eq_false_iff_ne]
            intro q
            exact h46 (UInt8.toNat_inj.1 (by show x.toNat = 46; omega))
          refine W.condF (by simp only [St.ev, Tr.get_set, get_bump, next_bump, next_set, next_add, AHeap.get_set, reduceIte, Nat.reduceEqDiff, hx46]) (W.seqN ?_)
          refine W.rg 3 rfl (fun HI hgI hnI => ?_)
          refine WO.op (by simp only [xval, xop, AR.ofV, St.ev, Tr.get_set, get_bump, next_bump, next_set, next_add, AHeap.get_set, reduceIte, Nat.reduceEqDiff, evL, evParts, fillA, AV.cells, natA, binA, intCmpA, unA, minA, maxA]; rfl) ?_
          refine WO.op (by simp only [xval, xop, AR.ofV, St.ev, Tr.get_set, get_bump, next_bump, next_set, next_add, AHeap.get_set, reduceIte, Nat.reduceEqDiff, evL, evParts, fillA, AV.cells, natA, binA, intCmpA, unA, minA, maxA]; rfl) ?_
          refine WO.op (by simp only [xval, xop, AR.ofV, St.ev, Tr.get_set, get_bump, next_bump, next_set, next_add, AHeap.get_set, reduceIte, Nat.reduceEqDiff, evL, evParts, fillA, AV.cells, natA, binA, intCmpA, unA, minA, maxA]; rfl) ?_
          refine WO.nil ⟨rfl, W.ret (bR (bR (pR ⟨fun q => (by cases q), fun _ => .inr ⟨rfl, ?_, ?_, ?_, ?_, ?_, ?_⟩⟩)))⟩
          · unfold scanL
            rw [if_neg h40, if_neg h41, if_neg h46]
          · simp only [Tr.get_set, get_bump, next_bump, next_set, next_add, AHeap.get_set, reduceIte, Nat.reduceEqDiff]
          · simp only [Tr.get_set, get_bump, next_bump, next_set, next_add, AHeap.get_set, reduceIte, Nat.reduceEqDiff]; rfl
          · simp only [Tr.get_set, get_bump, next_bump, next_set, next_add, AHeap.get_set, reduceIte, Nat.reduceEqDiff]
          · show H0.next ≤ HI.next; omega
          · intro j hj; show HI.get j = _; rw [hgI, hgG, hgA, hg4, hg3, hg2, hg1, fr j hj]
end Go.Proofs.YtfcgofffalmdfaaDoor.PA
/-
  DERIVED: THE SHELF's CONTRACTS AT THIS DUMP, IN PLAIN WORDS (tools/lay-plain.mjs out of 'YtfcgofffalmdfaaDoorShelf.lean', which tools/lay-shelf.mjs wrote): THE SAME DECLARATIONS UNDER THE SAME NAMES: 'import', 'namespace', 'open', 'def', 'theorem' AND NOTHING ELSE: no command of the shelf's: FOR A HAND-IN. Each laying: the table of numbers ('.._ren') and one theorem, a field a fact of the dump's own or the kernel's comparison; each contract: ONE APPLICATION.
-/
namespace Go.Proofs
open Go.Shelf
def Tryd.sortPair_ren : Go.Shelf.Ren := ⟨fun | 6 => 33 | 15 => 51 | 14 => 50 | 28 => 77 | 29 => 78 | 20 => 69 | 21 => 70 | 22 => 71 | 23 => 72 | 24 => 73 | 25 => 74 | 26 => 75 | 27 => 76 | 46 => 86 | 47 => 87 | 48 => 88 | 49 => 89 | 50 => 90 | 57 => 94 | n => n, fun | 22 => 22 | 24 => 31 | 25 => 85 | 3 => 3 | 39 => 114 | 0 => 0 | 53 => 118 | 55 => 115 | 4 => 4 | 46 => 136 | 45 => 135 | 50 => 140 | 5 => 5 | 9 => 9 | 66 => 150 | 70 => 154 | 76 => 157 | 77 => 158 | n => n, fun | n => n⟩
theorem Tryd.sortPair : Go.Proofs.SlLaysF0.n6 Tryd.prog Tryd.sortPair_ren := {
  mixed := by kernel_rfl
  f6 := ⟨Tryd.f33.name, by decide, Tryd.func33.trans (congrArg some (by kernel_rfl))⟩
  f14 := ⟨Tryd.f50.name, by decide, Tryd.func50.trans (congrArg some (by kernel_rfl))⟩
  f15 := Tryd.func51.trans (congrArg some (by kernel_rfl))
  f20 := ⟨Tryd.f69.name, by decide, Tryd.func69.trans (congrArg some (by kernel_rfl))⟩
  f21 := ⟨Tryd.f70.name, by decide, Tryd.func70.trans (congrArg some (by kernel_rfl))⟩
  f22 := ⟨Tryd.f71.name, by decide, Tryd.func71.trans (congrArg some (by kernel_rfl))⟩
  f23 := ⟨Tryd.f72.name, by decide, Tryd.func72.trans (congrArg some (by kernel_rfl))⟩
  f24 := ⟨Tryd.f73.name, by decide, Tryd.func73.trans (congrArg some (by kernel_rfl))⟩
  f25 := ⟨Tryd.f74.name, by decide, Tryd.func74.trans (congrArg some (by kernel_rfl))⟩
  f26 := ⟨Tryd.f75.name, by decide, Tryd.func75.trans (congrArg some (by kernel_rfl))⟩
  f27 := ⟨Tryd.f76.name, by decide, Tryd.func76.trans (congrArg some (by kernel_rfl))⟩
  f28 := Tryd.func77.trans (congrArg some (by kernel_rfl))
  f29 := Tryd.func78.trans (congrArg some (by kernel_rfl))
  f46 := ⟨Tryd.f86.name, by decide, Tryd.func86.trans (congrArg some (by kernel_rfl))⟩
  f47 := Tryd.func87.trans (congrArg some (by kernel_rfl))
  f48 := Tryd.func88.trans (congrArg some (by kernel_rfl))
  f49 := ⟨Tryd.f89.name, by decide, Tryd.func89.trans (congrArg some (by kernel_rfl))⟩
  f50 := ⟨Tryd.f90.name, by decide, Tryd.func90.trans (congrArg some (by kernel_rfl))⟩
  f57 := ⟨Tryd.f94.name, by decide, Tryd.func94.trans (congrArg some (by kernel_rfl))⟩
  t0 := Tryd.underlying0
  a0 := Tryd.isAgg0
  z0 := Tryd.sizeOf0
  v0 := Tryd.zeroValue0
  t3 := Tryd.underlying3
  a3 := Tryd.isAgg3
  z3 := Tryd.sizeOf3
  v3 := Tryd.zeroValue3
  t4 := Tryd.underlying4
  a4 := Tryd.isAgg4
  z4 := Tryd.sizeOf4
  v4 := Tryd.zeroValue4
  t5 := Tryd.underlying5
  a5 := Tryd.isAgg5
  z5 := Tryd.sizeOf5
  v5 := Tryd.zeroValue5
  t9 := Tryd.underlying9
  a9 := Tryd.isAgg9
  z9 := Tryd.sizeOf9
  v9 := Tryd.zeroValue9
  t22 := Tryd.underlying22
  a22 := Tryd.isAgg22
  z22 := Tryd.sizeOf22
  v22 := Tryd.zeroValue22
  t25 := Tryd.underlying85
  a25 := Tryd.isAgg85
  z25 := Tryd.sizeOf85
  v25 := Tryd.zeroValue85
  t39 := Tryd.underlying114
  a39 := Tryd.isAgg114
  z39 := Tryd.sizeOf114
  v39 := Tryd.zeroValue114
  t45 := Tryd.underlying135
  a45 := Tryd.isAgg135
  z45 := Tryd.sizeOf135
  v45 := Tryd.zeroValue135
  t46 := Tryd.underlying136
  a46 := Tryd.isAgg136
  z46 := Tryd.sizeOf136
  v46 := Tryd.zeroValue136
  t50 := Tryd.underlying140
  a50 := Tryd.isAgg140
  z50 := Tryd.sizeOf140
  v50 := Tryd.zeroValue140
  t53 := Tryd.underlying118
  a53 := Tryd.isAgg118
  z53 := Tryd.sizeOf118
  v53 := Tryd.zeroValue118
  t55 := Tryd.underlying115
  a55 := Tryd.isAgg115
  z55 := Tryd.sizeOf115
  v55 := Tryd.zeroValue115
  t66 := Tryd.underlying150
  a66 := Tryd.isAgg150
  z66 := Tryd.sizeOf150
  v66 := Tryd.zeroValue150
  t70 := Tryd.underlying154
  a70 := Tryd.isAgg154
  z70 := Tryd.sizeOf154
  v70 := Tryd.zeroValue154
  t76 := Tryd.underlying157
  a76 := Tryd.isAgg157
  z76 := Tryd.sizeOf157
  v76 := Tryd.zeroValue157
  t77 := Tryd.underlying158
  a77 := Tryd.isAgg158
  z77 := Tryd.sizeOf158
  v77 := Tryd.zeroValue158 }
end Go.Proofs
namespace Go.Proofs
open Go.Shelf Go.RowKit Go.Lib Go.Sort Go.Eng
set_option maxHeartbeats 1000000 in
theorem Tryd.closure34 (x0 x1 y0 y1 : Int) (W : World) (hs : IntKind.i64.wrap (x0 - y0) = x0 - y0) : Calls Tryd.prog 34 #[.agg #[.int .i64 x0, .int .i64 x1], .agg #[.int .i64 y0, .int .i64 y1]] W fun e w' => e = .returned (.int .i64 (x0 - y0)) ∧ ∃ q os', w' = Go.Sort.grow (W.drewN q) os' := by
  go_enter Tryd.func34, Tryd.ntmps34
  go_wp2
  go_ret
  refine ⟨?_, 0, _, by rw [alloc_eq_grow, alloc_eq_grow, grow_grow]; rfl⟩
  first | rfl | simp [hs]
theorem Tryd.sortC : SortC Tryd.prog 33 34 := by
  intro blk off cap d w hH hblk hsz
  have eg : ∀ args w, (callFunc 34 args).run Tryd.prog w = .ok (.enter 34 args) w := enters_of Tryd.func34 (by kernel_rfl) rfl
  have hlt : ∀ x y : BP, ltOf cmpBP x y = ltBP x y := by
    intro x y
    unfold ltOf cmpBP ltBP
    by_cases h : x.1.1 < y.1.1
    · rw [decide_eq_true h, decide_eq_true (by omega)]
    · rw [decide_eq_false h, decide_eq_false (by omega)]
  have hO : SWO (ltOf cmpBP) := ⟨fun x => by rw [hlt]; simp [ltBP], fun x y z h1 h2 => by rw [hlt] at *; simp [ltBP] at *; omega, fun x y z h1 h2 => by rw [hlt] at *; simp [ltBP] at *; omega⟩
  have hc : CmpLays Tryd.prog 34 #[] encBP 2 cmpBP blk off d.size w := by
    intro m os dk _ x y
    have hx := x.2
    have hy := y.2
    simp only [okP, Bool.and_eq_true, decide_eq_true_eq] at hx hy
    exact Tryd.closure34 _ _ _ _ _ (by simp only [IntKind.wrap, IntKind.bits, IntKind.signed]; simp; omega)
  have h := AnyQ.slices_SortFunc Tryd.sortPair 2 Tryd.isAgg31 Tryd.sizeOf31 encBP (fun _ => rfl) (fun x v hv => by simp [encBP] at hv; rcases hv with rfl | rfl <;> rfl) cmpBP hO 34 #[] blk off cap d w eg hc hH hblk hsz
  refine h.mono ?_
  rintro e w' ⟨rfl, d', n, os, hp, hs, rfl⟩
  refine ⟨rfl, d', n, os, hp, ?_, rfl⟩
  intro i j h1 h2 h3
  rw [← hlt]
  exact hs i j h1 h2 h3
theorem Tryd.sortK_ok : CFok Tryd.prog (sortK 33 34) := Go.Eng.sortK_ok ⟨_, Tryd.func33, by kernel_rfl, by kernel_rfl⟩ Tryd.sortC
end Go.Proofs
namespace Go.Proofs.YtfcgofffalmdfaaDoor.PA
open Go Go.Eng
theorem scanL_inv : ∀ (r : List UInt8) (i : Nat) (op : List Nat) (out : List (Nat × Nat)) (d : Nat) (op' : List Nat) (out' : List (Nat × Nat)) (d' : Nat), scanL r i op out d = some (op', out', d') →
    (∀ a ∈ op, a < i) → (∀ p ∈ out, p.1 < i) → (op ++ out.map (·.1)).Nodup → (out'.map (·.1)).Nodup ∧ (∀ p ∈ out', p.1 < i + r.length)
  | [], i, op, out, d, op', out', d', h, h1, h2, h3 => by
    simp only [scanL, Option.some.injEq, Prod.mk.injEq] at h
    obtain ⟨rfl, rfl, rfl⟩ := h
    exact ⟨(List.nodup_append.1 h3).2.1, fun p hp => by have := h2 p hp; omega⟩
  | b :: r, i, op, out, d, op', out', d', h, h1, h2, h3 => by
    simp only [scanL] at h
    simp only [List.length_cons]
    split at h
    · have := scanL_inv r (i + 1) _ _ _ _ _ _ h (fun a ha => by
        rcases List.mem_append.1 ha with q | q
        · have := h1 a q; omega
        · simp only [List.mem_singleton] at q; omega) (fun p hp => by have := h2 p hp; omega) (by
        rw [List.append_assoc]
        show (op ++ (i :: out.map (·.1))).Nodup
        rw [List.perm_middle.nodup_iff, List.nodup_cons]
        refine ⟨fun q => ?_, h3⟩
        rcases List.mem_append.1 q with q | q
        · have := h1 i q; omega
        · obtain ⟨p, q1, q2⟩ := List.mem_map.1 q
          have := h2 p q1; omega)
      exact ⟨this.1, fun p hp => by have := this.2 p hp; omega⟩
    · split at h
      · split at h
        · cases h
        · rename_i a ha
          have hop : op.dropLast ++ [a] = op := by
            have hne : op ≠ [] := fun e => by rw [e] at ha; cases ha
            rw [List.getLast?_eq_some_getLast hne] at ha
            cases ha
            exact List.dropLast_concat_getLast hne
          have := scanL_inv r (i + 1) _ _ _ _ _ _ h (fun x hx => by have := h1 x (List.dropLast_subset op hx); omega) (fun p hp => by
            rcases List.mem_append.1 hp with q | q
            · have := h2 p q; omega
            · simp only [List.mem_singleton] at q
              have := h1 a (by rw [← hop]; simp)
              rw [q]; show a < i + 1; omega) (by
            rw [List.map_append]
            show (op.dropLast ++ (out.map (·.1) ++ [a])).Nodup
            have : (op.dropLast ++ (out.map (·.1) ++ [a])).Perm (op.dropLast ++ ([a] ++ out.map (·.1))) := List.Perm.append_left _ List.perm_append_comm
            rw [this.nodup_iff, ← List.append_assoc, hop]
            exact h3)
          exact ⟨this.1, fun p hp => by have := this.2 p hp; omega⟩
      · split at h
        · have := scanL_inv r (i + 1) _ _ _ _ _ _ h (fun a ha => by have := h1 a ha; omega) (fun p hp => by have := h2 p hp; omega) h3
          exact ⟨this.1, fun p hp => by have := this.2 p hp; omega⟩
        · cases h
theorem apartP_of : ∀ (l : List (Nat × Nat)), (l.map (·.1)).Nodup → apartP (l.map castP) = true
  | [], _ => rfl
  | p :: l, h => by
    rw [List.map_cons, List.nodup_cons] at h
    simp only [List.map_cons, apartP, Bool.and_eq_true, List.all_eq_true, bne_iff_ne]
    refine ⟨fun q hq => ?_, apartP_of l h.2⟩
    obtain ⟨x, hx, rfl⟩ := List.mem_map.1 hq
    simp only [castP]
    intro e
    exact h.1 (List.mem_map.2 ⟨x, hx, by omega⟩)
abbrev K0 : CF := sortK 33 34
theorem sortNil (H : AHeap) : xcallK K0 F 2000 40 33 [.nils, .fn 34 []] H = some (.tup [], H.bump 47) := by kernel_rfl
theorem sort_call {H : AHeap} {v : AV} {out : List (Nat × Nat)} (hR : Row 2 H v out.length (pairA out)) (hn : (out.map (·.1)).Nodup) (hl : ∀ p ∈ out, p.1 < 2000) (hlen : out.length < 2000) :
    ∃ H', xcallK K0 F 2000 40 33 [v, .fn 34 []] H = some (.tup [], H') ∧ Row 2 H' v out.length (encPairs (sortP (out.map castP))) ∧ H.next ≤ H'.next ∧ (∀ j, v.own ≠ some j → H'.get j = H.get j) := by
  obtain ⟨hcl, ⟨rfl, h0⟩ | ⟨i, full, rfl, hg, hf, hfl, hi⟩⟩ := hR
  · have : out = [] := List.eq_nil_of_length_eq_zero h0
    subst this
    have hs0 : sortP (List.map castP []) = [] := by simp [sortP]
    rw [hs0]
    exact ⟨_, sortNil H, Row.nil _ _, Nat.le_add_right _ _, fun j _ => rfl⟩
  · by_cases h0 : out.length = 0
    · have : out = [] := List.eq_nil_of_length_eq_zero h0
      subst this
      have hs : xcallK K0 F 2000 40 33 [.sl i 0 0 openCap, .fn 34 []] H = some (.tup [], H.bump 47) := by kernel_rfl
      have hs0 : sortP (List.map castP []) = [] := by simp [sortP]
      rw [hs0]
      exact ⟨_, hs, ⟨rfl, .inr ⟨i, full, rfl, hg, by simp [encPairs], by simp, by rw [next_bump]; omega⟩⟩, Nat.le_add_right _ _, fun j _ => rfl⟩
    · have hs : sortK 33 34 33 [.sl i 0 out.length openCap, .fn 34 []] H = some (.tup [], H.set i (some (.cells (overA full 0 (encPairs (sortP (out.map castP)))) (some 2)))) := by
        have hdec : decPairs ((full.drop 0).take (out.length * 2)) = some (out.map castP) := by
          rw [List.drop_zero, hf]
          exact decPairs_enc _
        have hall : (out.map castP).all okP = true := by
          rw [List.all_eq_true]
          intro x hx
          obtain ⟨p, hp, rfl⟩ := List.mem_map.1 hx
          have := hl p hp
          show (decide (0 ≤ (p.1 : Int)) && decide ((p.1 : Int) < 4611686018427387904)) = true
          rw [Bool.and_eq_true, decide_eq_true_eq, decide_eq_true_eq]
          omega
        simp only [sortK, if_true]
        rw [if_pos ⟨trivial, by omega, by omega⟩]
        simp only [hg, hdec]
        rw [if_pos ⟨by simp, hall, apartP_of out hn⟩]
      refine ⟨H.set i (some (.cells (overA full 0 (encPairs (sortP (out.map castP)))) (some 2))), by rw [show (40 : Nat) = 39 + 1 from rfl]; unfold xcallK; rw [show K0 = sortK 33 34 from rfl, hs], ⟨by rw [encPairs_length, (sortP_perm _).length_eq, List.length_map], .inr ⟨i, _, rfl, by rw [AHeap.get_set, if_pos rfl], ?_, ?_, hi⟩⟩, Nat.le_refl _, fun j hj => by rw [AHeap.get_set, if_neg (fun e => hj (by simp [AV.own, e]))]⟩
      · have e : (encPairs (sortP (out.map castP))).length = out.length * 2 := by rw [encPairs_length, (sortP_perm _).length_eq, List.length_map]
        simp only [overA, List.take_zero, List.nil_append, Nat.zero_add]
        rw [← e, List.take_left']
        rfl
      · have e : (encPairs (sortP (out.map castP))).length = out.length * 2 := by rw [encPairs_length, (sortP_perm _).length_eq, List.length_map]
        simp only [overA, List.take_zero, List.nil_append, Nat.zero_add, List.length_append, List.length_drop, e]
        omega
def LoopsQ (H0 : AHeap) (b : List UInt8) (v : AV) (H' : AHeap) : Prop :=
  (H0.next ≤ H'.next ∧ ∀ j, j < H0.next → H'.get j = H0.get j) ∧
  match scanL b 0 [] [] 0 with
  | none => v = .tup [.nils, natA 0, .bool false]
  | some (op, out, d) => ∃ v5, v = .tup [v5, natA d, .bool (op.length == 0)] ∧ Row 2 H' v5 out.length (encPairs (sortP (out.map castP))) ∧ ∀ j, v5.own = some j → H0.next ≤ j
theorem loops_ok {H0 : AHeap} {b : List UInt8} (hb : b.length ≤ 1000) : ∃ v H', xfunc (xcallK K0 F 2000 40) 2000 L21 [.str b] H0 = some (v, H') ∧ LoopsQ H0 b v H' := by
  refine xfunc_of rfl (by show 1 ≤ 58; omega) ?_
  have hbody := fun r i op out d s h => body21_ok (cf := xcallK K0 F 2000 40) (fuel := 2000) (H0 := H0) (b := b) hb r i op out d s h
  generalize hB : body21 = B at hbody
  have hc : L21.code = (XCode.reg [XOper.mk (some 2) (XOp.mv (XO.k AV.nils)) none, XOper.mk (some 3) (XOp.mv (XO.k (AV.int IntKind.i64 (Int.ofNat 0)))) none, XOper.mk (some 4) (XOp.mv (XO.k (AV.bool false))) none]).seq ((XCode.reg [XOper.mk (some 5) (XOp.mv (XO.k AV.nils)) none]).seq ((XCode.reg [XOper.mk (some 6) (XOp.mv (XO.k AV.nils)) none]).seq ((XCode.reg [XOper.mk (some 7) (XOp.mv (XO.k (AV.int IntKind.i64 (Int.ofNat 0)))) none]).seq (((XCode.reg [XOper.mk (some 9) (XOp.mv (XO.t 0)) none, XOper.mk (some 10) (XOp.slen (XO.t 9)) none, XOper.mk (some 11) (XOp.mv (XO.k (AV.int IntKind.i64 (Int.ofNat 0)))) none]).seq (XCode.block 0 (XCode.loop B))).seq ((XCode.reg [XOper.mk (some 51) (XOp.mv (XO.t 5)) none, XOper.mk (some 52) (XOp.call (XO.k (AV.fn 33 [])) [XO.t 51, XO.k (AV.fn 34 [])]) none]).seq ((XCode.reg [XOper.mk (some 53) (XOp.mv (XO.t 5)) none, XOper.mk (some 54) (XOp.mv (XO.t 7)) none, XOper.mk (some 55) (XOp.mv (XO.t 6)) none, XOper.mk (some 56) (XOp.len (XO.t 55)) none, XOper.mk (some 57) (XOp.bin BinOp.eql (XO.t 56) (XO.k (AV.int IntKind.i64 (Int.ofNat 0)))) none, XOper.mk (some 2) (XOp.mv (XO.t 53)) none, XOper.mk (some 3) (XOp.mv (XO.t 54)) none, XOper.mk (some 4) (XOp.mv (XO.t 57)) none]).seq XCode.ret)))))) := by
    rw [← hB]; rfl
  rw [hc]
  have hr : L21.res = [XRes.t 2, XRes.t 3, XRes.t 4] := rfl
  rw [hr]
  clear hc hr
  refine W.seqN ?_
  refine W.rg 3 rfl (fun H1 hg1 hn1 => ?_)
  refine WO.op (by simp only [xval, xop, AR.ofV, St.ev, Tr.get_set, get_bump, next_bump, next_set, next_add, AHeap.get_set, reduceIte, Nat.reduceEqDiff, evL, evParts, fillA, AV.cells, natA, binA, intCmpA, unA, minA, maxA]; rfl) ?_
  refine WO.op (by simp only [xval, xop, AR.ofV, St.ev, Tr.get_set, get_bump, next_bump, next_set, next_add, AHeap.get_set, reduceIte, Nat.reduceEqDiff, evL, evParts, fillA, AV.cells, natA, binA, intCmpA, unA, minA, maxA]; rfl) ?_
  refine WO.op (by simp only [xval, xop, AR.ofV, St.ev, Tr.get_set, get_bump, next_bump, next_set, next_add, AHeap.get_set, reduceIte, Nat.reduceEqDiff, evL, evParts, fillA, AV.cells, natA, binA, intCmpA, unA, minA, maxA]; rfl) ?_
  refine WO.nil ⟨rfl, W.seqN ?_⟩
  refine W.rg 1 rfl (fun H2 hg2 hn2 => ?_)
  refine WO.op (by simp only [xval, xop, AR.ofV, St.ev, Tr.get_set, get_bump, next_bump, next_set, next_add, AHeap.get_set, reduceIte, Nat.reduceEqDiff, evL, evParts, fillA, AV.cells, natA, binA, intCmpA, unA, minA, maxA]; rfl) ?_
  refine WO.nil ⟨rfl, W.seqN ?_⟩
  refine W.rg 1 rfl (fun H3 hg3 hn3 => ?_)
  refine WO.op (by simp only [xval, xop, AR.ofV, St.ev, Tr.get_set, get_bump, next_bump, next_set, next_add, AHeap.get_set, reduceIte, Nat.reduceEqDiff, evL, evParts, fillA, AV.cells, natA, binA, intCmpA, unA, minA, maxA]; rfl) ?_
  refine WO.nil ⟨rfl, W.seqN ?_⟩
  refine W.rg 1 rfl (fun H4 hg4 hn4 => ?_)
  refine WO.op (by simp only [xval, xop, AR.ofV, St.ev, Tr.get_set, get_bump, next_bump, next_set, next_add, AHeap.get_set, reduceIte, Nat.reduceEqDiff, evL, evParts, fillA, AV.cells, natA, binA, intCmpA, unA, minA, maxA]; rfl) ?_
  refine WO.nil ⟨rfl, W.seq (W.seqN ?_)⟩
  have a0 : (argsT [AV.str b] 0 .e).get 0 = some (.str b) := rfl
  refine W.rg 3 rfl (fun H5 hg5 hn5 => ?_)
  refine WO.op (by simp only [xval, xop, AR.ofV, St.ev, Tr.get_set, get_bump, next_bump, next_set, next_add, AHeap.get_set, reduceIte, Nat.reduceEqDiff, evL, evParts, fillA, AV.cells, natA, binA, intCmpA, unA, minA, maxA, a0]; rfl) ?_
  refine WO.op (by simp only [xval, xop, AR.ofV, St.ev, Tr.get_set, get_bump, next_bump, next_set, next_add, AHeap.get_set, reduceIte, Nat.reduceEqDiff, evL, evParts, fillA, AV.cells, natA, binA, intCmpA, unA, minA, maxA, a0]; rfl) ?_
  refine WO.op (by simp only [xval, xop, AR.ofV, St.ev, Tr.get_set, get_bump, next_bump, next_set, next_add, AHeap.get_set, reduceIte, Nat.reduceEqDiff, evL, evParts, fillA, AV.cells, natA, binA, intCmpA, unA, minA, maxA, a0]; rfl) ?_
  refine WO.nil ⟨rfl, W.block (W.loop (α := List UInt8 × Nat × List Nat × List (Nat × Nat) × Nat) (fun x s => LI H0 b x.1 x.2.1 x.2.2.1 x.2.2.2.1 x.2.2.2.2 s ∧ scanL x.1 x.2.1 x.2.2.1 x.2.2.2.1 x.2.2.2.2 = scanL b 0 [] [] 0) (fun x => x.1.length) (b, 0, [], [], 0) ⟨?_, rfl⟩ (by show b.length < 2000; omega) ?_)⟩
  · refine ⟨rfl, by simp, Nat.le_refl _, Nat.le_refl _, ?_, ?_, ?_, ?_, ⟨.nils, .nils, ?_, ?_, Row.nil _ _, Row.nil _ _, fun j hj => (by cases hj), fun j hj => (by cases hj)⟩, by show H0.next ≤ H5.next; omega, fun j hj => by show H5.get j = _; rw [hg5, hg4, hg3, hg2, hg1]⟩
    · simp only [Tr.get_set, get_bump, next_bump, next_set, next_add, AHeap.get_set, reduceIte, Nat.reduceEqDiff]; exact a0
    · simp only [Tr.get_set, get_bump, next_bump, next_set, next_add, AHeap.get_set, reduceIte, Nat.reduceEqDiff]; rfl
    · simp only [Tr.get_set, get_bump, next_bump, next_set, next_add, AHeap.get_set, reduceIte, Nat.reduceEqDiff]; rfl
    · simp only [Tr.get_set, get_bump, next_bump, next_set, next_add, AHeap.get_set, reduceIte, Nat.reduceEqDiff]; rfl
    · simp only [Tr.get_set, get_bump, next_bump, next_set, next_add, AHeap.get_set, reduceIte, Nat.reduceEqDiff]
    · simp only [Tr.get_set, get_bump, next_bump, next_set, next_add, AHeap.get_set, reduceIte, Nat.reduceEqDiff]
  · rintro ⟨r, i, op, out, d⟩ s ⟨hI, hsc⟩
    refine (hbody r i op out d s hI).mono ?_
    rintro e s' ⟨q1, q2⟩
    refine ⟨fun he => ?_, fun he => ?_⟩
    · obtain ⟨x, r', i', op', out', d', e1, e2, e3⟩ := q1 he
      exact ⟨(r', i', op', out', d'), ⟨e3, e2.symm.trans hsc⟩, by show r'.length < r.length; rw [e1]; simp⟩
    · rcases q2 he with ⟨rfl, rfl, hI'⟩ | ⟨rfl, hnone, z2, z3, z4, z5, z6⟩
      · refine bX (pN ?_)
        obtain ⟨hrest, hle, hopl, houtl, t0, t10, t11, t7, ⟨v5, v6, t5, t6, R5, R6, hd5, hd6⟩, nx, fr⟩ := hI'
        obtain ⟨tm, H⟩ := s'
        simp only at t0 t10 t11 t7 t5 t6 R5 R6 nx fr hsc
        have hscan : scanL b 0 [] [] 0 = some (op, out, d) := hsc.symm
        obtain ⟨hnd, hbd⟩ := scanL_inv b 0 [] [] 0 op out d hscan (fun a ha => by cases ha) (fun p hp => by cases hp) (by simp)
        have hle' : i = b.length := by simpa using hle
        refine W.seqN ?_
        refine W.rg 2 rfl (fun H6 hg6 hn6 => ?_)
        refine WO.op (by simp only [xval, xop, AR.ofV, St.ev, Tr.get_set, get_bump, next_bump, next_set, next_add, AHeap.get_set, reduceIte, Nat.reduceEqDiff, evL, evParts, fillA, AV.cells, natA, binA, intCmpA, unA, minA, maxA, t5]; rfl) ?_
        obtain ⟨H7, hcall, R7, hn7, hg7⟩ := sort_call (R5.frame (H' := H6) (by omega) (fun j _ => hg6 j)) hnd (fun p hp => by have := hbd p hp; omega) (by omega)
        refine WO.op (op_call (v := .tup []) (H1 := H7) (by simp only [St.ev, ↓Tr.get_set, ↓reduceIte, Nat.reduceEqDiff]) (l := [v5, .fn 34 []]) (by simp only [evL, St.ev, Tr.get_set, get_bump, next_bump, next_set, next_add, AHeap.get_set, reduceIte, Nat.reduceEqDiff]; rfl) hcall) ?_
        refine WO.nil ⟨rfl, W.seqN ?_⟩
        refine W.rg 8 rfl (fun H8 hg8 hn8 => ?_)
        refine WO.op (by simp only [xval, xop, AR.ofV, St.ev, Tr.get_set, get_bump, next_bump, next_set, next_add, AHeap.get_set, reduceIte, Nat.reduceEqDiff, evL, evParts, fillA, AV.cells, natA, binA, intCmpA, unA, minA, maxA, t5, t6, t7]; rfl) ?_
        refine WO.op (by simp only [xval, xop, AR.ofV, St.ev, Tr.get_set, get_bump, next_bump, next_set, next_add, AHeap.get_set, reduceIte, Nat.reduceEqDiff, evL, evParts, fillA, AV.cells, natA, binA, intCmpA, unA, minA, maxA, t5, t6, t7]; rfl) ?_
        refine WO.op (by simp only [xval, xop, AR.ofV, St.ev, Tr.get_set, get_bump, next_bump, next_set, next_add, AHeap.get_set, reduceIte, Nat.reduceEqDiff, evL, evParts, fillA, AV.cells, natA, binA, intCmpA, unA, minA, maxA, t5, t6, t7]; rfl) ?_
        have R6' : Row 1 H8 v6 op.length (op.map natA) := R6.frame (by omega) (fun j hj => by rw [hg8, hg7 j (fun q => (hd5 j q).1 hj), hg6])
        refine WO.op (op_len R6' (by simp only [St.ev, ↓Tr.get_set, ↓reduceIte, Nat.reduceEqDiff, t6])) ?_
        refine WO.op (by simp only [xval, xop, AR.ofV, St.ev, Tr.get_set, get_bump, next_bump, next_set, next_add, AHeap.get_set, reduceIte, Nat.reduceEqDiff, evL, evParts, fillA, AV.cells, natA, binA, intCmpA, unA, minA, maxA, Int.ofNat_eq_natCast]; rfl) ?_
        refine WO.op (by simp only [xval, xop, AR.ofV, St.ev, Tr.get_set, get_bump, next_bump, next_set, next_add, AHeap.get_set, reduceIte, Nat.reduceEqDiff, evL, evParts, fillA, AV.cells, natA, binA, intCmpA, unA, minA, maxA, t5]; rfl) ?_
        refine WO.op (by simp only [xval, xop, AR.ofV, St.ev, Tr.get_set, get_bump, next_bump, next_set, next_add, AHeap.get_set, reduceIte, Nat.reduceEqDiff, evL, evParts, fillA, AV.cells, natA, binA, intCmpA, unA, minA, maxA, t7]; rfl) ?_
        refine WO.op (by simp only [xval, xop, AR.ofV, St.ev, Tr.get_set, get_bump, next_bump, next_set, next_add, AHeap.get_set, reduceIte, Nat.reduceEqDiff, evL, evParts, fillA, AV.cells, natA, binA, intCmpA, unA, minA, maxA]; rfl) ?_
        refine WO.nil ⟨rfl, W.ret ⟨fun id q => (by cases q), _, by simp only [resL, resA, Tr.get_set, get_bump, next_bump, next_set, next_add, AHeap.get_set, reduceIte, Nat.reduceEqDiff]; rfl, ⟨by show H0.next ≤ H8.next; omega, fun j hj => ?_⟩, ?_⟩⟩
        · show H8.get j = _
          rw [hg8, hg7 j (fun q => by have := (hd5 j q).2; omega), hg6, fr j hj]
        · rw [hscan]
          refine ⟨v5, ?_, R7.frame (by show H7.next ≤ H8.next; omega) (fun j _ => hg8 j), fun j hj => (hd5 j hj).2⟩
          simp only [wrapL, AV.tup.injEq, List.cons.injEq, and_true, true_and, AV.bool.injEq]
          refine ⟨?_, ?_⟩
          · simp only [natA]
          · rw [Bool.eq_iff_iff, beq_iff_eq, beq_iff_eq]; omega
      · refine bR (pR ⟨fun id q => (by cases q), _, by simp only [resL, resA, z2, z3, z4]; rfl, ⟨z5, z6⟩, ?_⟩)
        rw [← hsc, hnone]
        rfl
end Go.Proofs.YtfcgofffalmdfaaDoor.PA
namespace Go.Proofs.YtfcgofffalmdfaaDoor.PA
open Go Go.Eng
def ropeA (s : List UInt8) (rl : List Bool) (gap : Int) (k f : AV) : List AV := .str s :: (rl.map AV.bool ++ [.int .i64 gap, k, f])
theorem ropeA_gap {s : List UInt8} {rl : List Bool} {gap : Int} {k f : AV} (h : rl.length = 16) : ((ropeA s rl gap k f).drop 17)[0]? = some (.int .i64 gap) := by
  rw [List.getElem?_drop]
  show (rl.map AV.bool ++ [.int .i64 gap, k, f])[16]? = _
  rw [List.getElem?_append_right (by simp [h])]
  simp [h]
theorem ropeA_str {s : List UInt8} {rl : List Bool} {gap : Int} {k f : AV} : ((ropeA s rl gap k f).drop 0)[0]? = some (.str s) := rfl
theorem ropeA_rule {s : List UInt8} {rl : List Bool} {gap : Int} {k f : AV} {j : Nat} {v : Bool} (h : rl[j]? = some v) : ((ropeA s rl gap k f).drop (1 + j))[0]? = some (.bool v) := by
  rw [List.getElem?_drop, show 1 + j + 0 = j + 1 by omega]
  show (rl.map AV.bool ++ [.int .i64 gap, k, f])[j]? = _
  have hj : j < rl.length := by
    rcases Nat.lt_or_ge j rl.length with q | q
    · exact q
    · rw [List.getElem?_eq_none q] at h; cases h
  rw [List.getElem?_append_left (by simpa using hj), List.getElem?_map, h]
  rfl
def inS' (b : UInt8) : Bool := decide (97 ≤ b.toNat) && decide (b.toNat ≤ 100)
def ruleOf (rl : List Bool) (a b : UInt8) : Bool := rl.getD ((a.toNat - 97) * 4 + (b.toNat - 97)) false
def mayF (s : List UInt8) (rl : List Bool) (gap : Int) (i j : Nat) : Bool := decide ((j : Int) - (i : Int) > gap) && ruleOf rl (s.getD i 97) (s.getD j 97)
set_option maxHeartbeats 4000000 in
theorem may_ok {cf : CF} {fuel : Nat} {H : AHeap} {R : Nat} {s : List UInt8} {rl : List Bool} {gap : Int} {k f : AV} (hR : H.get R = some (.cells (ropeA s rl gap k f) none)) (hrl : rl.length = 16) (hs : s.all inS' = true) (hsl : s.length ≤ 1000) {i j : Nat} (hi : i < s.length) (hj : j < s.length) :
    ∃ v H', xfunc cf fuel L43 [.ptr R 0, natA i, natA j] H = some (v, H') ∧ v = .bool (mayF s rl gap i j) ∧ Same H H' := by
  refine xfunc_of rfl (by show 3 ≤ 37; omega) ?_
  have a0 : (argsT [.ptr R 0, natA i, natA j] 0 .e).get 0 = some (.ptr R 0) := rfl
  have a1 : (argsT [.ptr R 0, natA i, natA j] 0 .e).get 1 = some (natA i) := rfl
  have a2 : (argsT [.ptr R 0, natA i, natA j] 0 .e).get 2 = some (natA j) := rfl
  generalize argsT [.ptr R 0, natA i, natA j] 0 .e = tm at a0 a1 a2
  obtain ⟨a, ha⟩ : ∃ a, s[i]? = some a := ⟨_, List.getElem?_eq_getElem hi⟩
  obtain ⟨b, hb⟩ : ∃ b, s[j]? = some b := ⟨_, List.getElem?_eq_getElem hj⟩
  have hsa : 97 ≤ a.toNat ∧ a.toNat ≤ 100 := by
    have := List.all_eq_true.1 hs a (List.mem_of_getElem? ha)
    simpa [inS'] using this
  have hsb : 97 ≤ b.toNat ∧ b.toNat ≤ 100 := by
    have := List.all_eq_true.1 hs b (List.mem_of_getElem? hb)
    simpa [inS'] using this
  have wa : wrapA .u8 ((a.toNat : Int) - Int.ofNat 97) = ((a.toNat - 97 : Nat) : Int) := by
    show wrapA .u8 ((a.toNat : Int) - 97) = _
    simp only [wrapA, IntKind.wrap, IntKind.bits, IntKind.signed]; simp; omega
  have wb : wrapA .u8 ((b.toNat : Int) - Int.ofNat 97) = ((b.toNat - 97 : Nat) : Int) := by
    show wrapA .u8 ((b.toNat : Int) - 97) = _
    simp only [wrapA, IntKind.wrap, IntKind.bits, IntKind.signed]; simp; omega
  have wd : wrapA .i64 ((j : Int) - (i : Int)) = (j : Int) - (i : Int) := wrapI _ (by omega) (by omega)
  have ia : idxOk ((a.toNat - 97 : Nat) : Int) 4 = true := idxOk_lt (by omega)
  have ib : idxOk ((b.toNat - 97 : Nat) : Int) 4 = true := idxOk_lt (by omega)
  have is1 : idxOk (i : Int) s.length = true := idxOk_lt hi
  have is2 : idxOk (j : Int) s.length = true := idxOk_lt hj
  have g17 := ropeA_gap (s := s) (gap := gap) (k := k) (f := f) hrl
  have hmay : mayF s rl gap i j = (decide ((j : Int) - (i : Int) > gap) && ruleOf rl a b) := by
    simp only [mayF, List.getD_eq_getElem?_getD, ha, hb, Option.getD_some]
  rw [hmay]
  unfold L43
  dsimp only
  by_cases hc : (j : Int) - (i : Int) > gap
  · have hd : decide ((j : Int) - (i : Int) > gap) = true := decide_eq_true hc
    have hrule : rl[(a.toNat - 97) * 4 + (b.toNat - 97)]? = some (ruleOf rl a b) := by
      rw [List.getElem?_eq_getElem (by rw [hrl]; omega)]
      simp [ruleOf, List.getD_eq_getElem?_getD, List.getElem?_eq_getElem (show (a.toNat - 97) * 4 + (b.toNat - 97) < rl.length by rw [hrl]; omega)]
    have hload : ∀ (H1 : AHeap) (o : Nat), H1.get R = H.get R → o = 1 + ((a.toNat - 97) * 4 + (b.toNat - 97)) → loadA H1 none (.ptr R o) = some (.bool (ruleOf rl a b)) := by
      intro H1 o h1 h2
      subst h2
      simp only [loadA, cellsAt, h1, hR]
      exact ropeA_rule hrule
    repeat (first | refine W.seq ?_ | (apply W.reg; · (simp only [List.length_cons, List.length_nil, Nat.reduceAdd]; rfl)) | (apply W.regd0; · (simp only [List.length_cons, List.length_nil, Nat.reduceAdd]; rfl)) | refine WO.nil ?_ | (apply WO.op; · first | exact op_mv (by simp only [St.ev, ↓Tr.get_set, ↓reduceIte, Nat.reduceEqDiff, natA, a0, a1, a2, hR, g17, hd, wd, ropeA_str, ha, hb, wa, wb, is1, is2, Int.toNat_natCast, Option.map_some, ia, ib]; rfl) | exact op_bin (by simp only [St.ev, ↓Tr.get_set, ↓reduceIte, Nat.reduceEqDiff, natA, a0, a1, a2, hR, g17, hd, wd, ropeA_str, ha, hb, wa, wb, is1, is2, Int.toNat_natCast, Option.map_some, ia, ib]; rfl) (by simp only [St.ev, ↓Tr.get_set, ↓reduceIte, Nat.reduceEqDiff, natA, a0, a1, a2, hR, g17, hd, wd, ropeA_str, ha, hb, wa, wb, is1, is2, Int.toNat_natCast, Option.map_some, ia, ib]; rfl) (by simp only [binA, intCmpA, strA, natA, a0, a1, a2, hR, g17, hd, wd, ropeA_str, ha, hb, wa, wb, is1, is2, Int.toNat_natCast, Option.map_some, ia, ib]; rfl) | exact op_faddr (by simp only [St.ev, ↓Tr.get_set, ↓reduceIte, Nat.reduceEqDiff, natA, a0, a1, a2, hR, g17, hd, wd, ropeA_str, ha, hb, wa, wb, is1, is2, Int.toNat_natCast, Option.map_some, ia, ib]; rfl) | exact op_nilc (by simp only [St.ev, ↓Tr.get_set, ↓reduceIte, Nat.reduceEqDiff, natA, a0, a1, a2, hR, g17, hd, wd, ropeA_str, ha, hb, wa, wb, is1, is2, Int.toNat_natCast, Option.map_some, ia, ib]; rfl) | (simp only [xval, xop, AR.ofV, St.ev, Tr.get_set, get_bump, next_bump, next_set, next_add, AHeap.get_set, reduceIte, Nat.reduceEqDiff, evL, evParts, fillA, AV.cells, natA, binA, intCmpA, unA, minA, maxA, Nat.add_assoc, Nat.reduceAdd, Nat.add_left_cancel_iff, Nat.add_eq_left, Nat.left_eq_add, loadA, cellsAt, storeA, Option.bind_some, iaddrA, aaddrA, a0, a1, a2, hR, g17, hd, wd, ropeA_str, ha, hb, wa, wb, is1, is2, Int.toNat_natCast, Option.map_some, ia, ib]; rfl)) | (apply WO.gop'; (· (simp only [St.ev, ↓Tr.get_set, ↓reduceIte, Nat.reduceEqDiff, natA, a0, a1, a2, hR, g17, hd, wd, ropeA_str, ha, hb, wa, wb, is1, is2, Int.toNat_natCast, Option.map_some, ia, ib]; rfl)); (· rfl); (· first | exact op_mv (by simp only [St.ev, ↓Tr.get_set, ↓reduceIte, Nat.reduceEqDiff, natA, a0, a1, a2, hR, g17, hd, wd, ropeA_str, ha, hb, wa, wb, is1, is2, Int.toNat_natCast, Option.map_some, ia, ib]; rfl) | exact op_bin (by simp only [St.ev, ↓Tr.get_set, ↓reduceIte, Nat.reduceEqDiff, natA, a0, a1, a2, hR, g17, hd, wd, ropeA_str, ha, hb, wa, wb, is1, is2, Int.toNat_natCast, Option.map_some, ia, ib]; rfl) (by simp only [St.ev, ↓Tr.get_set, ↓reduceIte, Nat.reduceEqDiff, natA, a0, a1, a2, hR, g17, hd, wd, ropeA_str, ha, hb, wa, wb, is1, is2, Int.toNat_natCast, Option.map_some, ia, ib]; rfl) (by simp only [binA, intCmpA, strA, natA, a0, a1, a2, hR, g17, hd, wd, ropeA_str, ha, hb, wa, wb, is1, is2, Int.toNat_natCast, Option.map_some, ia, ib]; rfl) | exact op_faddr (by simp only [St.ev, ↓Tr.get_set, ↓reduceIte, Nat.reduceEqDiff, natA, a0, a1, a2, hR, g17, hd, wd, ropeA_str, ha, hb, wa, wb, is1, is2, Int.toNat_natCast, Option.map_some, ia, ib]; rfl) | exact op_nilc (by simp only [St.ev, ↓Tr.get_set, ↓reduceIte, Nat.reduceEqDiff, natA, a0, a1, a2, hR, g17, hd, wd, ropeA_str, ha, hb, wa, wb, is1, is2, Int.toNat_natCast, Option.map_some, ia, ib]; rfl) | (simp only [xval, xop, AR.ofV, St.ev, Tr.get_set, get_bump, next_bump, next_set, next_add, AHeap.get_set, reduceIte, Nat.reduceEqDiff, evL, evParts, fillA, AV.cells, natA, binA, intCmpA, unA, minA, maxA, Nat.add_assoc, Nat.reduceAdd, Nat.add_left_cancel_iff, Nat.add_eq_left, Nat.left_eq_add, loadA, cellsAt, storeA, Option.bind_some, iaddrA, aaddrA, a0, a1, a2, hR, g17, hd, wd, ropeA_str, ha, hb, wa, wb, is1, is2, Int.toNat_natCast, Option.map_some, ia, ib]; rfl))) | refine pN ?_ | fail)
    refine WO.gop' (by simp only [Tr.get_set, get_bump, next_bump, next_set, next_add, AHeap.get_set, reduceIte, Nat.reduceEqDiff]; rfl) (by rfl) (op_load (by simp only [St.ev, Tr.get_set, get_bump, next_bump, next_set, next_add, AHeap.get_set, reduceIte, Nat.reduceEqDiff]; rfl) (hload _ _ rfl (by omega))) ?_
    repeat (first | refine W.ret ?_ | refine WO.nil ?_ | (apply WO.op; · first | exact op_mv (by simp only [St.ev, ↓Tr.get_set, ↓reduceIte, Nat.reduceEqDiff, natA]; rfl) | exact op_pick (by simp only [St.ev, ↓Tr.get_set, ↓reduceIte, Nat.reduceEqDiff, natA]; rfl) (by first | exact .inl ⟨rfl, (by simp only [St.ev, ↓Tr.get_set, ↓reduceIte, Nat.reduceEqDiff, natA]; rfl)⟩ | exact .inr ⟨rfl, (by simp only [St.ev, ↓Tr.get_set, ↓reduceIte, Nat.reduceEqDiff, natA]; rfl)⟩)) | refine pN ?_ | fail)
    exact ⟨fun id q => (by cases q), _, by simp only [resL, resA, Tr.get_set, get_bump, next_bump, next_set, next_add, AHeap.get_set, reduceIte, Nat.reduceEqDiff]; rfl, by simp only [wrapL, hd, Bool.true_and], (Same.bump _ _).trans (Same.bump _ _)⟩
  · have hd : decide ((j : Int) - (i : Int) > gap) = false := decide_eq_false hc
    repeat (first | refine W.seq ?_ | refine W.ret ?_ | (apply W.reg; · (simp only [List.length_cons, List.length_nil, Nat.reduceAdd]; rfl)) | (apply W.regd0; · (simp only [List.length_cons, List.length_nil, Nat.reduceAdd]; rfl)) | refine WO.nil ?_ | (apply WO.op; · first | exact op_mv (by simp only [St.ev, ↓Tr.get_set, ↓reduceIte, Nat.reduceEqDiff, natA, a0, a1, a2, hR, g17, hd, wd]; rfl) | exact op_bin (by simp only [St.ev, ↓Tr.get_set, ↓reduceIte, Nat.reduceEqDiff, natA, a0, a1, a2, hR, g17, hd, wd]; rfl) (by simp only [St.ev, ↓Tr.get_set, ↓reduceIte, Nat.reduceEqDiff, natA, a0, a1, a2, hR, g17, hd, wd]; rfl) (by simp only [binA, intCmpA, strA, natA, a0, a1, a2, hR, g17, hd, wd]; rfl) | exact op_faddr (by simp only [St.ev, ↓Tr.get_set, ↓reduceIte, Nat.reduceEqDiff, natA, a0, a1, a2, hR, g17, hd, wd]; rfl) | exact op_nilc (by simp only [St.ev, ↓Tr.get_set, ↓reduceIte, Nat.reduceEqDiff, natA, a0, a1, a2, hR, g17, hd, wd]; rfl) | exact op_pick (by simp only [St.ev, ↓Tr.get_set, ↓reduceIte, Nat.reduceEqDiff, natA, a0, a1, a2, hR, g17, hd, wd]; rfl) (by first | exact .inl ⟨rfl, (by simp only [St.ev, ↓Tr.get_set, ↓reduceIte, Nat.reduceEqDiff, natA, a0, a1, a2, hR, g17, hd, wd]; rfl)⟩ | exact .inr ⟨rfl, (by simp only [St.ev, ↓Tr.get_set, ↓reduceIte, Nat.reduceEqDiff, natA, a0, a1, a2, hR, g17, hd, wd]; rfl)⟩) | (simp only [xval, xop, AR.ofV, St.ev, Tr.get_set, get_bump, next_bump, next_set, next_add, AHeap.get_set, reduceIte, Nat.reduceEqDiff, evL, evParts, fillA, AV.cells, natA, binA, intCmpA, unA, minA, maxA, Nat.add_assoc, Nat.reduceAdd, Nat.add_left_cancel_iff, Nat.add_eq_left, Nat.left_eq_add, loadA, cellsAt, storeA, Option.bind_some, iaddrA, aaddrA, a0, a1, a2, hR, g17, hd, wd]; rfl)) | (apply WO.gno'; (· (simp only [St.ev, ↓Tr.get_set, ↓reduceIte, Nat.reduceEqDiff, natA, a0, a1, a2, hR, g17, hd, wd]; rfl)); (· rfl)) | refine pN ?_ | fail)
    exact ⟨fun id q => (by cases q), _, by simp only [resL, resA, Tr.get_set, get_bump, next_bump, next_set, next_add, AHeap.get_set, reduceIte, Nat.reduceEqDiff]; rfl, by simp only [wrapL, hd, Bool.false_and], (Same.bump _ _).trans (Same.bump _ _)⟩
end Go.Proofs.YtfcgofffalmdfaaDoor.PA
namespace Go.Proofs.YtfcgofffalmdfaaDoor.PA
open Go Go.Eng
theorem loops_call {H0 : AHeap} {b : List UInt8} (hb : b.length ≤ 1000) : ∃ v H', xcallK K0 F 2000 41 21 [.str b] H0 = some (v, H') ∧ LoopsQ H0 b v H' := by
  obtain ⟨v, H', h, q⟩ := loops_ok (H0 := H0) hb
  refine ⟨v, H', ?_, q⟩
  rw [show (41 : Nat) = 40 + 1 from rfl]
  unfold xcallK
  exact h
theorem K0_ok : ∀ k, CFok Tryd.prog (xcallK K0 F 2000 k) := xcallK_sound (by kernel_rfl) Tryd.sortK_ok F_ok 2000
end Go.Proofs.YtfcgofffalmdfaaDoor.PA
namespace Go.Proofs.YtfcgofffalmdfaaDoor.PA
open Go Go.Eng
def byteA (b : UInt8) : AV := .int .u8 b.toNat
def inS (b : UInt8) : Bool := decide (97 ≤ b.toNat) && decide (b.toNat ≤ 100)
def setA : List AV := (List.range 256).map fun i => .bool (decide (97 ≤ i) && decide (i ≤ 100))
theorem setA_get (b : UInt8) : setA[b.toNat]? = some (.bool (inS b)) := by
  have h : b.toNat < 256 := b.toNat_lt
  simp only [setA, List.getElem?_map, List.getElem?_range h, Option.map_some, inS]
theorem contains_ok {cf : CF} {fuel : Nat} {H : AHeap} {A : Nat} (hA : H.get A = some (.cells setA none)) (b : UInt8) : ∃ H', xfunc cf fuel L82 [.ptr A 0, byteA b] H = some (.bool (inS b), H') ∧ Same H H' := by
  have key : ∃ v H', xfunc cf fuel L82 [.ptr A 0, byteA b] H = some (v, H') ∧ v = .bool (inS b) ∧ Same H H' := by
    refine xfunc_of rfl (by show 2 ≤ 10; omega) ?_
    have a0 : (argsT [.ptr A 0, byteA b] 0 .e).get 0 = some (.ptr A 0) := rfl
    have a1 : (argsT [.ptr A 0, byteA b] 0 .e).get 1 = some (byteA b) := rfl
    generalize argsT [.ptr A 0, byteA b] 0 .e = tm at a0 a1
    have hb : idxOk (b.toNat : Int) 256 = true := idxOk_lt b.toNat_lt
    have hl : loadA ((H.bump 1).bump 6) none (.ptr A (0 + b.toNat * 1)) = some (.bool (inS b)) := by
      simp only [loadA, cellsAt, get_bump, hA, Nat.zero_add, Nat.mul_one, List.getElem?_drop, Nat.add_zero]
      exact setA_get b
    unfold L82
    dsimp only
    repeat (first | refine W.seq ?_ | (apply W.reg; · (simp only [List.length_cons, List.length_nil, Nat.reduceAdd]; rfl)) | refine WO.nil ?_ | (apply WO.op; · first | exact op_mv (by simp only [St.ev, ↓Tr.get_set, ↓reduceIte, Nat.reduceEqDiff, natA, a0, a1, hb, byteA, Int.toNat_natCast, if_true]; rfl) | exact op_nilc (by simp only [St.ev, ↓Tr.get_set, ↓reduceIte, Nat.reduceEqDiff, natA, a0, a1, hb, byteA, Int.toNat_natCast, if_true]; rfl) | (simp only [xval, xop, AR.ofV, St.ev, Tr.get_set, get_bump, next_bump, next_set, next_add, AHeap.get_set, reduceIte, Nat.reduceEqDiff, evL, evParts, fillA, AV.cells, natA, binA, intCmpA, unA, minA, maxA, Nat.add_assoc, Nat.reduceAdd, Nat.add_left_cancel_iff, Nat.add_eq_left, Nat.left_eq_add, loadA, cellsAt, storeA, Option.bind_some, iaddrA, aaddrA, a0, a1, hb, byteA, Int.toNat_natCast, if_true]; rfl)) | refine pN ?_ | fail)
    refine WO.op (op_load (by simp only [St.ev, ↓Tr.get_set, ↓reduceIte, Nat.reduceEqDiff]) hl) ?_
    repeat (first | refine W.ret ?_ | refine WO.nil ?_ | (apply WO.op; · first | exact op_mv (by simp only [St.ev, ↓Tr.get_set, ↓reduceIte, Nat.reduceEqDiff, natA]; rfl)) | refine pN ?_ | fail)
    refine ⟨fun id q => (by cases q), _, by simp only [resL, resA, Tr.get_set, get_bump, next_bump, next_set, next_add, AHeap.get_set, reduceIte, Nat.reduceEqDiff] <;> rfl, rfl, (Same.bump _ _).trans (Same.bump _ _)⟩
  obtain ⟨v, H', h1, rfl, h2⟩ := key
  exact ⟨H', h1, h2⟩
def TI (H0 : AHeap) (A : Nat) (s : List UInt8) (t : List UInt8) (S : St) : Prop :=
  S.tm.get 0 = some (.str t) ∧ S.tm.get 1 = some (.ptr A 0) ∧ t.all inS = s.all inS ∧ Same H0 S.H
def TQ (s : List UInt8) (v : AV) : Prop := ∃ r, v = .str r ∧ r.all inS = s.all inS ∧ (r = [] ∨ r.all inS = false) ∧ r.length ≤ s.length
theorem trimLeft_ok {cf : CF} {fuel : Nat} {H : AHeap} {A : Nat} (hA : A < H.next) (hf : ∀ H1, Same H H1 → ∀ b, ∃ H2, cf 82 [.ptr A 0, byteA b] H1 = some (.bool (inS b), H2) ∧ Same H1 H2) (s : List UInt8) (hs : s.length < fuel) (hs2 : s.length ≤ 1000) :
    ∃ v H', xfunc cf fuel L62 [.str s, .ptr A 0] H = some (v, H') ∧ TQ s v ∧ Same H H' := by
  refine xfunc_of rfl (by show 2 ≤ 16; omega) ?_
  have a0 : (argsT [.str s, .ptr A 0] 0 .e).get 0 = some (.str s) := rfl
  have a1 : (argsT [.str s, .ptr A 0] 0 .e).get 1 = some (.ptr A 0) := rfl
  generalize argsT [.str s, .ptr A 0] 0 .e = tm at a0 a1
  unfold L62
  dsimp only
  refine W.seq ?_
  refine W.reg 1 rfl ?_
  refine WO.op (by simp only [xval, xop, AR.ofV, St.ev, Tr.get_set, get_bump, next_bump, next_set, next_add, AHeap.get_set, reduceIte, Nat.reduceEqDiff, evL, evParts, fillA, AV.cells, natA, binA, intCmpA, unA, minA, maxA]; rfl) ?_
  refine WO.nil (pN (W.seq (W.block ?_)))
  refine W.loop (α := List UInt8) (fun t S => TI H A s t S ∧ t.length ≤ s.length) (fun t => t.length) s ⟨⟨by simp only [Tr.get_set, get_bump, next_bump, next_set, next_add, AHeap.get_set, reduceIte, Nat.reduceEqDiff]; exact a0, by simp only [Tr.get_set, get_bump, next_bump, next_set, next_add, AHeap.get_set, reduceIte, Nat.reduceEqDiff]; exact a1, rfl, Same.bump _ _⟩, Nat.le_refl _⟩ hs ?_
  rintro t ⟨tm1, H1⟩ ⟨⟨t0, t1, tall, tsame⟩, tle⟩
  simp only at t0 t1 tsame
  refine W.seq (W.seq ?_)
  cases t with
  | nil =>
    repeat (first | refine W.seq ?_ | refine W.ret ?_ | refine W.exit ?_ | (apply W.reg; · (simp only [List.length_cons, List.length_nil, Nat.reduceAdd]; rfl)) | refine WO.nil ?_ | (apply WO.op; · first | exact op_mv (by simp only [St.ev, ↓Tr.get_set, ↓reduceIte, Nat.reduceEqDiff, natA, t0, List.length_nil]; rfl) | exact op_bin (by simp only [St.ev, ↓Tr.get_set, ↓reduceIte, Nat.reduceEqDiff, natA, t0, List.length_nil]; rfl) (by simp only [St.ev, ↓Tr.get_set, ↓reduceIte, Nat.reduceEqDiff, natA, t0, List.length_nil]; rfl) (by simp only [binA, intCmpA, strA, natA, t0, List.length_nil]; rfl) | exact op_slen (by simp only [St.ev, ↓Tr.get_set, ↓reduceIte, Nat.reduceEqDiff, natA, t0, List.length_nil]; rfl)) | refine pN ?_ | refine pX ?_ | refine bX ?_ | (apply W.condF'; (· (simp only [St.ev, ↓Tr.get_set, ↓reduceIte, Nat.reduceEqDiff, natA, t0, List.length_nil]; rfl)); (· rfl)) | fail)
    exact ⟨fun id q => (by cases q), _, by simp only [resL, resA, Tr.get_set, get_bump, next_bump, next_set, next_add, AHeap.get_set, reduceIte, Nat.reduceEqDiff] <;> rfl, ⟨[], rfl, tall, .inl rfl, Nat.zero_le _⟩, tsame.trans ((Same.bump _ _).trans (Same.bump _ _))⟩
  | cons b t =>
    have c : decide (((b :: t).length : Int) > Int.ofNat 0) = true := by rw [Int.ofNat_eq_natCast, decide_eq_true_eq]; simp
    have hi : idxOk (Int.ofNat 0) (b :: t).length = true := idxOk_lt (i := 0) (by simp)
    repeat (first | refine W.seq ?_ | refine W.block ?_ | refine W.skip ?_ | (apply W.reg; · (simp only [List.length_cons, List.length_nil, Nat.reduceAdd]; rfl)) | refine WO.nil ?_ | (apply WO.op; · first | exact op_mv (by simp only [St.ev, ↓Tr.get_set, ↓reduceIte, Nat.reduceEqDiff, natA, t0, t1, c, hi]; rfl) | exact op_bin (by simp only [St.ev, ↓Tr.get_set, ↓reduceIte, Nat.reduceEqDiff, natA, t0, t1, c, hi]; rfl) (by simp only [St.ev, ↓Tr.get_set, ↓reduceIte, Nat.reduceEqDiff, natA, t0, t1, c, hi]; rfl) (by simp only [binA, intCmpA, strA, natA, t0, t1, c, hi]; rfl) | exact op_slen (by simp only [St.ev, ↓Tr.get_set, ↓reduceIte, Nat.reduceEqDiff, natA, t0, t1, c, hi]; rfl) | (simp only [xval, xop, AR.ofV, St.ev, Tr.get_set, get_bump, next_bump, next_set, next_add, AHeap.get_set, reduceIte, Nat.reduceEqDiff, evL, evParts, fillA, AV.cells, natA, binA, intCmpA, unA, minA, maxA, Nat.add_assoc, Nat.reduceAdd, Nat.add_left_cancel_iff, Nat.add_eq_left, Nat.left_eq_add, loadA, cellsAt, storeA, Option.bind_some, iaddrA, aaddrA, t0, t1, c, hi]; rfl)) | refine pN ?_ | (apply W.condT'; (· (simp only [St.ev, ↓Tr.get_set, ↓reduceIte, Nat.reduceEqDiff, natA, t0, t1, c, hi]; rfl)); (· rfl)) | fail)
    obtain ⟨H2, hc, hsame⟩ := hf _ ((tsame.trans (Same.bump _ 3)).trans (Same.bump _ 5)) b
    refine WO.op (op_call (cs := []) (l := [.ptr A 0, byteA b]) (by simp only [St.ev, ↓Tr.get_set, ↓reduceIte, Nat.reduceEqDiff]) (by simp only [evL, St.ev, Tr.get_set, get_bump, next_bump, next_set, next_add, AHeap.get_set, reduceIte, Nat.reduceEqDiff]; rfl) hc) ?_
    cases hb : inS b with
    | false =>
      repeat (first | refine W.seq ?_ | refine W.ret ?_ | refine W.exit ?_ | (apply W.reg; · (simp only [List.length_cons, List.length_nil, Nat.reduceAdd]; rfl)) | refine WO.nil ?_ | (apply WO.op; · first | exact op_mv (by simp only [St.ev, ↓Tr.get_set, ↓reduceIte, Nat.reduceEqDiff, natA, hb, Bool.not_false, t0]; rfl) | exact op_un (by simp only [St.ev, ↓Tr.get_set, ↓reduceIte, Nat.reduceEqDiff, natA, hb, Bool.not_false, t0]; rfl) (by simp only [unA, hb, Bool.not_false, t0]; rfl)) | refine pN ?_ | refine pX ?_ | refine bX ?_ | refine bO (by decide) ?_ | (apply W.condT'; (· (simp only [St.ev, ↓Tr.get_set, ↓reduceIte, Nat.reduceEqDiff, natA, hb, Bool.not_false, t0]; rfl)); (· rfl)) | fail)
      exact ⟨fun id q => (by cases q), _, by simp only [resL, resA, Tr.get_set, get_bump, next_bump, next_set, next_add, AHeap.get_set, reduceIte, Nat.reduceEqDiff, t0] <;> rfl, ⟨b :: t, rfl, tall, .inr (by simp [hb]), tle⟩, (((tsame.trans (Same.bump _ 3)).trans (Same.bump _ 5)).trans hsame).trans (Same.bump _ _)⟩
    | true =>
      repeat (first | refine W.skip ?_ | (apply W.reg; · (simp only [List.length_cons, List.length_nil, Nat.reduceAdd]; rfl)) | refine WO.nil ?_ | (apply WO.op; · first | exact op_mv (by simp only [St.ev, ↓Tr.get_set, ↓reduceIte, Nat.reduceEqDiff, natA, hb, Bool.not_true, t0]; rfl) | exact op_un (by simp only [St.ev, ↓Tr.get_set, ↓reduceIte, Nat.reduceEqDiff, natA, hb, Bool.not_true, t0]; rfl) (by simp only [unA, hb, Bool.not_true, t0]; rfl) | (simp only [xval, xop, AR.ofV, St.ev, Tr.get_set, get_bump, next_bump, next_set, next_add, AHeap.get_set, reduceIte, Nat.reduceEqDiff, evL, evParts, fillA, AV.cells, natA, binA, intCmpA, unA, minA, maxA, Nat.add_assoc, Nat.reduceAdd, Nat.add_left_cancel_iff, Nat.add_eq_left, Nat.left_eq_add, loadA, cellsAt, storeA, Option.bind_some, iaddrA, aaddrA, hb, Bool.not_true, t0]; rfl)) | refine pN ?_ | refine bN ?_ | (apply W.condF'; (· (simp only [St.ev, ↓Tr.get_set, ↓reduceIte, Nat.reduceEqDiff, natA, hb, Bool.not_true, t0]; rfl)); (· rfl)) | fail)
      refine ⟨t, ⟨⟨by simp only [Tr.get_set, get_bump, next_bump, next_set, next_add, AHeap.get_set, reduceIte, Nat.reduceEqDiff]; simp, by simp only [Tr.get_set, get_bump, next_bump, next_set, next_add, AHeap.get_set, reduceIte, Nat.reduceEqDiff]; exact t1, ?_, (((tsame.trans (Same.bump _ 3)).trans (Same.bump _ 5)).trans hsame).trans (Same.bump _ _)⟩, by simp only [List.length_cons] at tle; omega⟩, by simp⟩
      rw [← tall, List.all_cons, hb, Bool.true_and]
theorem trimRight_ok {cf : CF} {fuel : Nat} {H : AHeap} {A : Nat} (hA : A < H.next) (hf : ∀ H1, Same H H1 → ∀ b, ∃ H2, cf 82 [.ptr A 0, byteA b] H1 = some (.bool (inS b), H2) ∧ Same H1 H2) (s : List UInt8) (hs : s.length < fuel) (hs2 : s.length ≤ 1000) :
    ∃ v H', xfunc cf fuel L63 [.str s, .ptr A 0] H = some (v, H') ∧ TQ s v ∧ Same H H' := by
  refine xfunc_of rfl (by show 2 ≤ 22; omega) ?_
  have a0 : (argsT [.str s, .ptr A 0] 0 .e).get 0 = some (.str s) := rfl
  have a1 : (argsT [.str s, .ptr A 0] 0 .e).get 1 = some (.ptr A 0) := rfl
  generalize argsT [.str s, .ptr A 0] 0 .e = tm at a0 a1
  unfold L63
  dsimp only
  refine W.seq ?_
  refine W.reg 1 rfl ?_
  refine WO.op (by simp only [xval, xop, AR.ofV, St.ev, Tr.get_set, get_bump, next_bump, next_set, next_add, AHeap.get_set, reduceIte, Nat.reduceEqDiff, evL, evParts, fillA, AV.cells, natA, binA, intCmpA, unA, minA, maxA]; rfl) ?_
  refine WO.nil (pN (W.seq (W.block ?_)))
  refine W.loop (α := List UInt8) (fun t S => TI H A s t S ∧ t.length ≤ s.length) (fun t => t.length) s ⟨⟨by simp only [Tr.get_set, get_bump, next_bump, next_set, next_add, AHeap.get_set, reduceIte, Nat.reduceEqDiff]; exact a0, by simp only [Tr.get_set, get_bump, next_bump, next_set, next_add, AHeap.get_set, reduceIte, Nat.reduceEqDiff]; exact a1, rfl, Same.bump _ _⟩, Nat.le_refl _⟩ hs ?_
  rintro t ⟨tm1, H1⟩ ⟨⟨t0, t1, tall, tsame⟩, tle⟩
  simp only at t0 t1 tsame
  refine W.seq (W.seq ?_)
  rcases List.eq_nil_or_concat t with rfl | ⟨u, b, rfl⟩
  · repeat (first | refine W.seq ?_ | refine W.ret ?_ | refine W.exit ?_ | (apply W.reg; · (simp only [List.length_cons, List.length_nil, Nat.reduceAdd]; rfl)) | refine WO.nil ?_ | (apply WO.op; · first | exact op_mv (by simp only [St.ev, ↓Tr.get_set, ↓reduceIte, Nat.reduceEqDiff, natA, t0, List.length_nil]; rfl) | exact op_bin (by simp only [St.ev, ↓Tr.get_set, ↓reduceIte, Nat.reduceEqDiff, natA, t0, List.length_nil]; rfl) (by simp only [St.ev, ↓Tr.get_set, ↓reduceIte, Nat.reduceEqDiff, natA, t0, List.length_nil]; rfl) (by simp only [binA, intCmpA, strA, natA, t0, List.length_nil]; rfl) | exact op_slen (by simp only [St.ev, ↓Tr.get_set, ↓reduceIte, Nat.reduceEqDiff, natA, t0, List.length_nil]; rfl)) | refine pN ?_ | refine pX ?_ | refine bX ?_ | (apply W.condF'; (· (simp only [St.ev, ↓Tr.get_set, ↓reduceIte, Nat.reduceEqDiff, natA, t0, List.length_nil]; rfl)); (· rfl)) | fail)
    exact ⟨fun id q => (by cases q), _, by simp only [resL, resA, Tr.get_set, get_bump, next_bump, next_set, next_add, AHeap.get_set, reduceIte, Nat.reduceEqDiff] <;> rfl, ⟨[], rfl, tall, .inl rfl, Nat.zero_le _⟩, tsame.trans ((Same.bump _ _).trans (Same.bump _ _))⟩
  · rw [List.concat_eq_append] at t0 tall tle
    rw [List.concat_eq_append]
    have hlen : (u ++ [b]).length = u.length + 1 := by simp
    have c : decide (((u ++ [b]).length : Int) > Int.ofNat 0) = true := by rw [Int.ofNat_eq_natCast, decide_eq_true_eq]; omega
    have w1 : wrapA .i64 (((u ++ [b]).length : Int) - Int.ofNat 1) = ((u.length : Nat) : Int) := by
      show wrapA .i64 (((u ++ [b]).length : Int) - 1) = _
      rw [wrapI _ (by omega) (by omega)]; omega
    have hi : idxOk (u.length : Int) (u ++ [b]).length = true := idxOk_lt (by omega)
    have hub : (u ++ [b])[u.length]? = some b := by simp
    repeat (first | refine W.seq ?_ | refine W.block ?_ | refine W.skip ?_ | (apply W.reg; · (simp only [List.length_cons, List.length_nil, Nat.reduceAdd]; rfl)) | refine WO.nil ?_ | (apply WO.op; · first | exact op_mv (by simp only [St.ev, ↓Tr.get_set, ↓reduceIte, Nat.reduceEqDiff, natA, t0, t1, c, w1, hi, hub, Int.toNat_natCast, Option.map_some]; rfl) | exact op_bin (by simp only [St.ev, ↓Tr.get_set, ↓reduceIte, Nat.reduceEqDiff, natA, t0, t1, c, w1, hi, hub, Int.toNat_natCast, Option.map_some]; rfl) (by simp only [St.ev, ↓Tr.get_set, ↓reduceIte, Nat.reduceEqDiff, natA, t0, t1, c, w1, hi, hub, Int.toNat_natCast, Option.map_some]; rfl) (by simp only [binA, intCmpA, strA, natA, t0, t1, c, w1, hi, hub, Int.toNat_natCast, Option.map_some]; rfl) | exact op_slen (by simp only [St.ev, ↓Tr.get_set, ↓reduceIte, Nat.reduceEqDiff, natA, t0, t1, c, w1, hi, hub, Int.toNat_natCast, Option.map_some]; rfl) | (simp only [xval, xop, AR.ofV, St.ev, Tr.get_set, get_bump, next_bump, next_set, next_add, AHeap.get_set, reduceIte, Nat.reduceEqDiff, evL, evParts, fillA, AV.cells, natA, binA, intCmpA, unA, minA, maxA, Nat.add_assoc, Nat.reduceAdd, Nat.add_left_cancel_iff, Nat.add_eq_left, Nat.left_eq_add, loadA, cellsAt, storeA, Option.bind_some, iaddrA, aaddrA, t0, t1, c, w1, hi, hub, Int.toNat_natCast, Option.map_some]; rfl)) | refine pN ?_ | (apply W.condT'; (· (simp only [St.ev, ↓Tr.get_set, ↓reduceIte, Nat.reduceEqDiff, natA, t0, t1, c, w1, hi, hub, Int.toNat_natCast, Option.map_some]; rfl)); (· rfl)) | fail)
    obtain ⟨H2, hc, hsame⟩ := hf _ ((tsame.trans (Same.bump _ 3)).trans (Same.bump _ 8)) b
    refine WO.op (op_call (cs := []) (l := [.ptr A 0, byteA b]) (by simp only [St.ev, ↓Tr.get_set, ↓reduceIte, Nat.reduceEqDiff]) (by simp only [evL, St.ev, Tr.get_set, get_bump, next_bump, next_set, next_add, AHeap.get_set, reduceIte, Nat.reduceEqDiff]; rfl) hc) ?_
    cases hb : inS b with
    | false =>
      repeat (first | refine W.seq ?_ | refine W.ret ?_ | refine W.exit ?_ | (apply W.reg; · (simp only [List.length_cons, List.length_nil, Nat.reduceAdd]; rfl)) | refine WO.nil ?_ | (apply WO.op; · first | exact op_mv (by simp only [St.ev, ↓Tr.get_set, ↓reduceIte, Nat.reduceEqDiff, natA, hb, Bool.not_false, t0]; rfl) | exact op_un (by simp only [St.ev, ↓Tr.get_set, ↓reduceIte, Nat.reduceEqDiff, natA, hb, Bool.not_false, t0]; rfl) (by simp only [unA, hb, Bool.not_false, t0]; rfl)) | refine pN ?_ | refine pX ?_ | refine bX ?_ | refine bO (by decide) ?_ | (apply W.condT'; (· (simp only [St.ev, ↓Tr.get_set, ↓reduceIte, Nat.reduceEqDiff, natA, hb, Bool.not_false, t0]; rfl)); (· rfl)) | fail)
      exact ⟨fun id q => (by cases q), _, by simp only [resL, resA, Tr.get_set, get_bump, next_bump, next_set, next_add, AHeap.get_set, reduceIte, Nat.reduceEqDiff, t0] <;> rfl, ⟨u ++ [b], rfl, tall, .inr (by simp [hb]), tle⟩, (((tsame.trans (Same.bump _ 3)).trans (Same.bump _ 8)).trans hsame).trans (Same.bump _ _)⟩
    | true =>
      have hcut : scutA (St.ev tm1) (.str (u ++ [b])) none none = scutA (St.ev tm1) (.str (u ++ [b])) none none := rfl
      have hb1 : bndA (u ++ [b]).length (.int .i64 (u.length : Int)) = some u.length := bndA_nat (by omega)
      repeat (first | refine W.skip ?_ | (apply W.reg; · (simp only [List.length_cons, List.length_nil, Nat.reduceAdd]; rfl)) | refine WO.nil ?_ | (apply WO.op; · first | exact op_mv (by simp only [St.ev, ↓Tr.get_set, ↓reduceIte, Nat.reduceEqDiff, natA, hb, Bool.not_true, t0, w1, scutA, bounds, obnd, hiBnd, hb1]; rfl) | exact op_bin (by simp only [St.ev, ↓Tr.get_set, ↓reduceIte, Nat.reduceEqDiff, natA, hb, Bool.not_true, t0, w1, scutA, bounds, obnd, hiBnd, hb1]; rfl) (by simp only [St.ev, ↓Tr.get_set, ↓reduceIte, Nat.reduceEqDiff, natA, hb, Bool.not_true, t0, w1, scutA, bounds, obnd, hiBnd, hb1]; rfl) (by simp only [binA, intCmpA, strA, natA, hb, Bool.not_true, t0, w1, scutA, bounds, obnd, hiBnd, hb1]; rfl) | exact op_slen (by simp only [St.ev, ↓Tr.get_set, ↓reduceIte, Nat.reduceEqDiff, natA, hb, Bool.not_true, t0, w1, scutA, bounds, obnd, hiBnd, hb1]; rfl) | exact op_un (by simp only [St.ev, ↓Tr.get_set, ↓reduceIte, Nat.reduceEqDiff, natA, hb, Bool.not_true, t0, w1, scutA, bounds, obnd, hiBnd, hb1]; rfl) (by simp only [unA, hb, Bool.not_true, t0, w1, scutA, bounds, obnd, hiBnd, hb1]; rfl) | (simp only [xval, xop, AR.ofV, St.ev, Tr.get_set, get_bump, next_bump, next_set, next_add, AHeap.get_set, reduceIte, Nat.reduceEqDiff, evL, evParts, fillA, AV.cells, natA, binA, intCmpA, unA, minA, maxA, Nat.add_assoc, Nat.reduceAdd, Nat.add_left_cancel_iff, Nat.add_eq_left, Nat.left_eq_add, loadA, cellsAt, storeA, Option.bind_some, iaddrA, aaddrA, hb, Bool.not_true, t0, w1, scutA, bounds, obnd, hiBnd, hb1]; rfl)) | refine pN ?_ | refine bN ?_ | (apply W.condF'; (· (simp only [St.ev, ↓Tr.get_set, ↓reduceIte, Nat.reduceEqDiff, natA, hb, Bool.not_true, t0, w1, scutA, bounds, obnd, hiBnd, hb1]; rfl)); (· rfl)) | fail)
      have hcut2 : (u ++ [b]).take u.length = u := by simp
      refine ⟨u, ⟨⟨?_, by simp only [Tr.get_set, get_bump, next_bump, next_set, next_add, AHeap.get_set, reduceIte, Nat.reduceEqDiff]; exact t1, ?_, (((tsame.trans (Same.bump _ 3)).trans (Same.bump _ 8)).trans hsame).trans (Same.bump _ _)⟩, by omega⟩, by omega⟩
      · simp only [Tr.get_set, get_bump, next_bump, next_set, next_add, AHeap.get_set, reduceIte, Nat.reduceEqDiff, Nat.sub_zero, List.drop_zero, hcut2]
      · rw [← tall, List.all_append, List.all_cons, hb]
        simp
def setI (n : Nat) : List AV := (List.range 256).map fun i => .bool (decide (97 ≤ i) && decide (i < 97 + n))
theorem setI_len (n : Nat) : (setI n).length = 256 := by simp [setI]
theorem setI_1 : overA (setI 0) 97 [.bool true] = setI 1 := by kernel_rfl
theorem setI_2 : overA (setI 1) 98 [.bool true] = setI 2 := by kernel_rfl
theorem setI_3 : overA (setI 2) 99 [.bool true] = setI 3 := by kernel_rfl
theorem setI_4 : overA (setI 3) 100 [.bool true] = setI 4 := by kernel_rfl
theorem setI_succ (n : Nat) (h : n < 4) : overA (setI n) (97 + n) [.bool true] = setI (n + 1) := by
  match n, h with
  | 0, _ => exact setI_1
  | 1, _ => exact setI_2
  | 2, _ => exact setI_3
  | 3, _ => exact setI_4
theorem setI_four : setI 4 = setA := by kernel_rfl
theorem over_all {l x : List AV} (h : l.length = x.length) : overA l 0 x = x := by simp [overA, ← h]
set_option maxHeartbeats 4000000 in
theorem makeSet_ok {cf : CF} {H : AHeap} : ∃ v H', xfunc cf 2000 L61 [.str [97, 98, 99, 100]] H = some (v, H') ∧ v = .tup [.agg setA, .bool true] ∧ Same H H' := by
  refine xfunc_of rfl (by show 1 ≤ 21; omega) ?_
  have a0 : (argsT [.str [97, 98, 99, 100]] 0 .e).get 0 = some (.str [97, 98, 99, 100]) := rfl
  generalize argsT [.str [97, 98, 99, 100]] 0 .e = tm at a0
  unfold L61
  dsimp only
  refine W.seq ?_
  refine W.rg 2 rfl (fun H1 hg1 hn1 => ?_)
  refine WO.alloc (fun H2 hc2 hg2 hn2 => ?_)
  have hz : H2.get H.next = some (.cells (setI 0) none) := hc2.trans (congrArg (fun c => some (AObj.cells c none)) (by kernel_rfl))
  clear hc2
  refine WO.op (op_mv (v := .bool false) rfl) ?_
  refine WO.nil (pN (W.seq (W.seq ?_)))
  refine W.rg 1 rfl (fun H3 hg3 hn3 => ?_)
  refine WO.op (op_mv (v := .int .i64 (Int.ofNat 0)) rfl) ?_
  refine WO.nil (pN (W.block ?_))
  refine W.loop (α := Nat) (fun i S => i ≤ 4 ∧ S.tm.get 0 = some (.str [97, 98, 99, 100]) ∧ S.tm.get 4 = some (.int .i64 (i : Int)) ∧ S.tm.get 2 = some (.ptr H.next 0) ∧ S.H.get H.next = some (.cells (setI i) none) ∧ H.next < S.H.next ∧ Same H S.H) (fun i => 4 - i) 0 ?_ (by omega) ?_
  · refine ⟨by omega, by simp only [Tr.get_set, get_bump, next_bump, next_set, next_add, AHeap.get_set, reduceIte, Nat.reduceEqDiff]; exact a0, by simp only [Tr.get_set, get_bump, next_bump, next_set, next_add, AHeap.get_set, reduceIte, Nat.reduceEqDiff] <;> rfl, by simp only [Tr.get_set, get_bump, next_bump, next_set, next_add, AHeap.get_set, reduceIte, Nat.reduceEqDiff], by rw [hg3]; exact hz, by show H.next < H3.next; omega, by show H.next ≤ H3.next; omega, fun j hj => ?_⟩
    show H3.get j = _
    rw [hg3, hg2 j (by omega), hg1]
  · rintro i ⟨tm1, H1'⟩ ⟨hi, t0, t4, t2, hc, hlt, hsame⟩
    simp only at t0 t4 t2 hc hlt hsame
    by_cases h4 : i = 4
    · subst h4
      have c : decide (((4 : Nat) : Int) < (([97, 98, 99, 100] : List UInt8).length : Int)) = false := by decide
      repeat (first | refine W.seq ?_ | refine W.exit ?_ | (apply W.reg; · (simp only [List.length_cons, List.length_nil, Nat.reduceAdd]; rfl)) | refine WO.nil ?_ | (apply WO.op; · first | exact op_mv (by simp only [St.ev, ↓Tr.get_set, ↓reduceIte, Nat.reduceEqDiff, natA, t0, t4, c]; rfl) | exact op_bin (by simp only [St.ev, ↓Tr.get_set, ↓reduceIte, Nat.reduceEqDiff, natA, t0, t4, c]; rfl) (by simp only [St.ev, ↓Tr.get_set, ↓reduceIte, Nat.reduceEqDiff, natA, t0, t4, c]; rfl) (by simp only [binA, intCmpA, strA, natA, t0, t4, c]; rfl) | exact op_slen (by simp only [St.ev, ↓Tr.get_set, ↓reduceIte, Nat.reduceEqDiff, natA, t0, t4, c]; rfl)) | refine pN ?_ | refine pX ?_ | refine bX ?_ | (apply W.condF'; (· (simp only [St.ev, ↓Tr.get_set, ↓reduceIte, Nat.reduceEqDiff, natA, t0, t4, c]; rfl)); (· rfl)) | fail)
      refine WO.op (op_loadn (i := H.next) (o := 0) (by simp only [St.ev, ↓Tr.get_set, ↓reduceIte, Nat.reduceEqDiff, t2]) (by rw [get_bump, get_bump]; exact hc) (by rw [setI_len]; omega)) ?_
      have htake : ((setI 4).drop 0).take 256 = setA := by rw [List.drop_zero, ← setI_four, List.take_of_length_le (by rw [setI_len]; omega)]
      rw [htake]
      have hsl : setA.length = 256 := by rw [← setI_four, setI_len]
      refine WO.store (i := H.next) (o := 0) (v := .agg setA) (by simp only [St.ev, ↓Tr.get_set, ↓reduceIte, Nat.reduceEqDiff, t2]) (by simp only [St.ev, ↓Tr.get_set, ↓reduceIte, Nat.reduceEqDiff]) (by rw [get_bump, get_bump]; exact hc) hsl (by kernel_rfl) (by rw [setI_len]; omega) (fun H5 hc5 hg5 hn5 => ?_)
      have hc6 : H5.get H.next = some (.cells setA none) := by
        rw [hc5]
        show some (AObj.cells (overA (setI 4) 0 setA) none) = _
        rw [over_all (by rw [setI_len, hsl])]
      refine WO.op (op_mv (v := .bool true) rfl) ?_
      refine WO.nil (pN (W.ret ⟨fun id q => (by cases q), [.agg setA, .bool true], ?_, rfl, ?_, fun j hj => ?_⟩))
      · have : loadA H5 (some 256) (.ptr H.next 0) = some (.agg setA) := by
          simp only [loadA, cellsAt, hc6, List.drop_zero]
          rw [if_pos (by omega), List.take_of_length_le (by omega)]
        simp only [resL, resA, Tr.get_set, get_bump, next_bump, next_set, next_add, AHeap.get_set, reduceIte, Nat.reduceEqDiff, t2, Option.bind_some, this] <;> rfl
      · show H.next ≤ H5.next
        rw [hn5]; have := hsame.1; simp only [next_bump]; omega
      · show H5.get j = _
        rw [hg5 j (by omega)]; exact hsame.2 j hj
    · have hi4 : i < 4 := by omega
      have c : decide ((i : Int) < (([97, 98, 99, 100] : List UInt8).length : Int)) = true := by rw [decide_eq_true_eq]; simp; omega
      have hb : ∃ b : UInt8, ([97, 98, 99, 100] : List UInt8)[i]? = some b ∧ b.toNat = 97 + i := by
        match i, hi4 with
        | 0, _ => exact ⟨97, rfl, rfl⟩
        | 1, _ => exact ⟨98, rfl, rfl⟩
        | 2, _ => exact ⟨99, rfl, rfl⟩
        | 3, _ => exact ⟨100, rfl, rfl⟩
      obtain ⟨b, hb1, hb2⟩ := hb
      have c2 : decide ((b.toNat : Int) ≥ Int.ofNat 128) = false := by rw [Int.ofNat_eq_natCast, decide_eq_false_iff_not]; omega
      have hw : wrapA .i64 ((i : Int) + Int.ofNat 1) = ((i + 1 : Nat) : Int) := by
        show wrapA .i64 ((i : Int) + 1) = _
        rw [wrapI _ (by omega) (by omega)]; omega
      repeat (first | refine W.seq ?_ | refine W.block ?_ | refine W.skip ?_ | (apply W.reg; · (simp only [List.length_cons, List.length_nil, Nat.reduceAdd]; rfl)) | refine WO.nil ?_ | (apply WO.op; · first | exact op_mv (by simp only [St.ev, ↓Tr.get_set, ↓reduceIte, Nat.reduceEqDiff, natA, t0, t4, c]; rfl) | exact op_bin (by simp only [St.ev, ↓Tr.get_set, ↓reduceIte, Nat.reduceEqDiff, natA, t0, t4, c]; rfl) (by simp only [St.ev, ↓Tr.get_set, ↓reduceIte, Nat.reduceEqDiff, natA, t0, t4, c]; rfl) (by simp only [binA, intCmpA, strA, natA, t0, t4, c]; rfl) | exact op_slen (by simp only [St.ev, ↓Tr.get_set, ↓reduceIte, Nat.reduceEqDiff, natA, t0, t4, c]; rfl)) | refine pN ?_ | (apply W.condT'; (· (simp only [St.ev, ↓Tr.get_set, ↓reduceIte, Nat.reduceEqDiff, natA, t0, t4, c]; rfl)); (· rfl)) | fail)
      refine WO.op (op_sidx (s := [97, 98, 99, 100]) (i := i) (k := .i64) (by simp only [St.ev, ↓Tr.get_set, ↓reduceIte, Nat.reduceEqDiff]) (by simp only [St.ev, ↓Tr.get_set, ↓reduceIte, Nat.reduceEqDiff]) hb1) ?_
      repeat (first | refine W.seq ?_ | refine W.skip ?_ | (apply W.reg; · (simp only [List.length_cons, List.length_nil, Nat.reduceAdd]; rfl)) | refine WO.nil ?_ | (apply WO.op; · first | exact op_mv (by simp only [St.ev, ↓Tr.get_set, ↓reduceIte, Nat.reduceEqDiff, natA, c2]; rfl) | exact op_bin (by simp only [St.ev, ↓Tr.get_set, ↓reduceIte, Nat.reduceEqDiff, natA, c2]; rfl) (by simp only [St.ev, ↓Tr.get_set, ↓reduceIte, Nat.reduceEqDiff, natA, c2]; rfl) (by simp only [binA, intCmpA, strA, natA, c2]; rfl)) | refine pN ?_ | (apply W.condF'; (· (simp only [St.ev, ↓Tr.get_set, ↓reduceIte, Nat.reduceEqDiff, natA, c2]; rfl)); (· rfl)) | fail)
      refine WO.op (op_aaddr (i := H.next) (p := 0) (j := b.toNat) (k := .u8) (by simp only [St.ev, ↓Tr.get_set, ↓reduceIte, Nat.reduceEqDiff, t2]) (by simp only [St.ev, ↓Tr.get_set, ↓reduceIte, Nat.reduceEqDiff]) (by omega)) ?_
      refine WO.store (i := H.next) (o := 0 + b.toNat * 1) (v := .bool true) (by simp only [St.ev, ↓Tr.get_set, ↓reduceIte, Nat.reduceEqDiff]) (by rfl) (by rw [get_bump, get_bump, get_bump, get_bump]; exact hc) rfl rfl (by rw [setI_len]; omega) (fun H5 hc5 hg5 hn5 => ?_)
      have hc6 : H5.get H.next = some (.cells (setI (i + 1)) none) := by
        rw [hc5, ← setI_succ i hi4, ← hb2]
        simp only [Nat.zero_add, Nat.mul_one, AV.cells]
      repeat (first | (apply W.reg; · (simp only [List.length_cons, List.length_nil, Nat.reduceAdd]; rfl)) | refine WO.nil ?_ | (apply WO.op; · first | exact op_mv (by simp only [St.ev, ↓Tr.get_set, ↓reduceIte, Nat.reduceEqDiff, natA, t4, hw]; rfl) | exact op_bin (by simp only [St.ev, ↓Tr.get_set, ↓reduceIte, Nat.reduceEqDiff, natA, t4, hw]; rfl) (by simp only [St.ev, ↓Tr.get_set, ↓reduceIte, Nat.reduceEqDiff, natA, t4, hw]; rfl) (by simp only [binA, intCmpA, strA, natA, t4, hw]; rfl)) | refine pN ?_ | refine bN ?_ | fail)
      refine ⟨i + 1, ⟨by omega, by simp only [Tr.get_set, get_bump, next_bump, next_set, next_add, AHeap.get_set, reduceIte, Nat.reduceEqDiff]; exact t0, by simp only [Tr.get_set, get_bump, next_bump, next_set, next_add, AHeap.get_set, reduceIte, Nat.reduceEqDiff], by simp only [Tr.get_set, get_bump, next_bump, next_set, next_add, AHeap.get_set, reduceIte, Nat.reduceEqDiff]; exact t2, by rw [get_bump]; exact hc6, ?_, ?_, fun j hj => ?_⟩, by omega⟩
      · show H.next < (H5.bump 3).next
        rw [next_bump, hn5]; simp only [next_bump]; omega
      · show H.next ≤ (H5.bump 3).next
        rw [next_bump, hn5]; simp only [next_bump]; omega
      · show H5.get j = _
        rw [hg5 j (by omega)]; exact hsame.2 j hj
theorem xcallK_F {k f : Nat} {fn : XFunc} {args : List AV} {H : AHeap} (hf : f ≠ 33) (hF : F f = some fn) : xcallK K0 F 2000 (k + 1) f args H = xfunc (xcallK K0 F 2000 k) 2000 fn args H := by
  unfold xcallK
  rw [show K0 f args H = none by simp only [K0, sortK]; rw [if_neg hf]]
  simp only [hF]
theorem all_nil {r s : List UInt8} (h1 : r.all inS = s.all inS) (h2 : r = [] ∨ r.all inS = false) : (r = []) ↔ s.all inS = true := by
  constructor
  · rintro rfl; rw [← h1]; rfl
  · intro h
    rcases h2 with q | q
    · exact q
    · rw [h1, h] at q; cases q
set_option maxHeartbeats 4000000 in
set_option maxRecDepth 100000 in
theorem Trim_ok {H : AHeap} {k : Nat} (s : List UInt8) (hs : s.length ≤ 1000) : ∃ v H', xcallK K0 F 2000 (k + 3) 40 [.str s, .str [97, 98, 99, 100]] H = some (v, H') ∧ (∃ r, v = .str r ∧ (r = [] ↔ s.all inS = true)) ∧ Same H H' := by
  rw [show k + 3 = (k + 2) + 1 from rfl, xcallK_F (by omega) (show F 40 = some L40 from rfl)]
  refine xfunc_of rfl (by show 2 ≤ 43; omega) ?_
  have a0 : (argsT [.str s, .str [97, 98, 99, 100]] 0 .e).get 0 = some (.str s) := rfl
  have a1 : (argsT [.str s, .str [97, 98, 99, 100]] 0 .e).get 1 = some (.str [97, 98, 99, 100]) := rfl
  generalize argsT [.str s, .str [97, 98, 99, 100]] 0 .e = tm at a0 a1
  unfold L40
  dsimp only
  cases s with
  | nil =>
    repeat (first | refine W.seq ?_ | refine W.ret ?_ | (apply W.reg; · (simp only [List.length_cons, List.length_nil, Nat.reduceAdd]; rfl)) | refine WO.nil ?_ | (apply WO.op; · first | exact op_mv (by simp only [St.ev, ↓Tr.get_set, ↓reduceIte, Nat.reduceEqDiff, natA, a0, a1, List.beq_nil_eq, List.isEmpty_nil]; rfl) | exact op_bin (by simp only [St.ev, ↓Tr.get_set, ↓reduceIte, Nat.reduceEqDiff, natA, a0, a1, List.beq_nil_eq, List.isEmpty_nil]; rfl) (by simp only [St.ev, ↓Tr.get_set, ↓reduceIte, Nat.reduceEqDiff, natA, a0, a1, List.beq_nil_eq, List.isEmpty_nil]; rfl) (by simp only [binA, intCmpA, strA, natA, a0, a1, List.beq_nil_eq, List.isEmpty_nil]; rfl) | exact op_pick (by simp only [St.ev, ↓Tr.get_set, ↓reduceIte, Nat.reduceEqDiff, natA, a0, a1, List.beq_nil_eq, List.isEmpty_nil]; rfl) (by first | exact .inl ⟨rfl, (by simp only [St.ev, ↓Tr.get_set, ↓reduceIte, Nat.reduceEqDiff, natA, a0, a1, List.beq_nil_eq, List.isEmpty_nil]; rfl)⟩ | exact .inr ⟨rfl, (by simp only [St.ev, ↓Tr.get_set, ↓reduceIte, Nat.reduceEqDiff, natA, a0, a1, List.beq_nil_eq, List.isEmpty_nil]; rfl)⟩)) | (apply WO.gno'; (· (simp only [St.ev, ↓Tr.get_set, ↓reduceIte, Nat.reduceEqDiff, natA, a0, a1, List.beq_nil_eq, List.isEmpty_nil]; rfl)); (· rfl)) | refine pN ?_ | refine pR ?_ | (apply W.condT'; (· (simp only [St.ev, ↓Tr.get_set, ↓reduceIte, Nat.reduceEqDiff, natA, a0, a1, List.beq_nil_eq, List.isEmpty_nil]; rfl)); (· rfl)) | fail)
    exact ⟨fun id q => (by cases q), _, by simp only [resL, resA, Tr.get_set, get_bump, next_bump, next_set, next_add, AHeap.get_set, reduceIte, Nat.reduceEqDiff] <;> rfl, ⟨[], rfl, by simp⟩, (Same.bump _ _).trans ((Same.bump _ _).trans (Same.bump _ _))⟩
  | cons b s =>
    have e1 : ((b :: s : List UInt8) == []) = false := rfl
    have e2 : (([97, 98, 99, 100] : List UInt8) == []) = false := rfl
    have e3 : ((([97, 98, 99, 100] : List UInt8).length : Int) == Int.ofNat 1) = false := rfl
    repeat (first | refine W.seq ?_ | refine W.skip ?_ | (apply W.reg; · (simp only [List.length_cons, List.length_nil, Nat.reduceAdd]; rfl)) | refine WO.nil ?_ | (apply WO.op; · first | exact op_mv (by simp only [St.ev, ↓Tr.get_set, ↓reduceIte, Nat.reduceEqDiff, natA, a0, a1, e1, e2, e3]; rfl) | exact op_bin (by simp only [St.ev, ↓Tr.get_set, ↓reduceIte, Nat.reduceEqDiff, natA, a0, a1, e1, e2, e3]; rfl) (by simp only [St.ev, ↓Tr.get_set, ↓reduceIte, Nat.reduceEqDiff, natA, a0, a1, e1, e2, e3]; rfl) (by simp only [binA, intCmpA, strA, natA, a0, a1, e1, e2, e3]; rfl) | exact op_slen (by simp only [St.ev, ↓Tr.get_set, ↓reduceIte, Nat.reduceEqDiff, natA, a0, a1, e1, e2, e3]; rfl) | exact op_pick (by simp only [St.ev, ↓Tr.get_set, ↓reduceIte, Nat.reduceEqDiff, natA, a0, a1, e1, e2, e3]; rfl) (by first | exact .inl ⟨rfl, (by simp only [St.ev, ↓Tr.get_set, ↓reduceIte, Nat.reduceEqDiff, natA, a0, a1, e1, e2, e3]; rfl)⟩ | exact .inr ⟨rfl, (by simp only [St.ev, ↓Tr.get_set, ↓reduceIte, Nat.reduceEqDiff, natA, a0, a1, e1, e2, e3]; rfl)⟩)) | (apply WO.gop'; (· (simp only [St.ev, ↓Tr.get_set, ↓reduceIte, Nat.reduceEqDiff, natA, a0, a1, e1, e2, e3]; rfl)); (· rfl); (· first | exact op_mv (by simp only [St.ev, ↓Tr.get_set, ↓reduceIte, Nat.reduceEqDiff, natA, a0, a1, e1, e2, e3]; rfl) | exact op_bin (by simp only [St.ev, ↓Tr.get_set, ↓reduceIte, Nat.reduceEqDiff, natA, a0, a1, e1, e2, e3]; rfl) (by simp only [St.ev, ↓Tr.get_set, ↓reduceIte, Nat.reduceEqDiff, natA, a0, a1, e1, e2, e3]; rfl) (by simp only [binA, intCmpA, strA, natA, a0, a1, e1, e2, e3]; rfl))) | (apply WO.gno'; (· (simp only [St.ev, ↓Tr.get_set, ↓reduceIte, Nat.reduceEqDiff, natA, a0, a1, e1, e2, e3]; rfl)); (· rfl)) | refine pN ?_ | (apply W.condF'; (· (simp only [St.ev, ↓Tr.get_set, ↓reduceIte, Nat.reduceEqDiff, natA, a0, a1, e1, e2, e3]; rfl)); (· rfl)) | fail)
    obtain ⟨v1, H1, h1, rfl, hs1⟩ := makeSet_ok (cf := xcallK K0 F 2000 (k + 1)) (H := (((H.bump 1).bump 6).bump 8).bump 8)
    refine WO.op (op_call (cs := []) (l := [.str [97, 98, 99, 100]]) (H1 := H1) (by rfl) (evL1 (by simp only [St.ev, ↓Tr.get_set, ↓reduceIte, Nat.reduceEqDiff, a1])) (by rw [show k + 2 = (k + 1) + 1 from rfl, xcallK_F (by omega) (show F 61 = some L61 from rfl)]; exact h1)) ?_
    refine WO.op (op_mv (v := .tup [.agg setA, .bool true]) (by simp only [St.ev, ↓Tr.get_set, ↓reduceIte, Nat.reduceEqDiff])) ?_
    refine WO.op (op_ext (l := [.agg setA, .bool true]) (v := .agg setA) (by simp only [St.ev, ↓Tr.get_set, ↓reduceIte, Nat.reduceEqDiff]) rfl) ?_
    refine WO.op (op_ext (l := [.agg setA, .bool true]) (v := .bool true) (by simp only [St.ev, ↓Tr.get_set, ↓reduceIte, Nat.reduceEqDiff]) rfl) ?_
    have hsl : setA.length = 256 := by rw [← setI_four, setI_len]
    refine WO.alloc (fun H2 hc2 hg2 hn2 => ?_)
    have hnx : (((H.bump 1).bump 6).bump 8).next = H.next + 15 := rfl
    generalize hA : (((H.bump 1).bump 6).bump 8).next + 1 + 1 + 1 + 1 + 1 = A at *
    have hs1n := hs1.1
    simp only [next_bump] at hs1n
    refine WO.store (i := A) (o := 0) (v := .agg setA) (by simp only [St.ev, ↓Tr.get_set, ↓reduceIte, Nat.reduceEqDiff]) (by simp only [St.ev, ↓Tr.get_set, ↓reduceIte, Nat.reduceEqDiff]) hc2 hsl (by kernel_rfl) (by simp) (fun H3 hc3 hg3 hn3 => ?_)
    have hc4 : H3.get A = some (.cells setA none) := by
      rw [hc3]
      show some (AObj.cells (overA _ 0 setA) none) = _
      rw [over_all (by rw [hsl]; rfl)]
    clear hc2 hc3
    refine WO.op (op_mv (v := .bool true) (by simp only [St.ev, ↓Tr.get_set, ↓reduceIte, Nat.reduceEqDiff])) ?_
    refine WO.nil (pN (W.seq ?_))
    refine W.rg 1 rfl (fun H4 hg4 hn4 => ?_)
    refine WO.op (op_mv (v := .bool true) (by simp only [St.ev, ↓Tr.get_set, ↓reduceIte, Nat.reduceEqDiff])) ?_
    refine WO.nil (pN (W.condT (by simp only [St.ev, ↓Tr.get_set, ↓reduceIte, Nat.reduceEqDiff]) (W.seq ?_)))
    have hsame3 : Same H H3 := by
      refine ⟨by omega, fun j hj => ?_⟩
      rw [hg3 j (by omega), hg2 j (by omega), hs1.2 j (by simp only [next_bump]; omega)]
      rfl
    refine W.rg 4 rfl (fun H5 hg5 hn5 => ?_)
    refine WO.op (op_mv (v := .str (b :: s)) (by simp only [St.ev, ↓Tr.get_set, ↓reduceIte, Nat.reduceEqDiff, a0])) ?_
    have hA5 : H5.get A = some (.cells setA none) := by rw [hg5, hg4]; exact hc4
    have hcon : ∀ (H0 : AHeap), H0.get A = some (.cells setA none) → A < H0.next → ∀ H1, Same H0 H1 → ∀ b, ∃ H2, xcallK K0 F 2000 (k + 1) 82 [.ptr A 0, byteA b] H1 = some (.bool (inS b), H2) ∧ Same H1 H2 := by
      intro H0 h1 h2 H1 h3 b
      obtain ⟨H2, h4, h5⟩ := contains_ok (cf := xcallK K0 F 2000 k) (fuel := 2000) (H := H1) (A := A) (by rw [h3.2 A h2]; exact h1) b
      exact ⟨H2, by rw [xcallK_F (by omega) (show F 82 = some L82 from rfl)]; exact h4, h5⟩
    have hlt5 : A < H5.next := by omega
    obtain ⟨v1, H6, h6, ⟨r1, rfl, q1, q2, hr1⟩, s6⟩ := trimRight_ok (cf := xcallK K0 F 2000 (k + 1)) (fuel := 2000) (H := H5) (A := A) hlt5 (hcon H5 hA5 hlt5) (b :: s) (by omega) hs
    refine WO.op (op_call (cs := []) (l := [.str (b :: s), .ptr A 0]) (v := .str r1) (H1 := H6) (by rfl) (evL2 (by simp only [St.ev, ↓Tr.get_set, ↓reduceIte, Nat.reduceEqDiff]) (by simp only [St.ev, ↓Tr.get_set, ↓reduceIte, Nat.reduceEqDiff])) (by rw [show k + 2 = (k + 1) + 1 from rfl, xcallK_F (by omega) (show F 63 = some L63 from rfl)]; exact h6)) ?_
    have hlt6 : A < H6.next := Nat.lt_of_lt_of_le hlt5 s6.1
    have hA6 : H6.get A = some (.cells setA none) := by rw [s6.2 A hlt5]; exact hA5
    have hr1 : r1.length ≤ 1000 := by omega
    obtain ⟨v2, H7, h7, ⟨r2, rfl, q3, q4, _⟩, s7⟩ := trimLeft_ok (cf := xcallK K0 F 2000 (k + 1)) (fuel := 2000) (H := H6) (A := A) hlt6 (hcon H6 hA6 hlt6) r1 (by omega) hr1
    refine WO.op (op_call (cs := []) (l := [.str r1, .ptr A 0]) (v := .str r2) (H1 := H7) (by rfl) (evL2 (by simp only [St.ev, ↓Tr.get_set, ↓reduceIte, Nat.reduceEqDiff]) (by simp only [St.ev, ↓Tr.get_set, ↓reduceIte, Nat.reduceEqDiff])) (by rw [show k + 2 = (k + 1) + 1 from rfl, xcallK_F (by omega) (show F 62 = some L62 from rfl)]; exact h7)) ?_
    refine WO.op (op_mv (v := .str r2) (by simp only [St.ev, ↓Tr.get_set, ↓reduceIte, Nat.reduceEqDiff])) ?_
    refine WO.nil (pN (W.ret (pR ⟨fun id q => (by cases q), [.str r2], by simp only [resL, resA, Tr.get_set, get_bump, next_bump, next_set, next_add, AHeap.get_set, reduceIte, Nat.reduceEqDiff] <;> rfl, ⟨r2, rfl, all_nil (q3.trans q1) q4⟩, ?_, fun j hj => ?_⟩)))
    · have := s6.1; have := s7.1
      show H.next ≤ H7.next
      omega
    · show H7.get j = _
      rw [s7.2 j (by have := s6.1; omega), s6.2 j (by omega), hg5, hg4]
      exact hsame3.2 j hj
end Go.Proofs.YtfcgofffalmdfaaDoor.PA
namespace Go.Proofs.YtfcgofffalmdfaaDoor.PA
open Go Go.Eng
theorem encPairs_at : ∀ (l : List (Int × Int)) (j : Nat) (p : Int × Int), l[j]? = some p → ((encPairs l).drop (j * 2)).take 2 = [.int .i64 p.1, .int .i64 p.2]
  | [], j, p, h => by cases h
  | q :: l, 0, p, h => by simp at h; subst h; rfl
  | q :: l, j + 1, p, h => by
    rw [show (j + 1) * 2 = j * 2 + 2 by omega]
    exact encPairs_at l j p (by simpa using h)
theorem index_ok {cf : CF} {fuel : Nat} {H : AHeap} {v : AV} {B0 : Nat} {ps : List (Int × Int)} {bad : Int × Int → Bool} (hR : Row 2 H v ps.length (encPairs ps)) (hl : ps.length < fuel) (hl2 : ps.length ≤ 1000)
    (hcall : ∀ H1, Same H H1 → ∀ p ∈ ps, ∃ H2, cf 42 [.agg [.int .i64 p.1, .int .i64 p.2], .ptr B0 0] H1 = some (.bool (bad p), H2) ∧ Same H1 H2) :
    ∃ u H', xfunc cf fuel L66 [v, .fn 42 [.ptr B0 0]] H = some (u, H') ∧ (∃ m : Int, u = .int .i64 m ∧ decide (m ≥ Int.ofNat 0) = ps.any bad) ∧ Same H H' := by
  refine xfunc_of rfl (by show 2 ≤ 19; omega) ?_
  have a0 : (argsT [v, .fn 42 [.ptr B0 0]] 0 .e).get 0 = some v := rfl
  have a1 : (argsT [v, .fn 42 [.ptr B0 0]] 0 .e).get 1 = some (.fn 42 [.ptr B0 0]) := rfl
  generalize argsT [v, .fn 42 [.ptr B0 0]] 0 .e = tm at a0 a1
  unfold L66
  dsimp only
  refine W.seq ?_
  refine W.rg 1 rfl (fun H1 hg1 hn1 => ?_)
  refine WO.op (op_mv (v := .int .i64 (Int.ofNat 0)) rfl) ?_
  refine WO.nil (pN (W.seq (W.seq ?_)))
  refine W.rg 3 rfl (fun H2 hg2 hn2 => ?_)
  have s2 : Same H H2 := ⟨by omega, fun j _ => by rw [hg2, hg1]⟩
  refine WO.op (op_mv (v := v) (by simp only [St.ev, ↓Tr.get_set, ↓reduceIte, Nat.reduceEqDiff, a0])) ?_
  refine WO.op (op_len (hR.same s2) (by simp only [St.ev, ↓Tr.get_set, ↓reduceIte, Nat.reduceEqDiff])) ?_
  refine WO.op (op_mv (v := .int .i64 (Int.ofNat 0)) rfl) ?_
  refine WO.nil (pN (W.block ?_))
  refine W.loop (α := Nat) (fun i S => i ≤ ps.length ∧ S.tm.get 0 = some v ∧ S.tm.get 1 = some (.fn 42 [.ptr B0 0]) ∧ S.tm.get 7 = some (.int .i64 (ps.length : Int)) ∧ S.tm.get 8 = some (.int .i64 (i : Int)) ∧ Same H S.H ∧ (ps.take i).any bad = false) (fun i => ps.length - i) 0
    ⟨Nat.zero_le _, by simp only [Tr.get_set, get_bump, next_bump, next_set, next_add, AHeap.get_set, reduceIte, Nat.reduceEqDiff]; exact a0, by simp only [Tr.get_set, get_bump, next_bump, next_set, next_add, AHeap.get_set, reduceIte, Nat.reduceEqDiff]; exact a1, by simp only [Tr.get_set, get_bump, next_bump, next_set, next_add, AHeap.get_set, reduceIte, Nat.reduceEqDiff], by simp only [Tr.get_set, get_bump, next_bump, next_set, next_add, AHeap.get_set, reduceIte, Nat.reduceEqDiff] <;> rfl, s2, rfl⟩ (by omega) ?_
  rintro i ⟨tm1, H3⟩ ⟨hi, t0, t1, t7, t8, s3, hany⟩
  simp only at t0 t1 t7 t8 s3
  by_cases he : i = ps.length
  · have c : decide ((i : Int) < (ps.length : Int)) = false := by rw [decide_eq_false_iff_not]; omega
    repeat (first | refine W.seq ?_ | refine W.ret ?_ | refine W.exit ?_ | (apply W.reg; · (simp only [List.length_cons, List.length_nil, Nat.reduceAdd]; rfl)) | refine WO.nil ?_ | (apply WO.op; · first | exact op_mv (by simp only [St.ev, ↓Tr.get_set, ↓reduceIte, Nat.reduceEqDiff, natA, t0, t1, t7, t8, c]; rfl) | exact op_bin (by simp only [St.ev, ↓Tr.get_set, ↓reduceIte, Nat.reduceEqDiff, natA, t0, t1, t7, t8, c]; rfl) (by simp only [St.ev, ↓Tr.get_set, ↓reduceIte, Nat.reduceEqDiff, natA, t0, t1, t7, t8, c]; rfl) (by simp only [binA, intCmpA, strA, natA, t0, t1, t7, t8, c]; rfl)) | refine pN ?_ | refine pX ?_ | refine bX ?_ | (apply W.condF'; (· (simp only [St.ev, ↓Tr.get_set, ↓reduceIte, Nat.reduceEqDiff, natA, t0, t1, t7, t8, c]; rfl)); (· rfl)) | fail)
    refine ⟨fun id q => (by cases q), _, by simp only [resL, resA, Tr.get_set, get_bump, next_bump, next_set, next_add, AHeap.get_set, reduceIte, Nat.reduceEqDiff] <;> rfl, ⟨_, rfl, ?_⟩, s3.trans ((Same.bump _ _).trans (Same.bump _ _))⟩
    rw [he, List.take_length] at hany
    rw [hany]
    rfl
  · have hlt : i < ps.length := by omega
    have c : decide ((i : Int) < (ps.length : Int)) = true := by rw [decide_eq_true_eq]; omega
    obtain ⟨p, hp⟩ : ∃ p, ps[i]? = some p := ⟨_, List.getElem?_eq_getElem hlt⟩
    have hw : wrapA .i64 ((i : Int) + Int.ofNat 1) = ((i + 1 : Nat) : Int) := by
      show wrapA .i64 ((i : Int) + 1) = _
      rw [wrapI _ (by omega) (by omega)]; omega
    have hsucc : (ps.take (i + 1)).any bad = bad p := by
      rw [List.take_add_one, hp, List.any_append, hany]
      simp
    repeat (first | refine W.seq ?_ | refine W.block ?_ | refine W.skip ?_ | (apply W.reg; · (simp only [List.length_cons, List.length_nil, Nat.reduceAdd]; rfl)) | refine WO.nil ?_ | (apply WO.op; · first | exact op_mv (by simp only [St.ev, ↓Tr.get_set, ↓reduceIte, Nat.reduceEqDiff, natA, t0, t1, t7, t8, c]; rfl) | exact op_bin (by simp only [St.ev, ↓Tr.get_set, ↓reduceIte, Nat.reduceEqDiff, natA, t0, t1, t7, t8, c]; rfl) (by simp only [St.ev, ↓Tr.get_set, ↓reduceIte, Nat.reduceEqDiff, natA, t0, t1, t7, t8, c]; rfl) (by simp only [binA, intCmpA, strA, natA, t0, t1, t7, t8, c]; rfl)) | refine pN ?_ | (apply W.condT'; (· (simp only [St.ev, ↓Tr.get_set, ↓reduceIte, Nat.reduceEqDiff, natA, t0, t1, t7, t8, c]; rfl)); (· rfl)) | fail)
    refine WO.cell2 (v := v) (l := ps.length) (j := i) (kd := .i64) ((hR.same s3).same ((Same.bump _ 1).trans ((Same.bump _ 2).trans (Same.bump _ 6)))) (by simp only [St.ev, ↓Tr.get_set, ↓reduceIte, Nat.reduceEqDiff]) (by simp only [St.ev, ↓Tr.get_set, ↓reduceIte, Nat.reduceEqDiff]) hlt (encPairs_at ps i p hp) (fun o _ => ?_)
    obtain ⟨H4, h4, s4⟩ := hcall _ (s3.trans ((Same.bump _ 1).trans ((Same.bump _ 2).trans (Same.bump _ 6)))) p (List.mem_of_getElem? hp)
    refine WO.op (op_call (cs := [.ptr B0 0]) (l := [.agg [.int .i64 p.1, .int .i64 p.2]]) (v := .bool (bad p)) (H1 := H4) (by simp only [St.ev, ↓Tr.get_set, ↓reduceIte, Nat.reduceEqDiff]) (evL1 (by simp only [St.ev, ↓Tr.get_set, ↓reduceIte, Nat.reduceEqDiff])) h4) ?_
    have s5 : Same H H4 := (s3.trans ((Same.bump _ 1).trans ((Same.bump _ 2).trans (Same.bump _ 6)))).trans s4
    cases hb : bad p with
    | true =>
      repeat (first | refine W.seq ?_ | refine W.ret ?_ | (apply W.reg; · (simp only [List.length_cons, List.length_nil, Nat.reduceAdd]; rfl)) | refine WO.nil ?_ | (apply WO.op; · first | exact op_mv (by simp only [St.ev, ↓Tr.get_set, ↓reduceIte, Nat.reduceEqDiff, natA, hb]; rfl)) | refine pN ?_ | refine pR ?_ | refine bR ?_ | (apply W.condT'; (· (simp only [St.ev, ↓Tr.get_set, ↓reduceIte, Nat.reduceEqDiff, natA, hb]; rfl)); (· rfl)) | fail)
      refine ⟨fun id q => (by cases q), _, by simp only [resL, resA, Tr.get_set, get_bump, next_bump, next_set, next_add, AHeap.get_set, reduceIte, Nat.reduceEqDiff] <;> rfl, ⟨(i : Int), rfl, ?_⟩, s5.trans (Same.bump _ _)⟩
      have : ps.any bad = true := List.any_eq_true.2 ⟨p, List.mem_of_getElem? hp, hb⟩
      rw [this, decide_eq_true_eq, Int.ofNat_eq_natCast]
      omega
    | false =>
      repeat (first | refine W.skip ?_ | (apply W.reg; · (simp only [List.length_cons, List.length_nil, Nat.reduceAdd]; rfl)) | refine WO.nil ?_ | (apply WO.op; · first | exact op_mv (by simp only [St.ev, ↓Tr.get_set, ↓reduceIte, Nat.reduceEqDiff, natA, hb, t8, hw]; rfl) | exact op_bin (by simp only [St.ev, ↓Tr.get_set, ↓reduceIte, Nat.reduceEqDiff, natA, hb, t8, hw]; rfl) (by simp only [St.ev, ↓Tr.get_set, ↓reduceIte, Nat.reduceEqDiff, natA, hb, t8, hw]; rfl) (by simp only [binA, intCmpA, strA, natA, hb, t8, hw]; rfl)) | refine pN ?_ | refine bN ?_ | (apply W.condF'; (· (simp only [St.ev, ↓Tr.get_set, ↓reduceIte, Nat.reduceEqDiff, natA, hb, t8, hw]; rfl)); (· rfl)) | fail)
      exact ⟨i + 1, ⟨by omega, by simp only [Tr.get_set, get_bump, next_bump, next_set, next_add, AHeap.get_set, reduceIte, Nat.reduceEqDiff]; exact t0, by simp only [Tr.get_set, get_bump, next_bump, next_set, next_add, AHeap.get_set, reduceIte, Nat.reduceEqDiff]; exact t1, by simp only [Tr.get_set, get_bump, next_bump, next_set, next_add, AHeap.get_set, reduceIte, Nat.reduceEqDiff]; exact t7, by simp only [Tr.get_set, get_bump, next_bump, next_set, next_add, AHeap.get_set, reduceIte, Nat.reduceEqDiff], s5.trans (Same.bump _ _), by rw [hsucc, hb]⟩, by omega⟩
theorem contains2_ok {k : Nat} {H : AHeap} {v : AV} {B0 : Nat} {ps : List (Int × Int)} {bad : Int × Int → Bool} (hR : Row 2 H v ps.length (encPairs ps)) (hl2 : ps.length ≤ 1000)
    (hcall : ∀ H1, Same H H1 → ∀ p ∈ ps, ∃ H2, xcallK K0 F 2000 k 42 [.agg [.int .i64 p.1, .int .i64 p.2], .ptr B0 0] H1 = some (.bool (bad p), H2) ∧ Same H1 H2) :
    ∃ H', xcallK K0 F 2000 (k + 2) 41 [v, .fn 42 [.ptr B0 0]] H = some (.bool (ps.any bad), H') ∧ Same H H' := by
  have key : ∃ u H', xcallK K0 F 2000 (k + 2) 41 [v, .fn 42 [.ptr B0 0]] H = some (u, H') ∧ u = .bool (ps.any bad) ∧ Same H H' := by
    rw [show k + 2 = (k + 1) + 1 from rfl, xcallK_F (by omega) (show F 41 = some L41 from rfl)]
    refine xfunc_of rfl (by show 2 ≤ 9; omega) ?_
    have a0 : (argsT [v, .fn 42 [.ptr B0 0]] 0 .e).get 0 = some v := rfl
    have a1 : (argsT [v, .fn 42 [.ptr B0 0]] 0 .e).get 1 = some (.fn 42 [.ptr B0 0]) := rfl
    generalize argsT [v, .fn 42 [.ptr B0 0]] 0 .e = tm at a0 a1
    unfold L41
    dsimp only
    repeat (first | refine W.seq ?_ | (apply W.reg; · (simp only [List.length_cons, List.length_nil, Nat.reduceAdd]; rfl)) | refine WO.nil ?_ | (apply WO.op; · first | exact op_mv (by simp only [St.ev, ↓Tr.get_set, ↓reduceIte, Nat.reduceEqDiff, natA, a0, a1]; rfl)) | refine pN ?_ | fail)
    have sb : Same H ((H.bump 1).bump 5) := (Same.bump _ _).trans (Same.bump _ _)
    obtain ⟨u, H1, h1, ⟨m, rfl, hm⟩, s1⟩ := index_ok (cf := xcallK K0 F 2000 k) (fuel := 2000) (B0 := B0) (bad := bad) (hR.same sb) (by omega) hl2 (fun H1 h p hp => hcall H1 (sb.trans h) p hp)
    refine WO.op (op_call (cs := []) (l := [v, .fn 42 [.ptr B0 0]]) (v := .int .i64 m) (H1 := H1) (by rfl) (evL2 (by simp only [St.ev, ↓Tr.get_set, ↓reduceIte, Nat.reduceEqDiff]) (by simp only [St.ev, ↓Tr.get_set, ↓reduceIte, Nat.reduceEqDiff])) (by rw [xcallK_F (by omega) (show F 66 = some L66 from rfl)]; exact h1)) ?_
    repeat (first | refine W.ret ?_ | refine WO.nil ?_ | (apply WO.op; · first | exact op_mv (by simp only [St.ev, ↓Tr.get_set, ↓reduceIte, Nat.reduceEqDiff, natA, hm]; rfl) | exact op_bin (by simp only [St.ev, ↓Tr.get_set, ↓reduceIte, Nat.reduceEqDiff, natA, hm]; rfl) (by simp only [St.ev, ↓Tr.get_set, ↓reduceIte, Nat.reduceEqDiff, natA, hm]; rfl) (by simp only [binA, intCmpA, strA, natA, hm]; rfl)) | refine pN ?_ | fail)
    exact ⟨fun id q => (by cases q), _, by simp only [resL, resA, Tr.get_set, get_bump, next_bump, next_set, next_add, AHeap.get_set, reduceIte, Nat.reduceEqDiff] <;> rfl, rfl, sb.trans s1⟩
  obtain ⟨u, H', h1, rfl, h2⟩ := key
  exact ⟨H', h1, h2⟩
set_option maxHeartbeats 4000000 in
theorem closure_ok {k : Nat} {H : AHeap} {R B0 : Nat} {s : List UInt8} {rl : List Bool} {gap : Int} {ka fa : AV} (hB : H.get B0 = some (.cells [.ptr R 0] none)) (hB2 : B0 < H.next) (hR : H.get R = some (.cells (ropeA s rl gap ka fa) none)) (hR2 : R < H.next) (hrl : rl.length = 16) (hs : s.all inS' = true) (hsl : s.length ≤ 1000) {i j : Nat} (hi : i < s.length) (hj : j < s.length) :
    ∃ H', xcallK K0 F 2000 (k + 2) 42 [.agg [.int .i64 (i : Int), .int .i64 (j : Int)], .ptr B0 0] H = some (.bool (!mayF s rl gap i j), H') ∧ Same H H' := by
  have key : ∃ u H', xcallK K0 F 2000 (k + 2) 42 [.agg [.int .i64 (i : Int), .int .i64 (j : Int)], .ptr B0 0] H = some (u, H') ∧ u = .bool (!mayF s rl gap i j) ∧ Same H H' := by
    rw [show k + 2 = (k + 1) + 1 from rfl, xcallK_F (by omega) (show F 42 = some L42 from rfl)]
    refine xfunc_of rfl (by show 2 ≤ 11; omega) ?_
    have a0 : (argsT [.agg [.int .i64 (i : Int), .int .i64 (j : Int)], .ptr B0 0] 0 .e).get 0 = some (.agg [.int .i64 (i : Int), .int .i64 (j : Int)]) := rfl
    have a1 : (argsT [.agg [.int .i64 (i : Int), .int .i64 (j : Int)], .ptr B0 0] 0 .e).get 1 = some (.ptr B0 0) := rfl
    generalize argsT [.agg [.int .i64 (i : Int), .int .i64 (j : Int)], .ptr B0 0] 0 .e = tm at a0 a1
    unfold L42
    dsimp only
    refine W.seq ?_
    refine W.rg 2 rfl (fun H1 hg1 hn1 => ?_)
    refine WO.op (v := .ptr H.next 0) (H1 := H1.set H.next (some (.cells [.int .i64 (i : Int), .int .i64 (j : Int)] none))) (by simp only [xval, xop, St.ev, a0, AV.cells]) ?_
    have hp : (H1.set H.next (some (.cells [.int .i64 (i : Int), .int .i64 (j : Int)] none))).get H.next = some (.cells [.int .i64 (i : Int), .int .i64 (j : Int)] none) := by rw [AHeap.get_set, if_pos rfl]
    have s1 : Same H (H1.set H.next (some (.cells [.int .i64 (i : Int), .int .i64 (j : Int)] none))) := ⟨by rw [next_set]; omega, fun x hx => by rw [AHeap.get_set, if_neg (by omega), hg1]⟩
    have hlt : H.next < (H1.set H.next (some (.cells [.int .i64 (i : Int), .int .i64 (j : Int)] none))).next := by rw [next_set]; omega
    generalize H1.set H.next (some (.cells [.int .i64 (i : Int), .int .i64 (j : Int)] none)) = H2 at hp s1 hlt
    refine WO.op (op_mv (v := .bool false) rfl) ?_
    refine WO.nil (pN (W.seq ?_))
    refine W.rg 8 rfl (fun H3 hg3 hn3 => ?_)
    have s3 : Same H H3 := s1.trans ⟨by omega, fun x _ => hg3 x⟩
    refine WO.op (op_loadc (i := B0) (o := 0) (v := .ptr R 0) (by simp only [St.ev, ↓Tr.get_set, ↓reduceIte, Nat.reduceEqDiff, a1]) (by rw [s3.2 B0 hB2]; exact hB) rfl) ?_
    refine WO.op (op_faddr (i := H.next) (p := 0) (by simp only [St.ev, ↓Tr.get_set, ↓reduceIte, Nat.reduceEqDiff])) ?_
    refine WO.op (op_loadc (i := H.next) (o := 0 + 0) (v := .int .i64 (i : Int)) (by simp only [St.ev, ↓Tr.get_set, ↓reduceIte, Nat.reduceEqDiff]) (by rw [hg3]; exact hp) rfl) ?_
    refine WO.op (op_faddr (i := H.next) (p := 0) (by simp only [St.ev, ↓Tr.get_set, ↓reduceIte, Nat.reduceEqDiff])) ?_
    refine WO.op (op_loadc (i := H.next) (o := 0 + 1) (v := .int .i64 (j : Int)) (by simp only [St.ev, ↓Tr.get_set, ↓reduceIte, Nat.reduceEqDiff]) (by rw [hg3]; exact hp) rfl) ?_
    obtain ⟨u, H4, h4, rfl, s4⟩ := may_ok (cf := xcallK K0 F 2000 k) (fuel := 2000) (H := H3) (R := R) (s := s) (rl := rl) (gap := gap) (k := ka) (f := fa) (by rw [s3.2 R hR2]; exact hR) hrl hs hsl hi hj
    refine WO.op (op_call (cs := []) (l := [.ptr R 0, natA i, natA j]) (v := .bool (mayF s rl gap i j)) (H1 := H4) (by rfl) (evL3 (by simp only [St.ev, ↓Tr.get_set, ↓reduceIte, Nat.reduceEqDiff]) (by simp only [St.ev, ↓Tr.get_set, ↓reduceIte, Nat.reduceEqDiff, natA]) (by simp only [St.ev, ↓Tr.get_set, ↓reduceIte, Nat.reduceEqDiff, natA])) (by rw [xcallK_F (by omega) (show F 43 = some L43 from rfl)]; exact h4)) ?_
    repeat (first | refine W.ret ?_ | refine WO.nil ?_ | (apply WO.op; · first | exact op_mv (by simp only [St.ev, ↓Tr.get_set, ↓reduceIte, Nat.reduceEqDiff, natA]; rfl) | exact op_un (by simp only [St.ev, ↓Tr.get_set, ↓reduceIte, Nat.reduceEqDiff, natA]; rfl) (by simp only [unA]; rfl)) | refine pN ?_ | fail)
    exact ⟨fun id q => (by cases q), _, by simp only [resL, resA, Tr.get_set, get_bump, next_bump, next_set, next_add, AHeap.get_set, reduceIte, Nat.reduceEqDiff] <;> rfl, rfl, s3.trans s4⟩
  obtain ⟨u, H', h1, rfl, h2⟩ := key
  exact ⟨H', h1, h2⟩
theorem op_mkfn {cf : CF} {n f : Nat} {cs : List XO} {l : List AV} {H : AHeap} {ev : XO → Option AV} (h : evL ev cs = some l) : xval cf ev H n (.mkfn f cs) = some (.fn f l, H) := by
  simp only [xval, xop, h]
theorem scanL_snd : ∀ (r : List UInt8) (i : Nat) (op : List Nat) (out : List (Nat × Nat)) (d : Nat) (op' : List Nat) (out' : List (Nat × Nat)) (d' : Nat), scanL r i op out d = some (op', out', d') →
    (∀ p ∈ out, p.2 < i) → (∀ p ∈ out', p.2 < i + r.length) ∧ out'.length ≤ out.length + r.length
  | [], i, op, out, d, op', out', d', h, h2 => by
    simp only [scanL, Option.some.injEq, Prod.mk.injEq] at h
    obtain ⟨rfl, rfl, rfl⟩ := h
    exact ⟨fun p hp => by have := h2 p hp; omega, by simp⟩
  | b :: r, i, op, out, d, op', out', d', h, h2 => by
    simp only [scanL] at h
    simp only [List.length_cons]
    split at h
    · have := scanL_snd r (i + 1) _ _ _ _ _ _ h (fun p hp => by have := h2 p hp; omega)
      exact ⟨fun p hp => by have := this.1 p hp; omega, by omega⟩
    · split at h
      · split at h
        · cases h
        · rename_i a ha
          have := scanL_snd r (i + 1) _ _ _ _ _ _ h (fun p hp => by
            rcases List.mem_append.1 hp with q | q
            · have := h2 p q; omega
            · simp only [List.mem_singleton] at q; rw [q]; show i < i + 1; omega)
          have h3 := this.2
          simp only [List.length_append, List.length_cons, List.length_nil] at h3
          exact ⟨fun p hp => by have := this.1 p hp; omega, by omega⟩
      · split at h
        · have := scanL_snd r (i + 1) _ _ _ _ _ _ h (fun p hp => by have := h2 p hp; omega)
          exact ⟨fun p hp => by have := this.1 p hp; omega, by omega⟩
        · cases h
def isF (s : List UInt8) (rl : List Bool) (gap : Int) (f : List UInt8) : Bool :=
  match scanL f 0 [] [] 0 with
  | some ([], out, _) => decide (f.length = s.length) && !((sortP (out.map castP)).any fun p => !mayF s rl gap p.1.toNat p.2.toNat)
  | _ => false
set_option maxHeartbeats 4000000 in
theorem is_ok {H : AHeap} {R : Nat} {s f : List UInt8} {rl : List Bool} {gap : Int} {ka fa : AV} (hR : H.get R = some (.cells (ropeA s rl gap ka fa) none)) (hR2 : R < H.next) (hrl : rl.length = 16) (hs : s.all inS' = true) (hsl : s.length ≤ 1000) (hf : f.length ≤ 1000) :
    ∃ u H', xfunc (xcallK K0 F 2000 41) 2000 L25 [.ptr R 0, .str f] H = some (u, H') ∧ u = .bool (isF s rl gap f) := by
  refine xfunc_of rfl (by show 2 ≤ 31; omega) ?_
  have a0 : (argsT [.ptr R 0, .str f] 0 .e).get 0 = some (.ptr R 0) := rfl
  have a1 : (argsT [.ptr R 0, .str f] 0 .e).get 1 = some (.str f) := rfl
  generalize argsT [.ptr R 0, .str f] 0 .e = tm at a0 a1
  unfold L25
  dsimp only
  refine W.seq ?_
  refine W.rg 2 rfl (fun H1 hg1 hn1 => ?_)
  refine WO.op (v := .ptr H.next 0) (H1 := H1.set H.next (some (.cells [.ptr R 0] none))) (by simp only [xval, xop, St.ev, a0, AV.cells]) ?_
  have hp : (H1.set H.next (some (.cells [.ptr R 0] none))).get H.next = some (.cells [.ptr R 0] none) := by rw [AHeap.get_set, if_pos rfl]
  have s1 : Same H (H1.set H.next (some (.cells [.ptr R 0] none))) := ⟨by rw [next_set]; omega, fun x hx => by rw [AHeap.get_set, if_neg (by omega), hg1]⟩
  have hlt : H.next < (H1.set H.next (some (.cells [.ptr R 0] none))).next := by rw [next_set]; omega
  generalize H1.set H.next (some (.cells [.ptr R 0] none)) = H2 at hp s1 hlt
  refine WO.op (op_mv (v := .bool false) rfl) ?_
  refine WO.nil (pN (W.seq ?_))
  refine W.rg 9 rfl (fun H3 hg3 hn3 => ?_)
  have s3 : Same H H3 := s1.trans ⟨by omega, fun x _ => hg3 x⟩
  refine WO.op (op_mv (v := .str f) (by simp only [St.ev, ↓Tr.get_set, ↓reduceIte, Nat.reduceEqDiff, a1])) ?_
  obtain ⟨v, H4, hcall, ⟨hn4, hg4⟩, hq⟩ := loops_call (H0 := H3) (b := f) hf
  refine WO.op (op_call (cs := []) (l := [.str f]) (v := v) (H1 := H4) (by rfl) (evL1 (by simp only [St.ev, ↓Tr.get_set, ↓reduceIte, Nat.reduceEqDiff])) hcall) ?_
  have s4 : Same H H4 := s3.trans ⟨hn4, hg4⟩
  have hB4 : H4.get H.next = some (.cells [.ptr R 0] none) := by rw [hg4 _ (by omega), hg3]; exact hp
  have hR4 : H4.get R = some (.cells (ropeA s rl gap ka fa) none) := by rw [s4.2 R hR2]; exact hR
  cases hsc : scanL f 0 [] [] 0 with
  | none =>
    rw [hsc] at hq
    simp only at hq
    subst hq
    repeat (first | refine W.seq ?_ | refine W.ret ?_ | (apply W.reg; · (simp only [List.length_cons, List.length_nil, Nat.reduceAdd]; rfl)) | refine WO.nil ?_ | (apply WO.op; · first | exact op_mv (by simp only [St.ev, ↓Tr.get_set, ↓reduceIte, Nat.reduceEqDiff, natA]; rfl) | exact op_ext (by simp only [St.ev, ↓Tr.get_set, ↓reduceIte, Nat.reduceEqDiff, natA]; rfl) (by rfl) | exact op_pick (by simp only [St.ev, ↓Tr.get_set, ↓reduceIte, Nat.reduceEqDiff, natA]; rfl) (by first | exact .inl ⟨rfl, (by simp only [St.ev, ↓Tr.get_set, ↓reduceIte, Nat.reduceEqDiff, natA]; rfl)⟩ | exact .inr ⟨rfl, (by simp only [St.ev, ↓Tr.get_set, ↓reduceIte, Nat.reduceEqDiff, natA]; rfl)⟩)) | (apply WO.gno'; (· (simp only [St.ev, ↓Tr.get_set, ↓reduceIte, Nat.reduceEqDiff, natA]; rfl)); (· rfl)) | refine pN ?_ | fail)
    refine ⟨fun id q => (by cases q), _, by simp only [resL, resA, Tr.get_set, get_bump, next_bump, next_set, next_add, AHeap.get_set, reduceIte, Nat.reduceEqDiff] <;> rfl, ?_⟩
    simp only [isF, hsc]
    rfl
  | some x =>
    obtain ⟨op, out, d⟩ := x
    rw [hsc] at hq
    obtain ⟨v5, rfl, R5, ho5⟩ := hq
    cases op with
    | cons a op =>
      have c : ((a :: op).length == 0) = false := rfl
      repeat (first | refine W.seq ?_ | refine W.ret ?_ | (apply W.reg; · (simp only [List.length_cons, List.length_nil, Nat.reduceAdd]; rfl)) | refine WO.nil ?_ | (apply WO.op; · first | exact op_mv (by simp only [St.ev, ↓Tr.get_set, ↓reduceIte, Nat.reduceEqDiff, natA, c]; rfl) | exact op_ext (by simp only [St.ev, ↓Tr.get_set, ↓reduceIte, Nat.reduceEqDiff, natA, c]; rfl) (by rfl) | exact op_pick (by simp only [St.ev, ↓Tr.get_set, ↓reduceIte, Nat.reduceEqDiff, natA, c]; rfl) (by first | exact .inl ⟨rfl, (by simp only [St.ev, ↓Tr.get_set, ↓reduceIte, Nat.reduceEqDiff, natA, c]; rfl)⟩ | exact .inr ⟨rfl, (by simp only [St.ev, ↓Tr.get_set, ↓reduceIte, Nat.reduceEqDiff, natA, c]; rfl)⟩)) | (apply WO.gno'; (· (simp only [St.ev, ↓Tr.get_set, ↓reduceIte, Nat.reduceEqDiff, natA, c]; rfl)); (· rfl)) | refine pN ?_ | fail)
      refine ⟨fun id q => (by cases q), _, by simp only [resL, resA, Tr.get_set, get_bump, next_bump, next_set, next_add, AHeap.get_set, reduceIte, Nat.reduceEqDiff] <;> rfl, ?_⟩
      simp only [isF, hsc]
      rfl
    | nil =>
      obtain ⟨hnd, hb1⟩ := scanL_inv f 0 [] [] 0 [] out d hsc (fun a ha => by cases ha) (fun p hp => by cases hp) (by simp)
      obtain ⟨hb2, hol⟩ := scanL_snd f 0 [] [] 0 [] out d hsc (fun p hp => by cases hp)
      refine WO.op (op_mv (v := .tup [v5, natA d, .bool true]) (by simp only [St.ev, ↓Tr.get_set, ↓reduceIte, Nat.reduceEqDiff, List.length_nil, beq_self_eq_true])) ?_
      refine WO.op (op_ext (l := [v5, natA d, .bool true]) (v := v5) (by simp only [St.ev, ↓Tr.get_set, ↓reduceIte, Nat.reduceEqDiff]) rfl) ?_
      refine WO.op (op_ext (l := [v5, natA d, .bool true]) (v := natA d) (by simp only [St.ev, ↓Tr.get_set, ↓reduceIte, Nat.reduceEqDiff]) rfl) ?_
      refine WO.op (op_ext (l := [v5, natA d, .bool true]) (v := .bool true) (by simp only [St.ev, ↓Tr.get_set, ↓reduceIte, Nat.reduceEqDiff]) rfl) ?_
      refine WO.op (op_mv (v := v5) (by simp only [St.ev, ↓Tr.get_set, ↓reduceIte, Nat.reduceEqDiff])) ?_
      refine WO.op (op_mv (v := natA d) (by simp only [St.ev, ↓Tr.get_set, ↓reduceIte, Nat.reduceEqDiff])) ?_
      refine WO.op (op_mv (v := .bool true) (by simp only [St.ev, ↓Tr.get_set, ↓reduceIte, Nat.reduceEqDiff])) ?_
      refine WO.nil (pN (W.seq ?_))
      refine W.rg 18 rfl (fun H5 hg5 hn5 => ?_)
      have hB5 : H5.get H.next = some (.cells [.ptr R 0] none) := by rw [hg5]; exact hB4
      have hR5 : H5.get R = some (.cells (ropeA s rl gap ka fa) none) := by rw [hg5]; exact hR4
      have s5 : Same H4 H5 := ⟨by omega, fun x _ => hg5 x⟩
      refine WO.op (op_mv (v := .bool true) (by simp only [St.ev, ↓Tr.get_set, ↓reduceIte, Nat.reduceEqDiff])) ?_
      refine WO.op (op_mv (v := .bool true) (by simp only [St.ev, ↓Tr.get_set, ↓reduceIte, Nat.reduceEqDiff])) ?_
      refine WO.gop' (by simp only [St.ev, ↓Tr.get_set, ↓reduceIte, Nat.reduceEqDiff]; rfl) (by rfl) (op_mv (v := .str f) (by simp only [St.ev, ↓Tr.get_set, ↓reduceIte, Nat.reduceEqDiff, a1])) ?_
      refine WO.gop' (by simp only [St.ev, ↓Tr.get_set, ↓reduceIte, Nat.reduceEqDiff]; rfl) (by rfl) (op_slen (s := f) (by simp only [St.ev, ↓Tr.get_set, ↓reduceIte, Nat.reduceEqDiff])) ?_
      refine WO.gop' (by simp only [St.ev, ↓Tr.get_set, ↓reduceIte, Nat.reduceEqDiff]; rfl) (by rfl) (op_loadc (i := H.next) (o := 0) (v := .ptr R 0) (by simp only [St.ev, ↓Tr.get_set, ↓reduceIte, Nat.reduceEqDiff]) hB5 rfl) ?_
      refine WO.gop' (by simp only [St.ev, ↓Tr.get_set, ↓reduceIte, Nat.reduceEqDiff]; rfl) (by rfl) (op_nilc (i := R) (p := 0) (by simp only [St.ev, ↓Tr.get_set, ↓reduceIte, Nat.reduceEqDiff])) ?_
      refine WO.gop' (by simp only [St.ev, ↓Tr.get_set, ↓reduceIte, Nat.reduceEqDiff]; rfl) (by rfl) (op_faddr (i := R) (p := 0) (by simp only [St.ev, ↓Tr.get_set, ↓reduceIte, Nat.reduceEqDiff])) ?_
      refine WO.gop' (by simp only [St.ev, ↓Tr.get_set, ↓reduceIte, Nat.reduceEqDiff]; rfl) (by rfl) (op_loadc (i := R) (o := 0 + 0) (v := .str s) (by simp only [St.ev, ↓Tr.get_set, ↓reduceIte, Nat.reduceEqDiff]) hR5 rfl) ?_
      refine WO.gop' (by simp only [St.ev, ↓Tr.get_set, ↓reduceIte, Nat.reduceEqDiff]; rfl) (by rfl) (op_slen (s := s) (by simp only [St.ev, ↓Tr.get_set, ↓reduceIte, Nat.reduceEqDiff])) ?_
      by_cases hlen : f.length = s.length
      · have c : ((f.length : Int) == (s.length : Int)) = true := by rw [beq_iff_eq]; omega
        refine WO.gop' (by simp only [St.ev, ↓Tr.get_set, ↓reduceIte, Nat.reduceEqDiff]; rfl) (by rfl) (op_bin (a := .int .i64 (f.length : Int)) (b := .int .i64 (s.length : Int)) (v := .bool true) (by simp only [St.ev, ↓Tr.get_set, ↓reduceIte, Nat.reduceEqDiff]) (by simp only [St.ev, ↓Tr.get_set, ↓reduceIte, Nat.reduceEqDiff]) (by simp only [binA, intCmpA, c]; rfl)) ?_
        refine WO.op (op_pick (w := .bool true) (v := .bool true) (by simp only [St.ev, ↓Tr.get_set, ↓reduceIte, Nat.reduceEqDiff]) (.inl ⟨rfl, (by simp only [St.ev, ↓Tr.get_set, ↓reduceIte, Nat.reduceEqDiff])⟩)) ?_
        refine WO.op (op_mv (v := .bool true) (by simp only [St.ev, ↓Tr.get_set, ↓reduceIte, Nat.reduceEqDiff])) ?_
        refine WO.gop' (by simp only [St.ev, ↓Tr.get_set, ↓reduceIte, Nat.reduceEqDiff]; rfl) (by rfl) (op_mv (v := v5) (by simp only [St.ev, ↓Tr.get_set, ↓reduceIte, Nat.reduceEqDiff])) ?_
        refine WO.gop' (by simp only [St.ev, ↓Tr.get_set, ↓reduceIte, Nat.reduceEqDiff]; rfl) (by rfl) (op_mkfn (l := [.ptr H.next 0]) (evL1 (by simp only [St.ev, ↓Tr.get_set, ↓reduceIte, Nat.reduceEqDiff]))) ?_
        have hmem : ∀ p ∈ sortP (out.map castP), ∃ i j : Nat, p = ((i : Int), (j : Int)) ∧ i < s.length ∧ j < s.length := by
          intro p hp
          obtain ⟨q, hq, rfl⟩ := List.mem_map.1 ((sortP_perm _).subset hp)
          have h1 := hb1 q hq
          have h2 := hb2 q hq
          exact ⟨q.1, q.2, rfl, by omega, by omega⟩
        have hlt5 : H.next < H5.next := by have := hn4; omega
        obtain ⟨H6, h6, s6⟩ := contains2_ok (k := 39) (H := H5) (v := v5) (B0 := H.next) (ps := sortP (out.map castP)) (bad := fun p => !mayF s rl gap p.1.toNat p.2.toNat) (by rw [(sortP_perm _).length_eq, List.length_map]; exact R5.same s5) (by rw [(sortP_perm _).length_eq, List.length_map]; simp only [List.length_nil] at hol; omega) (fun H7 h7 p hp => by
          obtain ⟨i, j, rfl, hi, hj⟩ := hmem p hp
          exact closure_ok (k := 37) (H := H7) (R := R) (B0 := H.next) (s := s) (rl := rl) (gap := gap) (ka := ka) (fa := fa) (by rw [h7.2 _ hlt5]; exact hB5) (Nat.lt_of_lt_of_le hlt5 h7.1) (by rw [h7.2 R (by omega)]; exact hR5) (Nat.lt_of_lt_of_le (by omega) h7.1) hrl hs hsl hi hj)
        refine WO.gop' (by simp only [St.ev, ↓Tr.get_set, ↓reduceIte, Nat.reduceEqDiff]; rfl) (by rfl) (op_call (cs := []) (l := [v5, .fn 42 [.ptr H.next 0]]) (H1 := H6) (by rfl) (evL2 (by simp only [St.ev, ↓Tr.get_set, ↓reduceIte, Nat.reduceEqDiff]) (by simp only [St.ev, ↓Tr.get_set, ↓reduceIte, Nat.reduceEqDiff])) h6) ?_
        repeat (first | refine W.ret ?_ | refine WO.nil ?_ | (apply WO.op; · first | exact op_mv (by simp only [St.ev, ↓Tr.get_set, ↓reduceIte, Nat.reduceEqDiff, natA]; rfl) | exact op_pick (by simp only [St.ev, ↓Tr.get_set, ↓reduceIte, Nat.reduceEqDiff, natA]; rfl) (by first | exact .inl ⟨rfl, (by simp only [St.ev, ↓Tr.get_set, ↓reduceIte, Nat.reduceEqDiff, natA]; rfl)⟩ | exact .inr ⟨rfl, (by simp only [St.ev, ↓Tr.get_set, ↓reduceIte, Nat.reduceEqDiff, natA]; rfl)⟩)) | (apply WO.gop'; (· (simp only [St.ev, ↓Tr.get_set, ↓reduceIte, Nat.reduceEqDiff, natA]; rfl)); (· rfl); (· first | exact op_un (by simp only [St.ev, ↓Tr.get_set, ↓reduceIte, Nat.reduceEqDiff, natA]; rfl) (by simp only [unA]; rfl))) | refine pN ?_ | fail)
        refine ⟨fun id q => (by cases q), _, by simp only [resL, resA, Tr.get_set, get_bump, next_bump, next_set, next_add, AHeap.get_set, reduceIte, Nat.reduceEqDiff] <;> rfl, ?_⟩
        simp only [isF, hsc, hlen, decide_true, Bool.true_and]
        rfl
      · have c : ((f.length : Int) == (s.length : Int)) = false := by rw [beq_eq_false_iff_ne]; omega
        refine WO.gop' (by simp only [St.ev, ↓Tr.get_set, ↓reduceIte, Nat.reduceEqDiff]; rfl) (by rfl) (op_bin (a := .int .i64 (f.length : Int)) (b := .int .i64 (s.length : Int)) (v := .bool false) (by simp only [St.ev, ↓Tr.get_set, ↓reduceIte, Nat.reduceEqDiff]) (by simp only [St.ev, ↓Tr.get_set, ↓reduceIte, Nat.reduceEqDiff]) (by simp only [binA, intCmpA, c]; rfl)) ?_
        refine WO.op (op_pick (w := .bool true) (v := .bool false) (by simp only [St.ev, ↓Tr.get_set, ↓reduceIte, Nat.reduceEqDiff]) (.inl ⟨rfl, (by simp only [St.ev, ↓Tr.get_set, ↓reduceIte, Nat.reduceEqDiff])⟩)) ?_
        repeat (first | refine W.ret ?_ | refine WO.nil ?_ | (apply WO.op; · first | exact op_mv (by simp only [St.ev, ↓Tr.get_set, ↓reduceIte, Nat.reduceEqDiff, natA]; rfl) | exact op_pick (by simp only [St.ev, ↓Tr.get_set, ↓reduceIte, Nat.reduceEqDiff, natA]; rfl) (by first | exact .inl ⟨rfl, (by simp only [St.ev, ↓Tr.get_set, ↓reduceIte, Nat.reduceEqDiff, natA]; rfl)⟩ | exact .inr ⟨rfl, (by simp only [St.ev, ↓Tr.get_set, ↓reduceIte, Nat.reduceEqDiff, natA]; rfl)⟩)) | (apply WO.gno'; (· (simp only [St.ev, ↓Tr.get_set, ↓reduceIte, Nat.reduceEqDiff, natA]; rfl)); (· rfl)) | refine pN ?_ | fail)
        refine ⟨fun id q => (by cases q), _, by simp only [resL, resA, Tr.get_set, get_bump, next_bump, next_set, next_add, AHeap.get_set, reduceIte, Nat.reduceEqDiff] <;> rfl, ?_⟩
        simp only [isF, hsc, hlen, decide_false, Bool.false_and]
        rfl
end Go.Proofs.YtfcgofffalmdfaaDoor.PA
