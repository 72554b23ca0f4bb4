/- The functions' abstract code. No condition. -/
import Derived.Test.YtfcgofffalmdfaaGreatDoorJB
import Derived.Test.YtfcgofffalmdfaaGreatDoorProg
import Derived.KernelRfl
import Derived.Shelf.SlSortCmp.WholeK
set_option linter.unusedSectionVars false
set_option linter.unusedVariables false
set_option linter.unusedSimpArgs false
namespace Go.Proofs.YtfcgofffalmdfaaGreatDoor.PA
open Go Go.Eng Go.Proofs
abbrev o (d : Nat) (x : XOp) : XOper := ⟨some d, x, none⟩
abbrev og (d : Nat) (x : XOp) (g : Nat) (b : Bool) : XOper := ⟨some d, x, some (g, b)⟩
abbrev ov (d s : Nat) : XOper := ⟨some d, .mv (.t s), none⟩
abbrev ki (n : Nat) : XO := .k (.int .i64 (.ofNat n))
abbrev kf (f : Nat) : XO := .k (.fn f [])
def L3 : XFunc := .mk (.seq (.reg [o 2 (.box (.t 0)), o 4 (.mv (.k (.bool false)))]) (.seq (.reg [o 12 (.load (some 2) (.t 2)), o 13 (.call (kf 12) [.t 12]), ov 11 13, o 14 (.ext (.t 11) 0), o 15 (.ext (.t 11) 1), ov 5 14, ov 6 15]) (.seq (.reg [ov 16 1, o 17 (.call (kf 13) [.t 16, ki 16]), ov 7 17]) (.seq (.reg [ov 19 7, ov 20 5, ov 21 6, o 22 (.call (kf 14) [.t 19, .t 20, .t 21]), ov 18 22, o 23 (.ext (.t 18) 0), o 24 (.ext (.t 18) 1), ov 8 23, ov 9 24]) (.seq (.seq (.reg [ov 25 7, ov 26 5, ov 27 6, o 28 (.call (kf 15) [.t 25, .t 26, .t 27]), ov 10 28]) (.seq (.reg [ov 29 10, o 30 (.bin .neq (.t 29) (ki 0))]) (.cond (.t 30) (.seq (.reg [ov 31 8, o 32 (.bin .eql (.t 31) (.k (.str []))), ov 33 32, og 34 (.mv (.t 9)) 33 true, og 35 (.mv (.t 10)) 33 true, og 36 (.bin .eql (.t 34) (.t 35)) 33 true, o 37 (.pick (.t 33) (.t 36) (.k (.bool false))), ov 38 37, og 39 (.call (kf 16) []) 38 true, o 40 (.pick (.t 38) (.t 39) (.k (.bool false))), ov 4 40]) .ret) .skip))) (.seq (.reg [ov 41 8, ov 42 7, ov 43 5, ov 44 6, o 45 (.call (kf 17) [.t 42, .t 43, .t 44]), ov 46 7, ov 47 5, ov 48 6, o 49 (.call (kf 18) [.t 45, .t 46, .t 47, .t 48]), o 50 (.bin .eql (.t 41) (.t 49)), ov 51 50, og 52 (.mv (.t 9)) 51 true, og 53 (.bin .eql (.t 52) (ki 0)) 51 true, o 54 (.pick (.t 51) (.t 53) (.k (.bool false))), ov 55 54, og 56 (.call (kf 16) []) 55 true, o 57 (.pick (.t 55) (.t 56) (.k (.bool false))), ov 4 57]) .ret)))))) 58 2 [.t 4]
theorem l3 : compFunc Tryz.prog 3 = some L3 := by kernel_rfl
def L12 : XFunc := .mk (.seq (.reg [o 1 (.box (.t 0)), o 2 (.mv (.k .nils)), o 3 (.mv (ki 0))]) (.seq (.regd [o 4 (.bslice [.int .i64 (.ofNat 0), .int .i64 (.ofNat 0)] [] 0), o 5 (.faddr 0 (.t 1)), o 6 (.load none (.t 5)), o 7 (.faddr 0 (.t 1)), o 8 (.load none (.t 7)), o 9 (.len (.t 8)), o 10 (.mn [.t 9, ki 17]), o 11 (.cut 2 (.t 6) none (some (.t 10)) none), o 12 (.app 2 16 (.t 4) (.t 11)), o 13 (.faddr 1 (.t 1)), o 14 (.load none (.t 13)), ov 2 12, ov 3 14] [(2, [], [0]), (4, [], [0]), (10, [8], [0])] [0]) .ret)) 15 1 [.t 2, .t 3]
theorem l12 : compFunc Tryz.prog 12 = some L12 := by kernel_rfl
def L13 : XFunc := .mk (.seq (.reg [o 4 (.mv (.k (.str [])))]) (.seq (.seq (.reg [ov 5 0, o 6 (.slen (.t 5)), o 7 (.bin .gtr (.t 6) (ki 40))]) (.cond (.t 7) (.reg [o 1 (.mv (ki 41))]) .skip)) (.seq (.reg [ov 8 0, ov 9 0, o 10 (.slen (.t 9)), ov 11 1, o 12 (.mn [.t 10, .t 11]), o 13 (.scut (.t 8) none (some (.t 12))), ov 4 13]) .ret))) 14 2 [.t 4]
theorem l13 : compFunc Tryz.prog 13 = some L13 := by kernel_rfl
def L14 : XFunc := .mk (.seq (.reg [o 6 (.mv (.k (.str []))), o 7 (.mv (ki 0))]) (.seq (.reg [ov 11 0, ov 12 1, ov 13 2, o 14 (.call (kf 47) [.t 11, .t 12, .t 13]), ov 10 14, o 15 (.ext (.t 10) 0), o 16 (.ext (.t 10) 1), ov 8 15, ov 9 16]) (.seq (.seq (.reg [ov 17 9, o 18 (.bin .neq (.t 17) (ki 0))]) (.cond (.t 18) (.seq (.reg [ov 19 9, o 6 (.mv (.k (.str []))), ov 7 19]) .ret) .skip)) (.seq (.reg [ov 20 8, ov 21 8, o 22 (.call (kf 49) [.t 21]), o 23 (.call (kf 48) [.t 20, .t 22]), ov 6 23, o 7 (.mv (ki 0))]) .ret)))) 24 3 [.t 6, .t 7]
theorem l14 : compFunc Tryz.prog 14 = some L14 := by kernel_rfl
def L15 : XFunc := .mk (.seq (.reg [o 6 (.mv (ki 0))]) (.seq (.seq (.reg [ov 9 0, o 10 (.slen (.t 9)), o 11 (.bin .gtr (.t 10) (ki 40)), ov 12 11, og 13 (.mv (.t 1)) 12 false, og 14 (.len (.t 13)) 12 false, og 15 (.bin .gtr (.t 14) (ki 16)) 12 false, o 16 (.pick (.t 12) (.k (.bool true)) (.t 15))]) (.cond (.t 16) (.seq (.reg [o 6 (.mv (ki 3))]) .ret) .skip)) (.seq (.seq (.reg [o 7 (.mv (ki 0))]) (.block 0 (.loop (.seq (.seq (.reg [ov 17 7, ov 18 1, o 19 (.len (.t 18)), o 20 (.bin .lss (.t 17) (.t 19))]) (.cond (.t 20) .skip (.exit 0))) (.seq (.block 1 (.seq (.reg [ov 23 1, ov 24 7, o 25 (.iaddr 2 (.t 23) (.t 24)), o 26 (.faddr 0 (.t 25)), o 27 (.load none (.t 26)), o 28 (.call (kf 50) [.t 27, ki 0, ki 3]), o 29 (.un .not (.t 28)), ov 30 29, og 31 (.mv (.t 1)) 30 false, og 32 (.mv (.t 7)) 30 false, og 33 (.iaddr 2 (.t 31) (.t 32)) 30 false, og 34 (.faddr 1 (.t 33)) 30 false, og 35 (.load none (.t 34)) 30 false, og 36 (.call (kf 50) [.t 35, ki 0, ki 3]) 30 false, og 37 (.un .not (.t 36)) 30 false, o 38 (.pick (.t 30) (.k (.bool true)) (.t 37))]) (.cond (.t 38) (.seq (.reg [o 6 (.mv (ki 1))]) .ret) .skip))) (.reg [ov 21 7, o 22 (.bin .add (.t 21) (ki 1)), ov 7 22])))))) (.seq (.seq (.reg [ov 39 2, o 40 (.call (kf 50) [.t 39, ki 0, ki 5]), o 41 (.un .not (.t 40))]) (.cond (.t 41) (.seq (.reg [o 6 (.mv (ki 1))]) .ret) .skip)) (.seq (.seq (.reg [o 8 (.mv (ki 0))]) (.block 2 (.loop (.seq (.seq (.reg [ov 42 8, ov 43 0, o 44 (.slen (.t 43)), o 45 (.bin .lss (.t 42) (.t 44))]) (.cond (.t 45) .skip (.exit 2))) (.seq (.block 3 (.seq (.reg [ov 48 0, ov 49 8, o 50 (.sidx (.t 48) (.t 49)), o 51 (.bin .lss (.t 50) (.k (.int .u8 (.ofNat 97)))), ov 52 51, og 53 (.mv (.t 0)) 52 false, og 54 (.mv (.t 8)) 52 false, og 55 (.sidx (.t 53) (.t 54)) 52 false, og 56 (.bin .gtr (.t 55) (.k (.int .u8 (.ofNat 100)))) 52 false, o 57 (.pick (.t 52) (.k (.bool true)) (.t 56))]) (.cond (.t 57) (.seq (.reg [o 6 (.mv (ki 2))]) .ret) .skip))) (.reg [ov 46 8, o 47 (.bin .add (.t 46) (ki 1)), ov 8 47])))))) (.seq (.reg [o 6 (.mv (ki 0))]) .ret)))))) 58 3 [.t 6]
theorem l15 : compFunc Tryz.prog 15 = some L15 := by kernel_rfl
def L16 : XFunc := .mk (.seq (.reg [o 0 (.mv (.k (.bool false)))]) (.seq (.reg [o 11 (.build [.int .i64 (.ofNat 0), .int .i64 (.ofNat 0)] [(0, 1, ki 0), (1, 1, ki 1)]), o 12 (.bslice [.int .i64 (.ofNat 0), .int .i64 (.ofNat 0)] [(0, 2, .t 11)] 1), ov 1 12]) (.seq (.reg [ov 14 1, o 15 (.call (kf 14) [.k (.str [UInt8.ofNat 97, UInt8.ofNat 97, UInt8.ofNat 98, UInt8.ofNat 98]), .t 14, ki 0]), ov 13 15, o 16 (.ext (.t 13) 0), o 17 (.ext (.t 13) 1), ov 2 16, ov 3 17]) (.seq (.reg [ov 19 1, o 20 (.call (kf 26) [.k (.str [UInt8.ofNat 97, UInt8.ofNat 97, UInt8.ofNat 98, UInt8.ofNat 98]), .t 19, ki 0]), ov 18 20, o 21 (.ext (.t 18) 0), o 22 (.ext (.t 18) 1), ov 4 21, ov 5 22]) (.seq (.reg [o 24 (.call (kf 51) [.k (.str [UInt8.ofNat 40, UInt8.ofNat 40, UInt8.ofNat 41, UInt8.ofNat 41, UInt8.ofNat 46, UInt8.ofNat 40, UInt8.ofNat 41])]), ov 23 24, o 25 (.ext (.t 23) 0), o 26 (.ext (.t 23) 1), o 27 (.ext (.t 23) 2), ov 6 25, ov 7 26, ov 8 27]) (.seq (.reg [ov 29 1, o 30 (.call (kf 19) [.k (.str [UInt8.ofNat 97, UInt8.ofNat 97, UInt8.ofNat 98, UInt8.ofNat 98]), .t 29, ki 0, .k (.str [UInt8.ofNat 46, UInt8.ofNat 46, UInt8.ofNat 46, UInt8.ofNat 46])]), ov 28 30, o 31 (.ext (.t 28) 0), o 32 (.ext (.t 28) 1), ov 9 31, ov 10 32]) (.seq (.reg [ov 33 2, o 34 (.bin .eql (.t 33) (.k (.str [UInt8.ofNat 40, UInt8.ofNat 40, UInt8.ofNat 41, UInt8.ofNat 41]))), ov 35 34, og 36 (.mv (.t 3)) 35 true, og 37 (.bin .eql (.t 36) (ki 0)) 35 true, o 38 (.pick (.t 35) (.t 37) (.k (.bool false))), ov 39 38, og 40 (.mv (.t 4)) 39 true, og 41 (.bin .eql (.t 40) (.k (.str [UInt8.ofNat 54]))) 39 true, o 42 (.pick (.t 39) (.t 41) (.k (.bool false))), ov 43 42, og 44 (.mv (.t 5)) 43 true, og 45 (.bin .eql (.t 44) (ki 0)) 43 true, o 46 (.pick (.t 43) (.t 45) (.k (.bool false))), ov 47 46, og 48 (.mv (.t 6)) 47 true, og 49 (.len (.t 48)) 47 true, og 50 (.bin .eql (.t 49) (ki 3)) 47 true, o 51 (.pick (.t 47) (.t 50) (.k (.bool false))), ov 52 51, og 53 (.mv (.t 6)) 52 true, og 54 (.iaddr 2 (.t 53) (ki 2)) 52 true, og 55 (.load (some 2) (.t 54)) 52 true, og 56 (.build [.int .i64 (.ofNat 0), .int .i64 (.ofNat 0)] [(0, 1, ki 5), (1, 1, ki 6)]) 52 true, og 57 (.eqf false (.mk true [.i .i64, .i .i64]) (.t 55) (.t 56)) 52 true, o 58 (.pick (.t 52) (.t 57) (.k (.bool false))), ov 59 58, og 60 (.mv (.t 7)) 59 true, og 61 (.bin .eql (.t 60) (ki 2)) 59 true, o 62 (.pick (.t 59) (.t 61) (.k (.bool false))), ov 63 62, og 64 (.mv (.t 8)) 63 true, og 65 (.bin .eql (.t 64) (ki 0)) 63 true, o 66 (.pick (.t 63) (.t 65) (.k (.bool false))), ov 67 66, og 68 (.mv (.t 9)) 67 true, og 69 (.bin .eql (.t 68) (.k (.str [UInt8.ofNat 53]))) 67 true, o 70 (.pick (.t 67) (.t 69) (.k (.bool false))), ov 71 70, og 72 (.mv (.t 10)) 71 true, og 73 (.bin .eql (.t 72) (ki 0)) 71 true, o 74 (.pick (.t 71) (.t 73) (.k (.bool false))), ov 0 74]) .ret))))))) 75 0 [.t 0]
theorem l16 : compFunc Tryz.prog 16 = some L16 := by kernel_rfl
def L17 : XFunc := .mk (.seq (.reg [o 6 (.mv (.k .nils))]) (.seq (.reg [ov 15 0, o 16 (.slen (.t 15)), ov 7 16]) (.seq (.reg [o 17 (.bslice [.nils] [] 0), ov 8 17]) (.seq (.seq (.reg [o 9 (.mv (ki 0))]) (.block 0 (.loop (.seq (.seq (.reg [ov 18 9, ov 19 7, o 20 (.bin .leq (.t 18) (.t 19))]) (.cond (.t 20) .skip (.exit 0))) (.seq (.block 1 (.reg [ov 23 8, ov 24 7, o 25 (.bin .add (.t 24) (ki 1)), o 26 (.mkslice [.nils] 24 (.t 25) (.t 25)), o 27 (.bslice [.nils] [(0, 1, .t 26)] 1), o 28 (.app 1 24 (.t 23) (.t 27)), ov 8 28])) (.reg [ov 21 9, o 22 (.bin .add (.t 21) (ki 1)), ov 9 22])))))) (.seq (.seq (.reg [o 10 (.mv (ki 0))]) (.block 2 (.loop (.seq (.seq (.reg [ov 29 10, ov 30 7, o 31 (.bin .leq (.t 29) (.t 30))]) (.cond (.t 31) .skip (.exit 2))) (.seq (.block 3 (.seq (.reg [o 11 (.mv (ki 0))]) (.block 4 (.loop (.seq (.seq (.reg [ov 34 11, ov 35 10, o 36 (.bin .add (.t 34) (.t 35)), ov 37 7, o 38 (.bin .leq (.t 36) (.t 37))]) (.cond (.t 38) .skip (.exit 4))) (.seq (.block 5 (.seq (.reg [ov 41 11, ov 42 10, o 43 (.bin .add (.t 41) (.t 42)), ov 12 43]) (.seq (.seq (.reg [ov 44 10, o 45 (.bin .eql (.t 44) (ki 0))]) (.cond (.t 45) (.seq (.regd [ov 46 8, ov 47 11, o 48 (.iaddr 1 (.t 46) (.t 47)), o 49 (.load none (.t 48)), ov 50 12, o 51 (.call (kf 52) [ki 1]), o 52 (.bslice [.bool false, .nils] [(0, 2, .t 51)] 1), o 53 (.iaddr 1 (.t 49) (.t 50)), .mk none (.store 1 (.t 53) (.t 52)) none] [(3, [5], [6])] [6]) (.exit 5)) .skip)) (.seq (.reg [o 54 (.bslice [.bool false, .nils] [] 0), ov 55 8, ov 56 11, o 57 (.bin .add (.t 56) (ki 1)), o 58 (.iaddr 1 (.t 55) (.t 57)), o 59 (.load none (.t 58)), ov 60 12, o 61 (.iaddr 1 (.t 59) (.t 60)), o 62 (.load none (.t 61)), o 63 (.app 2 32 (.t 54) (.t 62)), ov 13 63]) (.seq (.seq (.reg [ov 64 11, o 65 (.bin .add (.t 64) (ki 1)), ov 14 65]) (.block 6 (.loop (.seq (.seq (.reg [ov 66 14, ov 67 12, o 68 (.bin .lss (.t 66) (.t 67))]) (.cond (.t 68) .skip (.exit 6))) (.seq (.block 7 (.seq (.reg [ov 71 0, ov 72 1, ov 73 2, ov 74 11, ov 75 14, o 76 (.call (kf 53) [.t 71, .t 72, .t 73, .t 74, .t 75])]) (.cond (.t 76) (.regd [ov 77 13, ov 78 8, ov 79 11, o 80 (.bin .add (.t 79) (ki 1)), o 81 (.iaddr 1 (.t 78) (.t 80)), o 82 (.load none (.t 81)), ov 83 14, o 84 (.iaddr 1 (.t 82) (.t 83)), o 85 (.load none (.t 84)), ov 86 8, ov 87 14, o 88 (.bin .add (.t 87) (ki 1)), o 89 (.iaddr 1 (.t 86) (.t 88)), o 90 (.load none (.t 89)), ov 91 12, o 92 (.iaddr 1 (.t 90) (.t 91)), o 93 (.load none (.t 92)), o 94 (.call (kf 55) [.t 85, .t 93]), o 95 (.call (kf 54) [.t 77, .t 94]), ov 13 95] [] []) .skip))) (.reg [ov 69 14, o 70 (.bin .add (.t 69) (ki 1)), ov 14 70])))))) (.reg [ov 96 8, ov 97 11, o 98 (.iaddr 1 (.t 96) (.t 97)), o 99 (.load none (.t 98)), ov 100 12, ov 101 13, o 102 (.iaddr 1 (.t 99) (.t 100)), .mk none (.store 1 (.t 102) (.t 101)) none])))))) (.reg [ov 39 11, o 40 (.bin .add (.t 39) (ki 1)), ov 11 40]))))))) (.reg [ov 32 10, o 33 (.bin .add (.t 32) (ki 1)), ov 10 33])))))) (.seq (.reg [ov 103 8, ov 6 103]) .ret)))))) 104 3 [.t 6]
theorem l17 : compFunc Tryz.prog 17 = some L17 := by kernel_rfl
def L18 : XFunc := .mk (.seq (.reg [o 8 (.mv (.k (.str [])))]) (.seq (.reg [ov 16 0, o 17 (.call (kf 36) [.t 16]), o 18 (.len (.t 17)), o 19 (.bin .sub (.t 18) (ki 1)), ov 9 19, o 10 (.mv (.k (.str [])))]) (.seq (.reg [o 20 (.bslice [.int .i64 (.ofNat 0)] [] 0), ov 11 20]) (.seq (.seq (.reg [o 12 (.mv (ki 0))]) (.block 0 (.loop (.seq (.seq (.reg [ov 21 12, ov 22 1, o 23 (.slen (.t 22)), o 24 (.bin .lss (.t 21) (.t 23))]) (.cond (.t 24) .skip (.exit 0))) (.seq (.block 1 (.seq (.reg [ov 27 10, o 28 (.call (kf 56) [.t 27]), ov 13 28]) (.seq (.reg [o 29 (.bslice [.int .i64 (.ofNat 0)] [] 0), ov 30 11, o 31 (.app 1 8 (.t 29) (.t 30)), ov 32 12, o 33 (.bslice [.int .i64 (.ofNat 0)] [(0, 1, .t 32)] 1), o 34 (.app 1 8 (.t 31) (.t 33)), ov 14 34]) (.seq (.reg [ov 35 11, o 36 (.len (.t 35)), ov 15 36]) (.block 2 (.seq (.reg [ov 40 0, ov 41 1, ov 42 2, ov 43 3, ov 44 12, o 45 (.bin .add (.t 44) (ki 1)), ov 46 14, o 47 (.call (kf 57) [.t 40, .t 41, .t 42, .t 43, .t 45, .t 46]), ov 48 13, o 49 (.bin .add (.t 47) (.t 48)), o 50 (.bin .add (.t 49) (ki 1)), ov 51 9, o 52 (.bin .eql (.t 50) (.t 51)), ov 39 52]) (.cond (.t 39) (.reg [ov 53 10, o 54 (.bin .add (.t 53) (.k (.str [UInt8.ofNat 40]))), ov 55 14, ov 10 54, ov 11 55]) (.seq (.reg [ov 57 15, o 58 (.bin .gtr (.t 57) (ki 0)), ov 59 58, og 60 (.mv (.t 1)) 59 true, og 61 (.mv (.t 2)) 59 true, og 62 (.mv (.t 3)) 59 true, og 63 (.mv (.t 11)) 59 true, og 64 (.mv (.t 15)) 59 true, og 65 (.bin .sub (.t 64) (ki 1)) 59 true, og 66 (.iaddr 1 (.t 63) (.t 65)) 59 true, og 67 (.load none (.t 66)) 59 true, og 68 (.mv (.t 12)) 59 true, og 69 (.call (kf 53) [.t 60, .t 61, .t 62, .t 67, .t 68]) 59 true, o 70 (.pick (.t 59) (.t 69) (.k (.bool false))), ov 71 70, og 72 (.mv (.t 0)) 71 true, og 73 (.mv (.t 1)) 71 true, og 74 (.mv (.t 2)) 71 true, og 75 (.mv (.t 3)) 71 true, og 76 (.mv (.t 12)) 71 true, og 77 (.bin .add (.t 76) (ki 1)) 71 true, og 78 (.mv (.t 11)) 71 true, og 79 (.mv (.t 15)) 71 true, og 80 (.bin .sub (.t 79) (ki 1)) 71 true, og 81 (.cut 1 (.t 78) none (some (.t 80)) none) 71 true, og 82 (.call (kf 57) [.t 72, .t 73, .t 74, .t 75, .t 77, .t 81]) 71 true, og 83 (.mv (.t 13)) 71 true, og 84 (.bin .add (.t 82) (.t 83)) 71 true, og 85 (.mv (.t 9)) 71 true, og 86 (.bin .eql (.t 84) (.t 85)) 71 true, o 87 (.pick (.t 71) (.t 86) (.k (.bool false))), ov 56 87]) (.cond (.t 56) (.reg [ov 88 10, o 89 (.bin .add (.t 88) (.k (.str [UInt8.ofNat 41]))), o 90 (.bslice [.int .i64 (.ofNat 0)] [] 0), ov 91 11, ov 92 15, o 93 (.bin .sub (.t 92) (ki 1)), o 94 (.cut 1 (.t 91) none (some (.t 93)) none), o 95 (.app 1 8 (.t 90) (.t 94)), ov 10 89, ov 11 95]) (.reg [ov 37 10, o 38 (.bin .add (.t 37) (.k (.str [UInt8.ofNat 46]))), ov 10 38])))))))))) (.reg [ov 25 12, o 26 (.bin .add (.t 25) (ki 1)), ov 12 26])))))) (.seq (.reg [ov 96 10, ov 8 96]) .ret))))) 97 4 [.t 8]
theorem l18 : compFunc Tryz.prog 18 = some L18 := by kernel_rfl
def L19 : XFunc := .mk (.seq (.reg [o 8 (.mv (.k (.str []))), o 9 (.mv (ki 0))]) (.seq (.reg [ov 20 0, ov 21 1, ov 22 2, o 23 (.call (kf 47) [.t 20, .t 21, .t 22]), ov 19 23, o 24 (.ext (.t 19) 0), o 25 (.ext (.t 19) 1), ov 10 24, ov 11 25]) (.seq (.block 0 (.seq (.reg [ov 27 11, o 28 (.bin .neq (.t 27) (ki 0)), ov 26 28]) (.cond (.t 26) (.seq (.reg [ov 29 11, o 8 (.mv (.k (.str []))), ov 9 29]) .ret) (.seq (.reg [ov 31 10, ov 32 3, o 33 (.call (kf 58) [.t 31, .t 32]), o 34 (.un .not (.t 33)), ov 30 34]) (.cond (.t 30) (.seq (.reg [o 8 (.mv (.k (.str []))), o 9 (.mv (ki 2))]) .ret) .skip))))) (.seq (.reg [ov 35 10, o 36 .mkmap, o 37 (.build [.nilp, .nilm] [(0, 1, .t 35), (1, 1, .t 36)]), o 38 (.box (.t 37)), ov 12 38]) (.seq (.reg [o 39 (.call (kf 59) [ki 0]), o 13 (.alloc [.bool false, .nils]), .mk none (.store 2 (.t 13) (.t 39)) none]) (.seq (.reg [o 14 (.mv (.k .nils))]) (.seq (.seq (.reg [ov 40 0, o 41 (.slen (.t 40)), o 42 (.mv (ki 0))]) (.block 1 (.loop (.seq (.reg [o 43 (.bin .lss (.t 42) (.t 41))]) (.seq (.cond (.t 43) .skip (.exit 1)) (.seq (.block 2 (.seq (.reg [ov 44 42, ov 15 44]) (.seq (.seq (.reg [o 16 (.mv (ki 0))]) (.block 3 (.loop (.seq (.seq (.regd [ov 45 16, o 46 (.sidx (.k (.str [UInt8.ofNat 40, UInt8.ofNat 41, UInt8.ofNat 46])) (.t 45)), ov 47 3, ov 48 15, o 49 (.sidx (.t 47) (.t 48)), o 50 (.bin .neq (.t 46) (.t 49))] [] []) (.cond (.t 50) .skip (.exit 3))) (.seq (.block 4 (.seq (.reg [ov 54 12, ov 55 15, ov 56 14, ov 57 16, o 58 (.sidx (.k (.str [UInt8.ofNat 40, UInt8.ofNat 41, UInt8.ofNat 46])) (.t 57)), o 59 (.call (kf 60) [.t 54, .t 55, .t 56, .t 58]), ov 53 59, o 60 (.ext (.t 53) 0), o 61 (.ext (.t 53) 1), ov 17 60, ov 18 61]) (.seq (.reg [ov 62 18]) (.cond (.t 62) (.regd [o 63 (.load (some 2) (.t 13)), ov 64 12, ov 65 15, o 66 (.bin .add (.t 65) (ki 1)), ov 67 17, o 68 (.call (kf 62) [.t 64, .t 66, .t 67]), o 69 (.call (kf 61) [.t 63, .t 68]), .mk none (.store 2 (.t 13) (.t 69)) none] [(0, [5], [])] []) .skip)))) (.reg [ov 51 16, o 52 (.bin .add (.t 51) (ki 1)), ov 16 52])))))) (.reg [ov 71 12, ov 72 15, ov 73 14, ov 74 3, ov 75 15, o 76 (.sidx (.t 74) (.t 75)), o 77 (.call (kf 60) [.t 71, .t 72, .t 73, .t 76]), ov 70 77, o 78 (.ext (.t 70) 0), o 79 (.ext (.t 70) 1), ov 14 78])))) (.reg [o 80 (.bin .add (.t 42) (ki 1)), ov 42 80]))))))) (.seq (.reg [o 81 (.load (some 2) (.t 13)), o 82 (.call (kf 63) [.t 81]), o 83 (.call (kf 64) [.t 82]), o 84 (.ext (.t 83) 0), o 85 (.ext (.t 83) 1), ov 8 84, ov 9 85]) .ret)))))))) 86 4 [.t 8, .t 9]
theorem l19 : compFunc Tryz.prog 19 = some L19 := by kernel_rfl
def L25 : XFunc := .mk (.seq (.reg [o 6 (.mv (ki 0)), o 7 (.mv (ki 0))]) (.seq (.reg [ov 11 0, ov 12 1, ov 13 2, o 14 (.call (kf 47) [.t 11, .t 12, .t 13]), ov 10 14, o 15 (.ext (.t 10) 0), o 16 (.ext (.t 10) 1), ov 8 15, ov 9 16]) (.seq (.seq (.reg [ov 17 9, o 18 (.bin .neq (.t 17) (ki 0))]) (.cond (.t 18) (.seq (.reg [ov 19 9, o 6 (.mv (ki 0)), ov 7 19]) .ret) .skip)) (.seq (.reg [ov 20 8, ov 21 8, o 22 (.call (kf 49) [.t 21]), o 23 (.call (kf 68) [.t 20, .t 22]), o 24 (.len (.t 23)), o 25 (.bin .sub (.t 24) (ki 1)), ov 6 25, o 7 (.mv (ki 0))]) .ret)))) 26 3 [.t 6, .t 7]
theorem l25 : compFunc Tryz.prog 25 = some L25 := by kernel_rfl
def L26 : XFunc := .mk (.seq (.reg [o 6 (.mv (.k (.str []))), o 7 (.mv (ki 0))]) (.seq (.reg [ov 11 0, ov 12 1, ov 13 2, o 14 (.call (kf 47) [.t 11, .t 12, .t 13]), ov 10 14, o 15 (.ext (.t 10) 0), o 16 (.ext (.t 10) 1), ov 8 15, ov 9 16]) (.seq (.seq (.reg [ov 17 9, o 18 (.bin .neq (.t 17) (ki 0))]) (.cond (.t 18) (.seq (.reg [ov 19 9, o 6 (.mv (.k (.str []))), ov 7 19]) .ret) .skip)) (.seq (.reg [ov 20 8, ov 21 8, o 22 (.call (kf 49) [.t 21]), o 23 (.call (kf 68) [.t 20, .t 22]), o 24 (.call (kf 69) [.t 23]), o 25 (.call (kf 63) [.t 24]), o 26 (.call (kf 64) [.t 25]), o 27 (.ext (.t 26) 0), o 28 (.ext (.t 26) 1), ov 6 27, ov 7 28]) .ret)))) 29 3 [.t 6, .t 7]
theorem l26 : compFunc Tryz.prog 26 = some L26 := by kernel_rfl
def L31 : XFunc := .mk (.seq (.reg [o 6 (.mv (.k .nils)), o 7 (.mv (ki 0))]) (.seq (.reg [ov 16 0, ov 17 1, ov 18 2, o 19 (.call (kf 47) [.t 16, .t 17, .t 18]), ov 15 19, o 20 (.ext (.t 15) 0), o 21 (.ext (.t 15) 1), ov 8 20, ov 9 21]) (.seq (.seq (.reg [ov 22 9, o 23 (.bin .neq (.t 22) (ki 0))]) (.cond (.t 23) (.seq (.reg [ov 24 9, o 6 (.mv (.k .nils)), ov 7 24]) .ret) .skip)) (.seq (.reg [o 10 (.mv (.k .nils))]) (.seq (.seq (.reg [ov 25 8, ov 26 8, o 27 (.call (kf 49) [.t 26]), o 28 (.call (kf 68) [.t 25, .t 27]), o 29 (.len (.t 28)), o 30 (.mv (ki 0))]) (.block 0 (.loop (.seq (.reg [o 31 (.bin .lss (.t 30) (.t 29))]) (.seq (.cond (.t 31) .skip (.exit 0)) (.seq (.block 1 (.seq (.reg [o 32 (.iaddr 2 (.t 28) (.t 30)), o 33 (.load (some 2) (.t 32)), o 12 (.alloc [.bool false, .nils]), .mk none (.store 2 (.t 12) (.t 33)) none]) (.seq (.reg [o 35 (.load (some 2) (.t 12)), o 36 (.call (kf 63) [.t 35]), o 37 (.call (kf 64) [.t 36]), ov 34 37, o 38 (.ext (.t 34) 0), o 39 (.ext (.t 34) 1), ov 13 38, ov 14 39]) (.seq (.seq (.reg [ov 40 14, o 41 (.bin .neq (.t 40) (ki 0))]) (.cond (.t 41) (.seq (.reg [ov 42 14, o 6 (.mv (.k .nils)), ov 7 42]) .ret) .skip)) (.reg [ov 43 10, ov 44 13, o 45 (.bslice [.str []] [(0, 1, .t 44)] 1), o 46 (.app 1 16 (.t 43) (.t 45)), ov 10 46]))))) (.reg [o 47 (.bin .add (.t 30) (ki 1)), ov 30 47]))))))) (.seq (.reg [ov 48 10, ov 6 48, o 7 (.mv (ki 0))]) .ret)))))) 49 3 [.t 6, .t 7]
theorem l31 : compFunc Tryz.prog 31 = some L31 := by kernel_rfl
def L36 : XFunc := .mk (.seq (.reg [o 2 (.mv (.k .nils))]) (.seq (.regd [ov 3 0, o 4 (.iaddr 1 (.t 3) (ki 0)), o 5 (.load none (.t 4)), ov 6 0, o 7 (.len (.t 6)), o 8 (.bin .sub (.t 7) (ki 1)), o 9 (.iaddr 1 (.t 5) (.t 8)), o 10 (.load none (.t 9)), ov 11 0, o 12 (.iaddr 1 (.t 11) (ki 0)), o 13 (.load none (.t 12)), ov 14 0, o 15 (.len (.t 14)), o 16 (.bin .sub (.t 15) (ki 1)), o 17 (.iaddr 1 (.t 13) (.t 16)), o 18 (.load none (.t 17)), o 19 (.call (kf 75) [.t 18]), o 20 (.bin .add (.t 19) (ki 1)), o 21 (.cut 2 (.t 10) none (some (.t 20)) none), ov 2 21] [(2, [16], []), (7, [16], [])] []) .ret)) 22 1 [.t 2]
theorem l36 : compFunc Tryz.prog 36 = some L36 := by kernel_rfl
def L47 : XFunc := .mk (.seq (.reg [o 6 (.mv (.k .nilp)), o 7 (.mv (ki 0))]) (.seq (.seq (.reg [ov 11 0, o 12 (.slen (.t 11)), o 13 (.bin .gtr (.t 12) (ki 40)), ov 14 13, og 15 (.mv (.t 1)) 14 false, og 16 (.len (.t 15)) 14 false, og 17 (.bin .gtr (.t 16) (ki 16)) 14 false, o 18 (.pick (.t 14) (.k (.bool true)) (.t 17))]) (.cond (.t 18) (.seq (.reg [o 6 (.mv (.k .nilp)), o 7 (.mv (ki 3))]) .ret) .skip)) (.seq (.reg [ov 19 0, ov 20 2, o 21 .mkmap, o 22 .mkmap, o 23 (.build [.str [], .bool false, .bool false, .bool false, .bool false, .bool false, .bool false, .bool false, .bool false, .bool false, .bool false, .bool false, .bool false, .bool false, .bool false, .bool false, .bool false, .int .i64 (.ofNat 0), .nilm, .nilm] [(0, 1, .t 19), (17, 1, .t 20), (18, 1, .t 21), (19, 1, .t 22)]), o 24 (.box (.t 23)), ov 8 24]) (.seq (.seq (.reg [ov 25 1, o 26 (.len (.t 25)), o 27 (.mv (ki 0))]) (.block 0 (.loop (.seq (.reg [o 28 (.bin .lss (.t 27) (.t 26))]) (.seq (.cond (.t 28) .skip (.exit 0)) (.seq (.block 1 (.seq (.reg [o 29 (.iaddr 2 (.t 25) (.t 27)), o 30 (.load (some 2) (.t 29)), o 10 (.alloc [.int .i64 (.ofNat 0), .int .i64 (.ofNat 0)]), .mk none (.store 2 (.t 10) (.t 30)) none]) (.seq (.seq (.reg [o 31 (.faddr 0 (.t 10)), o 32 (.load none (.t 31)), o 33 (.faddr 1 (.t 10)), o 34 (.load none (.t 33)), o 35 (.mn [.t 32, .t 34]), o 36 (.bin .lss (.t 35) (ki 0)), ov 37 36, og 38 (.faddr 0 (.t 10)) 37 false, og 39 (.load none (.t 38)) 37 false, og 40 (.faddr 1 (.t 10)) 37 false, og 41 (.load none (.t 40)) 37 false, og 42 (.mx [.t 39, .t 41]) 37 false, og 43 (.bin .geq (.t 42) (ki 4)) 37 false, o 44 (.pick (.t 37) (.k (.bool true)) (.t 43))]) (.cond (.t 44) (.seq (.reg [o 6 (.mv (.k .nilp)), o 7 (.mv (ki 1))]) .ret) .skip)) (.regd [ov 45 8, o 46 (.faddr 0 (.t 10)), o 47 (.load none (.t 46)), o 48 (.faddr 1 (.t 10)), o 49 (.load none (.t 48)), ov 50 8, o 51 (.faddr 1 (.t 10)), o 52 (.load none (.t 51)), o 53 (.faddr 0 (.t 10)), o 54 (.load none (.t 53)), o 55 (.nilc (.t 45)), o 56 (.faddr 1 (.t 55)), o 57 (.aaddr 4 4 (.t 56) (.t 47)), o 58 (.aaddr 4 1 (.t 57) (.t 49)), .mk none (.store 1 (.t 58) (.k (.bool true))) none, o 59 (.nilc (.t 50)), o 60 (.faddr 1 (.t 59)), o 61 (.aaddr 4 4 (.t 60) (.t 52)), o 62 (.aaddr 4 1 (.t 61) (.t 54)), .mk none (.store 1 (.t 62) (.k (.bool true))) none] [(7, [14], []), (9, [14], [])] [])))) (.reg [o 63 (.bin .add (.t 27) (ki 1)), ov 27 63]))))))) (.seq (.block 2 (.seq (.reg [ov 65 2, o 66 (.bin .lss (.t 65) (ki 0)), ov 67 66, og 68 (.mv (.t 2)) 67 false, og 69 (.bin .gtr (.t 68) (ki 5)) 67 false, o 70 (.pick (.t 67) (.k (.bool true)) (.t 69)), ov 64 70]) (.cond (.t 64) (.seq (.reg [o 6 (.mv (.k .nilp)), o 7 (.mv (ki 1))]) .ret) (.seq (.reg [ov 72 0, o 73 (.call (kf 89) [.t 72, .k (.str [UInt8.ofNat 97, UInt8.ofNat 98, UInt8.ofNat 99, UInt8.ofNat 100])]), o 74 (.bin .neq (.t 73) (.k (.str []))), ov 71 74]) (.cond (.t 71) (.seq (.reg [o 6 (.mv (.k .nilp)), o 7 (.mv (ki 2))]) .ret) .skip))))) (.seq (.reg [ov 75 8, ov 6 75, o 7 (.mv (ki 0))]) .ret)))))) 76 3 [.t 6, .t 7]
theorem l47 : compFunc Tryz.prog 47 = some L47 := by kernel_rfl
def L48 : XFunc := .mk (.seq (.reg [o 3 (.box (.t 1)), o 4 (.mv (.k (.str [])))]) (.seq (.seq (.reg [o 10 (.faddr 1 (.t 3)), o 11 (.load none (.t 10)), o 12 (.faddr 0 (.t 3)), o 13 (.load none (.t 12)), o 14 (.bin .eql (.t 11) (.t 13))]) (.cond (.t 14) (.seq (.reg [o 4 (.mv (.k (.str [])))]) .ret) .skip)) (.seq (.seq (.regd [ov 16 0, o 17 (.nilc (.t 16)), o 18 (.faddr 19 (.t 17)), o 19 (.load none (.t 18)), o 20 (.load (some 2) (.t 3)), o 21 (.look (.mk true [.i .i64, .i .i64]) (.str []) (.t 19) (.t 20) true), ov 15 21, o 22 (.ext (.t 15) 0), o 23 (.ext (.t 15) 1), ov 5 22, ov 6 23] [] []) (.seq (.reg [ov 24 6]) (.cond (.t 24) (.seq (.reg [ov 25 5, ov 4 25]) .ret) .skip))) (.seq (.reg [o 7 (.mv (.k (.str [])))]) (.seq (.seq (.reg [o 26 (.faddr 0 (.t 3)), o 27 (.load none (.t 26)), o 28 (.bin .add (.t 27) (ki 1)), ov 8 28]) (.block 0 (.loop (.seq (.seq (.reg [ov 29 8, o 30 (.faddr 1 (.t 3)), o 31 (.load none (.t 30)), o 32 (.bin .lss (.t 29) (.t 31))]) (.cond (.t 32) .skip (.exit 0))) (.seq (.block 1 (.seq (.regd [ov 35 0, o 36 (.faddr 0 (.t 3)), o 37 (.load none (.t 36)), ov 38 8, o 39 (.call (kf 90) [.t 35, .t 37, .t 38]), ov 40 39, og 41 (.mv (.t 0)) 40 true, og 42 (.faddr 0 (.t 3)) 40 true, og 43 (.load none (.t 42)) 40 true, og 44 (.bin .add (.t 43) (ki 1)) 40 true, og 45 (.mv (.t 8)) 40 true, og 46 (.build [.int .i64 (.ofNat 0), .int .i64 (.ofNat 0)] [(0, 1, .t 44), (1, 1, .t 45)]) 40 true, og 47 (.call (kf 91) [.t 41, .t 46]) 40 true, og 48 (.bin .add (ki 1) (.t 47)) 40 true, og 49 (.mv (.t 0)) 40 true, og 50 (.mv (.t 8)) 40 true, og 51 (.bin .add (.t 50) (ki 1)) 40 true, og 52 (.faddr 1 (.t 3)) 40 true, og 53 (.load none (.t 52)) 40 true, og 54 (.build [.int .i64 (.ofNat 0), .int .i64 (.ofNat 0)] [(0, 1, .t 51), (1, 1, .t 53)]) 40 true, og 55 (.call (kf 91) [.t 49, .t 54]) 40 true, og 56 (.bin .add (.t 48) (.t 55)) 40 true, og 57 (.mv (.t 0)) 40 true, og 58 (.load (some 2) (.t 3)) 40 true, og 59 (.call (kf 91) [.t 57, .t 58]) 40 true, og 60 (.bin .eql (.t 56) (.t 59)) 40 true, o 61 (.pick (.t 40) (.t 60) (.k (.bool false)))] [(18, [12], []), (23, [12, 20], [])] []) (.cond (.t 61) (.seq (.regd [ov 62 0, o 63 (.faddr 0 (.t 3)), o 64 (.load none (.t 63)), o 65 (.bin .add (.t 64) (ki 1)), ov 66 8, o 67 (.build [.int .i64 (.ofNat 0), .int .i64 (.ofNat 0)] [(0, 1, .t 65), (1, 1, .t 66)]), o 68 (.call (kf 48) [.t 62, .t 67]), o 69 (.bin .add (.k (.str [UInt8.ofNat 40])) (.t 68)), o 70 (.bin .add (.t 69) (.k (.str [UInt8.ofNat 41]))), ov 71 0, ov 72 8, o 73 (.bin .add (.t 72) (ki 1)), o 74 (.faddr 1 (.t 3)), o 75 (.load none (.t 74)), o 76 (.build [.int .i64 (.ofNat 0), .int .i64 (.ofNat 0)] [(0, 1, .t 73), (1, 1, .t 75)]), o 77 (.call (kf 48) [.t 71, .t 76]), o 78 (.bin .add (.t 70) (.t 77)), ov 9 78] [(13, [6], [])] []) (.seq (.reg [ov 79 7, o 80 (.bin .eql (.t 79) (.k (.str []))), ov 81 80, og 82 (.mv (.t 9)) 81 false, og 83 (.mv (.t 7)) 81 false, og 84 (.bin .lss (.t 82) (.t 83)) 81 false, o 85 (.pick (.t 81) (.k (.bool true)) (.t 84))]) (.cond (.t 85) (.reg [ov 86 9, ov 7 86]) .skip))) .skip))) (.reg [ov 33 8, o 34 (.bin .add (.t 33) (ki 1)), ov 8 34])))))) (.seq (.seq (.reg [ov 87 7, o 88 (.bin .eql (.t 87) (.k (.str [])))]) (.cond (.t 88) (.reg [ov 89 0, o 90 (.faddr 0 (.t 3)), o 91 (.load none (.t 90)), o 92 (.bin .add (.t 91) (ki 1)), o 93 (.faddr 1 (.t 3)), o 94 (.load none (.t 93)), o 95 (.build [.int .i64 (.ofNat 0), .int .i64 (.ofNat 0)] [(0, 1, .t 92), (1, 1, .t 94)]), o 96 (.call (kf 48) [.t 89, .t 95]), o 97 (.bin .add (.k (.str [UInt8.ofNat 46])) (.t 96)), ov 7 97]) .skip)) (.seq (.regd [ov 98 0, o 99 (.nilc (.t 98)), o 100 (.faddr 19 (.t 99)), o 101 (.load none (.t 100)), o 102 (.load (some 2) (.t 3)), ov 103 7, .mk none (.upd (.mk true [.i .i64, .i .i64]) (.t 101) (.t 102) (.t 103)) none] [] []) (.seq (.reg [ov 104 7, ov 4 104]) .ret)))))))) 105 2 [.t 4]
theorem l48 : compFunc Tryz.prog 48 = some L48 := by kernel_rfl
def L49 : XFunc := .mk (.seq (.reg [o 2 (.alloc [.int .i64 (.ofNat 0), .int .i64 (.ofNat 0)])]) (.seq (.reg [ov 3 0, o 4 (.nilc (.t 3)), o 5 (.faddr 0 (.t 4)), o 6 (.load none (.t 5)), o 7 (.slen (.t 6)), o 8 (.build [.int .i64 (.ofNat 0), .int .i64 (.ofNat 0)] [(0, 1, ki 0), (1, 1, .t 7)]), .mk none (.store 2 (.t 2) (.t 8)) none]) .ret)) 9 1 [.c 2 (some 2)]
theorem l49 : compFunc Tryz.prog 49 = some L49 := by kernel_rfl
def L50 : XFunc := .mk (.seq (.reg [o 6 (.mv (.k (.bool false)))]) (.seq (.reg [ov 7 0, ov 8 1, o 9 (.bin .geq (.t 7) (.t 8)), ov 10 9, og 11 (.mv (.t 0)) 10 true, og 12 (.mv (.t 2)) 10 true, og 13 (.bin .leq (.t 11) (.t 12)) 10 true, o 14 (.pick (.t 10) (.t 13) (.k (.bool false))), ov 6 14]) .ret)) 15 3 [.t 6]
theorem l50 : compFunc Tryz.prog 50 = some L50 := by kernel_rfl
def L51 : XFunc := .mk (.seq (.reg [o 2 (.mv (.k .nils)), o 3 (.mv (ki 0)), o 4 (.mv (ki 0))]) (.seq (.seq (.reg [ov 8 0, o 9 (.slen (.t 8)), o 10 (.bin .gtr (.t 9) (ki 40))]) (.cond (.t 10) (.seq (.reg [o 2 (.mv (.k .nils)), o 3 (.mv (ki 0)), o 4 (.mv (ki 3))]) .ret) .skip)) (.seq (.reg [ov 12 0, o 13 (.call (kf 92) [.t 12]), ov 11 13, o 14 (.ext (.t 11) 0), o 15 (.ext (.t 11) 1), o 16 (.ext (.t 11) 2), ov 5 14, ov 6 15, ov 7 16]) (.seq (.seq (.reg [ov 17 7, o 18 (.un .not (.t 17))]) (.cond (.t 18) (.seq (.reg [o 2 (.mv (.k .nils)), o 3 (.mv (ki 0)), o 4 (.mv (ki 2))]) .ret) .skip)) (.seq (.reg [ov 19 5, ov 20 6, ov 2 19, ov 3 20, o 4 (.mv (ki 0))]) .ret))))) 21 1 [.t 2, .t 3, .t 4]
theorem l51 : compFunc Tryz.prog 51 = some L51 := by kernel_rfl
def L52 : XFunc := .mk (.seq (.reg [o 2 (.alloc [.bool false, .nils])]) (.seq (.reg [ov 5 0, o 6 (.bin .lss (.t 5) (ki 0)), o 7 (.build [.bool false, .nils] [(0, 1, .t 6)]), o 3 (.alloc [.bool false, .nils]), .mk none (.store 2 (.t 3) (.t 7)) none]) (.seq (.block 0 (.loop (.seq (.seq (.reg [ov 8 0, o 9 (.bin .neq (.t 8) (ki 0))]) (.cond (.t 9) .skip (.exit 0))) (.block 1 (.seq (.reg [ov 10 0, o 11 (.bin .rem (.t 10) (ki 10000)), ov 4 11]) (.seq (.seq (.reg [ov 12 4, o 13 (.bin .lss (.t 12) (ki 0))]) (.cond (.t 13) (.reg [ov 14 4, o 15 (.un .neg (.t 14)), ov 4 15]) .skip)) (.seq (.reg [o 16 (.faddr 1 (.t 3)), o 17 (.load none (.t 16)), ov 18 4, o 19 (.bslice [.int .i64 (.ofNat 0)] [(0, 1, .t 18)] 1), o 20 (.app 1 8 (.t 17) (.t 19)), o 21 (.faddr 1 (.t 3)), .mk none (.store 1 (.t 21) (.t 20)) none]) (.reg [ov 22 0, o 23 (.bin .quo (.t 22) (ki 10000)), ov 0 23])))))))) (.seq (.reg [o 24 (.load (some 2) (.t 3)), .mk none (.store 2 (.t 2) (.t 24)) none]) .ret)))) 25 1 [.c 2 (some 2)]
theorem l52 : compFunc Tryz.prog 52 = some L52 := by kernel_rfl
def L53 : XFunc := .mk (.seq (.reg [o 10 (.mv (.k (.bool false)))]) (.seq (.seq (.reg [o 11 (.mv (ki 0))]) (.block 0 (.loop (.seq (.seq (.reg [ov 14 11, ov 15 1, o 16 (.len (.t 15)), o 17 (.bin .lss (.t 14) (.t 16))]) (.cond (.t 17) .skip (.exit 0))) (.seq (.block 1 (.seq (.regd [ov 20 1, ov 21 11, o 22 (.iaddr 2 (.t 20) (.t 21)), o 23 (.faddr 0 (.t 22)), o 24 (.load none (.t 23)), o 25 (.bin .add (ki 97) (.t 24)), o 26 (.conv .u8 (.t 25)), ov 27 1, ov 28 11, o 29 (.iaddr 2 (.t 27) (.t 28)), o 30 (.faddr 1 (.t 29)), o 31 (.load none (.t 30)), o 32 (.bin .add (ki 97) (.t 31)), o 33 (.conv .u8 (.t 32)), ov 12 26, ov 13 33] [] []) (.seq (.reg [ov 34 12, ov 35 0, ov 36 3, o 37 (.sidx (.t 35) (.t 36)), o 38 (.bin .eql (.t 34) (.t 37)), ov 39 38, og 40 (.mv (.t 13)) 39 true, og 41 (.mv (.t 0)) 39 true, og 42 (.mv (.t 4)) 39 true, og 43 (.sidx (.t 41) (.t 42)) 39 true, og 44 (.bin .eql (.t 40) (.t 43)) 39 true, o 45 (.pick (.t 39) (.t 44) (.k (.bool false))), ov 46 45, og 47 (.mv (.t 12)) 46 false, og 48 (.mv (.t 0)) 46 false, og 49 (.mv (.t 4)) 46 false, og 50 (.sidx (.t 48) (.t 49)) 46 false, og 51 (.bin .eql (.t 47) (.t 50)) 46 false, og 52 (.mv (.t 51)) 46 false, og 53 (.mv (.t 13)) 52 true, og 54 (.mv (.t 0)) 52 true, og 55 (.mv (.t 3)) 52 true, og 56 (.sidx (.t 54) (.t 55)) 52 true, og 57 (.bin .eql (.t 53) (.t 56)) 52 true, og 58 (.pick (.t 52) (.t 57) (.k (.bool false))) 46 false, o 59 (.pick (.t 46) (.k (.bool true)) (.t 58)), ov 60 59, og 61 (.mv (.t 4)) 60 true, og 62 (.mv (.t 3)) 60 true, og 63 (.bin .sub (.t 61) (.t 62)) 60 true, og 64 (.mv (.t 2)) 60 true, og 65 (.bin .gtr (.t 63) (.t 64)) 60 true, o 66 (.pick (.t 60) (.t 65) (.k (.bool false)))]) (.cond (.t 66) (.seq (.reg [o 10 (.mv (.k (.bool true)))]) .ret) .skip)))) (.reg [ov 18 11, o 19 (.bin .add (.t 18) (ki 1)), ov 11 19])))))) (.seq (.reg [o 10 (.mv (.k (.bool false)))]) .ret))) 67 5 [.t 10]
theorem l53 : compFunc Tryz.prog 53 = some L53 := by kernel_rfl
def L54 : XFunc := .mk (.seq (.reg [o 4 (.mv (.k .nils))]) (.seq (.reg [o 8 (.bslice [.bool false, .nils] [] 0), ov 5 8]) (.seq (.seq (.reg [o 6 (.mv (ki 0))]) (.block 0 (.loop (.seq (.seq (.reg [ov 9 6, ov 10 0, o 11 (.len (.t 10)), ov 12 1, o 13 (.len (.t 12)), o 14 (.mx [.t 11, .t 13]), o 15 (.bin .lss (.t 9) (.t 14))]) (.cond (.t 15) .skip (.exit 0))) (.seq (.block 1 (.seq (.reg [o 18 (.call (kf 52) [ki 0]), o 7 (.alloc [.bool false, .nils]), .mk none (.store 2 (.t 7) (.t 18)) none]) (.seq (.seq (.reg [ov 19 6, ov 20 0, o 21 (.len (.t 20)), o 22 (.bin .lss (.t 19) (.t 21))]) (.cond (.t 22) (.regd [o 23 (.load (some 2) (.t 7)), ov 24 0, ov 25 6, o 26 (.iaddr 2 (.t 24) (.t 25)), o 27 (.load (some 2) (.t 26)), o 28 (.call (kf 66) [.t 23, .t 27]), .mk none (.store 2 (.t 7) (.t 28)) none] [] []) .skip)) (.seq (.seq (.reg [ov 29 6, ov 30 1, o 31 (.len (.t 30)), o 32 (.bin .lss (.t 29) (.t 31))]) (.cond (.t 32) (.regd [o 33 (.load (some 2) (.t 7)), ov 34 1, ov 35 6, o 36 (.iaddr 2 (.t 34) (.t 35)), o 37 (.load (some 2) (.t 36)), o 38 (.call (kf 66) [.t 33, .t 37]), .mk none (.store 2 (.t 7) (.t 38)) none] [] []) .skip)) (.reg [ov 39 5, o 40 (.load (some 2) (.t 7)), o 41 (.bslice [.bool false, .nils] [(0, 2, .t 40)] 1), o 42 (.app 2 32 (.t 39) (.t 41)), ov 5 42]))))) (.reg [ov 16 6, o 17 (.bin .add (.t 16) (ki 1)), ov 6 17])))))) (.seq (.reg [ov 43 5, ov 4 43]) .ret)))) 44 2 [.t 4]
theorem l54 : compFunc Tryz.prog 54 = some L54 := by kernel_rfl
def L55 : XFunc := .mk (.seq (.reg [o 4 (.mv (.k .nils))]) (.seq (.reg [o 9 (.bslice [.bool false, .nils] [] 0), ov 5 9]) (.seq (.seq (.reg [o 6 (.mv (ki 0))]) (.block 0 (.loop (.seq (.seq (.reg [ov 10 6, ov 11 0, o 12 (.len (.t 11)), ov 13 1, o 14 (.len (.t 13)), o 15 (.bin .add (.t 12) (.t 14)), o 16 (.bin .lss (.t 10) (.t 15))]) (.cond (.t 16) .skip (.exit 0))) (.seq (.block 1 (.reg [ov 19 5, o 20 (.call (kf 52) [ki 0]), o 21 (.bslice [.bool false, .nils] [(0, 2, .t 20)] 1), o 22 (.app 2 32 (.t 19) (.t 21)), ov 5 22])) (.reg [ov 17 6, o 18 (.bin .add (.t 17) (ki 1)), ov 6 18])))))) (.seq (.seq (.reg [o 7 (.mv (ki 0))]) (.block 2 (.loop (.seq (.seq (.reg [ov 23 7, ov 24 0, o 25 (.len (.t 24)), o 26 (.bin .lss (.t 23) (.t 25))]) (.cond (.t 26) .skip (.exit 2))) (.seq (.block 3 (.seq (.reg [o 8 (.mv (ki 0))]) (.block 4 (.loop (.seq (.seq (.reg [ov 29 8, ov 30 1, o 31 (.len (.t 30)), o 32 (.bin .lss (.t 29) (.t 31))]) (.cond (.t 32) .skip (.exit 4))) (.seq (.block 5 (.regd [ov 35 5, ov 36 7, ov 37 8, o 38 (.bin .add (.t 36) (.t 37)), o 39 (.bin .add (.t 38) (ki 1)), ov 40 5, ov 41 7, ov 42 8, o 43 (.bin .add (.t 41) (.t 42)), o 44 (.bin .add (.t 43) (ki 1)), o 45 (.iaddr 2 (.t 40) (.t 44)), o 46 (.load (some 2) (.t 45)), ov 47 0, ov 48 7, o 49 (.iaddr 2 (.t 47) (.t 48)), o 50 (.load (some 2) (.t 49)), ov 51 1, ov 52 8, o 53 (.iaddr 2 (.t 51) (.t 52)), o 54 (.load (some 2) (.t 53)), o 55 (.call (kf 72) [.t 50, .t 54]), o 56 (.call (kf 66) [.t 46, .t 55]), o 57 (.iaddr 2 (.t 35) (.t 39)), .mk none (.store 2 (.t 57) (.t 56)) none] [(11, [20], [])] [])) (.reg [ov 33 8, o 34 (.bin .add (.t 33) (ki 1)), ov 8 34]))))))) (.reg [ov 27 7, o 28 (.bin .add (.t 27) (ki 1)), ov 7 28])))))) (.seq (.reg [ov 58 5, ov 4 58]) .ret))))) 59 2 [.t 4]
theorem l55 : compFunc Tryz.prog 55 = some L55 := by kernel_rfl
def L56 : XFunc := .mk (.seq (.reg [o 2 (.mv (ki 0))]) (.seq (.reg [o 3 (.mv (ki 0))]) (.seq (.seq (.reg [o 4 (.mv (ki 0))]) (.block 0 (.loop (.seq (.seq (.reg [ov 5 4, ov 6 0, o 7 (.slen (.t 6)), o 8 (.bin .lss (.t 5) (.t 7))]) (.cond (.t 8) .skip (.exit 0))) (.seq (.block 1 (.seq (.reg [ov 11 0, ov 12 4, o 13 (.sidx (.t 11) (.t 12)), o 14 (.bin .eql (.t 13) (.k (.int .u8 (.ofNat 40))))]) (.cond (.t 14) (.reg [ov 15 3, o 16 (.bin .add (.t 15) (ki 1)), ov 3 16]) .skip))) (.reg [ov 9 4, o 10 (.bin .add (.t 9) (ki 1)), ov 4 10])))))) (.seq (.reg [ov 17 3, ov 2 17]) .ret)))) 18 1 [.t 2]
theorem l56 : compFunc Tryz.prog 56 = some L56 := by kernel_rfl
def L57 : XFunc := .mk (.seq (.reg [o 12 (.mv (ki 0))]) (.seq (.seq (.reg [ov 16 5, o 17 (.len (.t 16)), o 18 (.bin .eql (.t 17) (ki 0))]) (.cond (.t 18) (.seq (.reg [ov 19 0, ov 20 4, o 21 (.iaddr 1 (.t 19) (.t 20)), o 22 (.load none (.t 21)), ov 23 1, o 24 (.slen (.t 23)), o 25 (.iaddr 1 (.t 22) (.t 24)), o 26 (.load none (.t 25)), o 27 (.call (kf 75) [.t 26]), ov 12 27]) .ret) .skip)) (.seq (.regd [ov 28 5, ov 29 5, o 30 (.len (.t 29)), o 31 (.bin .sub (.t 30) (ki 1)), o 32 (.iaddr 1 (.t 28) (.t 31)), o 33 (.load none (.t 32)), o 13 (.mv (.k (.int .i64 (.negSucc 999)))), ov 14 33] [] []) (.seq (.seq (.reg [ov 34 4, ov 15 34]) (.block 0 (.loop (.seq (.seq (.reg [ov 35 15, ov 36 1, o 37 (.slen (.t 36)), o 38 (.bin .lss (.t 35) (.t 37))]) (.cond (.t 38) .skip (.exit 0))) (.seq (.block 1 (.seq (.reg [ov 41 1, ov 42 2, ov 43 3, ov 44 14, ov 45 15, o 46 (.call (kf 53) [.t 41, .t 42, .t 43, .t 44, .t 45])]) (.cond (.t 46) (.regd [ov 47 13, ov 48 0, ov 49 4, o 50 (.iaddr 1 (.t 48) (.t 49)), o 51 (.load none (.t 50)), ov 52 15, o 53 (.iaddr 1 (.t 51) (.t 52)), o 54 (.load none (.t 53)), o 55 (.call (kf 75) [.t 54]), ov 56 0, ov 57 1, ov 58 2, ov 59 3, ov 60 15, o 61 (.bin .add (.t 60) (ki 1)), ov 62 5, ov 63 5, o 64 (.len (.t 63)), o 65 (.bin .sub (.t 64) (ki 1)), o 66 (.cut 1 (.t 62) none (some (.t 65)) none), o 67 (.call (kf 57) [.t 56, .t 57, .t 58, .t 59, .t 61, .t 66]), o 68 (.bin .add (.t 55) (.t 67)), o 69 (.mx [.t 47, .t 68]), ov 13 69] [] []) .skip))) (.reg [ov 39 15, o 40 (.bin .add (.t 39) (ki 1)), ov 15 40])))))) (.seq (.reg [ov 70 13, ov 12 70]) .ret))))) 71 6 [.t 12]
theorem l57 : compFunc Tryz.prog 57 = some L57 := by kernel_rfl
def L58 : XFunc := .mk (.seq (.reg [o 2 (.box (.t 0)), o 4 (.mv (.k (.bool false)))]) (.seq (.reg [ov 9 1, o 10 (.call (kf 92) [.t 9]), ov 8 10, o 11 (.ext (.t 8) 0), o 12 (.ext (.t 8) 1), o 13 (.ext (.t 8) 2), ov 5 11, ov 6 12, ov 7 13]) (.seq (.reg [ov 14 7, ov 15 14, og 16 (.mv (.t 1)) 15 true, og 17 (.slen (.t 16)) 15 true, og 18 (.load none (.t 2)) 15 true, og 19 (.nilc (.t 18)) 15 true, og 20 (.faddr 0 (.t 19)) 15 true, og 21 (.load none (.t 20)) 15 true, og 22 (.slen (.t 21)) 15 true, og 23 (.bin .eql (.t 17) (.t 22)) 15 true, o 24 (.pick (.t 15) (.t 23) (.k (.bool false))), ov 25 24, og 26 (.mv (.t 5)) 25 true, og 27 (.mkfn 94 [.t 2]) 25 true, og 28 (.call (kf 93) [.t 26, .t 27]) 25 true, og 29 (.un .not (.t 28)) 25 true, o 30 (.pick (.t 25) (.t 29) (.k (.bool false))), ov 4 30]) .ret))) 31 2 [.t 4]
theorem l58 : compFunc Tryz.prog 58 = some L58 := by kernel_rfl
def L59 : XFunc := .mk (.seq (.reg [o 2 (.alloc [.bool false, .nils])]) (.seq (.reg [ov 4 0, o 5 (.conv .u64 (.t 4)), ov 3 5]) (.seq (.seq (.reg [ov 6 0, o 7 (.bin .lss (.t 6) (ki 0))]) (.cond (.t 7) (.reg [ov 8 3, o 9 (.un .neg (.t 8)), ov 3 9]) .skip)) (.seq (.reg [ov 10 0, o 11 (.bin .lss (.t 10) (ki 0)), ov 12 3, o 13 (.conv .u32 (.t 12)), ov 14 3, o 15 (.bin .shr (.t 14) (.k (.int .u64 (.ofNat 32)))), o 16 (.conv .u32 (.t 15)), o 17 (.bslice [.int .u32 (.ofNat 0)] [(0, 1, .t 13), (1, 1, .t 16)] 2), o 18 (.call (kf 96) [.t 17]), o 19 (.call (kf 95) [.t 11, .t 18]), .mk none (.store 2 (.t 2) (.t 19)) none]) .ret)))) 20 1 [.c 2 (some 2)]
theorem l59 : compFunc Tryz.prog 59 = some L59 := by kernel_rfl
def L60 : XFunc := .mk (.seq (.reg [o 8 (.mv (.k .nils)), o 9 (.mv (.k (.bool false)))]) (.seq (.seq (.reg [ov 10 3]) (.block 0 (.seq (.reg [o 12 (.bin .eql (.t 10) (.k (.int .u8 (.ofNat 40)))), ov 11 12]) (.cond (.t 11) (.seq (.reg [ov 13 2, ov 14 2, o 15 (.len (.t 14)), ov 16 2, o 17 (.len (.t 16)), o 18 (.cut 1 (.t 13) none (some (.t 15)) (some (.t 17))), ov 19 1, o 20 (.bslice [.int .i64 (.ofNat 0)] [(0, 1, .t 19)] 1), o 21 (.app 1 8 (.t 18) (.t 20)), ov 8 21, o 9 (.mv (.k (.bool true)))]) .ret) (.seq (.reg [o 23 (.bin .eql (.t 10) (.k (.int .u8 (.ofNat 41)))), ov 22 23]) (.cond (.t 22) (.seq (.seq (.regd [ov 24 2, o 25 (.len (.t 24)), o 26 (.bin .eql (.t 25) (ki 0)), ov 27 26, og 28 (.mv (.t 0)) 27 false, og 29 (.nilc (.t 28)) 27 false, og 30 (.faddr 0 (.t 29)) 27 false, og 31 (.load none (.t 30)) 27 false, og 32 (.mv (.t 2)) 27 false, og 33 (.mv (.t 2)) 27 false, og 34 (.len (.t 33)) 27 false, og 35 (.bin .sub (.t 34) (ki 1)) 27 false, og 36 (.iaddr 1 (.t 32) (.t 35)) 27 false, og 37 (.load none (.t 36)) 27 false, og 38 (.mv (.t 1)) 27 false, og 39 (.call (kf 90) [.t 31, .t 37, .t 38]) 27 false, og 40 (.un .not (.t 39)) 27 false, o 41 (.pick (.t 27) (.k (.bool true)) (.t 40))] [] []) (.cond (.t 41) (.seq (.reg [o 8 (.mv (.k .nils)), o 9 (.mv (.k (.bool false)))]) .ret) .skip)) (.seq (.reg [ov 42 2, ov 43 2, o 44 (.len (.t 43)), o 45 (.bin .sub (.t 44) (ki 1)), o 46 (.cut 1 (.t 42) none (some (.t 45)) none), ov 8 46, o 9 (.mv (.k (.bool true)))]) .ret)) .skip)))))) (.seq (.reg [ov 47 2, ov 8 47, o 9 (.mv (.k (.bool true)))]) .ret))) 48 4 [.t 8, .t 9]
theorem l60 : compFunc Tryz.prog 60 = some L60 := by kernel_rfl
def L61 : XFunc := .mk (.seq (.reg [o 2 (.box (.t 0)), o 3 (.box (.t 1)), o 4 (.alloc [.bool false, .nils])]) (.seq (.block 0 (.seq (.reg [o 6 (.faddr 0 (.t 2)), o 7 (.load none (.t 6)), o 8 (.faddr 0 (.t 3)), o 9 (.load none (.t 8)), o 10 (.eqf false (.mk false [.b]) (.t 7) (.t 9)), ov 5 10]) (.cond (.t 5) (.seq (.regd [o 11 (.faddr 0 (.t 2)), o 12 (.load none (.t 11)), o 13 (.faddr 1 (.t 2)), o 14 (.load none (.t 13)), o 15 (.faddr 1 (.t 3)), o 16 (.load none (.t 15)), o 17 (.call (kf 97) [.t 14, .t 16]), o 18 (.call (kf 95) [.t 12, .t 17]), .mk none (.store 2 (.t 4) (.t 18)) none] [(1, [6], [])] []) .ret) (.seq (.reg [o 20 (.faddr 1 (.t 2)), o 21 (.load none (.t 20)), o 22 (.faddr 1 (.t 3)), o 23 (.load none (.t 22)), o 24 (.call (kf 98) [.t 21, .t 23]), o 25 (.bin .geq (.t 24) (ki 0)), ov 19 25]) (.cond (.t 19) (.seq (.regd [o 26 (.faddr 0 (.t 2)), o 27 (.load none (.t 26)), o 28 (.faddr 1 (.t 2)), o 29 (.load none (.t 28)), o 30 (.faddr 1 (.t 3)), o 31 (.load none (.t 30)), o 32 (.call (kf 99) [.t 29, .t 31]), o 33 (.call (kf 95) [.t 27, .t 32]), .mk none (.store 2 (.t 4) (.t 33)) none] [(1, [6], [])] []) .ret) .skip))))) (.seq (.regd [o 34 (.faddr 0 (.t 3)), o 35 (.load none (.t 34)), o 36 (.faddr 1 (.t 3)), o 37 (.load none (.t 36)), o 38 (.faddr 1 (.t 2)), o 39 (.load none (.t 38)), o 40 (.call (kf 99) [.t 37, .t 39]), o 41 (.call (kf 95) [.t 35, .t 40]), .mk none (.store 2 (.t 4) (.t 41)) none] [(1, [6], [])] []) .ret))) 42 2 [.c 4 (some 2)]
theorem l61 : compFunc Tryz.prog 61 = some L61 := by kernel_rfl
def L62 : XFunc := .mk (.seq (.reg [o 6 (.alloc [.bool false, .nils])]) (.seq (.seq (.reg [ov 14 2, o 15 (.len (.t 14)), ov 16 0, o 17 (.nilc (.t 16)), o 18 (.faddr 0 (.t 17)), o 19 (.load none (.t 18)), o 20 (.nilc (.t 19)), o 21 (.faddr 0 (.t 20)), o 22 (.load none (.t 21)), o 23 (.slen (.t 22)), ov 24 1, o 25 (.bin .sub (.t 23) (.t 24)), o 26 (.bin .gtr (.t 15) (.t 25))]) (.cond (.t 26) (.seq (.reg [o 27 (.call (kf 59) [ki 0]), .mk none (.store 2 (.t 6) (.t 27)) none]) .ret) .skip)) (.seq (.seq (.reg [ov 28 2, o 29 (.len (.t 28)), o 30 (.bin .eql (.t 29) (ki 0))]) (.cond (.t 30) (.seq (.regd [ov 31 0, o 32 (.nilc (.t 31)), o 33 (.faddr 0 (.t 32)), o 34 (.load none (.t 33)), ov 35 1, ov 36 0, o 37 (.nilc (.t 36)), o 38 (.faddr 0 (.t 37)), o 39 (.load none (.t 38)), o 40 (.nilc (.t 39)), o 41 (.faddr 0 (.t 40)), o 42 (.load none (.t 41)), o 43 (.slen (.t 42)), o 44 (.build [.int .i64 (.ofNat 0), .int .i64 (.ofNat 0)] [(0, 1, .t 35), (1, 1, .t 43)]), o 45 (.call (kf 68) [.t 34, .t 44]), o 46 (.call (kf 69) [.t 45]), .mk none (.store 2 (.t 6) (.t 46)) none] [] []) .ret) .skip)) (.seq (.reg [ov 47 1, ov 48 2, o 49 (.call (kf 100) [.t 47, .t 48]), ov 7 49]) (.seq (.seq (.reg [ov 51 0, o 52 (.nilc (.t 51)), o 53 (.faddr 1 (.t 52)), o 54 (.load none (.t 53)), ov 55 7, o 56 (.look (.mk false [.s]) (.agg [.bool false, .nils]) (.t 54) (.t 55) true), ov 50 56, o 57 (.ext (.t 50) 0), o 58 (.ext (.t 50) 1), o 8 (.alloc [.bool false, .nils]), .mk none (.store 2 (.t 8) (.t 57)) none, ov 9 58]) (.seq (.reg [ov 59 9]) (.cond (.t 59) (.seq (.reg [o 60 (.load (some 2) (.t 8)), .mk none (.store 2 (.t 6) (.t 60)) none]) .ret) .skip))) (.seq (.reg [ov 61 2, ov 62 2, o 63 (.len (.t 62)), o 64 (.bin .sub (.t 63) (ki 1)), o 65 (.iaddr 1 (.t 61) (.t 64)), o 66 (.load none (.t 65)), ov 10 66]) (.seq (.reg [o 67 (.call (kf 59) [ki 0]), o 11 (.alloc [.bool false, .nils]), .mk none (.store 2 (.t 11) (.t 67)) none]) (.seq (.seq (.reg [ov 68 1, ov 12 68]) (.block 0 (.loop (.seq (.seq (.reg [ov 69 12, ov 70 0, o 71 (.nilc (.t 70)), o 72 (.faddr 0 (.t 71)), o 73 (.load none (.t 72)), o 74 (.nilc (.t 73)), o 75 (.faddr 0 (.t 74)), o 76 (.load none (.t 75)), o 77 (.slen (.t 76)), o 78 (.bin .lss (.t 69) (.t 77))]) (.cond (.t 78) .skip (.exit 0))) (.seq (.block 1 (.seq (.reg [ov 81 0, o 82 (.nilc (.t 81)), o 83 (.faddr 0 (.t 82)), o 84 (.load none (.t 83)), ov 85 10, ov 86 12, o 87 (.call (kf 90) [.t 84, .t 85, .t 86])]) (.cond (.t 87) (.seq (.reg [ov 88 0, o 89 (.nilc (.t 88)), o 90 (.faddr 0 (.t 89)), o 91 (.load none (.t 90)), ov 92 1, ov 93 12, o 94 (.build [.int .i64 (.ofNat 0), .int .i64 (.ofNat 0)] [(0, 1, .t 92), (1, 1, .t 93)]), o 95 (.call (kf 68) [.t 91, .t 94]), o 96 (.call (kf 69) [.t 95]), o 13 (.alloc [.bool false, .nils]), .mk none (.store 2 (.t 13) (.t 96)) none]) (.regd [o 97 (.load (some 2) (.t 11)), o 98 (.load (some 2) (.t 13)), ov 99 0, ov 100 12, o 101 (.bin .add (.t 100) (ki 1)), ov 102 2, ov 103 2, o 104 (.len (.t 103)), o 105 (.bin .sub (.t 104) (ki 1)), o 106 (.cut 1 (.t 102) none (some (.t 105)) none), o 107 (.call (kf 62) [.t 99, .t 101, .t 106]), o 108 (.call (kf 101) [.t 98, .t 107]), o 109 (.call (kf 61) [.t 97, .t 108]), .mk none (.store 2 (.t 11) (.t 109)) none] [(0, [10, 11], []), (1, [10], [])] [])) .skip))) (.reg [ov 79 12, o 80 (.bin .add (.t 79) (ki 1)), ov 12 80])))))) (.seq (.regd [ov 110 0, o 111 (.nilc (.t 110)), o 112 (.faddr 1 (.t 111)), o 113 (.load none (.t 112)), ov 114 7, o 115 (.load (some 2) (.t 11)), .mk none (.upd (.mk false [.s]) (.t 113) (.t 114) (.t 115)) none] [] []) (.seq (.reg [o 116 (.load (some 2) (.t 11)), .mk none (.store 2 (.t 6) (.t 116)) none]) .ret)))))))))) 117 3 [.c 6 (some 2)]
theorem l62 : compFunc Tryz.prog 62 = some L62 := by kernel_rfl
def L63 : XFunc := .mk (.seq (.reg [o 1 (.box (.t 0)), o 2 (.alloc [.bool false, .nils, .bool false, .nils])]) (.seq (.regd [o 3 (.load (some 2) (.t 1)), o 4 (.call (kf 59) [ki 1]), o 5 (.build [.bool false, .nils, .bool false, .nils] [(0, 2, .t 3), (2, 2, .t 4)]), .mk none (.store 4 (.t 2) (.t 5)) none] [(0, [1], [])] []) .ret)) 6 1 [.c 2 (some 4)]
theorem l63 : compFunc Tryz.prog 63 = some L63 := by kernel_rfl
def L64 : XFunc := .mk (.seq (.reg [o 1 (.box (.t 0)), o 2 (.mv (.k (.str []))), o 3 (.mv (ki 0))]) (.seq (.reg [o 6 (.faddr 0 (.t 1)), o 7 (.faddr 1 (.t 6)), o 8 (.load none (.t 7)), o 9 (.call (kf 102) [.t 8]), ov 4 9]) (.seq (.seq (.reg [ov 10 4, o 11 (.slen (.t 10)), o 12 (.bin .gtr (.t 11) (ki 4000))]) (.cond (.t 12) (.seq (.reg [o 2 (.mv (.k (.str []))), o 3 (.mv (ki 4))]) .ret) .skip)) (.seq (.seq (.reg [o 13 (.faddr 0 (.t 1)), o 14 (.faddr 0 (.t 13)), o 15 (.load none (.t 14))]) (.cond (.t 15) (.reg [ov 16 4, o 17 (.bin .add (.k (.str [UInt8.ofNat 45])) (.t 16)), ov 4 17]) .skip)) (.seq (.seq (.reg [o 18 (.load (some 4) (.t 1)), o 19 (.call (kf 78) [.t 18])]) (.cond (.t 19) (.seq (.reg [ov 20 4, ov 2 20, o 3 (.mv (ki 0))]) .ret) .skip)) (.seq (.reg [o 21 (.faddr 2 (.t 1)), o 22 (.faddr 1 (.t 21)), o 23 (.load none (.t 22)), o 24 (.call (kf 102) [.t 23]), ov 5 24]) (.seq (.seq (.reg [ov 25 5, o 26 (.slen (.t 25)), o 27 (.bin .gtr (.t 26) (ki 4000))]) (.cond (.t 27) (.seq (.reg [o 2 (.mv (.k (.str []))), o 3 (.mv (ki 4))]) .ret) .skip)) (.seq (.reg [ov 28 4, o 29 (.bin .add (.t 28) (.k (.str [UInt8.ofNat 47]))), ov 30 5, o 31 (.bin .add (.t 29) (.t 30)), ov 2 31, o 3 (.mv (ki 0))]) .ret)))))))) 32 1 [.t 2, .t 3]
theorem l64 : compFunc Tryz.prog 64 = some L64 := by kernel_rfl
def L66 : XFunc := .mk (.seq (.reg [o 2 (.box (.t 0)), o 3 (.box (.t 1)), o 4 (.alloc [.bool false, .nils])]) (.seq (.seq (.reg [o 5 (.faddr 0 (.t 2)), o 6 (.load none (.t 5)), o 7 (.faddr 0 (.t 3)), o 8 (.load none (.t 7)), o 9 (.eqf false (.mk false [.b]) (.t 6) (.t 8))]) (.cond (.t 9) (.seq (.regd [o 10 (.faddr 0 (.t 2)), o 11 (.load none (.t 10)), o 12 (.faddr 1 (.t 2)), o 13 (.load none (.t 12)), o 14 (.faddr 1 (.t 3)), o 15 (.load none (.t 14)), o 16 (.call (kf 103) [.t 13, .t 15]), o 17 (.build [.bool false, .nils] [(0, 1, .t 11), (1, 1, .t 16)]), o 18 (.call (kf 83) [.t 17]), .mk none (.store 2 (.t 4) (.t 18)) none] [(1, [6], [])] []) .ret) .skip)) (.seq (.seq (.reg [o 19 (.faddr 1 (.t 2)), o 20 (.load none (.t 19)), o 21 (.faddr 1 (.t 3)), o 22 (.load none (.t 21)), o 23 (.call (kf 82) [.t 20, .t 22]), o 24 (.bin .geq (.t 23) (ki 0))]) (.cond (.t 24) (.seq (.regd [o 25 (.faddr 0 (.t 2)), o 26 (.load none (.t 25)), o 27 (.faddr 1 (.t 2)), o 28 (.load none (.t 27)), o 29 (.faddr 1 (.t 3)), o 30 (.load none (.t 29)), o 31 (.call (kf 85) [.t 28, .t 30]), o 32 (.build [.bool false, .nils] [(0, 1, .t 26), (1, 1, .t 31)]), o 33 (.call (kf 83) [.t 32]), .mk none (.store 2 (.t 4) (.t 33)) none] [(1, [6], [])] []) .ret) .skip)) (.seq (.regd [o 34 (.faddr 0 (.t 3)), o 35 (.load none (.t 34)), o 36 (.faddr 1 (.t 3)), o 37 (.load none (.t 36)), o 38 (.faddr 1 (.t 2)), o 39 (.load none (.t 38)), o 40 (.call (kf 85) [.t 37, .t 39]), o 41 (.build [.bool false, .nils] [(0, 1, .t 35), (1, 1, .t 40)]), o 42 (.call (kf 83) [.t 41]), .mk none (.store 2 (.t 4) (.t 42)) none] [(1, [6], [])] []) .ret)))) 43 2 [.c 4 (some 2)]
theorem l66 : compFunc Tryz.prog 66 = some L66 := by kernel_rfl
def L68 : XFunc := .mk (.seq (.reg [o 3 (.box (.t 1)), o 4 (.mv (.k .nils))]) (.seq (.seq (.reg [o 9 (.faddr 1 (.t 3)), o 10 (.load none (.t 9)), o 11 (.faddr 0 (.t 3)), o 12 (.load none (.t 11)), o 13 (.bin .sub (.t 10) (.t 12)), o 14 (.bin .lss (.t 13) (ki 2))]) (.cond (.t 14) (.seq (.reg [o 15 (.call (kf 59) [ki 1]), o 16 (.bslice [.bool false, .nils] [(0, 2, .t 15)] 1), ov 4 16]) .ret) .skip)) (.seq (.seq (.regd [ov 18 0, o 19 (.nilc (.t 18)), o 20 (.faddr 18 (.t 19)), o 21 (.load none (.t 20)), o 22 (.load (some 2) (.t 3)), o 23 (.look (.mk true [.i .i64, .i .i64]) .nils (.t 21) (.t 22) true), ov 17 23, o 24 (.ext (.t 17) 0), o 25 (.ext (.t 17) 1), ov 5 24, ov 6 25] [] []) (.seq (.reg [ov 26 6]) (.cond (.t 26) (.seq (.reg [ov 27 5, ov 4 27]) .ret) .skip))) (.seq (.reg [ov 28 0, o 29 (.faddr 0 (.t 3)), o 30 (.load none (.t 29)), o 31 (.bin .add (.t 30) (ki 1)), o 32 (.faddr 1 (.t 3)), o 33 (.load none (.t 32)), o 34 (.build [.int .i64 (.ofNat 0), .int .i64 (.ofNat 0)] [(0, 1, .t 31), (1, 1, .t 33)]), o 35 (.call (kf 68) [.t 28, .t 34]), o 36 (.call (kf 104) [.t 35]), ov 7 36]) (.seq (.seq (.reg [o 37 (.faddr 0 (.t 3)), o 38 (.load none (.t 37)), o 39 (.bin .add (.t 38) (ki 1)), ov 8 39]) (.block 0 (.loop (.seq (.seq (.reg [ov 40 8, o 41 (.faddr 1 (.t 3)), o 42 (.load none (.t 41)), o 43 (.bin .lss (.t 40) (.t 42))]) (.cond (.t 43) .skip (.exit 0))) (.seq (.block 1 (.seq (.reg [ov 46 0, o 47 (.faddr 0 (.t 3)), o 48 (.load none (.t 47)), ov 49 8, o 50 (.call (kf 90) [.t 46, .t 48, .t 49])]) (.cond (.t 50) (.regd [ov 51 7, ov 52 0, o 53 (.faddr 0 (.t 3)), o 54 (.load none (.t 53)), o 55 (.bin .add (.t 54) (ki 1)), ov 56 8, o 57 (.build [.int .i64 (.ofNat 0), .int .i64 (.ofNat 0)] [(0, 1, .t 55), (1, 1, .t 56)]), o 58 (.call (kf 68) [.t 52, .t 57]), ov 59 0, ov 60 8, o 61 (.bin .add (.t 60) (ki 1)), o 62 (.faddr 1 (.t 3)), o 63 (.load none (.t 62)), o 64 (.build [.int .i64 (.ofNat 0), .int .i64 (.ofNat 0)] [(0, 1, .t 61), (1, 1, .t 63)]), o 65 (.call (kf 68) [.t 59, .t 64]), o 66 (.call (kf 106) [.t 58, .t 65]), o 67 (.call (kf 105) [.t 51, .t 66, ki 1]), ov 7 67] [(12, [7], [])] []) .skip))) (.reg [ov 44 8, o 45 (.bin .add (.t 44) (ki 1)), ov 8 45])))))) (.seq (.regd [ov 68 0, o 69 (.nilc (.t 68)), o 70 (.faddr 18 (.t 69)), o 71 (.load none (.t 70)), o 72 (.load (some 2) (.t 3)), ov 73 7, .mk none (.upd (.mk true [.i .i64, .i .i64]) (.t 71) (.t 72) (.t 73)) none] [] []) (.seq (.reg [ov 74 7, ov 4 74]) .ret))))))) 75 2 [.t 4]
theorem l68 : compFunc Tryz.prog 68 = some L68 := by kernel_rfl
def L69 : XFunc := .mk (.seq (.reg [o 2 (.alloc [.bool false, .nils])]) (.seq (.reg [o 6 (.call (kf 59) [ki 0]), o 3 (.alloc [.bool false, .nils]), .mk none (.store 2 (.t 3) (.t 6)) none]) (.seq (.seq (.reg [ov 7 0, o 8 (.len (.t 7)), o 9 (.mv (ki 0))]) (.block 0 (.loop (.seq (.reg [o 10 (.bin .lss (.t 9) (.t 8))]) (.seq (.cond (.t 10) .skip (.exit 0)) (.seq (.block 1 (.seq (.reg [o 11 (.iaddr 2 (.t 7) (.t 9)), o 12 (.load (some 2) (.t 11)), o 5 (.alloc [.bool false, .nils]), .mk none (.store 2 (.t 5) (.t 12)) none]) (.reg [o 13 (.load (some 2) (.t 3)), o 14 (.load (some 2) (.t 5)), o 15 (.call (kf 61) [.t 13, .t 14]), .mk none (.store 2 (.t 3) (.t 15)) none]))) (.reg [o 16 (.bin .add (.t 9) (ki 1)), ov 9 16]))))))) (.seq (.reg [o 17 (.load (some 2) (.t 3)), .mk none (.store 2 (.t 2) (.t 17)) none]) .ret)))) 18 1 [.c 2 (some 2)]
theorem l69 : compFunc Tryz.prog 69 = some L69 := by kernel_rfl
def L72 : XFunc := .mk (.seq (.reg [o 2 (.box (.t 0)), o 3 (.box (.t 1)), o 4 (.alloc [.bool false, .nils])]) (.seq (.reg [o 10 (.faddr 1 (.t 2)), o 11 (.load none (.t 10)), o 12 (.len (.t 11)), o 13 (.faddr 1 (.t 3)), o 14 (.load none (.t 13)), o 15 (.len (.t 14)), o 16 (.bin .add (.t 12) (.t 15)), o 17 (.bin .add (.t 16) (ki 1)), o 18 (.mkslice [.int .i64 (.ofNat 0)] 8 (.t 17) (.t 17)), ov 5 18]) (.seq (.seq (.reg [o 6 (.mv (ki 0))]) (.block 0 (.loop (.seq (.seq (.reg [ov 19 6, o 20 (.faddr 1 (.t 2)), o 21 (.load none (.t 20)), o 22 (.len (.t 21)), o 23 (.bin .lss (.t 19) (.t 22))]) (.cond (.t 23) .skip (.exit 0))) (.seq (.block 1 (.seq (.reg [o 7 (.mv (ki 0))]) (.seq (.reg [o 8 (.mv (ki 0))]) (.block 2 (.loop (.seq (.seq (.reg [ov 26 8, o 27 (.faddr 1 (.t 3)), o 28 (.load none (.t 27)), o 29 (.len (.t 28)), o 30 (.bin .lss (.t 26) (.t 29)), ov 31 30, og 32 (.mv (.t 7)) 31 false, og 33 (.bin .gtr (.t 32) (ki 0)) 31 false, o 34 (.pick (.t 31) (.k (.bool true)) (.t 33))]) (.cond (.t 34) .skip (.exit 2))) (.seq (.block 3 (.seq (.reg [ov 37 5, ov 38 6, ov 39 8, o 40 (.bin .add (.t 38) (.t 39)), o 41 (.iaddr 1 (.t 37) (.t 40)), o 42 (.load none (.t 41)), ov 43 7, o 44 (.bin .add (.t 42) (.t 43)), ov 9 44]) (.seq (.seq (.reg [ov 45 8, o 46 (.faddr 1 (.t 3)), o 47 (.load none (.t 46)), o 48 (.len (.t 47)), o 49 (.bin .lss (.t 45) (.t 48))]) (.cond (.t 49) (.regd [ov 50 9, o 51 (.faddr 1 (.t 2)), o 52 (.load none (.t 51)), ov 53 6, o 54 (.iaddr 1 (.t 52) (.t 53)), o 55 (.load none (.t 54)), o 56 (.faddr 1 (.t 3)), o 57 (.load none (.t 56)), ov 58 8, o 59 (.iaddr 1 (.t 57) (.t 58)), o 60 (.load none (.t 59)), o 61 (.bin .mul (.t 55) (.t 60)), o 62 (.bin .add (.t 50) (.t 61)), ov 9 62] [] []) .skip)) (.reg [ov 63 5, ov 64 6, ov 65 8, o 66 (.bin .add (.t 64) (.t 65)), ov 67 9, o 68 (.bin .rem (.t 67) (ki 10000)), ov 69 9, o 70 (.bin .quo (.t 69) (ki 10000)), o 71 (.iaddr 1 (.t 63) (.t 66)), .mk none (.store 1 (.t 71) (.t 68)) none, ov 7 70])))) (.reg [ov 35 8, o 36 (.bin .add (.t 35) (ki 1)), ov 8 36])))))))) (.reg [ov 24 6, o 25 (.bin .add (.t 24) (ki 1)), ov 6 25])))))) (.seq (.reg [o 72 (.faddr 0 (.t 2)), o 73 (.load none (.t 72)), o 74 (.faddr 0 (.t 3)), o 75 (.load none (.t 74)), o 76 (.eqf true (.mk false [.b]) (.t 73) (.t 75)), ov 77 5, o 78 (.build [.bool false, .nils] [(0, 1, .t 76), (1, 1, .t 77)]), o 79 (.call (kf 83) [.t 78]), .mk none (.store 2 (.t 4) (.t 79)) none]) .ret)))) 80 2 [.c 4 (some 2)]
theorem l72 : compFunc Tryz.prog 72 = some L72 := by kernel_rfl
def L75 : XFunc := .mk (.seq (.reg [o 2 (.mv (ki 0))]) (.seq (.seq (.reg [ov 4 0, o 5 (.len (.t 4)), o 6 (.bin .sub (.t 5) (ki 1)), ov 3 6]) (.block 0 (.loop (.seq (.seq (.reg [ov 7 3, o 8 (.bin .gtr (.t 7) (ki 0))]) (.cond (.t 8) .skip (.exit 0))) (.seq (.block 1 (.seq (.reg [ov 11 0, ov 12 3, o 13 (.iaddr 2 (.t 11) (.t 12)), o 14 (.load (some 2) (.t 13)), o 15 (.call (kf 109) [.t 14]), o 16 (.bin .gtr (.t 15) (ki 0))]) (.cond (.t 16) (.seq (.reg [ov 17 3, ov 2 17]) .ret) .skip))) (.reg [ov 9 3, o 10 (.bin .sub (.t 9) (ki 1)), ov 3 10])))))) (.seq (.reg [o 2 (.mv (ki 0))]) .ret))) 18 1 [.t 2]
theorem l75 : compFunc Tryz.prog 75 = some L75 := by kernel_rfl
def L78 : XFunc := .mk (.seq (.reg [o 1 (.box (.t 0)), o 2 (.mv (.k (.bool false)))]) (.seq (.reg [o 3 (.faddr 2 (.t 1)), o 4 (.faddr 1 (.t 3)), o 5 (.load none (.t 4)), o 6 (.len (.t 5)), o 7 (.bin .eql (.t 6) (ki 1)), ov 8 7, og 9 (.faddr 2 (.t 1)) 8 true, og 10 (.faddr 1 (.t 9)) 8 true, og 11 (.load none (.t 10)) 8 true, og 12 (.iaddr 1 (.t 11) (ki 0)) 8 true, og 13 (.load none (.t 12)) 8 true, og 14 (.bin .eql (.t 13) (.k (.int .u32 (.ofNat 1)))) 8 true, o 15 (.pick (.t 8) (.t 14) (.k (.bool false))), ov 2 15]) .ret)) 16 1 [.t 2]
theorem l78 : compFunc Tryz.prog 78 = some L78 := by kernel_rfl
def L82 : XFunc := .mk (.seq (.reg [o 4 (.mv (ki 0))]) (.seq (.seq (.reg [ov 6 0, o 7 (.len (.t 6)), ov 8 1, o 9 (.len (.t 8)), o 10 (.bin .neq (.t 7) (.t 9))]) (.cond (.t 10) (.seq (.seq (.reg [ov 11 0, o 12 (.len (.t 11)), ov 13 1, o 14 (.len (.t 13)), o 15 (.bin .lss (.t 12) (.t 14))]) (.cond (.t 15) (.seq (.reg [o 4 (.mv (.k (.int .i64 (.negSucc 0))))]) .ret) .skip)) (.seq (.reg [o 4 (.mv (ki 1))]) .ret)) .skip)) (.seq (.seq (.reg [ov 16 0, o 17 (.len (.t 16)), o 18 (.bin .sub (.t 17) (ki 1)), ov 5 18]) (.block 0 (.loop (.seq (.seq (.reg [ov 19 5, o 20 (.bin .geq (.t 19) (ki 0))]) (.cond (.t 20) .skip (.exit 0))) (.seq (.block 1 (.seq (.seq (.regd [ov 23 0, ov 24 5, o 25 (.iaddr 1 (.t 23) (.t 24)), o 26 (.load none (.t 25)), ov 27 1, ov 28 5, o 29 (.iaddr 1 (.t 27) (.t 28)), o 30 (.load none (.t 29)), o 31 (.bin .lss (.t 26) (.t 30))] [] []) (.cond (.t 31) (.seq (.reg [o 4 (.mv (.k (.int .i64 (.negSucc 0))))]) .ret) .skip)) (.seq (.regd [ov 32 0, ov 33 5, o 34 (.iaddr 1 (.t 32) (.t 33)), o 35 (.load none (.t 34)), ov 36 1, ov 37 5, o 38 (.iaddr 1 (.t 36) (.t 37)), o 39 (.load none (.t 38)), o 40 (.bin .gtr (.t 35) (.t 39))] [] []) (.cond (.t 40) (.seq (.reg [o 4 (.mv (ki 1))]) .ret) .skip)))) (.reg [ov 21 5, o 22 (.bin .sub (.t 21) (ki 1)), ov 5 22])))))) (.seq (.reg [o 4 (.mv (ki 0))]) .ret)))) 41 2 [.t 4]
theorem l82 : compFunc Tryz.prog 82 = some L82 := by kernel_rfl
def L83 : XFunc := .mk (.seq (.reg [o 1 (.box (.t 0)), o 2 (.alloc [.bool false, .nils])]) (.seq (.reg [o 4 (.faddr 1 (.t 1)), o 5 (.load none (.t 4)), o 6 (.len (.t 5)), ov 3 6]) (.seq (.block 0 (.loop (.seq (.seq (.reg [ov 7 3, o 8 (.bin .gtr (.t 7) (ki 0)), ov 9 8, og 10 (.faddr 1 (.t 1)) 9 true, og 11 (.load none (.t 10)) 9 true, og 12 (.mv (.t 3)) 9 true, og 13 (.bin .sub (.t 12) (ki 1)) 9 true, og 14 (.iaddr 1 (.t 11) (.t 13)) 9 true, og 15 (.load none (.t 14)) 9 true, og 16 (.bin .eql (.t 15) (ki 0)) 9 true, o 17 (.pick (.t 9) (.t 16) (.k (.bool false)))]) (.cond (.t 17) .skip (.exit 0))) (.block 1 (.reg [ov 18 3, o 19 (.bin .sub (.t 18) (ki 1)), ov 3 19]))))) (.seq (.reg [o 20 (.bslice [.int .i64 (.ofNat 0)] [] 0), o 21 (.faddr 1 (.t 1)), o 22 (.load none (.t 21)), ov 23 3, o 24 (.cut 1 (.t 22) none (some (.t 23)) none), o 25 (.app 1 8 (.t 20) (.t 24)), o 26 (.faddr 1 (.t 1)), .mk none (.store 1 (.t 26) (.t 25)) none]) (.seq (.reg [o 27 (.faddr 0 (.t 1)), o 28 (.load none (.t 27)), ov 29 28, og 30 (.mv (.t 3)) 29 true, og 31 (.bin .gtr (.t 30) (ki 0)) 29 true, o 32 (.pick (.t 29) (.t 31) (.k (.bool false))), o 33 (.faddr 0 (.t 1)), .mk none (.store 1 (.t 33) (.t 32)) none]) (.seq (.reg [o 34 (.load (some 2) (.t 1)), .mk none (.store 2 (.t 2) (.t 34)) none]) .ret)))))) 35 1 [.c 2 (some 2)]
theorem l83 : compFunc Tryz.prog 83 = some L83 := by kernel_rfl
def L85 : XFunc := .mk (.seq (.reg [o 4 (.mv (.k .nils))]) (.seq (.reg [o 9 (.bslice [.int .i64 (.ofNat 0)] [] 0), ov 5 9, o 6 (.mv (ki 0))]) (.seq (.seq (.reg [o 7 (.mv (ki 0))]) (.block 0 (.loop (.seq (.seq (.reg [ov 10 7, ov 11 0, o 12 (.len (.t 11)), o 13 (.bin .lss (.t 10) (.t 12))]) (.cond (.t 13) .skip (.exit 0))) (.seq (.block 1 (.seq (.reg [ov 16 0, ov 17 7, o 18 (.iaddr 1 (.t 16) (.t 17)), o 19 (.load none (.t 18)), ov 20 6, o 21 (.bin .sub (.t 19) (.t 20)), ov 8 21]) (.seq (.seq (.reg [ov 22 7, ov 23 1, o 24 (.len (.t 23)), o 25 (.bin .lss (.t 22) (.t 24))]) (.cond (.t 25) (.reg [ov 26 8, ov 27 1, ov 28 7, o 29 (.iaddr 1 (.t 27) (.t 28)), o 30 (.load none (.t 29)), o 31 (.bin .sub (.t 26) (.t 30)), ov 8 31]) .skip)) (.seq (.reg [o 6 (.mv (ki 0))]) (.seq (.seq (.reg [ov 32 8, o 33 (.bin .lss (.t 32) (ki 0))]) (.cond (.t 33) (.reg [ov 34 8, o 35 (.bin .add (.t 34) (ki 10000)), ov 8 35, o 6 (.mv (ki 1))]) .skip)) (.reg [ov 36 5, ov 37 8, o 38 (.bslice [.int .i64 (.ofNat 0)] [(0, 1, .t 37)] 1), o 39 (.app 1 8 (.t 36) (.t 38)), ov 5 39])))))) (.reg [ov 14 7, o 15 (.bin .add (.t 14) (ki 1)), ov 7 15])))))) (.seq (.reg [ov 40 5, ov 4 40]) .ret)))) 41 2 [.t 4]
theorem l85 : compFunc Tryz.prog 85 = some L85 := by kernel_rfl
def L89 : XFunc := .mk (.seq (.reg [o 4 (.mv (.k (.str [])))]) (.seq (.seq (.reg [ov 7 0, o 8 (.bin .eql (.t 7) (.k (.str []))), ov 9 8, og 10 (.mv (.t 1)) 9 false, og 11 (.bin .eql (.t 10) (.k (.str []))) 9 false, o 12 (.pick (.t 9) (.k (.bool true)) (.t 11))]) (.cond (.t 12) (.seq (.reg [ov 13 0, ov 4 13]) .ret) .skip)) (.seq (.seq (.reg [ov 14 1, o 15 (.slen (.t 14)), o 16 (.bin .eql (.t 15) (ki 1)), ov 17 16, og 18 (.mv (.t 1)) 17 true, og 19 (.sidx (.t 18) (ki 0)) 17 true, og 20 (.bin .lss (.t 19) (.k (.int .u8 (.ofNat 128)))) 17 true, o 21 (.pick (.t 17) (.t 20) (.k (.bool false)))]) (.cond (.t 21) (.seq (.regd [ov 22 0, ov 23 1, o 24 (.sidx (.t 23) (ki 0)), o 25 (.call (kf 117) [.t 22, .t 24]), ov 26 1, o 27 (.sidx (.t 26) (ki 0)), o 28 (.call (kf 116) [.t 25, .t 27]), ov 4 28] [] []) .ret) .skip)) (.seq (.seq (.reg [ov 30 1, o 31 (.call (kf 118) [.t 30]), ov 29 31, o 32 (.ext (.t 29) 0), o 33 (.ext (.t 29) 1), o 5 (.alloc [.bool false, .bool false, .bool false, .bool false, .bool false, .bool false, .bool false, .bool false, .bool false, .bool false, .bool false, .bool false, .bool false, .bool false, .bool false, .bool false, .bool false, .bool false, .bool false, .bool false, .bool false, .bool false, .bool false, .bool false, .bool false, .bool false, .bool false, .bool false, .bool false, .bool false, .bool false, .bool false, .bool false, .bool false, .bool false, .bool false, .bool false, .bool false, .bool false, .bool false, .bool false, .bool false, .bool false, .bool false, .bool false, .bool false, .bool false, .bool false, .bool false, .bool false, .bool false, .bool false, .bool false, .bool false, .bool false, .bool false, .bool false, .bool false, .bool false, .bool false, .bool false, .bool false, .bool false, .bool false, .bool false, .bool false, .bool false, .bool false, .bool false, .bool false, .bool false, .bool false, .bool false, .bool false, .bool false, .bool false, .bool false, .bool false, .bool false, .bool false, .bool false, .bool false, .bool false, .bool false, .bool false, .bool false, .bool false, .bool false, .bool false, .bool false, .bool false, .bool false, .bool false, .bool false, .bool false, .bool false, .bool false, .bool false, .bool false, .bool false, .bool false, .bool false, .bool false, .bool false, .bool false, .bool false, .bool false, .bool false, .bool false, .bool false, .bool false, .bool false, .bool false, .bool false, .bool false, .bool false, .bool false, .bool false, .bool false, .bool false, .bool false, .bool false, .bool false, .bool false, .bool false, .bool false, .bool false, .bool false, .bool false, .bool false, .bool false, .bool false, .bool false, .bool false, .bool false, .bool false, .bool false, .bool false, .bool false, .bool false, .bool false, .bool false, .bool false, .bool false, .bool false, .bool false, .bool false, .bool false, .bool false, .bool false, .bool false, .bool false, .bool false, .bool false, .bool false, .bool false, .bool false, .bool false, .bool false, .bool false, .bool false, .bool false, .bool false, .bool false, .bool false, .bool false, .bool false, .bool false, .bool false, .bool false, .bool false, .bool false, .bool false, .bool false, .bool false, .bool false, .bool false, .bool false, .bool false, .bool false, .bool false, .bool false, .bool false, .bool false, .bool false, .bool false, .bool false, .bool false, .bool false, .bool false, .bool false, .bool false, .bool false, .bool false, .bool false, .bool false, .bool false, .bool false, .bool false, .bool false, .bool false, .bool false, .bool false, .bool false, .bool false, .bool false, .bool false, .bool false, .bool false, .bool false, .bool false, .bool false, .bool false, .bool false, .bool false, .bool false, .bool false, .bool false, .bool false, .bool false, .bool false, .bool false, .bool false, .bool false, .bool false, .bool false, .bool false, .bool false, .bool false, .bool false, .bool false, .bool false, .bool false, .bool false, .bool false, .bool false, .bool false, .bool false, .bool false, .bool false, .bool false, .bool false, .bool false, .bool false, .bool false, .bool false, .bool false, .bool false, .bool false, .bool false, .bool false, .bool false, .bool false, .bool false, .bool false, .bool false]), .mk none (.store 256 (.t 5) (.t 32)) none, ov 6 33]) (.seq (.reg [ov 34 6]) (.cond (.t 34) (.seq (.reg [ov 35 0, o 36 (.call (kf 120) [.t 35, .t 5]), o 37 (.call (kf 119) [.t 36, .t 5]), ov 4 37]) .ret) .skip))) (.seq (.reg [ov 38 0, ov 39 1, o 40 (.call (kf 122) [.t 38, .t 39]), ov 41 1, o 42 (.call (kf 121) [.t 40, .t 41]), ov 4 42]) .ret))))) 43 2 [.t 4]
theorem l89 : compFunc Tryz.prog 89 = some L89 := by kernel_rfl
def L90 : XFunc := .mk (.seq (.reg [o 6 (.mv (.k (.bool false)))]) (.seq (.regd [ov 7 2, ov 8 1, o 9 (.bin .sub (.t 7) (.t 8)), ov 10 0, o 11 (.nilc (.t 10)), o 12 (.faddr 17 (.t 11)), o 13 (.load none (.t 12)), o 14 (.bin .gtr (.t 9) (.t 13)), ov 15 14, og 16 (.mv (.t 0)) 15 true, og 17 (.mv (.t 0)) 15 true, og 18 (.nilc (.t 17)) 15 true, og 19 (.faddr 0 (.t 18)) 15 true, og 20 (.load none (.t 19)) 15 true, og 21 (.mv (.t 1)) 15 true, og 22 (.sidx (.t 20) (.t 21)) 15 true, og 23 (.bin .sub (.t 22) (.k (.int .u8 (.ofNat 97)))) 15 true, og 24 (.mv (.t 0)) 15 true, og 25 (.nilc (.t 24)) 15 true, og 26 (.faddr 0 (.t 25)) 15 true, og 27 (.load none (.t 26)) 15 true, og 28 (.mv (.t 2)) 15 true, og 29 (.sidx (.t 27) (.t 28)) 15 true, og 30 (.bin .sub (.t 29) (.k (.int .u8 (.ofNat 97)))) 15 true, og 31 (.nilc (.t 16)) 15 true, og 32 (.faddr 1 (.t 31)) 15 true, og 33 (.aaddr 4 4 (.t 32) (.t 23)) 15 true, og 34 (.aaddr 4 1 (.t 33) (.t 30)) 15 true, og 35 (.load none (.t 34)) 15 true, o 36 (.pick (.t 15) (.t 35) (.k (.bool false))), ov 6 36] [] []) .ret)) 37 3 [.t 6]
theorem l90 : compFunc Tryz.prog 90 = some L90 := by kernel_rfl
def L91 : XFunc := .mk (.seq (.reg [o 3 (.box (.t 1)), o 4 (.mv (ki 0))]) (.seq (.reg [ov 5 0, o 6 (.load (some 2) (.t 3)), o 7 (.call (kf 68) [.t 5, .t 6]), o 8 (.len (.t 7)), o 9 (.bin .sub (.t 8) (ki 1)), ov 4 9]) .ret)) 10 2 [.t 4]
theorem l91 : compFunc Tryz.prog 91 = some L91 := by kernel_rfl
def L92 : XFunc := .mk (.seq (.reg [o 2 (.mv (.k .nils)), o 3 (.mv (ki 0)), o 4 (.mv (.k (.bool false)))]) (.seq (.reg [o 5 (.mv (.k .nils))]) (.seq (.reg [o 6 (.mv (.k .nils))]) (.seq (.reg [o 7 (.mv (ki 0))]) (.seq (.seq (.reg [ov 9 0, o 10 (.slen (.t 9)), o 11 (.mv (ki 0))]) (.block 0 (.loop (.seq (.reg [o 12 (.bin .lss (.t 11) (.t 10))]) (.seq (.cond (.t 12) .skip (.exit 0)) (.seq (.block 1 (.seq (.reg [ov 13 11, ov 8 13]) (.seq (.reg [ov 14 0, ov 15 8, o 16 (.sidx (.t 14) (.t 15))]) (.block 2 (.seq (.reg [o 18 (.bin .eql (.t 16) (.k (.int .u8 (.ofNat 40)))), ov 17 18]) (.cond (.t 17) (.seq (.reg [ov 19 6, ov 20 8, o 21 (.bslice [.int .i64 (.ofNat 0)] [(0, 1, .t 20)] 1), o 22 (.app 1 8 (.t 19) (.t 21)), ov 6 22]) (.reg [ov 23 7, ov 24 6, o 25 (.len (.t 24)), o 26 (.mx [.t 23, .t 25]), ov 7 26])) (.seq (.reg [o 28 (.bin .eql (.t 16) (.k (.int .u8 (.ofNat 41)))), ov 27 28]) (.cond (.t 27) (.seq (.seq (.reg [ov 29 6, o 30 (.len (.t 29)), o 31 (.bin .eql (.t 30) (ki 0))]) (.cond (.t 31) (.seq (.reg [o 2 (.mv (.k .nils)), o 3 (.mv (ki 0)), o 4 (.mv (.k (.bool false)))]) .ret) .skip)) (.seq (.reg [ov 32 5, ov 33 6, ov 34 6, o 35 (.len (.t 34)), o 36 (.bin .sub (.t 35) (ki 1)), o 37 (.iaddr 1 (.t 33) (.t 36)), o 38 (.load none (.t 37)), ov 39 8, o 40 (.build [.int .i64 (.ofNat 0), .int .i64 (.ofNat 0)] [(0, 1, .t 38), (1, 1, .t 39)]), o 41 (.bslice [.int .i64 (.ofNat 0), .int .i64 (.ofNat 0)] [(0, 2, .t 40)] 1), o 42 (.app 2 16 (.t 32) (.t 41)), ov 5 42]) (.reg [ov 43 6, ov 44 6, o 45 (.len (.t 44)), o 46 (.bin .sub (.t 45) (ki 1)), o 47 (.cut 1 (.t 43) none (some (.t 46)) none), ov 6 47]))) (.seq (.reg [o 49 (.bin .eql (.t 16) (.k (.int .u8 (.ofNat 46)))), ov 48 49]) (.cond (.t 48) .skip (.seq (.reg [o 2 (.mv (.k .nils)), o 3 (.mv (ki 0)), o 4 (.mv (.k (.bool false)))]) .ret))))))))))) (.reg [o 50 (.bin .add (.t 11) (ki 1)), ov 11 50]))))))) (.seq (.reg [ov 51 5, o 52 (.call (kf 123) [.t 51, .k (.fn 124 [])])]) (.seq (.reg [ov 53 5, ov 54 7, ov 55 6, o 56 (.len (.t 55)), o 57 (.bin .eql (.t 56) (ki 0)), ov 2 53, ov 3 54, ov 4 57]) .ret))))))) 58 1 [.t 2, .t 3, .t 4]
theorem l92 : compFunc Tryz.prog 92 = some L92 := by kernel_rfl
def L93 : XFunc := .mk (.seq (.reg [o 4 (.mv (.k (.bool false)))]) (.seq (.reg [ov 5 0, ov 6 1, o 7 (.call (kf 125) [.t 5, .t 6]), o 8 (.bin .geq (.t 7) (ki 0)), ov 4 8]) .ret)) 9 2 [.t 4]
theorem l93 : compFunc Tryz.prog 93 = some L93 := by kernel_rfl
def L94 : XFunc := .mk (.seq (.reg [o 2 (.box (.t 0)), o 3 (.mv (.k (.bool false)))]) (.seq (.reg [o 4 (.load none (.t 1)), o 5 (.faddr 0 (.t 2)), o 6 (.load none (.t 5)), o 7 (.faddr 1 (.t 2)), o 8 (.load none (.t 7)), o 9 (.call (kf 90) [.t 4, .t 6, .t 8]), o 10 (.un .not (.t 9)), ov 3 10]) .ret)) 11 2 [.t 3]
theorem l94 : compFunc Tryz.prog 94 = some L94 := by kernel_rfl
def L95 : XFunc := .mk (.seq (.reg [o 4 (.alloc [.bool false, .nils])]) (.seq (.reg [ov 5 0, ov 6 5, og 7 (.mv (.t 1)) 6 true, og 8 (.len (.t 7)) 6 true, og 9 (.bin .gtr (.t 8) (ki 0)) 6 true, o 10 (.pick (.t 6) (.t 9) (.k (.bool false))), ov 11 1, o 12 (.build [.bool false, .nils] [(0, 1, .t 10), (1, 1, .t 11)]), .mk none (.store 2 (.t 4) (.t 12)) none]) .ret)) 13 2 [.c 4 (some 2)]
theorem l95 : compFunc Tryz.prog 95 = some L95 := by kernel_rfl
def L96 : XFunc := .mk (.seq (.reg [o 2 (.mv (.k .nils))]) (.seq (.block 0 (.loop (.seq (.seq (.reg [ov 3 0, o 4 (.len (.t 3)), o 5 (.bin .gtr (.t 4) (ki 0)), ov 6 5, og 7 (.mv (.t 0)) 6 true, og 8 (.mv (.t 0)) 6 true, og 9 (.len (.t 8)) 6 true, og 10 (.bin .sub (.t 9) (ki 1)) 6 true, og 11 (.iaddr 1 (.t 7) (.t 10)) 6 true, og 12 (.load none (.t 11)) 6 true, og 13 (.bin .eql (.t 12) (.k (.int .u32 (.ofNat 0)))) 6 true, o 14 (.pick (.t 6) (.t 13) (.k (.bool false)))]) (.cond (.t 14) .skip (.exit 0))) (.block 1 (.reg [ov 15 0, ov 16 0, o 17 (.len (.t 16)), o 18 (.bin .sub (.t 17) (ki 1)), o 19 (.cut 1 (.t 15) none (some (.t 18)) none), ov 0 19]))))) (.seq (.reg [ov 20 0, ov 2 20]) .ret))) 21 1 [.t 2]
theorem l96 : compFunc Tryz.prog 96 = some L96 := by kernel_rfl
def L97 : XFunc := .mk (.seq (.reg [o 4 (.mv (.k .nils))]) (.seq (.seq (.reg [ov 9 0, o 10 (.len (.t 9)), ov 11 1, o 12 (.len (.t 11)), o 13 (.bin .lss (.t 10) (.t 12))]) (.cond (.t 13) (.reg [ov 14 1, ov 15 0, ov 0 14, ov 1 15]) .skip)) (.seq (.reg [ov 16 0, o 17 (.len (.t 16)), o 18 (.bin .add (.t 17) (ki 1)), o 19 (.mkslice [.int .u32 (.ofNat 0)] 4 (.t 18) (.t 18)), ov 5 19]) (.seq (.reg [o 6 (.mv (.k (.int .u32 (.ofNat 0))))]) (.seq (.seq (.reg [ov 20 0, o 21 (.len (.t 20)), o 22 (.mv (ki 0))]) (.block 0 (.loop (.seq (.reg [o 23 (.bin .lss (.t 22) (.t 21))]) (.seq (.cond (.t 23) .skip (.exit 0)) (.seq (.block 1 (.seq (.reg [ov 24 22, ov 7 24]) (.seq (.reg [o 8 (.mv (.k (.int .u32 (.ofNat 0))))]) (.seq (.seq (.reg [ov 25 7, ov 26 1, o 27 (.len (.t 26)), o 28 (.bin .lss (.t 25) (.t 27))]) (.cond (.t 28) (.reg [ov 29 1, ov 30 7, o 31 (.iaddr 1 (.t 29) (.t 30)), o 32 (.load none (.t 31)), ov 8 32]) .skip)) (.reg [ov 34 5, ov 35 7, ov 36 0, ov 37 7, o 38 (.iaddr 1 (.t 36) (.t 37)), o 39 (.load none (.t 38)), ov 40 8, ov 41 6, o 42 (.call (kf 126) [.t 39, .t 40, .t 41]), ov 33 42, o 43 (.ext (.t 33) 0), o 44 (.ext (.t 33) 1), o 45 (.iaddr 1 (.t 34) (.t 35)), .mk none (.store 1 (.t 45) (.t 43)) none, ov 6 44]))))) (.reg [o 46 (.bin .add (.t 22) (ki 1)), ov 22 46]))))))) (.seq (.reg [ov 47 5, ov 48 0, o 49 (.len (.t 48)), ov 50 6, o 51 (.iaddr 1 (.t 47) (.t 49)), .mk none (.store 1 (.t 51) (.t 50)) none]) (.seq (.reg [ov 52 5, o 53 (.call (kf 96) [.t 52]), ov 4 53]) .ret))))))) 54 2 [.t 4]
theorem l97 : compFunc Tryz.prog 97 = some L97 := by kernel_rfl
def L98 : XFunc := .mk (.seq (.reg [o 4 (.mv (ki 0))]) (.seq (.seq (.reg [ov 6 0, o 7 (.len (.t 6)), ov 8 1, o 9 (.len (.t 8)), o 10 (.bin .neq (.t 7) (.t 9))]) (.cond (.t 10) (.seq (.seq (.reg [ov 11 0, o 12 (.len (.t 11)), ov 13 1, o 14 (.len (.t 13)), o 15 (.bin .lss (.t 12) (.t 14))]) (.cond (.t 15) (.seq (.reg [o 4 (.mv (.k (.int .i64 (.negSucc 0))))]) .ret) .skip)) (.seq (.reg [o 4 (.mv (ki 1))]) .ret)) .skip)) (.seq (.seq (.reg [ov 16 0, o 17 (.len (.t 16)), o 18 (.bin .sub (.t 17) (ki 1)), ov 5 18]) (.block 0 (.loop (.seq (.seq (.reg [ov 19 5, o 20 (.bin .geq (.t 19) (ki 0))]) (.cond (.t 20) .skip (.exit 0))) (.seq (.block 1 (.seq (.regd [ov 23 0, ov 24 5, o 25 (.iaddr 1 (.t 23) (.t 24)), o 26 (.load none (.t 25)), ov 27 1, ov 28 5, o 29 (.iaddr 1 (.t 27) (.t 28)), o 30 (.load none (.t 29)), o 31 (.bin .neq (.t 26) (.t 30))] [] []) (.cond (.t 31) (.seq (.seq (.regd [ov 32 0, ov 33 5, o 34 (.iaddr 1 (.t 32) (.t 33)), o 35 (.load none (.t 34)), ov 36 1, ov 37 5, o 38 (.iaddr 1 (.t 36) (.t 37)), o 39 (.load none (.t 38)), o 40 (.bin .lss (.t 35) (.t 39))] [] []) (.cond (.t 40) (.seq (.reg [o 4 (.mv (.k (.int .i64 (.negSucc 0))))]) .ret) .skip)) (.seq (.reg [o 4 (.mv (ki 1))]) .ret)) .skip))) (.reg [ov 21 5, o 22 (.bin .sub (.t 21) (ki 1)), ov 5 22])))))) (.seq (.reg [o 4 (.mv (ki 0))]) .ret)))) 41 2 [.t 4]
theorem l98 : compFunc Tryz.prog 98 = some L98 := by kernel_rfl
def L99 : XFunc := .mk (.seq (.reg [o 4 (.mv (.k .nils))]) (.seq (.reg [ov 9 0, o 10 (.len (.t 9)), o 11 (.mkslice [.int .u32 (.ofNat 0)] 4 (.t 10) (.t 10)), ov 5 11]) (.seq (.reg [o 6 (.mv (.k (.int .u32 (.ofNat 0))))]) (.seq (.seq (.reg [ov 12 0, o 13 (.len (.t 12)), o 14 (.mv (ki 0))]) (.block 0 (.loop (.seq (.reg [o 15 (.bin .lss (.t 14) (.t 13))]) (.seq (.cond (.t 15) .skip (.exit 0)) (.seq (.block 1 (.seq (.reg [ov 16 14, ov 7 16]) (.seq (.reg [o 8 (.mv (.k (.int .u32 (.ofNat 0))))]) (.seq (.seq (.reg [ov 17 7, ov 18 1, o 19 (.len (.t 18)), o 20 (.bin .lss (.t 17) (.t 19))]) (.cond (.t 20) (.reg [ov 21 1, ov 22 7, o 23 (.iaddr 1 (.t 21) (.t 22)), o 24 (.load none (.t 23)), ov 8 24]) .skip)) (.reg [ov 26 5, ov 27 7, ov 28 0, ov 29 7, o 30 (.iaddr 1 (.t 28) (.t 29)), o 31 (.load none (.t 30)), ov 32 8, ov 33 6, o 34 (.call (kf 127) [.t 31, .t 32, .t 33]), ov 25 34, o 35 (.ext (.t 25) 0), o 36 (.ext (.t 25) 1), o 37 (.iaddr 1 (.t 26) (.t 27)), .mk none (.store 1 (.t 37) (.t 35)) none, ov 6 36]))))) (.reg [o 38 (.bin .add (.t 14) (ki 1)), ov 14 38]))))))) (.seq (.reg [ov 39 5, o 40 (.call (kf 96) [.t 39]), ov 4 40]) .ret))))) 41 2 [.t 4]
theorem l99 : compFunc Tryz.prog 99 = some L99 := by kernel_rfl
def L100 : XFunc := .mk (.seq (.reg [o 4 (.mv (.k (.str [])))]) (.seq (.reg [ov 8 0, o 9 (.conv .u8 (.t 8)), o 10 (.bslice [.int .u8 (.ofNat 0)] [(0, 1, .t 9)] 1), ov 5 10]) (.seq (.seq (.reg [ov 11 1, o 12 (.len (.t 11)), o 13 (.mv (ki 0))]) (.block 0 (.loop (.seq (.reg [o 14 (.bin .lss (.t 13) (.t 12))]) (.seq (.cond (.t 14) .skip (.exit 0)) (.seq (.block 1 (.seq (.reg [o 15 (.iaddr 1 (.t 11) (.t 13)), o 16 (.load none (.t 15)), ov 7 16]) (.reg [ov 17 5, ov 18 7, o 19 (.conv .u8 (.t 18)), o 20 (.bslice [.int .u8 (.ofNat 0)] [(0, 1, .t 19)] 1), o 21 (.app 1 1 (.t 17) (.t 20)), ov 5 21]))) (.reg [o 22 (.bin .add (.t 13) (ki 1)), ov 13 22]))))))) (.seq (.reg [ov 23 5, o 24 (.bts (.t 23)), ov 4 24]) .ret)))) 25 2 [.t 4]
theorem l100 : compFunc Tryz.prog 100 = some L100 := by kernel_rfl
def L101 : XFunc := .mk (.seq (.reg [o 2 (.box (.t 0)), o 3 (.box (.t 1)), o 4 (.alloc [.bool false, .nils])]) (.seq (.regd [o 5 (.faddr 0 (.t 2)), o 6 (.load none (.t 5)), o 7 (.faddr 0 (.t 3)), o 8 (.load none (.t 7)), o 9 (.eqf true (.mk false [.b]) (.t 6) (.t 8)), o 10 (.faddr 1 (.t 2)), o 11 (.load none (.t 10)), o 12 (.faddr 1 (.t 3)), o 13 (.load none (.t 12)), o 14 (.call (kf 128) [.t 11, .t 13]), o 15 (.call (kf 95) [.t 9, .t 14]), .mk none (.store 2 (.t 4) (.t 15)) none] [(1, [9], []), (3, [9], [])] []) .ret)) 16 2 [.c 4 (some 2)]
theorem l101 : compFunc Tryz.prog 101 = some L101 := by kernel_rfl
def L102 : XFunc := .mk (.seq (.reg [o 2 (.mv (.k (.str [])))]) (.seq (.seq (.reg [ov 7 0, o 8 (.len (.t 7)), o 9 (.bin .eql (.t 8) (ki 0))]) (.cond (.t 9) (.seq (.reg [o 2 (.mv (.k (.str [UInt8.ofNat 48])))]) .ret) .skip)) (.seq (.reg [o 3 (.mv (.k .nils))]) (.seq (.block 0 (.loop (.seq (.seq (.reg [ov 10 0, o 11 (.len (.t 10)), o 12 (.bin .gtr (.t 11) (ki 0))]) (.cond (.t 12) .skip (.exit 0))) (.block 1 (.seq (.reg [ov 14 0, o 15 (.call (kf 129) [.t 14, .k (.int .u32 (.ofNat 1000000000))]), ov 13 15, o 16 (.ext (.t 13) 0), o 17 (.ext (.t 13) 1), ov 4 16, ov 5 17]) (.seq (.seq (.reg [o 6 (.mv (ki 0))]) (.block 2 (.loop (.seq (.seq (.reg [ov 18 6, o 19 (.bin .lss (.t 18) (ki 9)), ov 20 19, og 21 (.mv (.t 4)) 20 true, og 22 (.len (.t 21)) 20 true, og 23 (.bin .gtr (.t 22) (ki 0)) 20 true, og 24 (.mv (.t 23)) 20 true, og 25 (.mv (.t 5)) 24 false, og 26 (.bin .gtr (.t 25) (.k (.int .u32 (.ofNat 0)))) 24 false, og 27 (.pick (.t 24) (.k (.bool true)) (.t 26)) 20 true, o 28 (.pick (.t 20) (.t 27) (.k (.bool false)))]) (.cond (.t 28) .skip (.exit 2))) (.seq (.block 3 (.seq (.reg [ov 31 3, ov 32 5, o 33 (.bin .rem (.t 32) (.k (.int .u32 (.ofNat 10)))), o 34 (.bin .add (.k (.int .u32 (.ofNat 48))) (.t 33)), o 35 (.conv .u8 (.t 34)), o 36 (.bslice [.int .u8 (.ofNat 0)] [(0, 1, .t 35)] 1), o 37 (.app 1 1 (.t 31) (.t 36)), ov 3 37]) (.reg [ov 38 5, o 39 (.bin .quo (.t 38) (.k (.int .u32 (.ofNat 10)))), ov 5 39]))) (.reg [ov 29 6, o 30 (.bin .add (.t 29) (ki 1)), ov 6 30])))))) (.reg [ov 40 4, ov 0 40]))))))) (.seq (.reg [ov 41 3, o 42 (.call (kf 130) [.t 41])]) (.seq (.reg [ov 43 3, o 44 (.bts (.t 43)), ov 2 44]) .ret)))))) 45 1 [.t 2]
theorem l102 : compFunc Tryz.prog 102 = some L102 := by kernel_rfl
def L103 : XFunc := .mk (.seq (.reg [o 4 (.mv (.k .nils))]) (.seq (.reg [o 9 (.bslice [.int .i64 (.ofNat 0)] [] 0), ov 5 9, o 6 (.mv (ki 0))]) (.seq (.seq (.reg [o 7 (.mv (ki 0))]) (.block 0 (.loop (.seq (.seq (.reg [ov 10 7, ov 11 0, o 12 (.len (.t 11)), o 13 (.bin .lss (.t 10) (.t 12)), ov 14 13, og 15 (.mv (.t 7)) 14 false, og 16 (.mv (.t 1)) 14 false, og 17 (.len (.t 16)) 14 false, og 18 (.bin .lss (.t 15) (.t 17)) 14 false, o 19 (.pick (.t 14) (.k (.bool true)) (.t 18)), ov 20 19, og 21 (.mv (.t 6)) 20 false, og 22 (.bin .gtr (.t 21) (ki 0)) 20 false, o 23 (.pick (.t 20) (.k (.bool true)) (.t 22))]) (.cond (.t 23) .skip (.exit 0))) (.seq (.block 1 (.seq (.reg [ov 26 6, ov 8 26]) (.seq (.seq (.reg [ov 27 7, ov 28 0, o 29 (.len (.t 28)), o 30 (.bin .lss (.t 27) (.t 29))]) (.cond (.t 30) (.reg [ov 31 8, ov 32 0, ov 33 7, o 34 (.iaddr 1 (.t 32) (.t 33)), o 35 (.load none (.t 34)), o 36 (.bin .add (.t 31) (.t 35)), ov 8 36]) .skip)) (.seq (.seq (.reg [ov 37 7, ov 38 1, o 39 (.len (.t 38)), o 40 (.bin .lss (.t 37) (.t 39))]) (.cond (.t 40) (.reg [ov 41 8, ov 42 1, ov 43 7, o 44 (.iaddr 1 (.t 42) (.t 43)), o 45 (.load none (.t 44)), o 46 (.bin .add (.t 41) (.t 45)), ov 8 46]) .skip)) (.reg [ov 47 5, ov 48 8, o 49 (.bin .rem (.t 48) (ki 10000)), o 50 (.bslice [.int .i64 (.ofNat 0)] [(0, 1, .t 49)] 1), o 51 (.app 1 8 (.t 47) (.t 50)), ov 52 8, o 53 (.bin .quo (.t 52) (ki 10000)), ov 5 51, ov 6 53]))))) (.reg [ov 24 7, o 25 (.bin .add (.t 24) (ki 1)), ov 7 25])))))) (.seq (.reg [ov 54 5, ov 4 54]) .ret)))) 55 2 [.t 4]
theorem l103 : compFunc Tryz.prog 103 = some L103 := by kernel_rfl
def L104 : XFunc := .mk (.seq (.reg [o 2 (.mv (.k .nils))]) (.seq (.seq (.reg [ov 3 0, o 4 (.eqn false .s (.t 3) (.k .nils))]) (.cond (.t 4) (.seq (.reg [o 2 (.mv (.k .nils))]) .ret) .skip)) (.seq (.reg [o 5 (.bslice [.bool false, .nils] [] 0), ov 6 0, o 7 (.app 2 32 (.t 5) (.t 6)), ov 2 7]) .ret))) 8 1 [.t 2]
theorem l104 : compFunc Tryz.prog 104 = some L104 := by kernel_rfl
def L105 : XFunc := .mk (.seq (.reg [o 6 (.mv (.k .nils))]) (.seq (.block 0 (.loop (.seq (.seq (.reg [ov 9 0, o 10 (.len (.t 9)), ov 11 1, o 12 (.len (.t 11)), ov 13 2, o 14 (.bin .add (.t 12) (.t 13)), o 15 (.bin .lss (.t 10) (.t 14))]) (.cond (.t 15) .skip (.exit 0))) (.block 1 (.reg [ov 16 0, o 17 (.call (kf 59) [ki 0]), o 18 (.bslice [.bool false, .nils] [(0, 2, .t 17)] 1), o 19 (.app 2 32 (.t 16) (.t 18)), ov 0 19]))))) (.seq (.seq (.reg [ov 20 1, o 21 (.len (.t 20)), o 22 (.mv (ki 0))]) (.block 2 (.loop (.seq (.reg [o 23 (.bin .lss (.t 22) (.t 21))]) (.seq (.cond (.t 23) .skip (.exit 2)) (.seq (.block 3 (.seq (.reg [ov 24 22, o 25 (.iaddr 2 (.t 20) (.t 22)), o 26 (.load (some 2) (.t 25)), o 8 (.alloc [.bool false, .nils]), ov 7 24, .mk none (.store 2 (.t 8) (.t 26)) none]) (.regd [ov 27 0, ov 28 7, ov 29 2, o 30 (.bin .add (.t 28) (.t 29)), ov 31 0, ov 32 7, ov 33 2, o 34 (.bin .add (.t 32) (.t 33)), o 35 (.iaddr 2 (.t 31) (.t 34)), o 36 (.load (some 2) (.t 35)), o 37 (.load (some 2) (.t 8)), o 38 (.call (kf 61) [.t 36, .t 37]), o 39 (.iaddr 2 (.t 27) (.t 30)), .mk none (.store 2 (.t 39) (.t 38)) none] [] []))) (.reg [o 40 (.bin .add (.t 22) (ki 1)), ov 22 40]))))))) (.seq (.reg [ov 41 0, ov 6 41]) .ret)))) 42 3 [.t 6]
theorem l105 : compFunc Tryz.prog 105 = some L105 := by kernel_rfl
def L106 : XFunc := .mk (.seq (.reg [o 4 (.mv (.k .nils))]) (.seq (.reg [o 5 (.mv (.k .nils))]) (.seq (.seq (.reg [ov 11 0, o 12 (.len (.t 11)), o 13 (.mv (ki 0))]) (.block 0 (.loop (.seq (.reg [o 14 (.bin .lss (.t 13) (.t 12))]) (.seq (.cond (.t 14) .skip (.exit 0)) (.seq (.block 1 (.seq (.reg [ov 15 13, o 16 (.iaddr 2 (.t 11) (.t 13)), o 17 (.load (some 2) (.t 16)), o 7 (.alloc [.bool false, .nils]), ov 6 15, .mk none (.store 2 (.t 7) (.t 17)) none]) (.seq (.reg [o 8 (.mv (.k .nils))]) (.seq (.seq (.reg [ov 18 1, o 19 (.len (.t 18)), o 20 (.mv (ki 0))]) (.block 2 (.loop (.seq (.reg [o 21 (.bin .lss (.t 20) (.t 19))]) (.seq (.cond (.t 21) .skip (.exit 2)) (.seq (.block 3 (.seq (.reg [o 22 (.iaddr 2 (.t 18) (.t 20)), o 23 (.load (some 2) (.t 22)), o 10 (.alloc [.bool false, .nils]), .mk none (.store 2 (.t 10) (.t 23)) none]) (.reg [ov 24 8, o 25 (.load (some 2) (.t 7)), o 26 (.load (some 2) (.t 10)), o 27 (.call (kf 101) [.t 25, .t 26]), o 28 (.bslice [.bool false, .nils] [(0, 2, .t 27)] 1), o 29 (.app 2 32 (.t 24) (.t 28)), ov 8 29]))) (.reg [o 30 (.bin .add (.t 20) (ki 1)), ov 20 30]))))))) (.reg [ov 31 5, ov 32 8, ov 33 6, o 34 (.call (kf 105) [.t 31, .t 32, .t 33]), ov 5 34]))))) (.reg [o 35 (.bin .add (.t 13) (ki 1)), ov 13 35]))))))) (.seq (.reg [ov 36 5, ov 4 36]) .ret)))) 37 2 [.t 4]
theorem l106 : compFunc Tryz.prog 106 = some L106 := by kernel_rfl
def L109 : XFunc := .mk (.seq (.reg [o 1 (.box (.t 0)), o 2 (.mv (ki 0))]) (.seq (.seq (.reg [o 3 (.faddr 1 (.t 1)), o 4 (.load none (.t 3)), o 5 (.len (.t 4)), o 6 (.bin .eql (.t 5) (ki 0))]) (.cond (.t 6) (.seq (.reg [o 2 (.mv (ki 0))]) .ret) .skip)) (.seq (.seq (.reg [o 7 (.faddr 0 (.t 1)), o 8 (.load none (.t 7))]) (.cond (.t 8) (.seq (.reg [o 2 (.mv (.k (.int .i64 (.negSucc 0))))]) .ret) .skip)) (.seq (.reg [o 2 (.mv (ki 1))]) .ret)))) 9 1 [.t 2]
theorem l109 : compFunc Tryz.prog 109 = some L109 := by kernel_rfl
def L116 : XFunc := .mk (.seq (.reg [o 4 (.mv (.k (.str [])))]) (.seq (.block 0 (.loop (.seq (.seq (.reg [ov 5 0, o 6 (.slen (.t 5)), o 7 (.bin .gtr (.t 6) (ki 0)), ov 8 7, og 9 (.mv (.t 0)) 8 true, og 10 (.sidx (.t 9) (ki 0)) 8 true, og 11 (.mv (.t 1)) 8 true, og 12 (.bin .eql (.t 10) (.t 11)) 8 true, o 13 (.pick (.t 8) (.t 12) (.k (.bool false)))]) (.cond (.t 13) .skip (.exit 0))) (.block 1 (.reg [ov 14 0, o 15 (.scut (.t 14) (some (ki 1)) none), ov 0 15]))))) (.seq (.reg [ov 16 0, ov 4 16]) .ret))) 17 2 [.t 4]
theorem l116 : compFunc Tryz.prog 116 = some L116 := by kernel_rfl
def L117 : XFunc := .mk (.seq (.reg [o 4 (.mv (.k (.str [])))]) (.seq (.block 0 (.loop (.seq (.seq (.reg [ov 5 0, o 6 (.slen (.t 5)), o 7 (.bin .gtr (.t 6) (ki 0)), ov 8 7, og 9 (.mv (.t 0)) 8 true, og 10 (.mv (.t 0)) 8 true, og 11 (.slen (.t 10)) 8 true, og 12 (.bin .sub (.t 11) (ki 1)) 8 true, og 13 (.sidx (.t 9) (.t 12)) 8 true, og 14 (.mv (.t 1)) 8 true, og 15 (.bin .eql (.t 13) (.t 14)) 8 true, o 16 (.pick (.t 8) (.t 15) (.k (.bool false)))]) (.cond (.t 16) .skip (.exit 0))) (.block 1 (.reg [ov 17 0, ov 18 0, o 19 (.slen (.t 18)), o 20 (.bin .sub (.t 19) (ki 1)), o 21 (.scut (.t 17) none (some (.t 20))), ov 0 21]))))) (.seq (.reg [ov 22 0, ov 4 22]) .ret))) 23 2 [.t 4]
theorem l117 : compFunc Tryz.prog 117 = some L117 := by kernel_rfl
def L118 : XFunc := .mk (.seq (.reg [o 2 (.alloc [.bool false, .bool false, .bool false, .bool false, .bool false, .bool false, .bool false, .bool false, .bool false, .bool false, .bool false, .bool false, .bool false, .bool false, .bool false, .bool false, .bool false, .bool false, .bool false, .bool false, .bool false, .bool false, .bool false, .bool false, .bool false, .bool false, .bool false, .bool false, .bool false, .bool false, .bool false, .bool false, .bool false, .bool false, .bool false, .bool false, .bool false, .bool false, .bool false, .bool false, .bool false, .bool false, .bool false, .bool false, .bool false, .bool false, .bool false, .bool false, .bool false, .bool false, .bool false, .bool false, .bool false, .bool false, .bool false, .bool false, .bool false, .bool false, .bool false, .bool false, .bool false, .bool false, .bool false, .bool false, .bool false, .bool false, .bool false, .bool false, .bool false, .bool false, .bool false, .bool false, .bool false, .bool false, .bool false, .bool false, .bool false, .bool false, .bool false, .bool false, .bool false, .bool false, .bool false, .bool false, .bool false, .bool false, .bool false, .bool false, .bool false, .bool false, .bool false, .bool false, .bool false, .bool false, .bool false, .bool false, .bool false, .bool false, .bool false, .bool false, .bool false, .bool false, .bool false, .bool false, .bool false, .bool false, .bool false, .bool false, .bool false, .bool false, .bool false, .bool false, .bool false, .bool false, .bool false, .bool false, .bool false, .bool false, .bool false, .bool false, .bool false, .bool false, .bool false, .bool false, .bool false, .bool false, .bool false, .bool false, .bool false, .bool false, .bool false, .bool false, .bool false, .bool false, .bool false, .bool false, .bool false, .bool false, .bool false, .bool false, .bool false, .bool false, .bool false, .bool false, .bool false, .bool false, .bool false, .bool false, .bool false, .bool false, .bool false, .bool false, .bool false, .bool false, .bool false, .bool false, .bool false, .bool false, .bool false, .bool false, .bool false, .bool false, .bool false, .bool false, .bool false, .bool false, .bool false, .bool false, .bool false, .bool false, .bool false, .bool false, .bool false, .bool false, .bool false, .bool false, .bool false, .bool false, .bool false, .bool false, .bool false, .bool false, .bool false, .bool false, .bool false, .bool false, .bool false, .bool false, .bool false, .bool false, .bool false, .bool false, .bool false, .bool false, .bool false, .bool false, .bool false, .bool false, .bool false, .bool false, .bool false, .bool false, .bool false, .bool false, .bool false, .bool false, .bool false, .bool false, .bool false, .bool false, .bool false, .bool false, .bool false, .bool false, .bool false, .bool false, .bool false, .bool false, .bool false, .bool false, .bool false, .bool false, .bool false, .bool false, .bool false, .bool false, .bool false, .bool false, .bool false, .bool false, .bool false, .bool false, .bool false, .bool false, .bool false, .bool false, .bool false, .bool false, .bool false, .bool false, .bool false, .bool false, .bool false, .bool false, .bool false, .bool false, .bool false, .bool false, .bool false, .bool false, .bool false, .bool false, .bool false, .bool false, .bool false, .bool false]), o 3 (.mv (.k (.bool false)))]) (.seq (.seq (.reg [o 4 (.mv (ki 0))]) (.block 0 (.loop (.seq (.seq (.reg [ov 6 4, ov 7 0, o 8 (.slen (.t 7)), o 9 (.bin .lss (.t 6) (.t 8))]) (.cond (.t 9) .skip (.exit 0))) (.seq (.block 1 (.seq (.reg [ov 12 0, ov 13 4, o 14 (.sidx (.t 12) (.t 13)), ov 5 14]) (.seq (.seq (.reg [ov 15 5, o 16 (.bin .geq (.t 15) (.k (.int .u8 (.ofNat 128))))]) (.cond (.t 16) (.seq (.reg [o 17 (.load (some 256) (.t 2)), .mk none (.store 256 (.t 2) (.t 17)) none, o 3 (.mv (.k (.bool false)))]) .ret) .skip)) (.reg [ov 18 5, o 19 (.aaddr 256 1 (.t 2) (.t 18)), .mk none (.store 1 (.t 19) (.k (.bool true))) none])))) (.reg [ov 10 4, o 11 (.bin .add (.t 10) (ki 1)), ov 4 11])))))) (.seq (.reg [o 20 (.load (some 256) (.t 2)), .mk none (.store 256 (.t 2) (.t 20)) none, o 3 (.mv (.k (.bool true)))]) .ret))) 21 1 [.c 2 (some 256), .t 3]
theorem l118 : compFunc Tryz.prog 118 = some L118 := by kernel_rfl
def L119 : XFunc := .mk (.seq (.reg [o 4 (.mv (.k (.str [])))]) (.seq (.block 0 (.loop (.seq (.seq (.reg [ov 5 0, o 6 (.slen (.t 5)), o 7 (.bin .gtr (.t 6) (ki 0))]) (.cond (.t 7) .skip (.exit 0))) (.block 1 (.seq (.seq (.reg [ov 8 1, ov 9 0, o 10 (.sidx (.t 9) (ki 0)), o 11 (.call (kf 134) [.t 8, .t 10]), o 12 (.un .not (.t 11))]) (.cond (.t 12) (.exit 0) .skip)) (.reg [ov 13 0, o 14 (.scut (.t 13) (some (ki 1)) none), ov 0 14])))))) (.seq (.reg [ov 15 0, ov 4 15]) .ret))) 16 2 [.t 4]
theorem l119 : compFunc Tryz.prog 119 = some L119 := by kernel_rfl
def L120 : XFunc := .mk (.seq (.reg [o 4 (.mv (.k (.str [])))]) (.seq (.block 0 (.loop (.seq (.seq (.reg [ov 5 0, o 6 (.slen (.t 5)), o 7 (.bin .gtr (.t 6) (ki 0))]) (.cond (.t 7) .skip (.exit 0))) (.block 1 (.seq (.seq (.reg [ov 8 1, ov 9 0, ov 10 0, o 11 (.slen (.t 10)), o 12 (.bin .sub (.t 11) (ki 1)), o 13 (.sidx (.t 9) (.t 12)), o 14 (.call (kf 134) [.t 8, .t 13]), o 15 (.un .not (.t 14))]) (.cond (.t 15) (.exit 0) .skip)) (.reg [ov 16 0, ov 17 0, o 18 (.slen (.t 17)), o 19 (.bin .sub (.t 18) (ki 1)), o 20 (.scut (.t 16) none (some (.t 19))), ov 0 20])))))) (.seq (.reg [ov 21 0, ov 4 21]) .ret))) 22 2 [.t 4]
theorem l120 : compFunc Tryz.prog 120 = some L120 := by kernel_rfl
def L121 : XFunc := .mk (.seq (.reg [o 4 (.mv (.k (.str [])))]) (.seq (.block 0 (.loop (.seq (.seq (.reg [ov 7 0, o 8 (.slen (.t 7)), o 9 (.bin .gtr (.t 8) (ki 0))]) (.cond (.t 9) .skip (.exit 0))) (.block 1 (.seq (.reg [ov 11 0, o 12 (.call (kf 135) [.t 11]), ov 10 12, o 13 (.ext (.t 10) 0), o 14 (.ext (.t 10) 1), ov 5 13, ov 6 14]) (.seq (.seq (.reg [ov 15 1, ov 16 5, o 17 (.call (kf 136) [.t 15, .t 16]), o 18 (.un .not (.t 17))]) (.cond (.t 18) (.exit 0) .skip)) (.reg [ov 19 0, ov 20 6, o 21 (.scut (.t 19) (some (.t 20)) none), ov 0 21]))))))) (.seq (.reg [ov 22 0, ov 4 22]) .ret))) 23 2 [.t 4]
theorem l121 : compFunc Tryz.prog 121 = some L121 := by kernel_rfl
def L122 : XFunc := .mk (.seq (.reg [o 4 (.mv (.k (.str [])))]) (.seq (.block 0 (.loop (.seq (.seq (.reg [ov 7 0, o 8 (.slen (.t 7)), o 9 (.bin .gtr (.t 8) (ki 0))]) (.cond (.t 9) .skip (.exit 0))) (.block 1 (.seq (.reg [ov 10 0, ov 11 0, o 12 (.slen (.t 11)), o 13 (.bin .sub (.t 12) (ki 1)), o 14 (.sidx (.t 10) (.t 13)), o 15 (.conv .i32 (.t 14)), ov 5 15, o 6 (.mv (ki 1))]) (.seq (.seq (.reg [ov 16 5, o 17 (.bin .geq (.t 16) (.k (.int .i32 (.ofNat 128))))]) (.cond (.t 17) (.reg [ov 19 0, o 20 (.call (kf 137) [.t 19]), ov 18 20, o 21 (.ext (.t 18) 0), o 22 (.ext (.t 18) 1), ov 5 21, ov 6 22]) .skip)) (.seq (.seq (.reg [ov 23 1, ov 24 5, o 25 (.call (kf 136) [.t 23, .t 24]), o 26 (.un .not (.t 25))]) (.cond (.t 26) (.exit 0) .skip)) (.reg [ov 27 0, ov 28 0, o 29 (.slen (.t 28)), ov 30 6, o 31 (.bin .sub (.t 29) (.t 30)), o 32 (.scut (.t 27) none (some (.t 31))), ov 0 32])))))))) (.seq (.reg [ov 33 0, ov 4 33]) .ret))) 34 2 [.t 4]
theorem l122 : compFunc Tryz.prog 122 = some L122 := by kernel_rfl
def L123 : XFunc := .mk (.seq (.reg [ov 5 0, o 6 (.len (.t 5)), ov 4 6]) (.reg [ov 7 0, ov 8 4, ov 9 4, o 10 (.conv .u64 (.t 9)), o 11 (.call (kf 139) [.t 10]), ov 12 1, o 13 (.call (kf 138) [.t 7, ki 0, .t 8, .t 11, .t 12])])) 14 2 []
theorem l123 : compFunc Tryz.prog 123 = some L123 := by kernel_rfl
def L124 : XFunc := .mk (.seq (.reg [o 2 (.box (.t 0)), o 3 (.box (.t 1)), o 4 (.mv (ki 0))]) (.seq (.reg [o 5 (.faddr 0 (.t 2)), o 6 (.load none (.t 5)), o 7 (.faddr 0 (.t 3)), o 8 (.load none (.t 7)), o 9 (.bin .sub (.t 6) (.t 8)), ov 4 9]) .ret)) 10 2 [.t 4]
theorem l124 : compFunc Tryz.prog 124 = some L124 := by kernel_rfl
def L125 : XFunc := .mk (.seq (.reg [o 4 (.mv (ki 0))]) (.seq (.seq (.reg [ov 6 0, o 7 (.len (.t 6)), o 8 (.mv (ki 0))]) (.block 0 (.loop (.seq (.reg [o 9 (.bin .lss (.t 8) (.t 7))]) (.seq (.cond (.t 9) .skip (.exit 0)) (.seq (.block 1 (.seq (.reg [ov 10 8, ov 5 10]) (.seq (.reg [ov 11 1, ov 12 0, ov 13 5, o 14 (.iaddr 2 (.t 12) (.t 13)), o 15 (.load (some 2) (.t 14)), o 16 (.call (.t 11) [.t 15])]) (.cond (.t 16) (.seq (.reg [ov 17 5, ov 4 17]) .ret) .skip)))) (.reg [o 18 (.bin .add (.t 8) (ki 1)), ov 8 18]))))))) (.seq (.reg [o 4 (.mv (.k (.int .i64 (.negSucc 0))))]) .ret))) 19 2 [.t 4]
theorem l125 : compFunc Tryz.prog 125 = some L125 := by kernel_rfl
def L126 : XFunc := .mk (.seq (.reg [o 6 (.mv (.k (.int .u32 (.ofNat 0)))), o 7 (.mv (.k (.int .u32 (.ofNat 0))))]) (.seq (.reg [ov 9 0, o 10 (.conv .u64 (.t 9)), ov 11 1, o 12 (.conv .u64 (.t 11)), o 13 (.bin .add (.t 10) (.t 12)), ov 14 2, o 15 (.conv .u64 (.t 14)), o 16 (.bin .add (.t 13) (.t 15)), ov 8 16]) (.seq (.reg [ov 17 8, o 18 (.conv .u32 (.t 17)), ov 6 18]) (.seq (.reg [ov 19 8, o 20 (.bin .shr (.t 19) (.k (.int .u64 (.ofNat 32)))), o 21 (.conv .u32 (.t 20)), ov 7 21]) .ret)))) 22 3 [.t 6, .t 7]
theorem l126 : compFunc Tryz.prog 126 = some L126 := by kernel_rfl
def L127 : XFunc := .mk (.seq (.reg [o 6 (.mv (.k (.int .u32 (.ofNat 0)))), o 7 (.mv (.k (.int .u32 (.ofNat 0))))]) (.seq (.reg [ov 8 0, ov 9 1, o 10 (.bin .sub (.t 8) (.t 9)), ov 11 2, o 12 (.bin .sub (.t 10) (.t 11)), ov 6 12]) (.seq (.reg [ov 13 0, o 14 (.un .xor (.t 13)), ov 15 1, o 16 (.bin .and (.t 14) (.t 15)), ov 17 0, ov 18 1, o 19 (.bin .xor (.t 17) (.t 18)), o 20 (.un .xor (.t 19)), ov 21 6, o 22 (.bin .and (.t 20) (.t 21)), o 23 (.bin .or (.t 16) (.t 22)), o 24 (.bin .shr (.t 23) (.k (.int .u64 (.ofNat 31)))), ov 7 24]) .ret))) 25 3 [.t 6, .t 7]
theorem l127 : compFunc Tryz.prog 127 = some L127 := by kernel_rfl
def L128 : XFunc := .mk (.seq (.reg [o 4 (.mv (.k .nils))]) (.seq (.reg [ov 12 0, o 13 (.len (.t 12)), ov 14 1, o 15 (.len (.t 14)), o 16 (.bin .add (.t 13) (.t 15)), o 17 (.mkslice [.int .u32 (.ofNat 0)] 4 (.t 16) (.t 16)), ov 5 17]) (.seq (.seq (.reg [ov 18 0, o 19 (.len (.t 18)), o 20 (.mv (ki 0))]) (.block 0 (.loop (.seq (.reg [o 21 (.bin .lss (.t 20) (.t 19))]) (.seq (.cond (.t 21) .skip (.exit 0)) (.seq (.block 1 (.seq (.reg [ov 22 20, o 23 (.iaddr 1 (.t 18) (.t 20)), o 24 (.load none (.t 23)), ov 6 22, ov 7 24]) (.seq (.reg [o 8 (.mv (.k (.int .u64 (.ofNat 0))))]) (.seq (.seq (.reg [ov 25 1, o 26 (.len (.t 25)), o 27 (.mv (ki 0))]) (.block 2 (.loop (.seq (.reg [o 28 (.bin .lss (.t 27) (.t 26))]) (.seq (.cond (.t 28) .skip (.exit 2)) (.seq (.block 3 (.seq (.reg [ov 29 27, o 30 (.iaddr 1 (.t 25) (.t 27)), o 31 (.load none (.t 30)), ov 9 29, ov 10 31]) (.seq (.reg [ov 32 7, o 33 (.conv .u64 (.t 32)), ov 34 10, o 35 (.conv .u64 (.t 34)), o 36 (.bin .mul (.t 33) (.t 35)), ov 37 5, ov 38 6, ov 39 9, o 40 (.bin .add (.t 38) (.t 39)), o 41 (.iaddr 1 (.t 37) (.t 40)), o 42 (.load none (.t 41)), o 43 (.conv .u64 (.t 42)), o 44 (.bin .add (.t 36) (.t 43)), ov 45 8, o 46 (.bin .add (.t 44) (.t 45)), ov 11 46]) (.reg [ov 47 5, ov 48 6, ov 49 9, o 50 (.bin .add (.t 48) (.t 49)), ov 51 11, o 52 (.conv .u32 (.t 51)), ov 53 11, o 54 (.bin .shr (.t 53) (.k (.int .u64 (.ofNat 32)))), o 55 (.iaddr 1 (.t 47) (.t 50)), .mk none (.store 1 (.t 55) (.t 52)) none, ov 8 54])))) (.reg [o 56 (.bin .add (.t 27) (ki 1)), ov 27 56]))))))) (.reg [ov 57 5, ov 58 6, ov 59 1, o 60 (.len (.t 59)), o 61 (.bin .add (.t 58) (.t 60)), ov 62 8, o 63 (.conv .u32 (.t 62)), o 64 (.iaddr 1 (.t 57) (.t 61)), .mk none (.store 1 (.t 64) (.t 63)) none]))))) (.reg [o 65 (.bin .add (.t 20) (ki 1)), ov 20 65]))))))) (.seq (.reg [ov 66 5, o 67 (.call (kf 96) [.t 66]), ov 4 67]) .ret)))) 68 2 [.t 4]
theorem l128 : compFunc Tryz.prog 128 = some L128 := by kernel_rfl
def L129 : XFunc := .mk (.seq (.reg [o 4 (.mv (.k .nils)), o 5 (.mv (.k (.int .u32 (.ofNat 0))))]) (.seq (.reg [ov 10 0, o 11 (.len (.t 10)), o 12 (.mkslice [.int .u32 (.ofNat 0)] 4 (.t 11) (.t 11)), ov 6 12]) (.seq (.reg [o 7 (.mv (.k (.int .u64 (.ofNat 0))))]) (.seq (.seq (.reg [ov 13 0, o 14 (.len (.t 13)), o 15 (.bin .sub (.t 14) (ki 1)), ov 8 15]) (.block 0 (.loop (.seq (.seq (.reg [ov 16 8, o 17 (.bin .geq (.t 16) (ki 0))]) (.cond (.t 17) .skip (.exit 0))) (.seq (.block 1 (.seq (.reg [ov 20 7, o 21 (.bin .shl (.t 20) (.k (.int .u64 (.ofNat 32)))), ov 22 0, ov 23 8, o 24 (.iaddr 1 (.t 22) (.t 23)), o 25 (.load none (.t 24)), o 26 (.conv .u64 (.t 25)), o 27 (.bin .or (.t 21) (.t 26)), ov 9 27]) (.regd [ov 28 6, ov 29 8, ov 30 9, ov 31 1, o 32 (.conv .u64 (.t 31)), o 33 (.bin .quo (.t 30) (.t 32)), o 34 (.conv .u32 (.t 33)), ov 35 9, ov 36 1, o 37 (.conv .u64 (.t 36)), o 38 (.bin .rem (.t 35) (.t 37)), o 39 (.iaddr 1 (.t 28) (.t 29)), .mk none (.store 1 (.t 39) (.t 34)) none, ov 7 38] [] []))) (.reg [ov 18 8, o 19 (.bin .sub (.t 18) (ki 1)), ov 8 19])))))) (.seq (.reg [ov 40 6, o 41 (.call (kf 96) [.t 40]), ov 42 7, o 43 (.conv .u32 (.t 42)), ov 4 41, ov 5 43]) .ret))))) 44 2 [.t 4, .t 5]
theorem l129 : compFunc Tryz.prog 129 = some L129 := by kernel_rfl
def L130 : XFunc := .mk (.seq (.reg [ov 4 0, o 5 (.len (.t 4)), o 6 (.bin .sub (.t 5) (ki 1)), o 2 (.mv (ki 0)), ov 3 6]) (.block 0 (.loop (.seq (.seq (.reg [ov 7 2, ov 8 3, o 9 (.bin .lss (.t 7) (.t 8))]) (.cond (.t 9) .skip (.exit 0))) (.seq (.block 1 (.regd [ov 14 0, ov 15 2, ov 16 0, ov 17 3, ov 18 0, ov 19 3, o 20 (.iaddr 1 (.t 18) (.t 19)), o 21 (.load none (.t 20)), ov 22 0, ov 23 2, o 24 (.iaddr 1 (.t 22) (.t 23)), o 25 (.load none (.t 24)), o 26 (.iaddr 1 (.t 14) (.t 15)), .mk none (.store 1 (.t 26) (.t 21)) none, o 27 (.iaddr 1 (.t 16) (.t 17)), .mk none (.store 1 (.t 27) (.t 25)) none] [] [])) (.reg [ov 10 2, o 11 (.bin .add (.t 10) (ki 1)), ov 12 3, o 13 (.bin .sub (.t 12) (ki 1)), ov 2 11, ov 3 13])))))) 28 1 []
theorem l130 : compFunc Tryz.prog 130 = some L130 := by kernel_rfl
def L134 : XFunc := .mk (.seq (.reg [o 4 (.mv (.k (.bool false)))]) (.seq (.reg [ov 5 0, ov 6 1, o 7 (.nilc (.t 5)), o 8 (.aaddr 256 1 (.t 7) (.t 6)), o 9 (.load none (.t 8)), ov 4 9]) .ret)) 10 2 [.t 4]
theorem l134 : compFunc Tryz.prog 134 = some L134 := by kernel_rfl
def L135 : XFunc := .mk (.seq (.reg [o 2 (.mv (.k (.int .i32 (.ofNat 0)))), o 3 (.mv (ki 0))]) (.seq (.seq (.reg [ov 4 0, o 5 (.bin .neq (.t 4) (.k (.str []))), ov 6 5, og 7 (.mv (.t 0)) 6 true, og 8 (.sidx (.t 7) (ki 0)) 6 true, og 9 (.bin .lss (.t 8) (.k (.int .u8 (.ofNat 128)))) 6 true, o 10 (.pick (.t 6) (.t 9) (.k (.bool false)))]) (.cond (.t 10) (.seq (.reg [ov 11 0, o 12 (.sidx (.t 11) (ki 0)), o 13 (.conv .i32 (.t 12)), ov 2 13, o 3 (.mv (ki 1))]) .ret) (.reg [ov 15 0, o 16 (.call (kf 146) [.t 15]), ov 14 16, o 17 (.ext (.t 14) 0), o 18 (.ext (.t 14) 1), ov 2 17, ov 3 18]))) .ret)) 19 1 [.t 2, .t 3]
theorem l135 : compFunc Tryz.prog 135 = some L135 := by kernel_rfl
def L136 : XFunc := .mk (.seq (.reg [o 4 (.mv (.k (.bool false)))]) (.seq (.reg [ov 5 0, ov 6 1, o 7 (.call (kf 147) [.t 5, .t 6]), o 8 (.bin .geq (.t 7) (ki 0)), ov 4 8]) .ret)) 9 2 [.t 4]
theorem l136 : compFunc Tryz.prog 136 = some L136 := by kernel_rfl
def L137 : XFunc := .mk (.seq (.reg [o 2 (.mv (.k (.int .i32 (.ofNat 0)))), o 3 (.mv (ki 0))]) (.seq (.reg [ov 7 0, o 8 (.slen (.t 7)), ov 4 8]) (.seq (.seq (.reg [ov 9 4, o 10 (.bin .eql (.t 9) (ki 0))]) (.cond (.t 10) (.seq (.reg [o 2 (.mv (.k (.int .i32 (.ofNat 65533)))), o 3 (.mv (ki 0))]) .ret) .skip)) (.seq (.reg [ov 11 4, o 12 (.bin .sub (.t 11) (ki 1)), ov 5 12]) (.seq (.reg [ov 13 0, ov 14 5, o 15 (.sidx (.t 13) (.t 14)), o 16 (.conv .i32 (.t 15)), ov 2 16]) (.seq (.seq (.reg [ov 17 2, o 18 (.bin .lss (.t 17) (.k (.int .i32 (.ofNat 128))))]) (.cond (.t 18) (.seq (.reg [ov 19 2, ov 2 19, o 3 (.mv (ki 1))]) .ret) .skip)) (.seq (.reg [ov 20 4, o 21 (.bin .sub (.t 20) (ki 4)), o 22 (.mx [.t 21, ki 0]), ov 6 22]) (.seq (.seq (.reg [ov 23 5, o 24 (.bin .sub (.t 23) (ki 1)), ov 5 24]) (.block 0 (.loop (.seq (.seq (.reg [ov 25 5, ov 26 6, o 27 (.bin .geq (.t 25) (.t 26))]) (.cond (.t 27) .skip (.exit 0))) (.seq (.block 1 (.seq (.reg [ov 30 0, ov 31 5, o 32 (.sidx (.t 30) (.t 31)), o 33 (.call (kf 148) [.t 32])]) (.cond (.t 33) (.exit 0) .skip))) (.reg [ov 28 5, o 29 (.bin .sub (.t 28) (ki 1)), ov 5 29])))))) (.seq (.seq (.reg [ov 34 5, o 35 (.bin .lss (.t 34) (ki 0))]) (.cond (.t 35) (.reg [o 5 (.mv (ki 0))]) .skip)) (.seq (.reg [ov 37 0, ov 38 5, ov 39 4, o 40 (.scut (.t 37) (some (.t 38)) (some (.t 39))), o 41 (.call (kf 135) [.t 40]), ov 36 41, o 42 (.ext (.t 36) 0), o 43 (.ext (.t 36) 1), ov 2 42, ov 3 43]) (.seq (.seq (.reg [ov 44 5, ov 45 3, o 46 (.bin .add (.t 44) (.t 45)), ov 47 4, o 48 (.bin .neq (.t 46) (.t 47))]) (.cond (.t 48) (.seq (.reg [o 2 (.mv (.k (.int .i32 (.ofNat 65533)))), o 3 (.mv (ki 1))]) .ret) .skip)) (.seq (.reg [ov 49 2, ov 50 3, ov 2 49, ov 3 50]) .ret)))))))))))) 51 1 [.t 2, .t 3]
theorem l137 : compFunc Tryz.prog 137 = some L137 := by kernel_rfl
def L138 : XFunc := .mk (.seq (.reg [o 10 (.mv (.k (.bool true)))]) (.seq (.reg [o 11 (.mv (.k (.bool true)))]) (.block 0 (.loop (.block 1 (.seq (.reg [ov 21 2, ov 22 1, o 23 (.bin .sub (.t 21) (.t 22)), ov 12 23]) (.seq (.seq (.reg [ov 24 12, o 25 (.bin .leq (.t 24) (ki 12))]) (.cond (.t 25) (.seq (.reg [ov 26 0, ov 27 1, ov 28 2, ov 29 4, o 30 (.call (kf 149) [.t 26, .t 27, .t 28, .t 29])]) .ret) .skip)) (.seq (.seq (.reg [ov 31 3, o 32 (.bin .eql (.t 31) (ki 0))]) (.cond (.t 32) (.seq (.reg [ov 33 0, ov 34 1, ov 35 2, ov 36 4, o 37 (.call (kf 150) [.t 33, .t 34, .t 35, .t 36])]) .ret) .skip)) (.seq (.seq (.reg [ov 38 10, o 39 (.un .not (.t 38))]) (.cond (.t 39) (.seq (.reg [ov 40 0, ov 41 1, ov 42 2, ov 43 4, o 44 (.call (kf 151) [.t 40, .t 41, .t 42, .t 43])]) (.reg [ov 45 3, o 46 (.bin .sub (.t 45) (ki 1)), ov 3 46])) .skip)) (.seq (.reg [ov 48 0, ov 49 1, ov 50 2, ov 51 4, o 52 (.call (kf 152) [.t 48, .t 49, .t 50, .t 51]), ov 47 52, o 53 (.ext (.t 47) 0), o 54 (.ext (.t 47) 1), ov 13 53, ov 14 54]) (.seq (.seq (.reg [ov 55 14, o 56 (.bin .eql (.t 55) (ki 2))]) (.cond (.t 56) (.seq (.reg [ov 57 0, ov 58 1, ov 59 2, ov 60 4, o 61 (.call (kf 153) [.t 57, .t 58, .t 59, .t 60])]) (.seq (.reg [ov 62 2, o 63 (.bin .sub (.t 62) (ki 1)), ov 64 13, ov 65 1, o 66 (.bin .sub (.t 64) (.t 65)), o 67 (.bin .sub (.t 63) (.t 66)), ov 13 67]) (.reg [o 14 (.mv (ki 1))]))) .skip)) (.seq (.seq (.reg [ov 68 10, ov 69 68, og 70 (.mv (.t 11)) 69 true, o 71 (.pick (.t 69) (.t 70) (.k (.bool false))), ov 72 71, og 73 (.mv (.t 14)) 72 true, og 74 (.bin .eql (.t 73) (ki 1)) 72 true, o 75 (.pick (.t 72) (.t 74) (.k (.bool false)))]) (.cond (.t 75) (.seq (.reg [ov 76 0, ov 77 1, ov 78 2, ov 79 4, o 80 (.call (kf 154) [.t 76, .t 77, .t 78, .t 79])]) (.cond (.t 80) .ret .skip)) .skip)) (.seq (.seq (.regd [ov 81 1, o 82 (.bin .gtr (.t 81) (ki 0)), ov 83 82, og 84 (.mv (.t 4)) 83 true, og 85 (.mv (.t 0)) 83 true, og 86 (.mv (.t 1)) 83 true, og 87 (.bin .sub (.t 86) (ki 1)) 83 true, og 88 (.iaddr 2 (.t 85) (.t 87)) 83 true, og 89 (.load (some 2) (.t 88)) 83 true, og 90 (.mv (.t 0)) 83 true, og 91 (.mv (.t 13)) 83 true, og 92 (.iaddr 2 (.t 90) (.t 91)) 83 true, og 93 (.load (some 2) (.t 92)) 83 true, og 94 (.call (.t 84) [.t 89, .t 93]) 83 true, og 95 (.bin .lss (.t 94) (ki 0)) 83 true, og 96 (.un .not (.t 95)) 83 true, o 97 (.pick (.t 83) (.t 96) (.k (.bool false)))] [] []) (.cond (.t 97) (.seq (.reg [ov 98 0, ov 99 1, ov 100 2, ov 101 13, ov 102 4, o 103 (.call (kf 155) [.t 98, .t 99, .t 100, .t 101, .t 102]), ov 15 103]) (.seq (.reg [ov 104 15, ov 1 104]) (.exit 1))) .skip)) (.seq (.reg [ov 106 0, ov 107 1, ov 108 2, ov 109 13, ov 110 4, o 111 (.call (kf 156) [.t 106, .t 107, .t 108, .t 109, .t 110]), ov 105 111, o 112 (.ext (.t 105) 0), o 113 (.ext (.t 105) 1), ov 16 112, ov 17 113]) (.seq (.reg [ov 114 17, ov 11 114]) (.seq (.reg [ov 115 16, ov 116 1, o 117 (.bin .sub (.t 115) (.t 116)), ov 118 2, ov 119 16, o 120 (.bin .sub (.t 118) (.t 119)), ov 18 117, ov 19 120]) (.seq (.reg [ov 121 12, o 122 (.bin .quo (.t 121) (ki 8)), ov 20 122]) (.seq (.reg [ov 123 18, ov 124 19, o 125 (.bin .lss (.t 123) (.t 124))]) (.cond (.t 125) (.seq (.reg [ov 126 18, ov 127 20, o 128 (.bin .geq (.t 126) (.t 127)), ov 10 128]) (.seq (.reg [ov 129 0, ov 130 1, ov 131 16, ov 132 3, ov 133 4, o 134 (.call (kf 138) [.t 129, .t 130, .t 131, .t 132, .t 133])]) (.reg [ov 135 16, o 136 (.bin .add (.t 135) (ki 1)), ov 1 136]))) (.seq (.reg [ov 137 19, ov 138 20, o 139 (.bin .geq (.t 137) (.t 138)), ov 10 139]) (.seq (.reg [ov 140 0, ov 141 16, o 142 (.bin .add (.t 141) (ki 1)), ov 143 2, ov 144 3, ov 145 4, o 146 (.call (kf 138) [.t 140, .t 142, .t 143, .t 144, .t 145])]) (.reg [ov 147 16, ov 2 147])))))))))))))))))))))) 148 5 []
theorem l138 : compFunc Tryz.prog 138 = some L138 := by kernel_rfl
def L139 : XFunc := .mk (.seq (.reg [o 2 (.mv (ki 0))]) (.seq (.cond (.k (.bool false)) (.seq (.reg [ov 3 0, o 4 (.conv .u32 (.t 3)), o 5 (.call (kf 157) [.t 4]), ov 2 5]) .ret) .skip) (.seq (.reg [ov 6 0, o 7 (.call (kf 158) [.t 6]), ov 2 7]) .ret))) 8 1 [.t 2]
theorem l139 : compFunc Tryz.prog 139 = some L139 := by kernel_rfl
def L146 : XFunc := .mk (.seq (.reg [o 2 (.mv (.k (.int .i32 (.ofNat 0)))), o 3 (.mv (ki 0))]) (.seq (.reg [ov 13 0, o 14 (.slen (.t 13)), ov 4 14]) (.seq (.seq (.reg [ov 15 4, o 16 (.bin .lss (.t 15) (ki 1))]) (.cond (.t 16) (.seq (.reg [o 2 (.mv (.k (.int .i32 (.ofNat 65533)))), o 3 (.mv (ki 0))]) .ret) .skip)) (.seq (.reg [ov 17 0, o 18 (.sidx (.t 17) (ki 0)), ov 5 18]) (.seq (.reg [ov 19 5, o 20 (.aaddr 256 1 (.k (.glob 1 0)) (.t 19)), o 21 (.load none (.t 20)), ov 6 21]) (.seq (.seq (.reg [ov 22 6, o 23 (.bin .geq (.t 22) (.k (.int .u8 (.ofNat 240))))]) (.cond (.t 23) (.seq (.reg [ov 24 6, o 25 (.conv .i32 (.t 24)), o 26 (.bin .shl (.t 25) (.k (.int .u64 (.ofNat 31)))), o 27 (.bin .shr (.t 26) (.k (.int .u64 (.ofNat 31)))), ov 7 27]) (.seq (.reg [ov 28 0, o 29 (.sidx (.t 28) (ki 0)), o 30 (.conv .i32 (.t 29)), ov 31 7, o 32 (.bin .andNot (.t 30) (.t 31)), ov 33 7, o 34 (.bin .and (.k (.int .i32 (.ofNat 65533))) (.t 33)), o 35 (.bin .or (.t 32) (.t 34)), ov 2 35, o 3 (.mv (ki 1))]) .ret)) .skip)) (.seq (.reg [ov 36 6, o 37 (.bin .and (.t 36) (.k (.int .u8 (.ofNat 7)))), o 38 (.conv .i64 (.t 37)), ov 8 38]) (.seq (.reg [ov 39 6, o 40 (.bin .shr (.t 39) (.k (.int .u64 (.ofNat 4)))), o 41 (.aaddr 16 2 (.k (.glob 2 0)) (.t 40)), o 42 (.load (some 2) (.t 41)), o 9 (.alloc [.int .u8 (.ofNat 0), .int .u8 (.ofNat 0)]), .mk none (.store 2 (.t 9) (.t 42)) none]) (.seq (.seq (.reg [ov 43 4, ov 44 8, o 45 (.bin .lss (.t 43) (.t 44))]) (.cond (.t 45) (.seq (.reg [o 2 (.mv (.k (.int .i32 (.ofNat 65533)))), o 3 (.mv (ki 1))]) .ret) .skip)) (.seq (.reg [ov 46 0, o 47 (.sidx (.t 46) (ki 1)), ov 10 47]) (.seq (.seq (.reg [ov 48 10, o 49 (.faddr 0 (.t 9)), o 50 (.load none (.t 49)), o 51 (.bin .lss (.t 48) (.t 50)), ov 52 51, og 53 (.faddr 1 (.t 9)) 52 false, og 54 (.load none (.t 53)) 52 false, og 55 (.mv (.t 10)) 52 false, og 56 (.bin .lss (.t 54) (.t 55)) 52 false, o 57 (.pick (.t 52) (.k (.bool true)) (.t 56))]) (.cond (.t 57) (.seq (.reg [o 2 (.mv (.k (.int .i32 (.ofNat 65533)))), o 3 (.mv (ki 1))]) .ret) .skip)) (.seq (.seq (.reg [ov 58 8, o 59 (.bin .leq (.t 58) (ki 2))]) (.cond (.t 59) (.seq (.reg [ov 60 5, o 61 (.bin .and (.t 60) (.k (.int .u8 (.ofNat 31)))), o 62 (.conv .i32 (.t 61)), o 63 (.bin .shl (.t 62) (.k (.int .u64 (.ofNat 6)))), ov 64 10, o 65 (.bin .and (.t 64) (.k (.int .u8 (.ofNat 63)))), o 66 (.conv .i32 (.t 65)), o 67 (.bin .or (.t 63) (.t 66)), ov 2 67, o 3 (.mv (ki 2))]) .ret) .skip)) (.seq (.reg [ov 68 0, o 69 (.sidx (.t 68) (ki 2)), ov 11 69]) (.seq (.seq (.reg [ov 70 11, o 71 (.bin .lss (.t 70) (.k (.int .u8 (.ofNat 128)))), ov 72 71, og 73 (.mv (.t 11)) 72 false, og 74 (.bin .lss (.k (.int .u8 (.ofNat 191))) (.t 73)) 72 false, o 75 (.pick (.t 72) (.k (.bool true)) (.t 74))]) (.cond (.t 75) (.seq (.reg [o 2 (.mv (.k (.int .i32 (.ofNat 65533)))), o 3 (.mv (ki 1))]) .ret) .skip)) (.seq (.seq (.reg [ov 76 8, o 77 (.bin .leq (.t 76) (ki 3))]) (.cond (.t 77) (.seq (.reg [ov 78 5, o 79 (.bin .and (.t 78) (.k (.int .u8 (.ofNat 15)))), o 80 (.conv .i32 (.t 79)), o 81 (.bin .shl (.t 80) (.k (.int .u64 (.ofNat 12)))), ov 82 10, o 83 (.bin .and (.t 82) (.k (.int .u8 (.ofNat 63)))), o 84 (.conv .i32 (.t 83)), o 85 (.bin .shl (.t 84) (.k (.int .u64 (.ofNat 6)))), o 86 (.bin .or (.t 81) (.t 85)), ov 87 11, o 88 (.bin .and (.t 87) (.k (.int .u8 (.ofNat 63)))), o 89 (.conv .i32 (.t 88)), o 90 (.bin .or (.t 86) (.t 89)), ov 2 90, o 3 (.mv (ki 3))]) .ret) .skip)) (.seq (.reg [ov 91 0, o 92 (.sidx (.t 91) (ki 3)), ov 12 92]) (.seq (.seq (.reg [ov 93 12, o 94 (.bin .lss (.t 93) (.k (.int .u8 (.ofNat 128)))), ov 95 94, og 96 (.mv (.t 12)) 95 false, og 97 (.bin .lss (.k (.int .u8 (.ofNat 191))) (.t 96)) 95 false, o 98 (.pick (.t 95) (.k (.bool true)) (.t 97))]) (.cond (.t 98) (.seq (.reg [o 2 (.mv (.k (.int .i32 (.ofNat 65533)))), o 3 (.mv (ki 1))]) .ret) .skip)) (.seq (.reg [ov 99 5, o 100 (.bin .and (.t 99) (.k (.int .u8 (.ofNat 7)))), o 101 (.conv .i32 (.t 100)), o 102 (.bin .shl (.t 101) (.k (.int .u64 (.ofNat 18)))), ov 103 10, o 104 (.bin .and (.t 103) (.k (.int .u8 (.ofNat 63)))), o 105 (.conv .i32 (.t 104)), o 106 (.bin .shl (.t 105) (.k (.int .u64 (.ofNat 12)))), o 107 (.bin .or (.t 102) (.t 106)), ov 108 11, o 109 (.bin .and (.t 108) (.k (.int .u8 (.ofNat 63)))), o 110 (.conv .i32 (.t 109)), o 111 (.bin .shl (.t 110) (.k (.int .u64 (.ofNat 6)))), o 112 (.bin .or (.t 107) (.t 111)), ov 113 12, o 114 (.bin .and (.t 113) (.k (.int .u8 (.ofNat 63)))), o 115 (.conv .i32 (.t 114)), o 116 (.bin .or (.t 112) (.t 115)), ov 2 116, o 3 (.mv (ki 4))]) .ret)))))))))))))))))) 117 1 [.t 2, .t 3]
theorem l146 : compFunc Tryz.prog 146 = some L146 := by kernel_rfl
def L148 : XFunc := .mk (.seq (.reg [o 2 (.mv (.k (.bool false)))]) (.seq (.reg [ov 3 0, o 4 (.bin .and (.t 3) (.k (.int .u8 (.ofNat 192)))), o 5 (.bin .neq (.t 4) (.k (.int .u8 (.ofNat 128)))), ov 2 5]) .ret)) 6 1 [.t 2]
theorem l148 : compFunc Tryz.prog 148 = some L148 := by kernel_rfl
def L149 : XFunc := .mk (.seq (.reg [ov 10 1, o 11 (.bin .add (.t 10) (ki 1)), ov 8 11]) (.block 0 (.loop (.seq (.seq (.reg [ov 12 8, ov 13 2, o 14 (.bin .lss (.t 12) (.t 13))]) (.cond (.t 14) .skip (.exit 0))) (.seq (.block 1 (.seq (.reg [ov 17 8, ov 9 17]) (.block 2 (.loop (.seq (.seq (.regd [ov 18 9, ov 19 1, o 20 (.bin .gtr (.t 18) (.t 19)), ov 21 20, og 22 (.mv (.t 3)) 21 true, og 23 (.mv (.t 0)) 21 true, og 24 (.mv (.t 9)) 21 true, og 25 (.iaddr 2 (.t 23) (.t 24)) 21 true, og 26 (.load (some 2) (.t 25)) 21 true, og 27 (.mv (.t 0)) 21 true, og 28 (.mv (.t 9)) 21 true, og 29 (.bin .sub (.t 28) (ki 1)) 21 true, og 30 (.iaddr 2 (.t 27) (.t 29)) 21 true, og 31 (.load (some 2) (.t 30)) 21 true, og 32 (.call (.t 22) [.t 26, .t 31]) 21 true, og 33 (.bin .lss (.t 32) (ki 0)) 21 true, o 34 (.pick (.t 21) (.t 33) (.k (.bool false)))] [] []) (.cond (.t 34) .skip (.exit 2))) (.seq (.block 3 (.regd [ov 37 0, ov 38 9, ov 39 0, ov 40 9, o 41 (.bin .sub (.t 40) (ki 1)), ov 42 0, ov 43 9, o 44 (.bin .sub (.t 43) (ki 1)), o 45 (.iaddr 2 (.t 42) (.t 44)), o 46 (.load (some 2) (.t 45)), ov 47 0, ov 48 9, o 49 (.iaddr 2 (.t 47) (.t 48)), o 50 (.load (some 2) (.t 49)), o 51 (.iaddr 2 (.t 37) (.t 38)), .mk none (.store 2 (.t 51) (.t 46)) none, o 52 (.iaddr 2 (.t 39) (.t 41)), .mk none (.store 2 (.t 52) (.t 50)) none] [] [])) (.reg [ov 35 9, o 36 (.bin .sub (.t 35) (ki 1)), ov 9 36]))))))) (.reg [ov 15 8, o 16 (.bin .add (.t 15) (ki 1)), ov 8 16])))))) 53 4 []
theorem l149 : compFunc Tryz.prog 149 = some L149 := by kernel_rfl
def L150 : XFunc := .mk (.seq (.reg [ov 13 1, ov 8 13]) (.seq (.reg [o 9 (.mv (ki 0))]) (.seq (.reg [ov 14 2, ov 15 1, o 16 (.bin .sub (.t 14) (.t 15)), ov 10 16]) (.seq (.seq (.reg [ov 17 10, o 18 (.bin .sub (.t 17) (ki 1)), o 19 (.bin .quo (.t 18) (ki 2)), ov 11 19]) (.block 0 (.loop (.seq (.seq (.reg [ov 20 11, o 21 (.bin .geq (.t 20) (ki 0))]) (.cond (.t 21) .skip (.exit 0))) (.seq (.block 1 (.reg [ov 24 0, ov 25 11, ov 26 10, ov 27 8, ov 28 3, o 29 (.call (kf 165) [.t 24, .t 25, .t 26, .t 27, .t 28])])) (.reg [ov 22 11, o 23 (.bin .sub (.t 22) (ki 1)), ov 11 23])))))) (.seq (.reg [ov 30 10, o 31 (.bin .sub (.t 30) (ki 1)), ov 12 31]) (.block 2 (.loop (.seq (.seq (.reg [ov 32 12, o 33 (.bin .geq (.t 32) (ki 0))]) (.cond (.t 33) .skip (.exit 2))) (.seq (.block 3 (.seq (.regd [ov 36 0, ov 37 8, ov 38 0, ov 39 8, ov 40 12, o 41 (.bin .add (.t 39) (.t 40)), ov 42 0, ov 43 8, ov 44 12, o 45 (.bin .add (.t 43) (.t 44)), o 46 (.iaddr 2 (.t 42) (.t 45)), o 47 (.load (some 2) (.t 46)), ov 48 0, ov 49 8, o 50 (.iaddr 2 (.t 48) (.t 49)), o 51 (.load (some 2) (.t 50)), o 52 (.iaddr 2 (.t 36) (.t 37)), .mk none (.store 2 (.t 52) (.t 47)) none, o 53 (.iaddr 2 (.t 38) (.t 41)), .mk none (.store 2 (.t 53) (.t 51)) none] [] []) (.reg [ov 54 0, ov 55 9, ov 56 12, ov 57 8, ov 58 3, o 59 (.call (kf 165) [.t 54, .t 55, .t 56, .t 57, .t 58])]))) (.reg [ov 34 12, o 35 (.bin .sub (.t 34) (ki 1)), ov 12 35])))))))))) 60 4 []
theorem l150 : compFunc Tryz.prog 150 = some L150 := by kernel_rfl
def L151 : XFunc := .mk (.seq (.reg [ov 13 2, ov 14 1, o 15 (.bin .sub (.t 13) (.t 14)), ov 8 15]) (.seq (.reg [ov 16 8, o 17 (.bin .geq (.t 16) (ki 8))]) (.cond (.t 17) (.seq (.reg [ov 18 8, o 19 (.conv .u64 (.t 18)), o 9 (.alloc [.int .u64 (.ofNat 0)]), .mk none (.store 1 (.t 9) (.t 19)) none]) (.seq (.reg [ov 20 8, o 21 (.call (kf 166) [.t 20]), ov 10 21]) (.seq (.reg [ov 22 1, ov 23 8, o 24 (.bin .quo (.t 23) (ki 4)), o 25 (.bin .mul (.t 24) (ki 2)), o 26 (.bin .add (.t 22) (.t 25)), o 27 (.bin .sub (.t 26) (ki 1)), ov 11 27]) (.block 0 (.loop (.seq (.seq (.reg [ov 28 11, ov 29 1, ov 30 8, o 31 (.bin .quo (.t 30) (ki 4)), o 32 (.bin .mul (.t 31) (ki 2)), o 33 (.bin .add (.t 29) (.t 32)), o 34 (.bin .add (.t 33) (ki 1)), o 35 (.bin .leq (.t 28) (.t 34))]) (.cond (.t 35) .skip (.exit 0))) (.seq (.block 1 (.seq (.reg [o 38 (.call (kf 167) [.t 9]), ov 39 10, o 40 (.bin .sub (.t 39) (.k (.int .u64 (.ofNat 1)))), o 41 (.bin .and (.t 38) (.t 40)), o 42 (.conv .i64 (.t 41)), ov 12 42]) (.seq (.seq (.reg [ov 43 12, ov 44 8, o 45 (.bin .geq (.t 43) (.t 44))]) (.cond (.t 45) (.reg [ov 46 12, ov 47 8, o 48 (.bin .sub (.t 46) (.t 47)), ov 12 48]) .skip)) (.regd [ov 49 0, ov 50 11, ov 51 0, ov 52 1, ov 53 12, o 54 (.bin .add (.t 52) (.t 53)), ov 55 0, ov 56 1, ov 57 12, o 58 (.bin .add (.t 56) (.t 57)), o 59 (.iaddr 2 (.t 55) (.t 58)), o 60 (.load (some 2) (.t 59)), ov 61 0, ov 62 11, o 63 (.iaddr 2 (.t 61) (.t 62)), o 64 (.load (some 2) (.t 63)), o 65 (.iaddr 2 (.t 49) (.t 50)), .mk none (.store 2 (.t 65) (.t 60)) none, o 66 (.iaddr 2 (.t 51) (.t 54)), .mk none (.store 2 (.t 66) (.t 64)) none] [] [])))) (.reg [ov 36 11, o 37 (.bin .add (.t 36) (ki 1)), ov 11 37])))))))) .skip))) 67 4 []
theorem l151 : compFunc Tryz.prog 151 = some L151 := by kernel_rfl
def L152 : XFunc := .mk (.seq (.reg [o 8 (.mv (ki 0)), o 9 (.mv (ki 0))]) (.seq (.reg [ov 15 2, ov 16 1, o 17 (.bin .sub (.t 15) (.t 16)), ov 10 17]) (.seq (.reg [o 11 (.alloc [.int .i64 (.ofNat 0)])]) (.seq (.reg [ov 18 1, ov 19 10, o 20 (.bin .quo (.t 19) (ki 4)), o 21 (.bin .mul (.t 20) (ki 1)), o 22 (.bin .add (.t 18) (.t 21)), ov 12 22]) (.seq (.reg [ov 23 1, ov 24 10, o 25 (.bin .quo (.t 24) (ki 4)), o 26 (.bin .mul (.t 25) (ki 2)), o 27 (.bin .add (.t 23) (.t 26)), ov 13 27]) (.seq (.reg [ov 28 1, ov 29 10, o 30 (.bin .quo (.t 29) (ki 4)), o 31 (.bin .mul (.t 30) (ki 3)), o 32 (.bin .add (.t 28) (.t 31)), ov 14 32]) (.seq (.seq (.reg [ov 33 10, o 34 (.bin .geq (.t 33) (ki 8))]) (.cond (.t 34) (.seq (.seq (.reg [ov 35 10, o 36 (.bin .geq (.t 35) (ki 50))]) (.cond (.t 36) (.seq (.reg [ov 37 0, ov 38 12, ov 39 3, o 40 (.call (kf 168) [.t 37, .t 38, .t 11, .t 39]), ov 12 40]) (.seq (.reg [ov 41 0, ov 42 13, ov 43 3, o 44 (.call (kf 168) [.t 41, .t 42, .t 11, .t 43]), ov 13 44]) (.reg [ov 45 0, ov 46 14, ov 47 3, o 48 (.call (kf 168) [.t 45, .t 46, .t 11, .t 47]), ov 14 48]))) .skip)) (.reg [ov 49 0, ov 50 12, ov 51 13, ov 52 14, ov 53 3, o 54 (.call (kf 169) [.t 49, .t 50, .t 51, .t 52, .t 11, .t 53]), ov 13 54])) .skip)) (.seq (.reg [o 55 (.load none (.t 11))]) (.block 0 (.seq (.reg [o 58 (.bin .eql (.t 55) (ki 0)), ov 57 58]) (.cond (.t 57) (.seq (.reg [ov 59 13, ov 8 59, o 9 (.mv (ki 1))]) .ret) (.seq (.reg [o 61 (.bin .eql (.t 55) (ki 12)), ov 60 61]) (.cond (.t 60) (.seq (.reg [ov 62 13, ov 8 62, o 9 (.mv (ki 2))]) .ret) (.seq (.reg [ov 56 13, ov 8 56, o 9 (.mv (ki 0))]) .ret)))))))))))))) 63 4 [.t 8, .t 9]
theorem l152 : compFunc Tryz.prog 152 = some L152 := by kernel_rfl
def L153 : XFunc := .mk (.seq (.reg [ov 10 1, ov 8 10]) (.seq (.reg [ov 11 2, o 12 (.bin .sub (.t 11) (ki 1)), ov 9 12]) (.block 0 (.loop (.seq (.seq (.reg [ov 13 8, ov 14 9, o 15 (.bin .lss (.t 13) (.t 14))]) (.cond (.t 15) .skip (.exit 0))) (.block 1 (.seq (.regd [ov 16 0, ov 17 8, ov 18 0, ov 19 9, ov 20 0, ov 21 9, o 22 (.iaddr 2 (.t 20) (.t 21)), o 23 (.load (some 2) (.t 22)), ov 24 0, ov 25 8, o 26 (.iaddr 2 (.t 24) (.t 25)), o 27 (.load (some 2) (.t 26)), o 28 (.iaddr 2 (.t 16) (.t 17)), .mk none (.store 2 (.t 28) (.t 23)) none, o 29 (.iaddr 2 (.t 18) (.t 19)), .mk none (.store 2 (.t 29) (.t 27)) none] [] []) (.seq (.reg [ov 30 8, o 31 (.bin .add (.t 30) (ki 1)), ov 8 31]) (.reg [ov 32 9, o 33 (.bin .sub (.t 32) (ki 1)), ov 9 33]))))))))) 34 4 []
theorem l153 : compFunc Tryz.prog 153 = some L153 := by kernel_rfl
def L154 : XFunc := .mk (.seq (.reg [o 8 (.mv (.k (.bool false)))]) (.seq (.reg [ov 13 1, o 14 (.bin .add (.t 13) (ki 1)), ov 9 14]) (.seq (.seq (.reg [o 10 (.mv (ki 0))]) (.block 0 (.loop (.seq (.seq (.reg [ov 15 10, o 16 (.bin .lss (.t 15) (ki 5))]) (.cond (.t 16) .skip (.exit 0))) (.seq (.block 1 (.seq (.block 2 (.loop (.seq (.seq (.regd [ov 19 9, ov 20 2, o 21 (.bin .lss (.t 19) (.t 20)), ov 22 21, og 23 (.mv (.t 3)) 22 true, og 24 (.mv (.t 0)) 22 true, og 25 (.mv (.t 9)) 22 true, og 26 (.iaddr 2 (.t 24) (.t 25)) 22 true, og 27 (.load (some 2) (.t 26)) 22 true, og 28 (.mv (.t 0)) 22 true, og 29 (.mv (.t 9)) 22 true, og 30 (.bin .sub (.t 29) (ki 1)) 22 true, og 31 (.iaddr 2 (.t 28) (.t 30)) 22 true, og 32 (.load (some 2) (.t 31)) 22 true, og 33 (.call (.t 23) [.t 27, .t 32]) 22 true, og 34 (.bin .lss (.t 33) (ki 0)) 22 true, og 35 (.un .not (.t 34)) 22 true, o 36 (.pick (.t 22) (.t 35) (.k (.bool false)))] [] []) (.cond (.t 36) .skip (.exit 2))) (.block 3 (.reg [ov 37 9, o 38 (.bin .add (.t 37) (ki 1)), ov 9 38]))))) (.seq (.seq (.reg [ov 39 9, ov 40 2, o 41 (.bin .eql (.t 39) (.t 40))]) (.cond (.t 41) (.seq (.reg [o 8 (.mv (.k (.bool true)))]) .ret) .skip)) (.seq (.seq (.reg [ov 42 2, ov 43 1, o 44 (.bin .sub (.t 42) (.t 43)), o 45 (.bin .lss (.t 44) (ki 50))]) (.cond (.t 45) (.seq (.reg [o 8 (.mv (.k (.bool false)))]) .ret) .skip)) (.seq (.regd [ov 46 0, ov 47 9, ov 48 0, ov 49 9, o 50 (.bin .sub (.t 49) (ki 1)), ov 51 0, ov 52 9, o 53 (.bin .sub (.t 52) (ki 1)), o 54 (.iaddr 2 (.t 51) (.t 53)), o 55 (.load (some 2) (.t 54)), ov 56 0, ov 57 9, o 58 (.iaddr 2 (.t 56) (.t 57)), o 59 (.load (some 2) (.t 58)), o 60 (.iaddr 2 (.t 46) (.t 47)), .mk none (.store 2 (.t 60) (.t 55)) none, o 61 (.iaddr 2 (.t 48) (.t 50)), .mk none (.store 2 (.t 61) (.t 59)) none] [] []) (.seq (.seq (.reg [ov 62 9, ov 63 1, o 64 (.bin .sub (.t 62) (.t 63)), o 65 (.bin .geq (.t 64) (ki 2))]) (.cond (.t 65) (.seq (.reg [ov 66 9, o 67 (.bin .sub (.t 66) (ki 1)), ov 11 67]) (.block 4 (.loop (.seq (.seq (.reg [ov 68 11, o 69 (.bin .geq (.t 68) (ki 1))]) (.cond (.t 69) .skip (.exit 4))) (.seq (.block 5 (.seq (.seq (.regd [ov 72 3, ov 73 0, ov 74 11, o 75 (.iaddr 2 (.t 73) (.t 74)), o 76 (.load (some 2) (.t 75)), ov 77 0, ov 78 11, o 79 (.bin .sub (.t 78) (ki 1)), o 80 (.iaddr 2 (.t 77) (.t 79)), o 81 (.load (some 2) (.t 80)), o 82 (.call (.t 72) [.t 76, .t 81]), o 83 (.bin .lss (.t 82) (ki 0)), o 84 (.un .not (.t 83))] [] []) (.cond (.t 84) (.exit 4) .skip)) (.regd [ov 85 0, ov 86 11, ov 87 0, ov 88 11, o 89 (.bin .sub (.t 88) (ki 1)), ov 90 0, ov 91 11, o 92 (.bin .sub (.t 91) (ki 1)), o 93 (.iaddr 2 (.t 90) (.t 92)), o 94 (.load (some 2) (.t 93)), ov 95 0, ov 96 11, o 97 (.iaddr 2 (.t 95) (.t 96)), o 98 (.load (some 2) (.t 97)), o 99 (.iaddr 2 (.t 85) (.t 86)), .mk none (.store 2 (.t 99) (.t 94)) none, o 100 (.iaddr 2 (.t 87) (.t 89)), .mk none (.store 2 (.t 100) (.t 98)) none] [] []))) (.reg [ov 70 11, o 71 (.bin .sub (.t 70) (ki 1)), ov 11 71])))))) .skip)) (.seq (.reg [ov 101 2, ov 102 9, o 103 (.bin .sub (.t 101) (.t 102)), o 104 (.bin .geq (.t 103) (ki 2))]) (.cond (.t 104) (.seq (.reg [ov 105 9, o 106 (.bin .add (.t 105) (ki 1)), ov 12 106]) (.block 6 (.loop (.seq (.seq (.reg [ov 107 12, ov 108 2, o 109 (.bin .lss (.t 107) (.t 108))]) (.cond (.t 109) .skip (.exit 6))) (.seq (.block 7 (.seq (.seq (.regd [ov 112 3, ov 113 0, ov 114 12, o 115 (.iaddr 2 (.t 113) (.t 114)), o 116 (.load (some 2) (.t 115)), ov 117 0, ov 118 12, o 119 (.bin .sub (.t 118) (ki 1)), o 120 (.iaddr 2 (.t 117) (.t 119)), o 121 (.load (some 2) (.t 120)), o 122 (.call (.t 112) [.t 116, .t 121]), o 123 (.bin .lss (.t 122) (ki 0)), o 124 (.un .not (.t 123))] [] []) (.cond (.t 124) (.exit 6) .skip)) (.regd [ov 125 0, ov 126 12, ov 127 0, ov 128 12, o 129 (.bin .sub (.t 128) (ki 1)), ov 130 0, ov 131 12, o 132 (.bin .sub (.t 131) (ki 1)), o 133 (.iaddr 2 (.t 130) (.t 132)), o 134 (.load (some 2) (.t 133)), ov 135 0, ov 136 12, o 137 (.iaddr 2 (.t 135) (.t 136)), o 138 (.load (some 2) (.t 137)), o 139 (.iaddr 2 (.t 125) (.t 126)), .mk none (.store 2 (.t 139) (.t 134)) none, o 140 (.iaddr 2 (.t 127) (.t 129)), .mk none (.store 2 (.t 140) (.t 138)) none] [] []))) (.reg [ov 110 12, o 111 (.bin .add (.t 110) (ki 1)), ov 12 111])))))) .skip)))))))) (.reg [ov 17 10, o 18 (.bin .add (.t 17) (ki 1)), ov 10 18])))))) (.seq (.reg [o 8 (.mv (.k (.bool false)))]) .ret)))) 141 4 [.t 8]
theorem l154 : compFunc Tryz.prog 154 = some L154 := by kernel_rfl
def L155 : XFunc := .mk (.seq (.reg [o 10 (.mv (ki 0))]) (.seq (.regd [ov 13 0, ov 14 1, ov 15 0, ov 16 3, ov 17 0, ov 18 3, o 19 (.iaddr 2 (.t 17) (.t 18)), o 20 (.load (some 2) (.t 19)), ov 21 0, ov 22 1, o 23 (.iaddr 2 (.t 21) (.t 22)), o 24 (.load (some 2) (.t 23)), o 25 (.iaddr 2 (.t 13) (.t 14)), .mk none (.store 2 (.t 25) (.t 20)) none, o 26 (.iaddr 2 (.t 15) (.t 16)), .mk none (.store 2 (.t 26) (.t 24)) none] [] []) (.seq (.reg [ov 27 1, o 28 (.bin .add (.t 27) (ki 1)), ov 29 2, o 30 (.bin .sub (.t 29) (ki 1)), ov 11 28, ov 12 30]) (.seq (.block 0 (.loop (.block 1 (.seq (.block 2 (.loop (.seq (.seq (.regd [ov 31 11, ov 32 12, o 33 (.bin .leq (.t 31) (.t 32)), ov 34 33, og 35 (.mv (.t 4)) 34 true, og 36 (.mv (.t 0)) 34 true, og 37 (.mv (.t 1)) 34 true, og 38 (.iaddr 2 (.t 36) (.t 37)) 34 true, og 39 (.load (some 2) (.t 38)) 34 true, og 40 (.mv (.t 0)) 34 true, og 41 (.mv (.t 11)) 34 true, og 42 (.iaddr 2 (.t 40) (.t 41)) 34 true, og 43 (.load (some 2) (.t 42)) 34 true, og 44 (.call (.t 35) [.t 39, .t 43]) 34 true, og 45 (.bin .lss (.t 44) (ki 0)) 34 true, og 46 (.un .not (.t 45)) 34 true, o 47 (.pick (.t 34) (.t 46) (.k (.bool false)))] [] []) (.cond (.t 47) .skip (.exit 2))) (.block 3 (.reg [ov 48 11, o 49 (.bin .add (.t 48) (ki 1)), ov 11 49]))))) (.seq (.block 4 (.loop (.seq (.seq (.regd [ov 50 11, ov 51 12, o 52 (.bin .leq (.t 50) (.t 51)), ov 53 52, og 54 (.mv (.t 4)) 53 true, og 55 (.mv (.t 0)) 53 true, og 56 (.mv (.t 1)) 53 true, og 57 (.iaddr 2 (.t 55) (.t 56)) 53 true, og 58 (.load (some 2) (.t 57)) 53 true, og 59 (.mv (.t 0)) 53 true, og 60 (.mv (.t 12)) 53 true, og 61 (.iaddr 2 (.t 59) (.t 60)) 53 true, og 62 (.load (some 2) (.t 61)) 53 true, og 63 (.call (.t 54) [.t 58, .t 62]) 53 true, og 64 (.bin .lss (.t 63) (ki 0)) 53 true, o 65 (.pick (.t 53) (.t 64) (.k (.bool false)))] [] []) (.cond (.t 65) .skip (.exit 4))) (.block 5 (.reg [ov 66 12, o 67 (.bin .sub (.t 66) (ki 1)), ov 12 67]))))) (.seq (.seq (.reg [ov 68 11, ov 69 12, o 70 (.bin .gtr (.t 68) (.t 69))]) (.cond (.t 70) (.exit 0) .skip)) (.seq (.regd [ov 71 0, ov 72 11, ov 73 0, ov 74 12, ov 75 0, ov 76 12, o 77 (.iaddr 2 (.t 75) (.t 76)), o 78 (.load (some 2) (.t 77)), ov 79 0, ov 80 11, o 81 (.iaddr 2 (.t 79) (.t 80)), o 82 (.load (some 2) (.t 81)), o 83 (.iaddr 2 (.t 71) (.t 72)), .mk none (.store 2 (.t 83) (.t 78)) none, o 84 (.iaddr 2 (.t 73) (.t 74)), .mk none (.store 2 (.t 84) (.t 82)) none] [] []) (.seq (.reg [ov 85 11, o 86 (.bin .add (.t 85) (ki 1)), ov 11 86]) (.reg [ov 87 12, o 88 (.bin .sub (.t 87) (ki 1)), ov 12 88]))))))))) (.seq (.reg [ov 89 11, ov 10 89]) .ret))))) 90 5 [.t 10]
theorem l155 : compFunc Tryz.prog 155 = some L155 := by kernel_rfl
def L156 : XFunc := .mk (.seq (.reg [o 10 (.mv (ki 0)), o 11 (.mv (.k (.bool false)))]) (.seq (.regd [ov 14 0, ov 15 1, ov 16 0, ov 17 3, ov 18 0, ov 19 3, o 20 (.iaddr 2 (.t 18) (.t 19)), o 21 (.load (some 2) (.t 20)), ov 22 0, ov 23 1, o 24 (.iaddr 2 (.t 22) (.t 23)), o 25 (.load (some 2) (.t 24)), o 26 (.iaddr 2 (.t 14) (.t 15)), .mk none (.store 2 (.t 26) (.t 21)) none, o 27 (.iaddr 2 (.t 16) (.t 17)), .mk none (.store 2 (.t 27) (.t 25)) none] [] []) (.seq (.reg [ov 28 1, o 29 (.bin .add (.t 28) (ki 1)), ov 30 2, o 31 (.bin .sub (.t 30) (ki 1)), ov 12 29, ov 13 31]) (.seq (.block 0 (.loop (.seq (.seq (.regd [ov 32 12, ov 33 13, o 34 (.bin .leq (.t 32) (.t 33)), ov 35 34, og 36 (.mv (.t 4)) 35 true, og 37 (.mv (.t 0)) 35 true, og 38 (.mv (.t 12)) 35 true, og 39 (.iaddr 2 (.t 37) (.t 38)) 35 true, og 40 (.load (some 2) (.t 39)) 35 true, og 41 (.mv (.t 0)) 35 true, og 42 (.mv (.t 1)) 35 true, og 43 (.iaddr 2 (.t 41) (.t 42)) 35 true, og 44 (.load (some 2) (.t 43)) 35 true, og 45 (.call (.t 36) [.t 40, .t 44]) 35 true, og 46 (.bin .lss (.t 45) (ki 0)) 35 true, o 47 (.pick (.t 35) (.t 46) (.k (.bool false)))] [] []) (.cond (.t 47) .skip (.exit 0))) (.block 1 (.reg [ov 48 12, o 49 (.bin .add (.t 48) (ki 1)), ov 12 49]))))) (.seq (.block 2 (.loop (.seq (.seq (.regd [ov 50 12, ov 51 13, o 52 (.bin .leq (.t 50) (.t 51)), ov 53 52, og 54 (.mv (.t 4)) 53 true, og 55 (.mv (.t 0)) 53 true, og 56 (.mv (.t 13)) 53 true, og 57 (.iaddr 2 (.t 55) (.t 56)) 53 true, og 58 (.load (some 2) (.t 57)) 53 true, og 59 (.mv (.t 0)) 53 true, og 60 (.mv (.t 1)) 53 true, og 61 (.iaddr 2 (.t 59) (.t 60)) 53 true, og 62 (.load (some 2) (.t 61)) 53 true, og 63 (.call (.t 54) [.t 58, .t 62]) 53 true, og 64 (.bin .lss (.t 63) (ki 0)) 53 true, og 65 (.un .not (.t 64)) 53 true, o 66 (.pick (.t 53) (.t 65) (.k (.bool false)))] [] []) (.cond (.t 66) .skip (.exit 2))) (.block 3 (.reg [ov 67 13, o 68 (.bin .sub (.t 67) (ki 1)), ov 13 68]))))) (.seq (.seq (.reg [ov 69 12, ov 70 13, o 71 (.bin .gtr (.t 69) (.t 70))]) (.cond (.t 71) (.seq (.regd [ov 72 0, ov 73 13, ov 74 0, ov 75 1, ov 76 0, ov 77 1, o 78 (.iaddr 2 (.t 76) (.t 77)), o 79 (.load (some 2) (.t 78)), ov 80 0, ov 81 13, o 82 (.iaddr 2 (.t 80) (.t 81)), o 83 (.load (some 2) (.t 82)), o 84 (.iaddr 2 (.t 72) (.t 73)), .mk none (.store 2 (.t 84) (.t 79)) none, o 85 (.iaddr 2 (.t 74) (.t 75)), .mk none (.store 2 (.t 85) (.t 83)) none] [] []) (.seq (.reg [ov 86 13, ov 10 86, o 11 (.mv (.k (.bool true)))]) .ret)) .skip)) (.seq (.regd [ov 87 0, ov 88 12, ov 89 0, ov 90 13, ov 91 0, ov 92 13, o 93 (.iaddr 2 (.t 91) (.t 92)), o 94 (.load (some 2) (.t 93)), ov 95 0, ov 96 12, o 97 (.iaddr 2 (.t 95) (.t 96)), o 98 (.load (some 2) (.t 97)), o 99 (.iaddr 2 (.t 87) (.t 88)), .mk none (.store 2 (.t 99) (.t 94)) none, o 100 (.iaddr 2 (.t 89) (.t 90)), .mk none (.store 2 (.t 100) (.t 98)) none] [] []) (.seq (.reg [ov 101 12, o 102 (.bin .add (.t 101) (ki 1)), ov 12 102]) (.seq (.reg [ov 103 13, o 104 (.bin .sub (.t 103) (ki 1)), ov 13 104]) (.seq (.block 4 (.loop (.block 5 (.seq (.block 6 (.loop (.seq (.seq (.regd [ov 105 12, ov 106 13, o 107 (.bin .leq (.t 105) (.t 106)), ov 108 107, og 109 (.mv (.t 4)) 108 true, og 110 (.mv (.t 0)) 108 true, og 111 (.mv (.t 12)) 108 true, og 112 (.iaddr 2 (.t 110) (.t 111)) 108 true, og 113 (.load (some 2) (.t 112)) 108 true, og 114 (.mv (.t 0)) 108 true, og 115 (.mv (.t 1)) 108 true, og 116 (.iaddr 2 (.t 114) (.t 115)) 108 true, og 117 (.load (some 2) (.t 116)) 108 true, og 118 (.call (.t 109) [.t 113, .t 117]) 108 true, og 119 (.bin .lss (.t 118) (ki 0)) 108 true, o 120 (.pick (.t 108) (.t 119) (.k (.bool false)))] [] []) (.cond (.t 120) .skip (.exit 6))) (.block 7 (.reg [ov 121 12, o 122 (.bin .add (.t 121) (ki 1)), ov 12 122]))))) (.seq (.block 8 (.loop (.seq (.seq (.regd [ov 123 12, ov 124 13, o 125 (.bin .leq (.t 123) (.t 124)), ov 126 125, og 127 (.mv (.t 4)) 126 true, og 128 (.mv (.t 0)) 126 true, og 129 (.mv (.t 13)) 126 true, og 130 (.iaddr 2 (.t 128) (.t 129)) 126 true, og 131 (.load (some 2) (.t 130)) 126 true, og 132 (.mv (.t 0)) 126 true, og 133 (.mv (.t 1)) 126 true, og 134 (.iaddr 2 (.t 132) (.t 133)) 126 true, og 135 (.load (some 2) (.t 134)) 126 true, og 136 (.call (.t 127) [.t 131, .t 135]) 126 true, og 137 (.bin .lss (.t 136) (ki 0)) 126 true, og 138 (.un .not (.t 137)) 126 true, o 139 (.pick (.t 126) (.t 138) (.k (.bool false)))] [] []) (.cond (.t 139) .skip (.exit 8))) (.block 9 (.reg [ov 140 13, o 141 (.bin .sub (.t 140) (ki 1)), ov 13 141]))))) (.seq (.seq (.reg [ov 142 12, ov 143 13, o 144 (.bin .gtr (.t 142) (.t 143))]) (.cond (.t 144) (.exit 4) .skip)) (.seq (.regd [ov 145 0, ov 146 12, ov 147 0, ov 148 13, ov 149 0, ov 150 13, o 151 (.iaddr 2 (.t 149) (.t 150)), o 152 (.load (some 2) (.t 151)), ov 153 0, ov 154 12, o 155 (.iaddr 2 (.t 153) (.t 154)), o 156 (.load (some 2) (.t 155)), o 157 (.iaddr 2 (.t 145) (.t 146)), .mk none (.store 2 (.t 157) (.t 152)) none, o 158 (.iaddr 2 (.t 147) (.t 148)), .mk none (.store 2 (.t 158) (.t 156)) none] [] []) (.seq (.reg [ov 159 12, o 160 (.bin .add (.t 159) (ki 1)), ov 12 160]) (.reg [ov 161 13, o 162 (.bin .sub (.t 161) (ki 1)), ov 13 162]))))))))) (.seq (.regd [ov 163 0, ov 164 13, ov 165 0, ov 166 1, ov 167 0, ov 168 1, o 169 (.iaddr 2 (.t 167) (.t 168)), o 170 (.load (some 2) (.t 169)), ov 171 0, ov 172 13, o 173 (.iaddr 2 (.t 171) (.t 172)), o 174 (.load (some 2) (.t 173)), o 175 (.iaddr 2 (.t 163) (.t 164)), .mk none (.store 2 (.t 175) (.t 170)) none, o 176 (.iaddr 2 (.t 165) (.t 166)), .mk none (.store 2 (.t 176) (.t 174)) none] [] []) (.seq (.reg [ov 177 13, ov 10 177, o 11 (.mv (.k (.bool false)))]) .ret)))))))))))) 178 5 [.t 10, .t 11]
theorem l156 : compFunc Tryz.prog 156 = some L156 := by kernel_rfl
def L157 : XFunc := .mk (.seq (.reg [o 2 (.mv (ki 0))]) (.seq (.seq (.reg [ov 3 0, o 4 (.bin .geq (.t 3) (.k (.int .u32 (.ofNat 65536))))]) (.cond (.t 4) (.seq (.reg [ov 5 0, o 6 (.bin .shr (.t 5) (.k (.int .u64 (.ofNat 16)))), ov 0 6]) (.reg [o 2 (.mv (ki 16))])) .skip)) (.seq (.seq (.reg [ov 7 0, o 8 (.bin .geq (.t 7) (.k (.int .u32 (.ofNat 256))))]) (.cond (.t 8) (.seq (.reg [ov 9 0, o 10 (.bin .shr (.t 9) (.k (.int .u64 (.ofNat 8)))), ov 0 10]) (.reg [ov 11 2, o 12 (.bin .add (.t 11) (ki 8)), ov 2 12])) .skip)) (.seq (.reg [ov 13 2, ov 14 0, o 15 (.conv .u8 (.t 14)), o 16 (.sidx (.k (.str [UInt8.ofNat 0, UInt8.ofNat 1, UInt8.ofNat 2, UInt8.ofNat 2, UInt8.ofNat 3, UInt8.ofNat 3, UInt8.ofNat 3, UInt8.ofNat 3, UInt8.ofNat 4, UInt8.ofNat 4, UInt8.ofNat 4, UInt8.ofNat 4, UInt8.ofNat 4, UInt8.ofNat 4, UInt8.ofNat 4, UInt8.ofNat 4, UInt8.ofNat 5, UInt8.ofNat 5, UInt8.ofNat 5, UInt8.ofNat 5, UInt8.ofNat 5, UInt8.ofNat 5, UInt8.ofNat 5, UInt8.ofNat 5, UInt8.ofNat 5, UInt8.ofNat 5, UInt8.ofNat 5, UInt8.ofNat 5, UInt8.ofNat 5, UInt8.ofNat 5, UInt8.ofNat 5, UInt8.ofNat 5, UInt8.ofNat 6, UInt8.ofNat 6, UInt8.ofNat 6, UInt8.ofNat 6, UInt8.ofNat 6, UInt8.ofNat 6, UInt8.ofNat 6, UInt8.ofNat 6, UInt8.ofNat 6, UInt8.ofNat 6, UInt8.ofNat 6, UInt8.ofNat 6, UInt8.ofNat 6, UInt8.ofNat 6, UInt8.ofNat 6, UInt8.ofNat 6, UInt8.ofNat 6, UInt8.ofNat 6, UInt8.ofNat 6, UInt8.ofNat 6, UInt8.ofNat 6, UInt8.ofNat 6, UInt8.ofNat 6, UInt8.ofNat 6, UInt8.ofNat 6, UInt8.ofNat 6, UInt8.ofNat 6, UInt8.ofNat 6, UInt8.ofNat 6, UInt8.ofNat 6, UInt8.ofNat 6, UInt8.ofNat 6, UInt8.ofNat 7, UInt8.ofNat 7, UInt8.ofNat 7, UInt8.ofNat 7, UInt8.ofNat 7, UInt8.ofNat 7, UInt8.ofNat 7, UInt8.ofNat 7, UInt8.ofNat 7, UInt8.ofNat 7, UInt8.ofNat 7, UInt8.ofNat 7, UInt8.ofNat 7, UInt8.ofNat 7, UInt8.ofNat 7, UInt8.ofNat 7, UInt8.ofNat 7, UInt8.ofNat 7, UInt8.ofNat 7, UInt8.ofNat 7, UInt8.ofNat 7, UInt8.ofNat 7, UInt8.ofNat 7, UInt8.ofNat 7, UInt8.ofNat 7, UInt8.ofNat 7, UInt8.ofNat 7, UInt8.ofNat 7, UInt8.ofNat 7, UInt8.ofNat 7, UInt8.ofNat 7, UInt8.ofNat 7, UInt8.ofNat 7, UInt8.ofNat 7, UInt8.ofNat 7, UInt8.ofNat 7, UInt8.ofNat 7, UInt8.ofNat 7, UInt8.ofNat 7, UInt8.ofNat 7, UInt8.ofNat 7, UInt8.ofNat 7, UInt8.ofNat 7, UInt8.ofNat 7, UInt8.ofNat 7, UInt8.ofNat 7, UInt8.ofNat 7, UInt8.ofNat 7, UInt8.ofNat 7, UInt8.ofNat 7, UInt8.ofNat 7, UInt8.ofNat 7, UInt8.ofNat 7, UInt8.ofNat 7, UInt8.ofNat 7, UInt8.ofNat 7, UInt8.ofNat 7, UInt8.ofNat 7, UInt8.ofNat 7, UInt8.ofNat 7, UInt8.ofNat 7, UInt8.ofNat 7, UInt8.ofNat 7, UInt8.ofNat 7, UInt8.ofNat 8, UInt8.ofNat 8, UInt8.ofNat 8, UInt8.ofNat 8, UInt8.ofNat 8, UInt8.ofNat 8, UInt8.ofNat 8, UInt8.ofNat 8, UInt8.ofNat 8, UInt8.ofNat 8, UInt8.ofNat 8, UInt8.ofNat 8, UInt8.ofNat 8, UInt8.ofNat 8, UInt8.ofNat 8, UInt8.ofNat 8, UInt8.ofNat 8, UInt8.ofNat 8, UInt8.ofNat 8, UInt8.ofNat 8, UInt8.ofNat 8, UInt8.ofNat 8, UInt8.ofNat 8, UInt8.ofNat 8, UInt8.ofNat 8, UInt8.ofNat 8, UInt8.ofNat 8, UInt8.ofNat 8, UInt8.ofNat 8, UInt8.ofNat 8, UInt8.ofNat 8, UInt8.ofNat 8, UInt8.ofNat 8, UInt8.ofNat 8, UInt8.ofNat 8, UInt8.ofNat 8, UInt8.ofNat 8, UInt8.ofNat 8, UInt8.ofNat 8, UInt8.ofNat 8, UInt8.ofNat 8, UInt8.ofNat 8, UInt8.ofNat 8, UInt8.ofNat 8, UInt8.ofNat 8, UInt8.ofNat 8, UInt8.ofNat 8, UInt8.ofNat 8, UInt8.ofNat 8, UInt8.ofNat 8, UInt8.ofNat 8, UInt8.ofNat 8, UInt8.ofNat 8, UInt8.ofNat 8, UInt8.ofNat 8, UInt8.ofNat 8, UInt8.ofNat 8, UInt8.ofNat 8, UInt8.ofNat 8, UInt8.ofNat 8, UInt8.ofNat 8, UInt8.ofNat 8, UInt8.ofNat 8, UInt8.ofNat 8, UInt8.ofNat 8, UInt8.ofNat 8, UInt8.ofNat 8, UInt8.ofNat 8, UInt8.ofNat 8, UInt8.ofNat 8, UInt8.ofNat 8, UInt8.ofNat 8, UInt8.ofNat 8, UInt8.ofNat 8, UInt8.ofNat 8, UInt8.ofNat 8, UInt8.ofNat 8, UInt8.ofNat 8, UInt8.ofNat 8, UInt8.ofNat 8, UInt8.ofNat 8, UInt8.ofNat 8, UInt8.ofNat 8, UInt8.ofNat 8, UInt8.ofNat 8, UInt8.ofNat 8, UInt8.ofNat 8, UInt8.ofNat 8, UInt8.ofNat 8, UInt8.ofNat 8, UInt8.ofNat 8, UInt8.ofNat 8, UInt8.ofNat 8, UInt8.ofNat 8, UInt8.ofNat 8, UInt8.ofNat 8, UInt8.ofNat 8, UInt8.ofNat 8, UInt8.ofNat 8, UInt8.ofNat 8, UInt8.ofNat 8, UInt8.ofNat 8, UInt8.ofNat 8, UInt8.ofNat 8, UInt8.ofNat 8, UInt8.ofNat 8, UInt8.ofNat 8, UInt8.ofNat 8, UInt8.ofNat 8, UInt8.ofNat 8, UInt8.ofNat 8, UInt8.ofNat 8, UInt8.ofNat 8, UInt8.ofNat 8, UInt8.ofNat 8, UInt8.ofNat 8, UInt8.ofNat 8, UInt8.ofNat 8, UInt8.ofNat 8, UInt8.ofNat 8, UInt8.ofNat 8, UInt8.ofNat 8, UInt8.ofNat 8, UInt8.ofNat 8, UInt8.ofNat 8, UInt8.ofNat 8, UInt8.ofNat 8, UInt8.ofNat 8])) (.t 15)), o 17 (.conv .i64 (.t 16)), o 18 (.bin .add (.t 13) (.t 17)), ov 2 18]) .ret)))) 19 1 [.t 2]
theorem l157 : compFunc Tryz.prog 157 = some L157 := by kernel_rfl
def L158 : XFunc := .mk (.seq (.reg [o 2 (.mv (ki 0))]) (.seq (.seq (.reg [ov 3 0, o 4 (.bin .geq (.t 3) (.k (.int .u64 (.ofNat 4294967296))))]) (.cond (.t 4) (.seq (.reg [ov 5 0, o 6 (.bin .shr (.t 5) (.k (.int .u64 (.ofNat 32)))), ov 0 6]) (.reg [o 2 (.mv (ki 32))])) .skip)) (.seq (.seq (.reg [ov 7 0, o 8 (.bin .geq (.t 7) (.k (.int .u64 (.ofNat 65536))))]) (.cond (.t 8) (.seq (.reg [ov 9 0, o 10 (.bin .shr (.t 9) (.k (.int .u64 (.ofNat 16)))), ov 0 10]) (.reg [ov 11 2, o 12 (.bin .add (.t 11) (ki 16)), ov 2 12])) .skip)) (.seq (.seq (.reg [ov 13 0, o 14 (.bin .geq (.t 13) (.k (.int .u64 (.ofNat 256))))]) (.cond (.t 14) (.seq (.reg [ov 15 0, o 16 (.bin .shr (.t 15) (.k (.int .u64 (.ofNat 8)))), ov 0 16]) (.reg [ov 17 2, o 18 (.bin .add (.t 17) (ki 8)), ov 2 18])) .skip)) (.seq (.reg [ov 19 2, ov 20 0, o 21 (.conv .u8 (.t 20)), o 22 (.sidx (.k (.str [UInt8.ofNat 0, UInt8.ofNat 1, UInt8.ofNat 2, UInt8.ofNat 2, UInt8.ofNat 3, UInt8.ofNat 3, UInt8.ofNat 3, UInt8.ofNat 3, UInt8.ofNat 4, UInt8.ofNat 4, UInt8.ofNat 4, UInt8.ofNat 4, UInt8.ofNat 4, UInt8.ofNat 4, UInt8.ofNat 4, UInt8.ofNat 4, UInt8.ofNat 5, UInt8.ofNat 5, UInt8.ofNat 5, UInt8.ofNat 5, UInt8.ofNat 5, UInt8.ofNat 5, UInt8.ofNat 5, UInt8.ofNat 5, UInt8.ofNat 5, UInt8.ofNat 5, UInt8.ofNat 5, UInt8.ofNat 5, UInt8.ofNat 5, UInt8.ofNat 5, UInt8.ofNat 5, UInt8.ofNat 5, UInt8.ofNat 6, UInt8.ofNat 6, UInt8.ofNat 6, UInt8.ofNat 6, UInt8.ofNat 6, UInt8.ofNat 6, UInt8.ofNat 6, UInt8.ofNat 6, UInt8.ofNat 6, UInt8.ofNat 6, UInt8.ofNat 6, UInt8.ofNat 6, UInt8.ofNat 6, UInt8.ofNat 6, UInt8.ofNat 6, UInt8.ofNat 6, UInt8.ofNat 6, UInt8.ofNat 6, UInt8.ofNat 6, UInt8.ofNat 6, UInt8.ofNat 6, UInt8.ofNat 6, UInt8.ofNat 6, UInt8.ofNat 6, UInt8.ofNat 6, UInt8.ofNat 6, UInt8.ofNat 6, UInt8.ofNat 6, UInt8.ofNat 6, UInt8.ofNat 6, UInt8.ofNat 6, UInt8.ofNat 6, UInt8.ofNat 7, UInt8.ofNat 7, UInt8.ofNat 7, UInt8.ofNat 7, UInt8.ofNat 7, UInt8.ofNat 7, UInt8.ofNat 7, UInt8.ofNat 7, UInt8.ofNat 7, UInt8.ofNat 7, UInt8.ofNat 7, UInt8.ofNat 7, UInt8.ofNat 7, UInt8.ofNat 7, UInt8.ofNat 7, UInt8.ofNat 7, UInt8.ofNat 7, UInt8.ofNat 7, UInt8.ofNat 7, UInt8.ofNat 7, UInt8.ofNat 7, UInt8.ofNat 7, UInt8.ofNat 7, UInt8.ofNat 7, UInt8.ofNat 7, UInt8.ofNat 7, UInt8.ofNat 7, UInt8.ofNat 7, UInt8.ofNat 7, UInt8.ofNat 7, UInt8.ofNat 7, UInt8.ofNat 7, UInt8.ofNat 7, UInt8.ofNat 7, UInt8.ofNat 7, UInt8.ofNat 7, UInt8.ofNat 7, UInt8.ofNat 7, UInt8.ofNat 7, UInt8.ofNat 7, UInt8.ofNat 7, UInt8.ofNat 7, UInt8.ofNat 7, UInt8.ofNat 7, UInt8.ofNat 7, UInt8.ofNat 7, UInt8.ofNat 7, UInt8.ofNat 7, UInt8.ofNat 7, UInt8.ofNat 7, UInt8.ofNat 7, UInt8.ofNat 7, UInt8.ofNat 7, UInt8.ofNat 7, UInt8.ofNat 7, UInt8.ofNat 7, UInt8.ofNat 7, UInt8.ofNat 7, UInt8.ofNat 7, UInt8.ofNat 7, UInt8.ofNat 7, UInt8.ofNat 7, UInt8.ofNat 7, UInt8.ofNat 7, UInt8.ofNat 8, UInt8.ofNat 8, UInt8.ofNat 8, UInt8.ofNat 8, UInt8.ofNat 8, UInt8.ofNat 8, UInt8.ofNat 8, UInt8.ofNat 8, UInt8.ofNat 8, UInt8.ofNat 8, UInt8.ofNat 8, UInt8.ofNat 8, UInt8.ofNat 8, UInt8.ofNat 8, UInt8.ofNat 8, UInt8.ofNat 8, UInt8.ofNat 8, UInt8.ofNat 8, UInt8.ofNat 8, UInt8.ofNat 8, UInt8.ofNat 8, UInt8.ofNat 8, UInt8.ofNat 8, UInt8.ofNat 8, UInt8.ofNat 8, UInt8.ofNat 8, UInt8.ofNat 8, UInt8.ofNat 8, UInt8.ofNat 8, UInt8.ofNat 8, UInt8.ofNat 8, UInt8.ofNat 8, UInt8.ofNat 8, UInt8.ofNat 8, UInt8.ofNat 8, UInt8.ofNat 8, UInt8.ofNat 8, UInt8.ofNat 8, UInt8.ofNat 8, UInt8.ofNat 8, UInt8.ofNat 8, UInt8.ofNat 8, UInt8.ofNat 8, UInt8.ofNat 8, UInt8.ofNat 8, UInt8.ofNat 8, UInt8.ofNat 8, UInt8.ofNat 8, UInt8.ofNat 8, UInt8.ofNat 8, UInt8.ofNat 8, UInt8.ofNat 8, UInt8.ofNat 8, UInt8.ofNat 8, UInt8.ofNat 8, UInt8.ofNat 8, UInt8.ofNat 8, UInt8.ofNat 8, UInt8.ofNat 8, UInt8.ofNat 8, UInt8.ofNat 8, UInt8.ofNat 8, UInt8.ofNat 8, UInt8.ofNat 8, UInt8.ofNat 8, UInt8.ofNat 8, UInt8.ofNat 8, UInt8.ofNat 8, UInt8.ofNat 8, UInt8.ofNat 8, UInt8.ofNat 8, UInt8.ofNat 8, UInt8.ofNat 8, UInt8.ofNat 8, UInt8.ofNat 8, UInt8.ofNat 8, UInt8.ofNat 8, UInt8.ofNat 8, UInt8.ofNat 8, UInt8.ofNat 8, UInt8.ofNat 8, UInt8.ofNat 8, UInt8.ofNat 8, UInt8.ofNat 8, UInt8.ofNat 8, UInt8.ofNat 8, UInt8.ofNat 8, UInt8.ofNat 8, UInt8.ofNat 8, UInt8.ofNat 8, UInt8.ofNat 8, UInt8.ofNat 8, UInt8.ofNat 8, UInt8.ofNat 8, UInt8.ofNat 8, UInt8.ofNat 8, UInt8.ofNat 8, UInt8.ofNat 8, UInt8.ofNat 8, UInt8.ofNat 8, UInt8.ofNat 8, UInt8.ofNat 8, UInt8.ofNat 8, UInt8.ofNat 8, UInt8.ofNat 8, UInt8.ofNat 8, UInt8.ofNat 8, UInt8.ofNat 8, UInt8.ofNat 8, UInt8.ofNat 8, UInt8.ofNat 8, UInt8.ofNat 8, UInt8.ofNat 8, UInt8.ofNat 8, UInt8.ofNat 8, UInt8.ofNat 8, UInt8.ofNat 8, UInt8.ofNat 8, UInt8.ofNat 8, UInt8.ofNat 8, UInt8.ofNat 8, UInt8.ofNat 8, UInt8.ofNat 8, UInt8.ofNat 8, UInt8.ofNat 8, UInt8.ofNat 8, UInt8.ofNat 8, UInt8.ofNat 8])) (.t 21)), o 23 (.conv .i64 (.t 22)), o 24 (.bin .add (.t 19) (.t 23)), ov 2 24]) .ret))))) 25 1 [.t 2]
theorem l158 : compFunc Tryz.prog 158 = some L158 := by kernel_rfl
def L165 : XFunc := .mk (.seq (.reg [ov 12 1, ov 10 12]) (.block 0 (.loop (.block 1 (.seq (.reg [ov 13 10, o 14 (.bin .mul (ki 2) (.t 13)), o 15 (.bin .add (.t 14) (ki 1)), ov 11 15]) (.seq (.seq (.reg [ov 16 11, ov 17 2, o 18 (.bin .geq (.t 16) (.t 17))]) (.cond (.t 18) (.exit 0) .skip)) (.seq (.seq (.regd [ov 19 11, o 20 (.bin .add (.t 19) (ki 1)), ov 21 2, o 22 (.bin .lss (.t 20) (.t 21)), ov 23 22, og 24 (.mv (.t 4)) 23 true, og 25 (.mv (.t 0)) 23 true, og 26 (.mv (.t 3)) 23 true, og 27 (.mv (.t 11)) 23 true, og 28 (.bin .add (.t 26) (.t 27)) 23 true, og 29 (.iaddr 2 (.t 25) (.t 28)) 23 true, og 30 (.load (some 2) (.t 29)) 23 true, og 31 (.mv (.t 0)) 23 true, og 32 (.mv (.t 3)) 23 true, og 33 (.mv (.t 11)) 23 true, og 34 (.bin .add (.t 32) (.t 33)) 23 true, og 35 (.bin .add (.t 34) (ki 1)) 23 true, og 36 (.iaddr 2 (.t 31) (.t 35)) 23 true, og 37 (.load (some 2) (.t 36)) 23 true, og 38 (.call (.t 24) [.t 30, .t 37]) 23 true, og 39 (.bin .lss (.t 38) (ki 0)) 23 true, o 40 (.pick (.t 23) (.t 39) (.k (.bool false)))] [] []) (.cond (.t 40) (.reg [ov 41 11, o 42 (.bin .add (.t 41) (ki 1)), ov 11 42]) .skip)) (.seq (.seq (.regd [ov 43 4, ov 44 0, ov 45 3, ov 46 10, o 47 (.bin .add (.t 45) (.t 46)), o 48 (.iaddr 2 (.t 44) (.t 47)), o 49 (.load (some 2) (.t 48)), ov 50 0, ov 51 3, ov 52 11, o 53 (.bin .add (.t 51) (.t 52)), o 54 (.iaddr 2 (.t 50) (.t 53)), o 55 (.load (some 2) (.t 54)), o 56 (.call (.t 43) [.t 49, .t 55]), o 57 (.bin .lss (.t 56) (ki 0)), o 58 (.un .not (.t 57))] [] []) (.cond (.t 58) .ret .skip)) (.seq (.regd [ov 59 0, ov 60 3, ov 61 10, o 62 (.bin .add (.t 60) (.t 61)), ov 63 0, ov 64 3, ov 65 11, o 66 (.bin .add (.t 64) (.t 65)), ov 67 0, ov 68 3, ov 69 11, o 70 (.bin .add (.t 68) (.t 69)), o 71 (.iaddr 2 (.t 67) (.t 70)), o 72 (.load (some 2) (.t 71)), ov 73 0, ov 74 3, ov 75 10, o 76 (.bin .add (.t 74) (.t 75)), o 77 (.iaddr 2 (.t 73) (.t 76)), o 78 (.load (some 2) (.t 77)), o 79 (.iaddr 2 (.t 59) (.t 62)), .mk none (.store 2 (.t 79) (.t 72)) none, o 80 (.iaddr 2 (.t 63) (.t 66)), .mk none (.store 2 (.t 80) (.t 78)) none] [] []) (.reg [ov 81 11, ov 10 81])))))))))) 82 5 []
theorem l165 : compFunc Tryz.prog 165 = some L165 := by kernel_rfl
def L166 : XFunc := .mk (.seq (.reg [o 2 (.mv (.k (.int .u64 (.ofNat 0))))]) (.seq (.reg [ov 3 0, o 4 (.conv .u64 (.t 3)), o 5 (.call (kf 139) [.t 4]), o 6 (.bin .shl (.k (.int .u64 (.ofNat 1))) (.t 5)), ov 2 6]) .ret)) 7 1 [.t 2]
theorem l166 : compFunc Tryz.prog 166 = some L166 := by kernel_rfl
def L167 : XFunc := .mk (.seq (.reg [o 2 (.mv (.k (.int .u64 (.ofNat 0))))]) (.seq (.regd [ov 3 0, o 4 (.nilc (.t 3)), o 5 (.load none (.t 4)), ov 6 0, o 7 (.nilc (.t 6)), o 8 (.load none (.t 7)), o 9 (.bin .shl (.t 8) (.k (.int .u64 (.ofNat 13)))), o 10 (.bin .xor (.t 5) (.t 9)), o 11 (.nilc (.t 3)), .mk none (.store 1 (.t 11) (.t 10)) none] [] []) (.seq (.regd [ov 12 0, o 13 (.nilc (.t 12)), o 14 (.load none (.t 13)), ov 15 0, o 16 (.nilc (.t 15)), o 17 (.load none (.t 16)), o 18 (.bin .shr (.t 17) (.k (.int .u64 (.ofNat 7)))), o 19 (.bin .xor (.t 14) (.t 18)), o 20 (.nilc (.t 12)), .mk none (.store 1 (.t 20) (.t 19)) none] [] []) (.seq (.regd [ov 21 0, o 22 (.nilc (.t 21)), o 23 (.load none (.t 22)), ov 24 0, o 25 (.nilc (.t 24)), o 26 (.load none (.t 25)), o 27 (.bin .shl (.t 26) (.k (.int .u64 (.ofNat 17)))), o 28 (.bin .xor (.t 23) (.t 27)), o 29 (.nilc (.t 21)), .mk none (.store 1 (.t 29) (.t 28)) none] [] []) (.seq (.reg [ov 30 0, o 31 (.nilc (.t 30)), o 32 (.load none (.t 31)), ov 2 32]) .ret))))) 33 1 [.t 2]
theorem l167 : compFunc Tryz.prog 167 = some L167 := by kernel_rfl
def L168 : XFunc := .mk (.seq (.reg [o 8 (.mv (ki 0))]) (.seq (.reg [ov 9 0, ov 10 1, o 11 (.bin .sub (.t 10) (ki 1)), ov 12 1, ov 13 1, o 14 (.bin .add (.t 13) (ki 1)), ov 15 2, ov 16 3, o 17 (.call (kf 169) [.t 9, .t 11, .t 12, .t 14, .t 15, .t 16]), ov 8 17]) .ret)) 18 4 [.t 8]
theorem l168 : compFunc Tryz.prog 168 = some L168 := by kernel_rfl
def L169 : XFunc := .mk (.seq (.reg [o 12 (.mv (ki 0))]) (.seq (.reg [ov 14 0, ov 15 1, ov 16 2, ov 17 4, ov 18 5, o 19 (.call (kf 172) [.t 14, .t 15, .t 16, .t 17, .t 18]), ov 13 19, o 20 (.ext (.t 13) 0), o 21 (.ext (.t 13) 1), ov 1 20, ov 2 21]) (.seq (.reg [ov 23 0, ov 24 2, ov 25 3, ov 26 4, ov 27 5, o 28 (.call (kf 172) [.t 23, .t 24, .t 25, .t 26, .t 27]), ov 22 28, o 29 (.ext (.t 22) 0), o 30 (.ext (.t 22) 1), ov 2 29, ov 3 30]) (.seq (.reg [ov 32 0, ov 33 1, ov 34 2, ov 35 4, ov 36 5, o 37 (.call (kf 172) [.t 32, .t 33, .t 34, .t 35, .t 36]), ov 31 37, o 38 (.ext (.t 31) 0), o 39 (.ext (.t 31) 1), ov 1 38, ov 2 39]) (.seq (.reg [ov 40 2, ov 12 40]) .ret))))) 41 6 [.t 12]
theorem l169 : compFunc Tryz.prog 169 = some L169 := by kernel_rfl
def F : Nat → Option XFunc
  | 3 => some L3
  | 12 => some L12
  | 13 => some L13
  | 14 => some L14
  | 15 => some L15
  | 16 => some L16
  | 17 => some L17
  | 18 => some L18
  | 19 => some L19
  | 25 => some L25
  | 26 => some L26
  | 31 => some L31
  | 36 => some L36
  | 47 => some L47
  | 48 => some L48
  | 49 => some L49
  | 50 => some L50
  | 51 => some L51
  | 52 => some L52
  | 53 => some L53
  | 54 => some L54
  | 55 => some L55
  | 56 => some L56
  | 57 => some L57
  | 58 => some L58
  | 59 => some L59
  | 60 => some L60
  | 61 => some L61
  | 62 => some L62
  | 63 => some L63
  | 64 => some L64
  | 66 => some L66
  | 68 => some L68
  | 69 => some L69
  | 72 => some L72
  | 75 => some L75
  | 78 => some L78
  | 82 => some L82
  | 83 => some L83
  | 85 => some L85
  | 89 => some L89
  | 90 => some L90
  | 91 => some L91
  | 92 => some L92
  | 93 => some L93
  | 94 => some L94
  | 95 => some L95
  | 96 => some L96
  | 97 => some L97
  | 98 => some L98
  | 99 => some L99
  | 100 => some L100
  | 101 => some L101
  | 102 => some L102
  | 103 => some L103
  | 104 => some L104
  | 105 => some L105
  | 106 => some L106
  | 109 => some L109
  | 116 => some L116
  | 117 => some L117
  | 118 => some L118
  | 119 => some L119
  | 120 => some L120
  | 121 => some L121
  | 122 => some L122
  | 123 => some L123
  | 124 => some L124
  | 125 => some L125
  | 126 => some L126
  | 127 => some L127
  | 128 => some L128
  | 129 => some L129
  | 130 => some L130
  | 134 => some L134
  | 135 => some L135
  | 136 => some L136
  | 137 => some L137
  | 138 => some L138
  | 139 => some L139
  | 146 => some L146
  | 148 => some L148
  | 149 => some L149
  | 150 => some L150
  | 151 => some L151
  | 152 => some L152
  | 153 => some L153
  | 154 => some L154
  | 155 => some L155
  | 156 => some L156
  | 157 => some L157
  | 158 => some L158
  | 165 => some L165
  | 166 => some L166
  | 167 => some L167
  | 168 => some L168
  | 169 => some L169
  | _ => none
theorem F_ok : ∀ f fn, F f = some fn → compFunc Tryz.prog f = some fn := by
  intro f fn h
  unfold F at h
  split at h
  · cases h; exact l3
  · cases h; exact l12
  · cases h; exact l13
  · cases h; exact l14
  · cases h; exact l15
  · cases h; exact l16
  · cases h; exact l17
  · cases h; exact l18
  · cases h; exact l19
  · cases h; exact l25
  · cases h; exact l26
  · cases h; exact l31
  · cases h; exact l36
  · cases h; exact l47
  · cases h; exact l48
  · cases h; exact l49
  · cases h; exact l50
  · cases h; exact l51
  · cases h; exact l52
  · cases h; exact l53
  · cases h; exact l54
  · cases h; exact l55
  · cases h; exact l56
  · cases h; exact l57
  · cases h; exact l58
  · cases h; exact l59
  · cases h; exact l60
  · cases h; exact l61
  · cases h; exact l62
  · cases h; exact l63
  · cases h; exact l64
  · cases h; exact l66
  · cases h; exact l68
  · cases h; exact l69
  · cases h; exact l72
  · cases h; exact l75
  · cases h; exact l78
  · cases h; exact l82
  · cases h; exact l83
  · cases h; exact l85
  · cases h; exact l89
  · cases h; exact l90
  · cases h; exact l91
  · cases h; exact l92
  · cases h; exact l93
  · cases h; exact l94
  · cases h; exact l95
  · cases h; exact l96
  · cases h; exact l97
  · cases h; exact l98
  · cases h; exact l99
  · cases h; exact l100
  · cases h; exact l101
  · cases h; exact l102
  · cases h; exact l103
  · cases h; exact l104
  · cases h; exact l105
  · cases h; exact l106
  · cases h; exact l109
  · cases h; exact l116
  · cases h; exact l117
  · cases h; exact l118
  · cases h; exact l119
  · cases h; exact l120
  · cases h; exact l121
  · cases h; exact l122
  · cases h; exact l123
  · cases h; exact l124
  · cases h; exact l125
  · cases h; exact l126
  · cases h; exact l127
  · cases h; exact l128
  · cases h; exact l129
  · cases h; exact l130
  · cases h; exact l134
  · cases h; exact l135
  · cases h; exact l136
  · cases h; exact l137
  · cases h; exact l138
  · cases h; exact l139
  · cases h; exact l146
  · cases h; exact l148
  · cases h; exact l149
  · cases h; exact l150
  · cases h; exact l151
  · cases h; exact l152
  · cases h; exact l153
  · cases h; exact l154
  · cases h; exact l155
  · cases h; exact l156
  · cases h; exact l157
  · cases h; exact l158
  · cases h; exact l165
  · cases h; exact l166
  · cases h; exact l167
  · cases h; exact l168
  · cases h; exact l169
  · cases h
end Go.Proofs.YtfcgofffalmdfaaGreatDoor.PA
namespace Go.Proofs.YtfcgofffalmdfaaGreatDoor.PA
open Go Go.Eng
theorem runLives0 : (xcall F 2000 50 16 [] ⟨.e, 0⟩).map (·.1) = some (.bool true) := by kernel_rfl
theorem runLives : ∃ H', xcall F 2000 50 16 [] ⟨.e, 0⟩ = some (.bool true, H') := by
  obtain ⟨⟨v, H'⟩, h1, h2⟩ := Option.map_eq_some_iff.1 runLives0
  cases h2
  exact ⟨H', h1⟩
end Go.Proofs.YtfcgofffalmdfaaGreatDoor.PA
namespace Go.Eng
open Go.Sort
variable {P : Program}
def decPairs : List AV → Option (List (Int × Int))
  | [] => some []
  | .int .i64 a :: .int .i64 b :: r => (decPairs r).map ((a, b) :: ·)
  | _ => none
def encPairs (l : List (Int × Int)) : List AV := (l.map fun p => [AV.int .i64 p.1, AV.int .i64 p.2]).flatten
theorem decPairs_enc : ∀ l, decPairs (encPairs l) = some l
  | [] => rfl
  | p :: l => by
    have := decPairs_enc l
    simp only [encPairs, List.map_cons, List.flatten_cons, List.cons_append, List.nil_append, decPairs] at this ⊢
    rw [this]; rfl
theorem encPairs_dec : ∀ {c : List AV} {l : List (Int × Int)}, decPairs c = some l → c = encPairs l
  | [], l, h => by simp [decPairs] at h; subst h; rfl
  | [_], l, h => by rename_i x; cases x <;> simp [decPairs] at h
  | x :: y :: r, l, h => by
    cases x <;> try (simp [decPairs] at h; done)
    rename_i k a
    cases k <;> try (simp [decPairs] at h; done)
    cases y <;> try (simp [decPairs] at h; done)
    rename_i k b
    cases k <;> try (simp [decPairs] at h; done)
    simp only [decPairs] at h
    obtain ⟨m, hm, rfl⟩ := Option.map_eq_some_iff.1 h
    rw [encPairs_dec hm]
    simp [encPairs]
theorem encPairs_length (l : List (Int × Int)) : (encPairs l).length = l.length * 2 := by
  induction l with
  | nil => rfl
  | cons p l ih => simp only [encPairs, List.map_cons, List.flatten_cons, List.length_append, List.length_cons, List.length_nil] at ih ⊢; omega
def sortP (l : List (Int × Int)) : List (Int × Int) := l.mergeSort fun x y => decide (x.1 ≤ y.1)
def okP (p : Int × Int) : Bool := decide (0 ≤ p.1) && decide (p.1 < 4611686018427387904)
def apartP : List (Int × Int) → Bool
  | [] => true
  | p :: l => l.all (fun q => q.1 != p.1) && apartP l
def sortK (S C : Nat) : CF := fun f args H =>
  if f = S then
    match args with
    | [.sl i o l c, .fn g []] =>
      if g = C ∧ 1 ≤ l ∧ l < 4611686018427387904 then
        match H.get i with
        | some (.cells cs opn) =>
          match decPairs ((cs.drop o).take (l * 2)) with
          | some ps => if ps.length = l ∧ ps.all okP = true ∧ apartP ps = true then some (.tup [], H.set i (some (.cells (overA cs o (encPairs (sortP ps))) opn))) else none
          | none => none
        | _ => none
      else none
    | _ => none
  else none
abbrev BP := {p : Int × Int // okP p = true}
instance : Inhabited BP := ⟨⟨(0, 0), rfl⟩⟩
def encBP (x : BP) : List Value := [.int .i64 x.1.1, .int .i64 x.1.2]
def ltBP (x y : BP) : Bool := decide (x.1.1 < y.1.1)
def cmpBP (x y : BP) : Int := x.1.1 - y.1.1
def SortC (P : Program) (S C : Nat) : Prop := ∀ (blk off cap : Nat) (d : Array BP) (w : World), HoldsK encBP 2 w blk off d → blk < w.heap.size → d.size < 4611686018427387904 →
  Calls P S #[.slice (some ⟨blk, off, none⟩) d.size cap, .func (.func C) #[] #[]] w fun e w' => e = .returned (.tuple #[]) ∧ ∃ d' n os, PermIn 0 d.size d d' ∧ SortedIn ltBP 0 d.size d' ∧ w' = Go.Proofs.sortWorldK encBP 2 w blk off n d' os
theorem Step.grow {E : Env} {H : AHeap} {w : World} (hR : Rel E H w) (os : Array Obj) : Step E H w E H (Go.Sort.grow w os) := by
  have hg : ∀ b, b < w.heap.size → (Go.Sort.grow w os).heap[b]? = w.heap[b]? := fun b hb => by
    show (w.heap ++ os)[b]? = _
    rw [Array.getElem?_append_left hb]
  have hs : w.heap.size ≤ (Go.Sort.grow w os).heap.size := by
    show _ ≤ (w.heap ++ os).size
    simp
  have hext : Env.Ext E E w (Go.Sort.grow w os) := ⟨fun _ _ q => q, fun _ q => q, fun b hb => hg b (hR.imm b hb), fun _ _ _ q => q⟩
  refine ⟨hext, ⟨fun i L h => ?_, fun b h => ?_, fun i o h => ?_, hR.inj⟩, ⟨rfl, rfl, rfl, hs, fun b hb _ => hg b hb⟩, fun i o L h1 h2 => .inr ⟨i, o, L, h1, h2, rfl⟩, Nat.le_refl _, fun _ _ h => .inl h, fun _ h => .inl h⟩
  · have := hR.dom i L h; exact ⟨this.1, by omega⟩
  · have := hR.imm b h; omega
  · obtain ⟨L, q1, q2, q3⟩ := hR.obj i o h
    exact ⟨L, q1, ObjR.mono hext (hg _ (hR.dom i L q1).2) q2, q3⟩
theorem apartP_inj : ∀ {l : List (Int × Int)}, apartP l = true → ∀ x ∈ l, ∀ y ∈ l, x.1 = y.1 → x = y
  | [], _, x, hx, _, _, _ => by cases hx
  | p :: l, h, x, hx, y, hy, e => by
    simp only [apartP, Bool.and_eq_true, List.all_eq_true, bne_iff_ne] at h
    rcases List.mem_cons.1 hx with q1 | q1
    · rcases List.mem_cons.1 hy with q2 | q2
      · rw [q1, q2]
      · rw [q1] at e; exact absurd e.symm (h.1 y q2)
    · rcases List.mem_cons.1 hy with q2 | q2
      · rw [q2] at e; exact absurd e (h.1 x q1)
      · exact apartP_inj h.2 x q1 y q2 e
theorem sortP_perm (l : List (Int × Int)) : (sortP l).Perm l := List.mergeSort_perm _ _
theorem sortP_pw (l : List (Int × Int)) : (sortP l).Pairwise fun x y => x.1 ≤ y.1 := by
  refine (List.pairwise_mergeSort (le := fun x y : Int × Int => decide (x.1 ≤ y.1)) (fun a b c h1 h2 => ?_) (fun a b => ?_) l).imp (fun h => by simpa using h)
  · simp only [decide_eq_true_eq] at h1 h2 ⊢; omega
  · simp only [Bool.or_eq_true, decide_eq_true_eq]; omega
theorem sortP_unique {l m : List (Int × Int)} (ha : apartP l = true) (hp : m.Perm l) (hs : m.Pairwise fun x y => x.1 ≤ y.1) : m = sortP l :=
  List.Perm.eq_of_pairwise (le := fun x y : Int × Int => x.1 ≤ y.1) (fun a b h1 h2 h3 h4 => apartP_inj ha a (hp.subset h1) b ((sortP_perm l).subset h2) (by omega)) hs (sortP_pw l) (hp.trans (sortP_perm l).symm)
def vals (l : List (Int × Int)) : List Value := (l.map fun p => [Value.int .i64 p.1, Value.int .i64 p.2]).flatten
theorem vals_length (l : List (Int × Int)) : (vals l).length = l.length * 2 := by
  induction l with
  | nil => rfl
  | cons p l ih => simp only [vals, List.map_cons, List.flatten_cons, List.length_append, List.length_cons, List.length_nil] at ih ⊢; omega
theorem vals_get : ∀ (l : List (Int × Int)) (j : Nat), (vals l)[j]? = (l[j / 2]?).map fun p => if j % 2 = 0 then Value.int .i64 p.1 else Value.int .i64 p.2
  | [], j => by simp [vals]
  | p :: l, 0 => by simp [vals]
  | p :: l, 1 => by simp [vals]
  | p :: l, j + 2 => by
    have := vals_get l j
    simp only [vals, List.map_cons, List.flatten_cons, List.cons_append, List.nil_append, List.getElem?_cons_succ] at this ⊢
    rw [this, show (j + 2) / 2 = j / 2 + 1 by omega, show (j + 2) % 2 = j % 2 by omega, List.getElem?_cons_succ]
theorem encPairs_rel {E : Env} {w : World} : ∀ (l : List (Int × Int)), AVRelL E w (encPairs l) (vals l)
  | [] => by simp [encPairs, vals, AVRelL]
  | p :: l => by
    have := encPairs_rel (E := E) (w := w) l
    simp only [encPairs, vals, List.map_cons, List.flatten_cons, List.cons_append, List.nil_append, AVRelL, AVRel] at this ⊢
    exact ⟨_, _, rfl, rfl, _, _, rfl, rfl, this⟩
theorem rel_vals {E : Env} {w : World} : ∀ {l : List (Int × Int)} {us : List Value}, AVRelL E w (encPairs l) us → us = vals l
  | [], us, h => by simpa [encPairs, vals, AVRelL] using h
  | p :: l, us, h => by
    simp only [encPairs, vals, List.map_cons, List.flatten_cons, List.cons_append, List.nil_append, AVRelL, AVRel] at h ⊢
    obtain ⟨u, us1, rfl, rfl, v, us2, rfl, rfl, h⟩ := h
    rw [rel_vals (l := l) h]
    rfl
theorem flat_vals (d : Array BP) : (flatK encBP 2 d).toList = vals (d.toList.map (·.1)) := by
  apply List.ext_getElem?
  intro j
  rw [vals_get]
  by_cases hj : j < d.size * 2
  · have hd : j / 2 < d.size := by omega
    have e1 : (flatK encBP 2 d).toList[j]? = some (flatK encBP 2 d)[j]! := by
      rw [Array.getElem?_toList, getElem!_pos _ j (by simpa using hj), Array.getElem?_eq_getElem (by simpa using hj)]
    rw [e1, get_flatK _ _ _ _ hj]
    simp only [List.getElem?_map, Array.getElem?_toList, Array.getElem?_eq_getElem hd, Option.map_some]
    rw [getElem!_pos d _ hd]
    congr 1
    rcases Nat.mod_two_eq_zero_or_one j with h | h <;> rw [h] <;> simp [encBP]
  · rw [List.getElem?_eq_none (by simp; omega), List.getElem?_eq_none (by simp; omega)]
    rfl
theorem attach_ok : ∀ (l : List (Int × Int)), l.all okP = true → ∃ d : List BP, d.map (·.1) = l
  | [], _ => ⟨[], rfl⟩
  | p :: l, h => by
    simp only [List.all_cons, Bool.and_eq_true] at h
    obtain ⟨d, rfl⟩ := attach_ok l h.2
    exact ⟨⟨p, h.1⟩ :: d, rfl⟩
theorem sortK_ok {S C : Nat} (hS : ∃ fn, P.funcs[S]? = some fn ∧ fn.body.isNone = false ∧ (fn.name == "runtime.NumGoroutine") = false) (hC : SortC P S C) : CFok P (sortK S C) := by
  intro f args H v H' h
  unfold sortK at h
  split at h
  · rename_i hf
    subst hf
    split at h
    · rename_i i o l c g
      split at h
      · rename_i hg
        obtain ⟨rfl, hl1, hl2⟩ := hg
        split at h
        · rename_i cs opn hget
          split at h
          · rename_i ps hps
            split at h
            · rename_i hall
              obtain ⟨hlen, hok, hap⟩ := hall
              cases h
              refine ⟨hS, fun E w us hR hus => ?_⟩
              simp only [AVRelL] at hus
              obtain ⟨u1, us1, rfl, hu1, u2, us2, rfl, hu2, rfl⟩ := hus
              simp only [AVRel] at hu2
              obtain ⟨cap, rfl, hcap⟩ := hu2
              simp only [AVRelL] at hcap
              have hcape : cap = #[] := by simpa using hcap
              subst hcape
              obtain ⟨L, ad, c', Ca, t, fz, us, hρ, rfl, hsl, hlc, hblk, hr, hcell, hsp, hfz, hft⟩ := row_sound hR hu1 hget
              obtain rfl := hsl.addr hlc (by omega)
              have hcs := encPairs_dec hps
              obtain ⟨dl, hdl⟩ := attach_ok ps hok
              have hdsz : dl.toArray.size = l := by
                have : dl.length = ps.length := by rw [← hdl]; simp
                simp [this, hlen]
              have hul := hr.length
              have hol : o + l * 2 ≤ cs.length := by
                have := encPairs_length ps
                rw [← hcs] at this
                simp only [List.length_take, List.length_drop] at this
                omega
              have hrow : (us.drop o).take (l * 2) = vals ps := by
                have := (hr.drop o).take (l * 2)
                rw [hcs] at this
                exact rel_vals this
              have hspan := span_ge L cs.length opn
              have hlt := (hR.dom i L hρ).2
              have hH : HoldsK encBP 2 w L.b (L.s + o) dl.toArray := by
                intro j hj
                rw [size_flatK, hdsz] at hj
                have e1 : (flatK encBP 2 dl.toArray)[j]? = (us.drop o)[j]? := by
                  rw [← Array.getElem?_toList, flat_vals, List.toList_toArray, hdl, ← hrow, List.getElem?_take, if_pos hj]
                have hj' : j < (flatK encBP 2 dl.toArray).size := by rw [size_flatK, hdsz]; exact hj
                rw [Array.getElem?_eq_getElem hj', List.getElem?_drop] at e1
                have e2 := hcell _ _ e1.symm
                refine ⟨?_, ?_⟩
                · simp only [World.cell?, hblk, Option.isSome_none, Bool.false_eq_true, if_false, id]
                  rw [show L.s + o + j = L.s + (o + j) by omega, e2, getElem!_pos _ j hj']
                · have := hfz (o + j) (by omega)
                  simp only [World.frozen?, hblk]
                  rw [show L.s + o + j = L.s + (o + j) by omega]
                  simp only [Bool.and_eq_false_iff, decide_eq_false_iff_not]
                  by_cases h1 : fz.1 ≤ L.s + (o + j)
                  · exact .inr (fun h2 => this ⟨h1, h2⟩)
                  · exact .inl h1
              have hcall := hC L.b (L.s + o) c' dl.toArray w hH hlt (by rw [hdsz]; exact hl2)
              rw [hdsz] at hcall
              refine Calls.mono hcall ?_
              rintro e w' ⟨rfl, d', n, os, hp, hso, rfl⟩
              have hd'sz : d'.size = l := hp.1.trans hdsz
              have hperm : (d'.toList.map (·.1)).Perm ps := by
                have := hp.2.2
                rw [← hdl]
                have e1 : d'.extract 0 l = d' := by rw [← hd'sz]; exact Array.extract_size
                have e2 : dl.toArray.extract 0 l = dl.toArray := by rw [← hdsz]; exact Array.extract_size
                rw [e1, e2] at this
                exact this.map _
              have hpw : (d'.toList.map (·.1)).Pairwise fun x y => x.1 ≤ y.1 := by
                rw [List.pairwise_iff_getElem]
                intro a b ha hb hab
                simp only [List.length_map, Array.length_toList] at ha hb
                have := hso a b (Nat.zero_le _) hab (by omega)
                rw [getElem!_pos d' b hb, getElem!_pos d' a ha] at this
                simp only [ltBP, decide_eq_false_iff_not] at this
                simp only [List.getElem_map, Array.getElem_toList]
                omega
              have hsort := sortP_unique hap hperm hpw
              have hmany : setMany (flatK encBP 2 dl.toArray) 0 (vals (sortP ps)) = flatK encBP 2 d' := by
                rw [← hsort, ← flat_vals]
                refine ext_get! (by rw [size_setMany, size_flatK, size_flatK, hdsz, hd'sz]) (fun t ht => ?_)
                rw [size_setMany] at ht
                rw [get_setMany _ _ _ t ht, if_pos ⟨Nat.zero_le _, by rw [Array.length_toList, size_flatK, hd'sz]; rw [size_flatK, hdsz] at ht; omega⟩, Nat.sub_zero]
                have ht2 : t < (flatK encBP 2 d').size := by rw [size_flatK, hd'sz]; rw [size_flatK, hdsz] at ht; exact ht
                rw [List.getElem!_eq_getElem?_getD, Array.getElem?_toList, Array.getElem?_eq_getElem ht2, getElem!_pos _ t ht2]
                rfl
              have hset : (Sort.ahead w n).setCells L.b (L.s + o) (vals (sortP ps)) = putRowK encBP 2 (Sort.ahead w n) L.b (L.s + o) d' := by
                unfold putRowK
                have hH2 : Holds id (Sort.ahead w n) L.b (L.s + o) (flatK encBP 2 dl.toArray) := hH
                conv => lhs; rw [← putRow_self id (Sort.ahead w n) L.b (L.s + o) (flatK encBP 2 dl.toArray) hH2]
                have := setCells_putRow (Sort.ahead w n) L.b (L.s + o) (vals (sortP ps)) 0 (flatK encBP 2 dl.toArray) (by rw [vals_length, (sortP_perm ps).length_eq, hlen, size_flatK, hdsz]; omega)
                rw [Nat.add_zero, hmany] at this
                exact this
              have s1 : Step E H w E H (Sort.ahead w n) := Step.of_heap hR rfl rfl rfl rfl
              have hencl : (encPairs (sortP ps)).length = l * 2 := by rw [encPairs_length, (sortP_perm ps).length_eq, hlen]
              have s2 := Step.write (w := Sort.ahead w n) s1.rel (o := o) (new := encPairs (sortP ps)) (vs := vals (sortP ps)) hget hρ hblk (AVRelL.mono s1.ext _ _ hr) hcell hsp hfz hft (encPairs_rel _) (by rw [hencl]; omega) (by omega) rfl
              rw [hset] at s2
              have s3 := Step.grow s2.rel os
              refine ⟨_, E, rfl, (s1.trans s2).trans s3, ?_⟩
              simp only [AVRel, AVRelL]
              exact ⟨_, rfl, rfl⟩
            · cases h
          · cases h
        · cases h
      · cases h
    · cases h
  · cases h
end Go.Eng
namespace Go.Proofs.YtfcgofffalmdfaaGreatDoor.PA
def castP (p : Nat × Nat) : Int × Int := (p.1, p.2)
end Go.Proofs.YtfcgofffalmdfaaGreatDoor.PA
namespace Go.Proofs.YtfcgofffalmdfaaGreatDoor.PA
open Go Go.Eng
def natA (n : Nat) : AV := .int .i64 (n : Int)
def pairA (l : List (Nat × Nat)) : List AV := encPairs (l.map castP)
structure LI (H0 : AHeap) (b r : List UInt8) (i : Nat) (op : List Nat) (out : List (Nat × Nat)) (d : Nat) (s : St) : Prop where
  rest : b.drop i = r
  le : i + r.length = b.length
  opl : op.length ≤ i
  outl : out.length ≤ i
  t0 : s.tm.get 0 = some (.str b)
  t10 : s.tm.get 10 = some (natA b.length)
  t11 : s.tm.get 11 = some (natA i)
  t7 : s.tm.get 7 = some (natA d)
  rows : ∃ v5 v6, s.tm.get 5 = some v5 ∧ s.tm.get 6 = some v6 ∧ Row 2 s.H v5 out.length (pairA out) ∧ Row 1 s.H v6 op.length (op.map natA) ∧
    (∀ j, v5.own = some j → v6.own ≠ some j ∧ H0.next ≤ j) ∧ (∀ j, v6.own = some j → H0.next ≤ j)
  nx : H0.next ≤ s.H.next
  fr : ∀ j, j < H0.next → s.H.get j = H0.get j
end Go.Proofs.YtfcgofffalmdfaaGreatDoor.PA
namespace Go.Proofs.YtfcgofffalmdfaaGreatDoor.PA
def B32 : Nat := 4294967296
def valL : List Nat → Nat
  | [] => 0
  | x :: r => x + B32 * valL r
def digL (l : List Nat) : Prop := ∀ x ∈ l, x < B32
def trimL (l : List Nat) : List Nat := (l.reverse.dropWhile (· == 0)).reverse
def limbs (n : Nat) : List Nat := if h : n = 0 then [] else (n % B32) :: limbs (n / B32)
termination_by n
decreasing_by exact Nat.div_lt_self (Nat.pos_of_ne_zero h) (by decide)
theorem valL_app (a b : List Nat) : valL (a ++ b) = valL a + B32 ^ a.length * valL b := by
  induction a with
  | nil => simp [valL]
  | cons x r ih => simp only [List.cons_append, valL, ih, List.length_cons, Nat.pow_succ]; rw [Nat.mul_add, Nat.add_assoc, ← Nat.mul_assoc, Nat.mul_comm B32 (B32 ^ r.length)]
theorem limbs_zero : limbs 0 = [] := by rw [limbs]; simp
theorem limbs_pos {n : Nat} (h : n ≠ 0) : limbs n = (n % B32) :: limbs (n / B32) := by rw [limbs]; simp [h]
theorem valL_limbs (n : Nat) : valL (limbs n) = n := by
  induction n using Nat.strongRecOn with
  | ind n ih =>
    by_cases h : n = 0
    · subst h; simp [limbs_zero, valL]
    · rw [limbs_pos h, valL, ih _ (Nat.div_lt_self (Nat.pos_of_ne_zero h) (by decide))]
      exact Nat.mod_add_div n B32
theorem digL_limbs (n : Nat) : digL (limbs n) := by
  induction n using Nat.strongRecOn with
  | ind n ih =>
    by_cases h : n = 0
    · subst h; rw [limbs_zero]; intro x hx; simp at hx
    · rw [limbs_pos h]
      intro x hx
      rcases List.mem_cons.1 hx with rfl | hx
      · exact Nat.mod_lt _ (by decide)
      · exact ih _ (Nat.div_lt_self (Nat.pos_of_ne_zero h) (by decide)) x hx
theorem trimL_nil : trimL [] = [] := rfl
theorem trimL_snoc (l : List Nat) (x : Nat) : trimL (l ++ [x]) = if x = 0 then trimL l else l ++ [x] := by
  unfold trimL
  by_cases h : x = 0 <;> simp [h]
theorem trimL_eq : ∀ {l : List Nat}, digL l → trimL l = limbs (valL l) := by
  have key : ∀ (l : List Nat), digL l → (l = [] ∨ ∃ i x, l = i ++ [x] ∧ x ≠ 0) → l = limbs (valL l) := by
    intro l
    induction l with
    | nil => intro _ _; simp [valL, limbs_zero]
    | cons x r ih =>
      intro hd hl
      have hx := hd x (by simp)
      have hr : digL r := fun y hy => hd y (by simp [hy])
      have hl' : r = [] ∨ ∃ i y, r = i ++ [y] ∧ y ≠ 0 := by
        rcases hl with h | ⟨i, y, h, hy⟩
        · cases h
        · cases i with
          | nil => simp at h; exact .inl h.2
          | cons a i => simp at h; exact .inr ⟨i, y, h.2, hy⟩
      have e := ih hr hl'
      have hne : valL (x :: r) ≠ 0 := by
        rcases hl' with rfl | ⟨i, y, rfl, hy⟩
        · rcases hl with h | ⟨i, y, h, hy⟩
          · cases h
          · cases i with
            | nil => simp at h; subst h; simpa [valL] using hy
            | cons a i => simp at h
        · intro h0
          have : valL (i ++ [y]) = 0 := by
            simp only [valL] at h0 ⊢
            have h1 : B32 * valL (i ++ [y]) = 0 := by omega
            rcases Nat.mul_eq_zero.1 h1 with h | h
            · exact absurd h (by decide)
            · exact h
          rw [valL_app] at this
          have h2 : B32 ^ i.length * valL [y] = 0 := by omega
          rcases Nat.mul_eq_zero.1 h2 with h | h
          · exact absurd h (Nat.pos_iff_ne_zero.1 (Nat.pow_pos (by decide)))
          · simp [valL] at h; exact hy h
      rw [limbs_pos hne, valL, Nat.add_mul_mod_self_left, Nat.mod_eq_of_lt hx, Nat.add_mul_div_left _ _ (by decide), Nat.div_eq_of_lt hx, Nat.zero_add, ← e]
  intro l
  have gen : ∀ (n : Nat) (l : List Nat), l.length = n → digL l → trimL l = limbs (valL l) := by
    intro n
    induction n with
    | zero => intro l hl _; obtain rfl := List.eq_nil_of_length_eq_zero hl; simp [trimL_nil, valL, limbs_zero]
    | succ n ih =>
      intro l hl hd
      rcases List.eq_nil_or_concat l with rfl | ⟨i, x, rfl⟩
      · simp at hl
      · rw [List.concat_eq_append] at *
        rw [trimL_snoc]
        by_cases h : x = 0
        · subst h
          rw [if_pos rfl, ih i (by simpa using hl) fun y hy => hd y (by simp [hy]), valL_app]
          simp [valL]
        · rw [if_neg h]
          exact key _ hd (.inr ⟨i, x, rfl, h⟩)
  exact gen l.length l rfl
def addL : List Nat → List Nat → Nat → List Nat
  | [], _, c => [c]
  | x :: r, [], c => ((x + c) % B32) :: addL r [] ((x + c) / B32)
  | x :: r, y :: q, c => ((x + y + c) % B32) :: addL r q ((x + y + c) / B32)
theorem addL_val : ∀ (a b : List Nat) (c : Nat), b.length ≤ a.length → valL (addL a b c) = valL a + valL b + c
  | [], b, c, h => by
    obtain rfl := List.eq_nil_of_length_eq_zero (Nat.le_zero.1 h)
    simp [addL, valL]
  | x :: r, [], c, _ => by
    simp only [addL, valL, addL_val r [] _ (Nat.zero_le _), Nat.mul_add, Nat.mul_zero, Nat.add_zero]
    have := Nat.mod_add_div (x + c) B32
    omega
  | x :: r, y :: q, c, h => by
    simp only [addL, valL, addL_val r q _ (by simpa using h), Nat.mul_add]
    have := Nat.mod_add_div (x + y + c) B32
    omega
theorem addL_dig : ∀ (a b : List Nat) (c : Nat), digL a → digL b → c ≤ 1 → digL (addL a b c)
  | [], _, c, _, _, hc => by
    intro x hx
    simp only [addL, List.mem_singleton] at hx
    subst hx
    exact Nat.lt_of_le_of_lt hc (by decide)
  | x :: r, [], c, ha, hb, hc => by
    intro z hz
    simp only [addL, List.mem_cons] at hz
    rcases hz with rfl | hz
    · exact Nat.mod_lt _ (by decide)
    · refine addL_dig r [] _ (fun y hy => ha y (by simp [hy])) hb ?_ z hz
      have := ha x (by simp)
      exact Nat.lt_succ_iff.1 ((Nat.div_lt_iff_lt_mul (by decide)).2 (by omega))
  | x :: r, y :: q, c, ha, hb, hc => by
    intro z hz
    simp only [addL, List.mem_cons] at hz
    rcases hz with rfl | hz
    · exact Nat.mod_lt _ (by decide)
    · refine addL_dig r q _ (fun y hy => ha y (by simp [hy])) (fun y hy => hb y (by simp [hy])) ?_ z hz
      have h1 := ha x (by simp)
      have h2 := hb y (by simp)
      exact Nat.lt_succ_iff.1 ((Nat.div_lt_iff_lt_mul (by decide)).2 (by omega))
theorem addL_len : ∀ (a b : List Nat) (c : Nat), (addL a b c).length = a.length + 1
  | [], _, _ => rfl
  | _ :: r, [], _ => by simp [addL, addL_len r []]
  | _ :: r, _ :: q, _ => by simp [addL, addL_len r q]
def mulRow (x : Nat) : List Nat → List Nat → Nat → List Nat
  | [], [], _ => []
  | [], _ :: r, c => c :: r
  | _ :: _, [], _ => []
  | y :: q, o :: r, c => ((x * y + o + c) % B32) :: mulRow x q r ((x * y + o + c) / B32)
theorem mulRow_val (x : Nat) : ∀ (b out : List Nat) (c : Nat), out[b.length]? = some 0 → valL (mulRow x b out c) = valL out + x * valL b + c
  | [], [], c, h => by simp at h
  | [], o :: r, c, h => by
    simp at h
    subst h
    simp only [mulRow, valL]
    omega
  | y :: q, [], c, h => by simp at h
  | y :: q, o :: r, c, h => by
    have h' : r[q.length]? = some 0 := by simpa using h
    simp only [mulRow, valL, mulRow_val x q r _ h', Nat.mul_add]
    have h1 := Nat.mod_add_div (x * y + o + c) B32
    have h2 : B32 * (x * valL q) = x * (B32 * valL q) := by rw [← Nat.mul_assoc, ← Nat.mul_assoc, Nat.mul_comm B32 x]
    omega
theorem mulRow_len (x : Nat) : ∀ (b out : List Nat) (c : Nat), b.length < out.length → (mulRow x b out c).length = out.length
  | [], [], c, h => by simp at h
  | [], o :: r, c, h => by simp [mulRow]
  | y :: q, [], c, h => by simp at h
  | y :: q, o :: r, c, h => by simp [mulRow, mulRow_len x q r _ (by simpa using h)]
theorem mulRow_far (x : Nat) : ∀ (b out : List Nat) (c k : Nat), b.length < k → (mulRow x b out c)[k]? = if b.length < out.length then out[k]? else (mulRow x b out c)[k]?
  | [], [], c, k, h => by simp [mulRow]
  | [], o :: r, c, k, h => by
    cases k with
    | zero => simp at h
    | succ k => simp [mulRow]
  | y :: q, [], c, k, h => by simp
  | y :: q, o :: r, c, k, h => by
    cases k with
    | zero => simp at h
    | succ k =>
      have e := mulRow_far x q r ((x * y + o + c) / B32) k (by simpa using h)
      by_cases hl : q.length < r.length
      · rw [if_pos hl] at e
        simp [mulRow, e, hl]
      · simp [hl]
theorem mulRow_dig {x : Nat} (hx : x < B32) : ∀ (b out : List Nat) (c : Nat), digL b → digL out → c < B32 → digL (mulRow x b out c)
  | [], [], c, _, _, _ => by intro z hz; simp [mulRow] at hz
  | [], o :: r, c, _, ho, hc => by
    intro z hz
    simp only [mulRow, List.mem_cons] at hz
    rcases hz with rfl | hz
    · exact hc
    · exact ho z (by simp [hz])
  | y :: q, [], c, _, _, _ => by intro z hz; simp [mulRow] at hz
  | y :: q, o :: r, c, hb, ho, hc => by
    intro z hz
    simp only [mulRow, List.mem_cons] at hz
    rcases hz with rfl | hz
    · exact Nat.mod_lt _ (by decide)
    · refine mulRow_dig hx q r _ (fun y hy => hb y (by simp [hy])) (fun y hy => ho y (by simp [hy])) ?_ z hz
      have h1 := hb y (by simp)
      have h2 := ho o (by simp)
      refine (Nat.div_lt_iff_lt_mul (by decide)).2 ?_
      have h3 : x * y ≤ (B32 - 1) * (B32 - 1) := Nat.mul_le_mul (by omega) (by omega)
      have h4 : (B32 - 1) * (B32 - 1) + (B32 - 1) + (B32 - 1) < B32 * B32 := by decide
      omega
def mulL : List Nat → List Nat → List Nat → List Nat
  | [], _, out => out
  | x :: xs, b, out => match mulRow x b out 0 with
    | [] => []
    | o :: r => o :: mulL xs b r
theorem mulL_ok : ∀ (a b out : List Nat), digL a → digL b → digL out → out.length = a.length + b.length → (∀ k, b.length ≤ k → k < out.length → out[k]? = some 0) →
    valL (mulL a b out) = valL out + valL a * valL b ∧ digL (mulL a b out) ∧ (mulL a b out).length = out.length
  | [], b, out, _, _, ho, _, _ => by simp [mulL, valL]; exact ho
  | x :: xs, b, out, ha, hb, ho, hl, hz => by
    have hx := ha x (by simp)
    have hlt : b.length < out.length := by rw [hl, List.length_cons]; omega
    have e1 := mulRow_val x b out 0 (hz _ (Nat.le_refl _) hlt)
    have e2 := mulRow_len x b out 0 hlt
    have e3 := mulRow_dig hx b out 0 hb ho (by decide)
    have e4 : ∀ k, b.length < k → (mulRow x b out 0)[k]? = out[k]? := fun k hk => by rw [mulRow_far x b out 0 k hk, if_pos hlt]
    revert e1 e2 e3 e4
    rw [mulL]
    generalize mulRow x b out 0 = row
    intro e1 e2 e3 e4
    cases row with
    | nil => rw [← e2] at hlt; simp at hlt
    | cons o r =>
      have hr : r.length = xs.length + b.length := by simp at e2 hl; omega
      have ih := mulL_ok xs b r (fun y hy => ha y (by simp [hy])) hb (fun y hy => e3 y (by simp [hy])) hr fun k hk hk2 => by
        have e := e4 (k + 1) (by omega)
        rw [List.getElem?_cons_succ] at e
        rw [e]
        exact hz (k + 1) (by omega) (by simp at e2; omega)
      obtain ⟨i1, i2, i3⟩ := ih
      refine ⟨?_, ?_, by simp only [List.length_cons] at e2 ⊢; rw [i3]; exact e2⟩
      · simp only [valL] at e1 ⊢
        rw [i1, Nat.mul_add, Nat.add_mul]
        have h2 : B32 * (valL xs * valL b) = B32 * valL xs * valL b := by rw [Nat.mul_assoc]
        omega
      · intro z hz'
        rcases List.mem_cons.1 hz' with rfl | hz'
        · exact e3 _ (by simp)
        · exact i2 z hz'
theorem mulL_limbs (m n : Nat) : trimL (mulL (limbs m) (limbs n) (List.replicate ((limbs m).length + (limbs n).length) 0)) = limbs (m * n) := by
  have z : ∀ k, valL (List.replicate k 0) = 0 := by
    intro k
    induction k with
    | zero => rfl
    | succ k ih => simp [List.replicate_succ, valL, ih]
  obtain ⟨h1, h2, h3⟩ := mulL_ok (limbs m) (limbs n) (List.replicate ((limbs m).length + (limbs n).length) 0) (digL_limbs m) (digL_limbs n) (fun x hx => by rw [(List.mem_replicate.1 hx).2]; decide) (by simp)
    (fun k hk hk2 => by simp at hk2; simp [List.getElem?_replicate, hk2])
  rw [trimL_eq h2, h1, z, valL_limbs, valL_limbs, Nat.zero_add]
theorem addL_limbs (m n : Nat) (h : (limbs n).length ≤ (limbs m).length) : trimL (addL (limbs m) (limbs n) 0) = limbs (m + n) := by
  rw [trimL_eq (addL_dig _ _ _ (digL_limbs m) (digL_limbs n) (by decide)), addL_val _ _ _ h, valL_limbs, valL_limbs, Nat.add_zero]
def divL (w : Nat) : List Nat → List Nat × Nat
  | [] => ([], 0)
  | x :: r => (((divL w r).2 * B32 + x) / w :: (divL w r).1, ((divL w r).2 * B32 + x) % w)
theorem divL_ok {w : Nat} (hw : 0 < w) : ∀ (l : List Nat), digL l → valL l = valL (divL w l).1 * w + (divL w l).2 ∧ (divL w l).2 < w ∧ digL (divL w l).1 ∧ (divL w l).1.length = l.length
  | [], _ => ⟨by simp [divL, valL], hw, by intro x hx; simp [divL] at hx, rfl⟩
  | x :: r, h => by
    obtain ⟨h1, h2, h3, h4⟩ := divL_ok hw r fun y hy => h y (by simp [hy])
    have hx := h x (by simp)
    revert h1 h2 h3 h4
    rw [divL]
    generalize divL w r = p
    intro h1 h2 h3 h4
    refine ⟨?_, Nat.mod_lt _ hw, ?_, by simp [h4]⟩
    · simp only [valL]
      rw [h1]
      have e := Nat.div_add_mod (p.2 * B32 + x) w
      have e2 : B32 * (valL p.1 * w + p.2) = B32 * valL p.1 * w + p.2 * B32 := by rw [Nat.mul_add, ← Nat.mul_assoc, Nat.mul_comm B32 p.2]
      rw [e2, Nat.add_mul, Nat.mul_comm (_ / w) w]
      omega
    · intro z hz
      rcases List.mem_cons.1 hz with rfl | hz
      · refine (Nat.div_lt_iff_lt_mul hw).2 ?_
        have : (p.2 + 1) * B32 ≤ w * B32 := Nat.mul_le_mul_right _ h2
        rw [Nat.add_mul] at this
        rw [Nat.mul_comm B32 w]
        omega
      · exact h3 z hz
theorem divL_limbs {w : Nat} (hw : 0 < w) (n : Nat) : trimL (divL w (limbs n)).1 = limbs (n / w) ∧ (divL w (limbs n)).2 = n % w := by
  obtain ⟨h1, h2, h3, _⟩ := divL_ok hw (limbs n) (digL_limbs n)
  rw [valL_limbs] at h1
  have e : n / w = valL (divL w (limbs n)).1 := by
    conv => lhs; rw [h1]
    rw [Nat.add_comm, Nat.add_mul_div_right _ _ hw, Nat.div_eq_of_lt h2, Nat.zero_add]
  have e2 : n % w = (divL w (limbs n)).2 := by
    conv => lhs; rw [h1]
    rw [Nat.add_comm, Nat.add_mul_mod_self_right, Nat.mod_eq_of_lt h2]
  exact ⟨by rw [trimL_eq h3, e], e2.symm⟩
theorem limbs_nil {n : Nat} : (limbs n).length = 0 ↔ n = 0 := by
  by_cases h : n = 0
  · subst h; simp [limbs_zero]
  · rw [limbs_pos h]; simp [h]
end Go.Proofs.YtfcgofffalmdfaaGreatDoor.PA
namespace Go.Proofs.YtfcgofffalmdfaaGreatDoor.PA
open Go Go.Eng
def u32 (n : Nat) : AV := .int .u32 (n : Int)
def u64 (n : Nat) : AV := .int .u64 (n : Int)
def B64 : Nat := 18446744073709551616
theorem wrap64 {n : Nat} (h : n < B64) : wrapA .u64 (n : Int) = (n : Int) := by
  simp only [wrapA, IntKind.wrap, IntKind.bits, IntKind.signed, B64] at *
  simp
  omega
theorem wrap32 (n : Nat) : wrapA .u32 (n : Int) = ((n % B32 : Nat) : Int) := by
  simp only [wrapA, IntKind.wrap, IntKind.bits, IntKind.signed, B32] at *
  simp
section
variable {cf : CF} {n : Nat} {H : AHeap} {ev : XO → Option AV} {x y : XO}
theorem op_c64 {a : Nat} (ha : a < B32) (hx : ev x = some (u32 a)) : xval cf ev H n (.conv .u64 x) = some (u64 a, H) := by
  simp only [xval, xop, hx, u32, AR.ofV, u64, wrap64 (show a < B64 from Nat.lt_trans ha (by decide))]
theorem op_c32 {a : Nat} (hx : ev x = some (u64 a)) : xval cf ev H n (.conv .u32 x) = some (u32 (a % B32), H) := by
  simp only [xval, xop, hx, u64, AR.ofV, u32, wrap32]
theorem op_add64 {a b : Nat} (h : a + b < B64) (hx : ev x = some (u64 a)) (hy : ev y = some (u64 b)) : xval cf ev H n (.bin .add x y) = some (u64 (a + b), H) := by
  refine op_bin hx hy ?_
  simp only [u64, binA]
  rw [if_neg (by simp), ← Int.natCast_add, wrap64 h]
theorem op_mul64 {a b : Nat} (h : a * b < B64) (hx : ev x = some (u64 a)) (hy : ev y = some (u64 b)) : xval cf ev H n (.bin .mul x y) = some (u64 (a * b), H) := by
  refine op_bin hx hy ?_
  simp only [u64, binA]
  rw [if_neg (by simp), ← Int.natCast_mul, wrap64 h]
theorem op_shr32 {a : Nat} (hx : ev x = some (u64 a)) (hy : ev y = some (.int .u64 (.ofNat 32))) : xval cf ev H n (.bin .shr x y) = some (u64 (a / B32), H) := by
  refine op_bin hx hy ?_
  simp only [u64, binA]
  rw [if_neg (by decide), show (2 : Int) ^ (min (Int.toNat (Int.ofNat 32)) IntKind.u64.bits) = ((B32 : Nat) : Int) by decide, Int.fdiv_eq_ediv_of_nonneg _ (by decide), Int.natCast_ediv]
end
theorem u32_int (n : Nat) : u32 n = .int .u32 (n : Int) := rfl
theorem u64_int (n : Nat) : u64 n = .int .u64 (n : Int) := rfl
attribute [irreducible] u32 u64
end Go.Proofs.YtfcgofffalmdfaaGreatDoor.PA
namespace Go.Proofs.YtfcgofffalmdfaaGreatDoor.PA
open Go Go.Eng
theorem add32_ok {cf : CF} {fuel : Nat} {H : AHeap} {x y c : Nat} (hx : x < B32) (hy : y < B32) (hc : c < B32) :
    ∃ v H', xfunc cf fuel L126 [u32 x, u32 y, u32 c] H = some (v, H') ∧ v = .tup [u32 ((x + y + c) % B32), u32 ((x + y + c) / B32)] ∧ Same H H' := by
  refine xfunc_of rfl (by show 3 ≤ 22; omega) ?_
  have a0 : (argsT [u32 x, u32 y, u32 c] 0 .e).get 0 = some (u32 x) := rfl
  have a1 : (argsT [u32 x, u32 y, u32 c] 0 .e).get 1 = some (u32 y) := rfl
  have a2 : (argsT [u32 x, u32 y, u32 c] 0 .e).get 2 = some (u32 c) := rfl
  generalize argsT [u32 x, u32 y, u32 c] 0 .e = tm at a0 a1 a2
  have e1 : B32 = 4294967296 := rfl
  have e2 : B64 = 18446744073709551616 := rfl
  unfold L126
  dsimp only
  repeat (first | refine W.seq ?_ | (apply W.reg; · (simp only [List.length_cons, List.length_nil, Nat.reduceAdd]; rfl)) | refine WO.nil ?_ | (apply WO.op; · first | exact op_mv (by simp only [St.ev, ↓Tr.get_set, ↓reduceIte, Nat.reduceEqDiff, natA, a0, a1, a2]; rfl)) | refine pN ?_ | fail)
  refine WO.op (op_c64 hx (by simp only [St.ev, ↓Tr.get_set, ↓reduceIte, Nat.reduceEqDiff, a0])) ?_
  repeat (first | (apply WO.op; · first | exact op_mv (by simp only [St.ev, ↓Tr.get_set, ↓reduceIte, Nat.reduceEqDiff, natA, a0, a1, a2]; rfl)) | fail)
  refine WO.op (op_c64 hy (by simp only [St.ev, ↓Tr.get_set, ↓reduceIte, Nat.reduceEqDiff, a1])) ?_
  refine WO.op (op_add64 (a := x) (b := y) (by omega) (by simp only [St.ev, ↓Tr.get_set, ↓reduceIte, Nat.reduceEqDiff]) (by simp only [St.ev, ↓Tr.get_set, ↓reduceIte, Nat.reduceEqDiff])) ?_
  repeat (first | (apply WO.op; · first | exact op_mv (by simp only [St.ev, ↓Tr.get_set, ↓reduceIte, Nat.reduceEqDiff, natA, a0, a1, a2]; rfl)) | fail)
  refine WO.op (op_c64 hc (by simp only [St.ev, ↓Tr.get_set, ↓reduceIte, Nat.reduceEqDiff, a2])) ?_
  refine WO.op (op_add64 (a := x + y) (b := c) (by omega) (by simp only [St.ev, ↓Tr.get_set, ↓reduceIte, Nat.reduceEqDiff]) (by simp only [St.ev, ↓Tr.get_set, ↓reduceIte, Nat.reduceEqDiff])) ?_
  repeat (first | refine W.seq ?_ | (apply W.reg; · (simp only [List.length_cons, List.length_nil, Nat.reduceAdd]; rfl)) | refine WO.nil ?_ | (apply WO.op; · first | exact op_mv (by simp only [St.ev, ↓Tr.get_set, ↓reduceIte, Nat.reduceEqDiff, natA, a0, a1, a2]; rfl)) | refine pN ?_ | fail)
  refine WO.op (op_c32 (a := x + y + c) (by simp only [St.ev, ↓Tr.get_set, ↓reduceIte, Nat.reduceEqDiff])) ?_
  repeat (first | refine W.seq ?_ | (apply W.reg; · (simp only [List.length_cons, List.length_nil, Nat.reduceAdd]; rfl)) | refine WO.nil ?_ | (apply WO.op; · first | exact op_mv (by simp only [St.ev, ↓Tr.get_set, ↓reduceIte, Nat.reduceEqDiff, natA, a0, a1, a2]; rfl)) | refine pN ?_ | fail)
  refine WO.op (op_shr32 (a := x + y + c) (by simp only [St.ev, ↓Tr.get_set, ↓reduceIte, Nat.reduceEqDiff]) (by simp only [St.ev, ↓Tr.get_set, ↓reduceIte, Nat.reduceEqDiff])) ?_
  repeat (first | fail)
  refine WO.op (op_c32 (a := (x + y + c) / B32) (by simp only [St.ev, ↓Tr.get_set, ↓reduceIte, Nat.reduceEqDiff])) ?_
  repeat (first | refine W.ret ?_ | refine WO.nil ?_ | (apply WO.op; · first | exact op_mv (by simp only [St.ev, ↓Tr.get_set, ↓reduceIte, Nat.reduceEqDiff, natA, a0, a1, a2]; rfl)) | refine pN ?_ | fail)
  have hq : (x + y + c) / B32 % B32 = (x + y + c) / B32 := Nat.mod_eq_of_lt ((Nat.div_lt_iff_lt_mul (by decide)).2 (by rw [e1]; omega))
  exact ⟨fun id q => (by cases q), _, by simp only [resL, resA, Tr.get_set, get_bump, next_bump, next_set, next_add, AHeap.get_set, reduceIte, Nat.reduceEqDiff] <;> rfl, by rw [hq]; rfl, ((Same.bump _ _).trans (Same.bump _ _)).trans ((Same.bump _ _).trans (Same.bump _ _))⟩
end Go.Proofs.YtfcgofffalmdfaaGreatDoor.PA
namespace Go.Proofs.YtfcgofffalmdfaaGreatDoor.PA
open Go Go.Eng
def MagL (H : AHeap) (v : AV) (l : List Nat) : Prop :=
  (v = .nils ∧ l = []) ∨ ∃ i cap full opn, v = .sl i 0 l.length cap ∧ l.length ≤ cap ∧ cap < openAt ∧ H.get i = some (.cells full opn) ∧ full.take l.length = l.map u32 ∧ l.length ≤ full.length ∧ i < H.next
def Mag (H : AHeap) (v : AV) (n : Nat) : Prop := MagL H v (limbs n)
theorem MagL.same {H H' : AHeap} {v : AV} {l : List Nat} (h : MagL H v l) (s : Same H H') : MagL H' v l := by
  rcases h with h | ⟨i, cap, full, opn, h1, h2, h3, h4, h5, h6, h7⟩
  · exact .inl h
  · exact .inr ⟨i, cap, full, opn, h1, h2, h3, (s.2 i h7).trans h4, h5, h6, Nat.lt_of_lt_of_le h7 s.1⟩
theorem MagL.len {H : AHeap} {v : AV} {l : List Nat} (h : MagL H v l) : lenA v = some l.length := by
  rcases h with ⟨rfl, rfl⟩ | ⟨i, cap, full, opn, rfl, _⟩ <;> rfl
theorem MagL.cell {H : AHeap} {v : AV} {l : List Nat} (h : MagL H v l) {j : Nat} (hj : j < l.length) {k : IntKind} : ∃ p, iaddrA 1 v (.int k (j : Int)) = some p ∧ loadA H none p = some (u32 l[j]) := by
  rcases h with ⟨rfl, rfl⟩ | ⟨i, cap, full, opn, rfl, h2, h3, h4, h5, h6, h7⟩
  · simp at hj
  · refine ⟨.ptr i (0 + j * 1), by simp only [iaddrA, idxOk_lt hj, if_true, Int.toNat_natCast], ?_⟩
    simp only [loadA, cellsAt, h4, List.getElem?_drop, Nat.zero_add, Nat.mul_one, Nat.add_zero]
    have e : (full.take l.length)[j]? = full[j]? := by rw [List.getElem?_take, if_pos hj]
    rw [← e, h5, List.getElem?_map, List.getElem?_eq_getElem hj]
    rfl
theorem op_mlen {cf : CF} {n : Nat} {H : AHeap} {v : AV} {l : List Nat} (h : MagL H v l) {ev : XO → Option AV} {x : XO} (hx : ev x = some v) : xval cf ev H n (.len x) = some (.int .i64 (l.length : Int), H) := by
  rcases h with ⟨rfl, rfl⟩ | ⟨i, cap, full, opn, rfl, _⟩ <;> simp only [xval, xop, hx] <;> rfl
theorem MagL.cut {H : AHeap} {v : AV} {l : List Nat} (h : MagL H v l) (hl : l ≠ []) :
    ∃ v', (∀ (ev : XO → Option AV) (y : XO), ev y = some (.int .i64 ((l.length - 1 : Nat) : Int)) → cutA ev 1 v none (some y) none = some v') ∧ MagL H v' l.dropLast := by
  rcases h with ⟨rfl, rfl⟩ | ⟨i, cap, full, opn, rfl, h2, h3, h4, h5, h6, h7⟩
  · exact absurd rfl hl
  · refine ⟨.sl i 0 (l.length - 1) cap, fun ev y hy => ?_, .inr ⟨i, cap, full, opn, by rw [List.length_dropLast], by rw [List.length_dropLast]; omega, h3, h4, ?_, by rw [List.length_dropLast]; omega, h7⟩⟩
    · have hb : bndA cap (.int .i64 ((l.length - 1 : Nat) : Int)) = some (l.length - 1) := bndA_nat (by omega)
      simp only [cutA, h3, h2, if_true, bounds, obnd, hiBnd, hy, Option.bind_some, hb]
      have : (if cap = 0 then 0 else 0 + 0 * 1) = 0 := by split <;> rfl
      simp [this]
    · rw [List.length_dropLast, List.map_dropLast, ← h5, List.dropLast_eq_take, List.take_take, List.length_take]
      congr 1
      omega
end Go.Proofs.YtfcgofffalmdfaaGreatDoor.PA
namespace Go.Proofs.YtfcgofffalmdfaaGreatDoor.PA
open Go Go.Eng
theorem sub1 {n : Nat} (h : 0 < n) (h2 : n ≤ 1000000000) : binA .sub (.int .i64 (n : Int)) (.int .i64 (.ofNat 1)) = some (.int .i64 ((n - 1 : Nat) : Int)) := by
  simp only [binA]
  rw [if_neg (by simp), show (n : Int) - Int.ofNat 1 = ((n - 1 : Nat) : Int) by simp only [Int.ofNat_eq_natCast]; omega, wrapI _ (by omega) (by omega)]
theorem eq32 (x : Nat) : binA .eql (u32 x) (.int .u32 (.ofNat 0)) = some (.bool (decide (x = 0))) := by
  rw [u32_int]
  simp only [binA, intCmpA]
  rw [if_neg (by simp)]
  congr 2
  rw [Bool.eq_iff_iff]
  simp
theorem trim_ok {cf : CF} {fuel : Nat} {H : AHeap} {v : AV} {l : List Nat} (hv : MagL H v l) (hf : l.length < fuel) (hs : l.length ≤ 1000000000) :
    ∃ v' H', xfunc cf fuel L96 [v] H = some (v', H') ∧ MagL H' v' (trimL l) ∧ Same H H' := by
  refine xfunc_of rfl (by show 1 ≤ 21; omega) ?_
  have a0 : (argsT [v] 0 .e).get 0 = some v := rfl
  generalize argsT [v] 0 .e = tm at a0
  unfold L96
  dsimp only
  refine W.seq ?_
  repeat (first | refine W.seq ?_ | refine W.block ?_ | (apply W.reg; · (simp only [List.length_cons, List.length_nil, Nat.reduceAdd]; rfl)) | refine WO.nil ?_ | (apply WO.op; · first | exact op_mv (by simp only [St.ev, ↓Tr.get_set, ↓reduceIte, Nat.reduceEqDiff, natA]; rfl)) | refine pN ?_ | fail)
  refine W.loop (α := List Nat) (fun t S => ∃ w, S.tm.get 0 = some w ∧ MagL S.H w t ∧ trimL t = trimL l ∧ Same H S.H ∧ t.length ≤ l.length) (fun t => t.length) l ⟨v, (by simp only [St.ev, ↓Tr.get_set, ↓reduceIte, Nat.reduceEqDiff, a0]), hv.same (Same.bump _ _), rfl, Same.bump _ _, Nat.le_refl _⟩ hf ?_
  rintro t ⟨tm1, H1⟩ ⟨w, t0, tm, te, ts, tl⟩
  simp only at t0 tm te ts tl
  refine W.seq (W.seq ?_)
  refine W.reg 12 rfl ?_
  have tmb := tm.same (Same.bump H1 12)
  refine WO.op (op_mv (v := w) (by simp only [St.ev, ↓Tr.get_set, ↓reduceIte, Nat.reduceEqDiff, t0])) ?_
  refine WO.op (op_mlen tmb (by simp only [St.ev, ↓Tr.get_set, ↓reduceIte, Nat.reduceEqDiff])) ?_
  rcases List.eq_nil_or_concat t with rfl | ⟨i, x, rfl⟩
  · repeat (first | refine W.seq ?_ | refine W.ret ?_ | refine W.exit ?_ | (apply W.reg; · (simp only [List.length_cons, List.length_nil, Nat.reduceAdd]; rfl)) | refine WO.nil ?_ | (apply WO.op; · first | exact op_mv (by simp only [St.ev, ↓Tr.get_set, ↓reduceIte, Nat.reduceEqDiff, natA, List.length_nil, t0]; rfl) | exact op_bin (by simp only [St.ev, ↓Tr.get_set, ↓reduceIte, Nat.reduceEqDiff, natA, List.length_nil, t0]; rfl) (by simp only [St.ev, ↓Tr.get_set, ↓reduceIte, Nat.reduceEqDiff, natA, List.length_nil, t0]; rfl) (by simp only [binA, intCmpA, strA, natA, List.length_nil, t0]; rfl) | exact op_pick (by simp only [St.ev, ↓Tr.get_set, ↓reduceIte, Nat.reduceEqDiff, natA, List.length_nil, t0]; rfl) (by first | exact .inl ⟨rfl, (by simp only [St.ev, ↓Tr.get_set, ↓reduceIte, Nat.reduceEqDiff, natA, List.length_nil, t0]; rfl)⟩ | exact .inr ⟨rfl, (by simp only [St.ev, ↓Tr.get_set, ↓reduceIte, Nat.reduceEqDiff, natA, List.length_nil, t0]; rfl)⟩)) | (apply WO.gno'; (· (simp only [St.ev, ↓Tr.get_set, ↓reduceIte, Nat.reduceEqDiff, natA, List.length_nil, t0]; rfl)); (· rfl)) | refine pN ?_ | refine pX ?_ | refine bX ?_ | (apply W.condF'; (· (simp only [St.ev, ↓Tr.get_set, ↓reduceIte, Nat.reduceEqDiff, natA, List.length_nil, t0]; rfl)); (· rfl)) | fail)
    exact ⟨fun id q => (by cases q), _, by simp only [resL, resA, Tr.get_set, get_bump, next_bump, next_set, next_add, AHeap.get_set, reduceIte, Nat.reduceEqDiff, t0] <;> rfl, (by rw [← te, trimL_nil]; exact tm.same ((Same.bump _ _).trans (Same.bump _ _))), ts.trans ((Same.bump _ _).trans (Same.bump _ _))⟩
  · rw [List.concat_eq_append] at *
    have hlen : 0 < (i ++ [x]).length := by simp
    have c : decide (((i ++ [x]).length : Int) > Int.ofNat 0) = true := by rw [Int.ofNat_eq_natCast, decide_eq_true_eq]; omega
    obtain ⟨p, hp, hld⟩ := tmb.cell (j := (i ++ [x]).length - 1) (by omega) (k := .i64)
    have hx : (i ++ [x])[(i ++ [x]).length - 1]'(by omega) = x := by simp
    rw [hx] at hld
    repeat (first | (apply WO.op; · first | exact op_mv (by simp only [St.ev, ↓Tr.get_set, ↓reduceIte, Nat.reduceEqDiff, natA, c, t0]; rfl) | exact op_bin (by simp only [St.ev, ↓Tr.get_set, ↓reduceIte, Nat.reduceEqDiff, natA, c, t0]; rfl) (by simp only [St.ev, ↓Tr.get_set, ↓reduceIte, Nat.reduceEqDiff, natA, c, t0]; rfl) (by simp only [binA, intCmpA, strA, natA, c, t0]; rfl)) | (apply WO.gop'; (· (simp only [St.ev, ↓Tr.get_set, ↓reduceIte, Nat.reduceEqDiff, natA, c, t0]; rfl)); (· rfl); (· first | exact op_mv (by simp only [St.ev, ↓Tr.get_set, ↓reduceIte, Nat.reduceEqDiff, natA, c, t0]; rfl))) | fail)
    refine WO.gop' (by simp only [St.ev, ↓Tr.get_set, ↓reduceIte, Nat.reduceEqDiff]; rfl) (by rfl) (op_mlen tmb (by simp only [St.ev, ↓Tr.get_set, ↓reduceIte, Nat.reduceEqDiff, t0])) ?_
    refine WO.gop' (by simp only [St.ev, ↓Tr.get_set, ↓reduceIte, Nat.reduceEqDiff]; rfl) (by rfl) (op_bin (by simp only [St.ev, ↓Tr.get_set, ↓reduceIte, Nat.reduceEqDiff]) (by simp only [St.ev, ↓Tr.get_set, ↓reduceIte, Nat.reduceEqDiff]) (sub1 hlen (by omega))) ?_
    refine WO.gop' (by simp only [St.ev, ↓Tr.get_set, ↓reduceIte, Nat.reduceEqDiff]; rfl) (by rfl) (v := p) (H1 := H1.bump 12) (by simp only [xval, xop, St.ev, ↓Tr.get_set, ↓reduceIte, Nat.reduceEqDiff, Option.bind_some, hp]; rfl) ?_
    refine WO.gop' (by simp only [St.ev, ↓Tr.get_set, ↓reduceIte, Nat.reduceEqDiff]; rfl) (by rfl) (op_load (a := p) (by simp only [St.ev, ↓Tr.get_set, ↓reduceIte, Nat.reduceEqDiff]) hld) ?_
    refine WO.gop' (by simp only [St.ev, ↓Tr.get_set, ↓reduceIte, Nat.reduceEqDiff]; rfl) (by rfl) (op_bin (by simp only [St.ev, ↓Tr.get_set, ↓reduceIte, Nat.reduceEqDiff]) (by simp only [St.ev, ↓Tr.get_set, ↓reduceIte, Nat.reduceEqDiff]) (eq32 x)) ?_
    by_cases h0 : x = 0
    · repeat (first | refine W.block ?_ | refine W.skip ?_ | (apply W.reg; · (simp only [List.length_cons, List.length_nil, Nat.reduceAdd]; rfl)) | refine WO.nil ?_ | (apply WO.op; · first | exact op_mv (by simp only [St.ev, ↓Tr.get_set, ↓reduceIte, Nat.reduceEqDiff, natA, h0, t0, decide_true]; rfl) | exact op_pick (by simp only [St.ev, ↓Tr.get_set, ↓reduceIte, Nat.reduceEqDiff, natA, h0, t0, decide_true]; rfl) (by first | exact .inl ⟨rfl, (by simp only [St.ev, ↓Tr.get_set, ↓reduceIte, Nat.reduceEqDiff, natA, h0, t0, decide_true]; rfl)⟩ | exact .inr ⟨rfl, (by simp only [St.ev, ↓Tr.get_set, ↓reduceIte, Nat.reduceEqDiff, natA, h0, t0, decide_true]; rfl)⟩)) | refine pN ?_ | (apply W.condT'; (· (simp only [St.ev, ↓Tr.get_set, ↓reduceIte, Nat.reduceEqDiff, natA, h0, t0, decide_true]; rfl)); (· rfl)) | fail)
      have tmc := tmb.same (Same.bump (H1.bump 12) 6)
      refine WO.op (op_mlen tmc (by simp only [St.ev, ↓Tr.get_set, ↓reduceIte, Nat.reduceEqDiff, t0])) ?_
      refine WO.op (op_bin (by simp only [St.ev, ↓Tr.get_set, ↓reduceIte, Nat.reduceEqDiff]) (by simp only [St.ev, ↓Tr.get_set, ↓reduceIte, Nat.reduceEqDiff]) (sub1 hlen (by omega))) ?_
      obtain ⟨w', hw, mw⟩ := tmc.cut (by simp)
      refine WO.op (op_cut (v := w) (by simp only [St.ev, ↓Tr.get_set, ↓reduceIte, Nat.reduceEqDiff]) (hw _ _ (by simp only [St.ev, ↓Tr.get_set, ↓reduceIte, Nat.reduceEqDiff]))) ?_
      repeat (first | refine WO.nil ?_ | (apply WO.op; · first | exact op_mv (by simp only [St.ev, ↓Tr.get_set, ↓reduceIte, Nat.reduceEqDiff, natA, h0]; rfl)) | refine pN ?_ | refine bN ?_ | fail)
      rw [List.dropLast_concat] at mw
      refine ⟨i, ⟨w', (by simp only [St.ev, ↓Tr.get_set, ↓reduceIte, Nat.reduceEqDiff]), mw, ?_, ts.trans ((Same.bump _ _).trans (Same.bump _ _)), by simp at tl; omega⟩, by simp⟩
      rw [← te, trimL_snoc, if_pos h0]
    · repeat (first | refine W.seq ?_ | refine W.ret ?_ | refine W.exit ?_ | (apply W.reg; · (simp only [List.length_cons, List.length_nil, Nat.reduceAdd]; rfl)) | refine WO.nil ?_ | (apply WO.op; · first | exact op_mv (by simp only [St.ev, ↓Tr.get_set, ↓reduceIte, Nat.reduceEqDiff, natA, h0, t0, decide_false]; rfl) | exact op_pick (by simp only [St.ev, ↓Tr.get_set, ↓reduceIte, Nat.reduceEqDiff, natA, h0, t0, decide_false]; rfl) (by first | exact .inl ⟨rfl, (by simp only [St.ev, ↓Tr.get_set, ↓reduceIte, Nat.reduceEqDiff, natA, h0, t0, decide_false]; rfl)⟩ | exact .inr ⟨rfl, (by simp only [St.ev, ↓Tr.get_set, ↓reduceIte, Nat.reduceEqDiff, natA, h0, t0, decide_false]; rfl)⟩)) | refine pN ?_ | refine pX ?_ | refine bX ?_ | (apply W.condF'; (· (simp only [St.ev, ↓Tr.get_set, ↓reduceIte, Nat.reduceEqDiff, natA, h0, t0, decide_false]; rfl)); (· rfl)) | fail)
      exact ⟨fun id q => (by cases q), _, by simp only [resL, resA, Tr.get_set, get_bump, next_bump, next_set, next_add, AHeap.get_set, reduceIte, Nat.reduceEqDiff, t0] <;> rfl, (by rw [← te, trimL_snoc, if_neg h0]; exact tm.same ((Same.bump _ _).trans (Same.bump _ _))), ts.trans ((Same.bump _ _).trans (Same.bump _ _))⟩
end Go.Proofs.YtfcgofffalmdfaaGreatDoor.PA
namespace Go.Proofs.YtfcgofffalmdfaaGreatDoor.PA
open Go Go.Eng
theorem MagL.one {H : AHeap} {v : AV} {l : List Nat} (h : MagL H v l) : v.oneCell = true := by
  rcases h with ⟨rfl, rfl⟩ | ⟨i, cap, full, opn, rfl, _⟩ <;> rfl
theorem made_ok {cf : CF} {fuel : Nat} {H : AHeap} {v : AV} {l : List Nat} (hv : MagL H v l) :
    ∃ v' H', xfunc cf fuel L95 [.bool false, v] H = some (v', H') ∧ v' = .agg [.bool false, v] ∧ Same H H' := by
  refine xfunc_of rfl (by show 2 ≤ 13; omega) ?_
  have a0 : (argsT [.bool false, v] 0 .e).get 0 = some (.bool false) := rfl
  have a1 : (argsT [.bool false, v] 0 .e).get 1 = some v := rfl
  generalize argsT [.bool false, v] 0 .e = tm at a0 a1
  unfold L95
  dsimp only
  refine W.seq ?_
  refine W.reg 1 rfl ?_
  refine WO.alloc fun H2 g2 k2 n2 => ?_
  repeat (first | refine W.seq ?_ | (apply W.reg; · (simp only [List.length_cons, List.length_nil, Nat.reduceAdd]; rfl)) | refine WO.nil ?_ | (apply WO.op; · first | exact op_mv (by simp only [St.ev, ↓Tr.get_set, ↓reduceIte, Nat.reduceEqDiff, natA, a0, a1]; rfl) | exact op_pick (by simp only [St.ev, ↓Tr.get_set, ↓reduceIte, Nat.reduceEqDiff, natA, a0, a1]; rfl) (by first | exact .inl ⟨rfl, (by simp only [St.ev, ↓Tr.get_set, ↓reduceIte, Nat.reduceEqDiff, natA, a0, a1]; rfl)⟩ | exact .inr ⟨rfl, (by simp only [St.ev, ↓Tr.get_set, ↓reduceIte, Nat.reduceEqDiff, natA, a0, a1]; rfl)⟩)) | (apply WO.gno'; (· (simp only [St.ev, ↓Tr.get_set, ↓reduceIte, Nat.reduceEqDiff, natA, a0, a1]; rfl)); (· rfl)) | refine pN ?_ | fail)
  refine WO.op (v := .agg [.bool false, v]) (H1 := H2.bump 9) (by rcases hv with ⟨rfl, rfl⟩ | ⟨i, cap, full, opn, rfl, _⟩ <;> simp only [xval, xop, AR.ofV, St.ev, Tr.get_set, get_bump, next_bump, next_set, next_add, AHeap.get_set, reduceIte, Nat.reduceEqDiff, evL, evParts, fillA, AV.cells, natA, binA, intCmpA, unA, minA, maxA, a0, a1] <;> rfl) ?_
  refine WO.store (v := .agg [.bool false, v]) (i := H.next) (o := 0) (c := [.bool false, .nils]) (opn := none) (by simp only [St.ev, ↓Tr.get_set, ↓reduceIte, Nat.reduceEqDiff]) (by simp only [St.ev, ↓Tr.get_set, ↓reduceIte, Nat.reduceEqDiff]) (by simp only [get_bump]; exact g2) (by rfl) (by simp only [AV.cells, List.all_cons, List.all_nil, hv.one, Bool.and_true]; rfl) (by decide) (fun H3 g3 k3 n3 => ?_)
  repeat (first | refine W.ret ?_ | refine WO.nil ?_ | refine pN ?_ | fail)
  have s2 : Same H H2 := ⟨by rw [n2]; exact Nat.le_add_right _ _, fun j hj => (k2 j (by omega)).trans rfl⟩
  have s3 : Same H H3 := ⟨by rw [n3]; exact Nat.le_trans s2.1 (Nat.le_add_right _ _), fun j hj => (k3 j (by omega)).trans (s2.2 j hj)⟩
  exact ⟨fun id q => (by cases q), [.agg [.bool false, v]], by simp only [resL, resA, Tr.get_set, get_bump, next_bump, next_set, next_add, AHeap.get_set, reduceIte, Nat.reduceEqDiff, Option.bind_some, loadA, cellsAt, g3] <;> rfl, rfl, s3⟩
end Go.Proofs.YtfcgofffalmdfaaGreatDoor.PA
namespace Go.Proofs.YtfcgofffalmdfaaGreatDoor.PA
open Go Go.Eng
def IsInt (H : AHeap) (v : AV) (n : Nat) : Prop := ∃ m, v = .agg [.bool false, m] ∧ Mag H m n
theorem IsInt.same {H H' : AHeap} {v : AV} {n : Nat} (h : IsInt H v n) (s : Same H H') : IsInt H' v n := by
  obtain ⟨m, h1, h2⟩ := h
  exact ⟨m, h1, MagL.same h2 s⟩
theorem limbs2 {n : Nat} (h : n < B64) : trimL [n % B32, n / B32] = limbs n := by
  have e1 : B32 = 4294967296 := rfl
  have e2 : B64 = 18446744073709551616 := rfl
  rw [trimL_eq]
  · congr 1
    simp only [valL]
    have := Nat.mod_add_div n B32
    omega
  · intro x hx
    simp only [List.mem_cons, List.mem_nil_iff, or_false, List.not_mem_nil] at hx
    rcases hx with rfl | rfl
    · exact Nat.mod_lt _ (by decide)
    · exact (Nat.div_lt_iff_lt_mul (by decide)).2 (by rw [e1]; omega)
theorem op_two {cf : CF} {n a b : Nat} {H : AHeap} {ev : XO → Option AV} {x y : XO} (hx : ev x = some (u32 a)) (hy : ev y = some (u32 b)) :
    xval cf ev H n (.bslice [.int .u32 (.ofNat 0)] [(0, 1, x), (1, 1, y)] 2) = some (.sl n 0 2 2, H.set n (some (.cells [u32 a, u32 b] none))) := by
  simp only [xval, xop, evParts, hx, hy, u32_int]
  rfl
theorem MagL.two {H : AHeap} {i a b : Nat} (h : H.get i = some (.cells [u32 a, u32 b] none)) (hi : i < H.next) : MagL H (.sl i 0 2 2) [a, b] :=
  .inr ⟨i, 2, _, _, rfl, Nat.le_refl _, by decide, h, rfl, Nat.le_refl _, hi⟩
theorem op_ci64 {cf : CF} {n a : Nat} {H : AHeap} {ev : XO → Option AV} {x : XO} (ha : a < B64) (hx : ev x = some (.int .i64 (a : Int))) : xval cf ev H n (.conv .u64 x) = some (u64 a, H) := by
  simp only [xval, xop, hx, AR.ofV, u64_int, wrap64 ha]
end Go.Proofs.YtfcgofffalmdfaaGreatDoor.PA
namespace Go.Proofs.YtfcgofffalmdfaaGreatDoor.PA
open Go Go.Eng
theorem MagL.upd {H H' : AHeap} {v : AV} {l : List Nat} {k : Nat} {c c' : List AV} {opn opn' : Option Nat} (h : MagL H v l) (hk : H.get k = some (.cells c opn)) (hc : ∀ x, c[0]? ≠ some (u32 x)) (hk' : H'.get k = some (.cells c' opn')) (hj : ∀ j, j ≠ k → H'.get j = H.get j) (hn : H.next ≤ H'.next) : MagL H' v l := by
  rcases h with h | ⟨i, cap, full, op, h1, h2, h3, h4, h5, h6, h7⟩
  · exact .inl h
  · by_cases e : i = k
    · subst e
      rw [hk] at h4
      cases h4
      cases l with
      | nil => exact .inr ⟨i, cap, c', opn', h1, h2, h3, hk', rfl, Nat.zero_le _, by omega⟩
      | cons x l =>
        exfalso
        have : (c.take (x :: l).length)[0]? = some (u32 x) := by rw [h5]; rfl
        rw [List.getElem?_take, if_pos (by simp)] at this
        exact hc x this
    · exact .inr ⟨i, cap, full, op, h1, h2, h3, (hj i e).trans h4, h5, h6, by omega⟩
theorem Of_ok {cf : CF} {fuel : Nat} {H : AHeap} {n : Nat} (hn : n < 4611686018427387904)
    (hT : ∀ H v l, MagL H v l → l.length ≤ 2 → ∃ v' H', cf 96 [v] H = some (v', H') ∧ MagL H' v' (trimL l) ∧ Same H H')
    (hM : ∀ H v l, MagL H v l → ∃ H', cf 95 [.bool false, v] H = some (.agg [.bool false, v], H') ∧ Same H H') :
    ∃ v' H', xfunc cf fuel L59 [.int .i64 (n : Int)] H = some (v', H') ∧ IsInt H' v' n ∧ Same H H' := by
  refine xfunc_of rfl (by show 1 ≤ 20; omega) ?_
  have a0 : (argsT [.int .i64 (n : Int)] 0 .e).get 0 = some (.int .i64 (n : Int)) := rfl
  generalize argsT [.int .i64 (n : Int)] 0 .e = tm at a0
  have e2 : B64 = 18446744073709551616 := rfl
  have c : decide ((n : Int) < Int.ofNat 0) = false := by rw [Int.ofNat_eq_natCast, decide_eq_false_iff_not]; omega
  unfold L59
  dsimp only
  refine W.seq ?_
  refine W.reg 1 rfl ?_
  refine WO.alloc fun H2 g2 k2 n2 => ?_
  refine WO.nil (pN (W.seq ?_))
  refine W.reg 3 rfl ?_
  refine WO.op (op_mv (v := .int .i64 (n : Int)) (by simp only [St.ev, ↓Tr.get_set, ↓reduceIte, Nat.reduceEqDiff, a0])) ?_
  refine WO.op (op_ci64 (a := n) (by omega) (by simp only [St.ev, ↓Tr.get_set, ↓reduceIte, Nat.reduceEqDiff])) ?_
  refine WO.op (op_mv (v := u64 n) (by simp only [St.ev, ↓Tr.get_set, ↓reduceIte, Nat.reduceEqDiff])) ?_
  repeat (first | refine W.seq ?_ | refine W.skip ?_ | (apply W.reg; · (simp only [List.length_cons, List.length_nil, Nat.reduceAdd]; rfl)) | refine WO.nil ?_ | (apply WO.op; · first | exact op_mv (by simp only [St.ev, ↓Tr.get_set, ↓reduceIte, Nat.reduceEqDiff, natA, a0, c]; rfl) | exact op_bin (by simp only [St.ev, ↓Tr.get_set, ↓reduceIte, Nat.reduceEqDiff, natA, a0, c]; rfl) (by simp only [St.ev, ↓Tr.get_set, ↓reduceIte, Nat.reduceEqDiff, natA, a0, c]; rfl) (by simp only [binA, intCmpA, strA, natA, a0, c]; rfl)) | refine pN ?_ | (apply W.condF'; (· (simp only [St.ev, ↓Tr.get_set, ↓reduceIte, Nat.reduceEqDiff, natA, a0, c]; rfl)); (· rfl)) | fail)
  refine WO.op (op_c32 (a := n) (by simp only [St.ev, ↓Tr.get_set, ↓reduceIte, Nat.reduceEqDiff])) ?_
  repeat (first | (apply WO.op; · first | exact op_mv (by simp only [St.ev, ↓Tr.get_set, ↓reduceIte, Nat.reduceEqDiff, natA, a0, c]; rfl)) | fail)
  refine WO.op (op_shr32 (a := n) (by simp only [St.ev, ↓Tr.get_set, ↓reduceIte, Nat.reduceEqDiff]) (by simp only [St.ev, ↓Tr.get_set, ↓reduceIte, Nat.reduceEqDiff])) ?_
  refine WO.op (op_c32 (a := n / B32) (by simp only [St.ev, ↓Tr.get_set, ↓reduceIte, Nat.reduceEqDiff])) ?_
  refine WO.op (op_two (a := n % B32) (b := n / B32 % B32) (by simp only [St.ev, ↓Tr.get_set, ↓reduceIte, Nat.reduceEqDiff]) (by simp only [St.ev, ↓Tr.get_set, ↓reduceIte, Nat.reduceEqDiff])) ?_
  have m3 := MagL.two (H := (((H2.bump 3).bump 2).bump 11).set (((H2.bump 3).bump 2).next + 1 + 1 + 1 + 1 + 1 + 1 + 1) (some (.cells [u32 (n % B32), u32 (n / B32 % B32)] none))) (i := ((H2.bump 3).bump 2).next + 1 + 1 + 1 + 1 + 1 + 1 + 1) (a := n % B32) (b := n / B32 % B32) (by rw [AHeap.get_set, if_pos rfl]) (by simp only [next_set, next_bump]; omega)
  have s2 : Same H H2 := ⟨by rw [n2]; exact Nat.le_add_right _ _, fun j hj => (k2 j (by omega)).trans rfl⟩
  have s3 : Same H2 ((((H2.bump 3).bump 2).bump 11).set (((H2.bump 3).bump 2).next + 1 + 1 + 1 + 1 + 1 + 1 + 1) (some (.cells [u32 (n % B32), u32 (n / B32 % B32)] none))) := ((Same.bump _ _).trans ((Same.bump _ _).trans (Same.bump _ _))).set (by simp only [next_bump]; omega) _
  obtain ⟨w1, H4, h4, m4, s4⟩ := hT _ _ _ m3 (by simp)
  refine WO.op (op_call (cs := []) (v := w1) (H1 := H4) (by rfl) (evL1 (by simp only [St.ev, ↓Tr.get_set, ↓reduceIte, Nat.reduceEqDiff])) h4) ?_
  obtain ⟨H5, h5, s5⟩ := hM _ _ _ m4
  refine WO.op (op_call (cs := []) (l := [.bool false, w1]) (H1 := H5) (by rfl) (evL2 (by simp only [St.ev, ↓Tr.get_set, ↓reduceIte, Nat.reduceEqDiff]) (by simp only [St.ev, ↓Tr.get_set, ↓reduceIte, Nat.reduceEqDiff])) h5) ?_
  have hlt : H.next < H2.next := by rw [n2]; exact Nat.lt_succ_self _
  have s25 := (s3.trans s4).trans s5
  have g5 : H5.get H.next = some (.cells [.bool false, .nils] none) := (s25.2 _ hlt).trans g2
  refine WO.store (v := .agg [.bool false, w1]) (i := H.next) (o := 0) (c := [.bool false, .nils]) (opn := none) (by simp only [St.ev, ↓Tr.get_set, ↓reduceIte, Nat.reduceEqDiff]) (by simp only [St.ev, ↓Tr.get_set, ↓reduceIte, Nat.reduceEqDiff]) g5 (by rfl) (by simp only [AV.cells, List.all_cons, List.all_nil, m4.one, Bool.and_true]; rfl) (by decide) (fun H6 g6 k6 n6 => ?_)
  repeat (first | refine W.ret ?_ | refine WO.nil ?_ | refine pN ?_ | fail)
  have m6 : MagL H6 w1 (trimL [n % B32, n / B32 % B32]) := (m4.same s5).upd g5 (fun x hx => by rw [u32_int] at hx; simp at hx) g6 k6 (by rw [n6]; exact Nat.le_refl _)
  rw [show n / B32 % B32 = n / B32 from Nat.mod_eq_of_lt ((Nat.div_lt_iff_lt_mul (by decide)).2 (by rw [show B32 = 4294967296 from rfl]; omega)), limbs2 (by omega)] at m6
  exact ⟨fun id q => (by cases q), [.agg [.bool false, w1]], by simp only [resL, resA, Tr.get_set, get_bump, next_bump, next_set, next_add, AHeap.get_set, reduceIte, Nat.reduceEqDiff, Option.bind_some, loadA, cellsAt, g6] <;> rfl, ⟨w1, rfl, m6⟩, ⟨by rw [n6]; exact Nat.le_trans s2.1 s25.1, fun j hj => (k6 j (by omega)).trans ((s2.trans s25).2 j hj)⟩⟩
end Go.Proofs.YtfcgofffalmdfaaGreatDoor.PA
namespace Go.Eng
variable {P : Program}
inductive Fz (H H'' : AHeap) (N : Nat → Prop) : AV → AV → Prop
  | bool (b) : Fz H H'' N (.bool b) (.bool b)
  | int (k n) : Fz H H'' N (.int k n) (.int k n)
  | str (s) : Fz H H'' N (.str s) (.str s)
  | nilp : Fz H H'' N .nilp .nilp
  | nils : Fz H H'' N .nils .nils
  | nilm : Fz H H'' N .nilm .nilm
  | nilf : Fz H H'' N .nilf .nilf
  | nili : Fz H H'' N .nili .nili
  | glob (g o) : Fz H H'' N (.glob g o) (.glob g o)
  | ptr {i o} (h : N i) : Fz H H'' N (.ptr i o) (.ptr i o)
  | sl {i o l c} (h : N i) : Fz H H'' N (.sl i o l c) (.sl i o l c)
  | map {i} (h : N i) : Fz H H'' N (.map i) (.map i)
  | fn {f} {l m : List AV} (hl : m.length = l.length) (h : ∀ (j : Nat) (x y : AV), l[j]? = some x → m[j]? = some y → Fz H H'' N x y) : Fz H H'' N (.fn f l) (.fn f m)
  | ifc {t x y} (h : Fz H H'' N x y) : Fz H H'' N (.ifc t x) (.ifc t y)
  | agg {l m : List AV} (hl : m.length = l.length) (h : ∀ (j : Nat) (x y : AV), l[j]? = some x → m[j]? = some y → Fz H H'' N x y) : Fz H H'' N (.agg l) (.agg m)
  | tup {l m : List AV} (hl : m.length = l.length) (h : ∀ (j : Nat) (x y : AV), l[j]? = some x → m[j]? = some y → Fz H H'' N x y) : Fz H H'' N (.tup l) (.tup m)
  | imm {l m : List AV} {n : Nat} {full : Bool} (hl : m.length = l.length) (h : ∀ (j : Nat) (x y : AV), l[j]? = some x → m[j]? = some y → Fz H H'' N x y) : Fz H H'' N (.imm l n full) (.imm m n full)
  | iptr {l m : List AV} {o} (hl : m.length = l.length) (h : ∀ (j : Nat) (x y : AV), l[j]? = some x → m[j]? = some y → Fz H H'' N x y) : Fz H H'' N (.iptr l o) (.iptr m o)
  | fsl {i o l c k : Nat} {cs : List AV} {opn : Option Nat} {ds : List AV} (hn : H''.get i = none) (hg : H.get i = some (.cells cs opn)) (hl : ds.length = ((cs.drop o).take k).length) (h : ∀ (j : Nat) (x y : AV), ((cs.drop o).take k)[j]? = some x → ds[j]? = some y → Fz H H'' N x y) (h0 : l = 0 → ds = []) :
      Fz H H'' N (.sl i o l c) (.imm ds l false)
  | fnil : Fz H H'' N .nils (.imm [] 0 false)
theorem AVRelL.fz {E E' : Env} {w w' : World} {l m : List AV} {us : List Value} (hr : AVRelL E w l us) (hl : m.length = l.length) (h : ∀ (j : Nat) (x y : AV), l[j]? = some x → m[j]? = some y → ∀ u, AVRel E w x u → AVRel E' w' y u) : AVRelL E' w' m us := by
  refine AVRelL.of_get (hr.length.trans hl.symm) fun j y u hj hu => ?_
  cases hx : l[j]? with
  | none =>
    have h1 : l.length ≤ j := List.getElem?_eq_none_iff.1 hx
    rw [List.getElem?_eq_none (by omega)] at hj
    cases hj
  | some x =>
    obtain ⟨u', h1, h2⟩ := hr.get hx
    rw [hu] at h1
    cases h1
    exact h j x y hx hj u h2
theorem Fz.sound {E E'' : Env} {w : World} {H H'' : AHeap} {N : Nat → Prop} (hR : Rel E H w) (hρ : ∀ i L, N i → E.ρ i = some L → E''.ρ i = some L) (hI : ∀ b, E.I b → E''.I b)
    (hF : ∀ i o L, H''.get i = none → H.get i = some o → E.ρ i = some L → E''.I L.b) : ∀ {v v' : AV}, Fz H H'' N v v' → ∀ u, AVRel E w v u → AVRel E'' w v' u := by
  intro v v' h
  induction h with
  | bool b => intro u h; simpa [AVRel] using h
  | int k n => intro u h; simpa [AVRel] using h
  | str s => intro u h; simpa [AVRel] using h
  | nilp => intro u h; simpa [AVRel] using h
  | nils => intro u h; simpa [AVRel] using h
  | nilm => intro u h; simpa [AVRel] using h
  | nilf => intro u h; simpa [AVRel] using h
  | nili => intro u h; simpa [AVRel] using h
  | glob g o => intro u h; simpa [AVRel] using h
  | ptr hn =>
    intro u h
    simp only [AVRel] at h ⊢
    obtain ⟨L, h1, h2⟩ := h
    exact ⟨L, hρ _ _ hn h1, h2⟩
  | sl hn =>
    intro u h
    simp only [AVRel] at h ⊢
    obtain ⟨L, a, c, h1, h2⟩ := h
    exact ⟨L, a, c, hρ _ _ hn h1, h2⟩
  | map hn =>
    intro u h
    simp only [AVRel] at h ⊢
    obtain ⟨L, h1, h2⟩ := h
    exact ⟨L, hρ _ _ hn h1, h2⟩
  | fn hl _ ih =>
    intro u h
    simp only [AVRel] at h ⊢
    obtain ⟨us, h1, h2⟩ := h
    exact ⟨us, h1, h2.fz hl ih⟩
  | ifc _ ih =>
    intro u h
    simp only [AVRel] at h ⊢
    obtain ⟨us, h1, h2⟩ := h
    exact ⟨us, h1, ih _ h2⟩
  | agg hl _ ih =>
    intro u h
    simp only [AVRel] at h ⊢
    obtain ⟨us, h1, h2⟩ := h
    exact ⟨us, h1, h2.fz hl ih⟩
  | tup hl _ ih =>
    intro u h
    simp only [AVRel] at h ⊢
    obtain ⟨us, h1, h2⟩ := h
    exact ⟨us, h1, h2.fz hl ih⟩
  | imm hl _ ih =>
    intro u h
    simp only [AVRel] at h ⊢
    rcases h with ⟨h1, h2, h3⟩ | ⟨b, s, c, us, h1, h2, h3, h4, h5⟩
    · subst h2
      exact .inl ⟨h1, List.eq_nil_of_length_eq_zero hl, h3⟩
    · exact .inr ⟨b, s, c, us, h1, hI _ h2, h3, h4.fz hl ih, h5⟩
  | iptr hl _ ih =>
    intro u h
    simp only [AVRel] at h ⊢
    obtain ⟨b, s, us, h1, h2, h3, h4⟩ := h
    exact ⟨b, s, us, h1, hI _ h2, h3, h4.fz hl ih⟩
  | @fsl i o l c k cs opn ds hn hg hl _ h0 ih =>
    intro u h
    obtain ⟨L, ad, c', C, t, fz, us, hρ', rfl, hsl, hlc, hb, hr, hcell, _⟩ := row_sound hR h hg
    simp only [AVRel]
    by_cases q : l = 0
    · exact .inl ⟨q, h0 q, some ad, c', by rw [q], fun q => by cases q⟩
    · obtain rfl := hsl.addr hlc q
      refine .inr ⟨L.b, L.s + o, c', (us.drop o).take k, rfl, hF i _ L hn hg hρ', fun j x hj => ?_, ((hr.drop o).take k).fz hl ih, hlc, fun q => by cases q⟩
      rw [List.getElem?_take] at hj
      split at hj
      · rw [List.getElem?_drop] at hj
        have := hcell _ x hj
        simp only [World.cell?, hb]
        rw [show L.s + o + j = L.s + (o + j) by omega]
        exact this
      · cases hj
  | fnil =>
    intro u h
    simp only [AVRel] at h ⊢
    exact .inl ⟨trivial, trivial, none, 0, h, fun q => by cases q⟩
mutual
def AV.froz : AV → Bool
  | .bool _ | .int _ _ | .str _ | .nilp | .nils | .nilm | .nilf | .nili | .glob _ _ => true
  | .agg l | .tup l | .fn _ l | .imm l _ _ | .iptr l _ => AV.frozL l
  | .ifc _ x => x.froz
  | _ => false
def AV.frozL : List AV → Bool
  | [] => true
  | x :: r => x.froz && AV.frozL r
end
theorem frozL_iff : ∀ {l : List AV}, AV.frozL l = true ↔ ∀ x ∈ l, x.froz = true
  | [] => by simp [AV.frozL]
  | x :: l => by simp [AV.frozL, frozL_iff (l := l)]
mutual
theorem Fz.froz {H H'' : AHeap} {N : Nat → Prop} : ∀ {v : AV}, v.froz = true → Fz H H'' N v v
  | .bool _, _ => .bool _
  | .int _ _, _ => .int _ _
  | .str _, _ => .str _
  | .nilp, _ => .nilp
  | .nils, _ => .nils
  | .nilm, _ => .nilm
  | .nilf, _ => .nilf
  | .nili, _ => .nili
  | .glob _ _, _ => .glob _ _
  | .agg l, h => .agg rfl (fun j x y hx hy => by rw [hx] at hy; cases hy; exact Fz.frozL (by simpa [AV.froz] using h) j x hx)
  | .tup l, h => .tup rfl (fun j x y hx hy => by rw [hx] at hy; cases hy; exact Fz.frozL (by simpa [AV.froz] using h) j x hx)
  | .fn _ l, h => .fn rfl (fun j x y hx hy => by rw [hx] at hy; cases hy; exact Fz.frozL (by simpa [AV.froz] using h) j x hx)
  | .imm l _ _, h => .imm rfl (fun j x y hx hy => by rw [hx] at hy; cases hy; exact Fz.frozL (by simpa [AV.froz] using h) j x hx)
  | .iptr l _, h => .iptr rfl (fun j x y hx hy => by rw [hx] at hy; cases hy; exact Fz.frozL (by simpa [AV.froz] using h) j x hx)
  | .ifc _ x, h => .ifc (Fz.froz (by simpa [AV.froz] using h))
  | .ptr _ _, h => by simp [AV.froz] at h
  | .sl _ _ _ _, h => by simp [AV.froz] at h
  | .map _, h => by simp [AV.froz] at h
theorem Fz.frozL {H H'' : AHeap} {N : Nat → Prop} : ∀ {l : List AV}, AV.frozL l = true → ∀ (j : Nat) (x : AV), l[j]? = some x → Fz H H'' N x x
  | [], _, j, x, hx => by simp at hx
  | y :: l, h, j, x, hx => by
    simp only [AV.frozL, Bool.and_eq_true] at h
    cases j with
    | zero => simp at hx; subst hx; exact Fz.froz h.1
    | succ j => exact Fz.frozL h.2 j x (by simpa using hx)
end
theorem FzL.froz {H H'' : AHeap} {N : Nat → Prop} {l : List AV} (h : AV.frozL l = true) : ∀ (j : Nat) (x y : AV), l[j]? = some x → l[j]? = some y → Fz H H'' N x y :=
  fun j x y hx hy => by rw [hx] at hy; cases hy; exact Fz.frozL h j x hx
theorem CallOK.pure {f : Nat} {args : List AV} {v v' : AV} {H H1 : AHeap} (h : CallOK P f args ⟨.e, 0⟩ v H1) (ha : AV.frozL args = true) (hv : Fz H1 ⟨.e, 0⟩ (fun _ => False) v v') : CallOK P f args H v' H := by
  refine ⟨h.1, fun E w us hR hus => ?_⟩
  have hR1 : Rel ⟨fun _ => none, E.I, fun _ => none⟩ ⟨.e, 0⟩ w := ⟨fun i L q => (by cases q), hR.imm, fun i o q => (by simp [AHeap.get, Tr.get] at q), fun i j o o' L L' q => (by simp [AHeap.get, Tr.get] at q)⟩
  have hR0 : Rel ⟨fun _ => none, E.I, fun _ => none⟩ ⟨.e, 0⟩ w := hR1
  have hus1 : AVRelL ⟨fun _ => none, E.I, fun _ => none⟩ w args us := by
    refine hus.fz rfl fun j x y hx hy u hu => ?_
    have hz : Fz H ⟨.e, 0⟩ (fun _ => False) x y := FzL.froz ha j x y hx hy
    rw [hx] at hy
    cases hy
    have hz' : Fz ⟨.e, 0⟩ ⟨.e, 0⟩ (fun _ => False) x x := Fz.frozL ha j x hx
    have hRe : Rel ⟨fun _ => none, E.I, fun _ => none⟩ ⟨.e, 0⟩ w := hR1
    have hRE : Rel ⟨E.ρ, E.I, E.lk⟩ H w := hR
    exact (Fz.sound (E := E) (E'' := ⟨fun _ => none, E.I, fun _ => none⟩) (H := H) (H'' := H) (N := fun _ => False) hR (fun _ _ q => q.elim) (fun _ q => q) (fun i o L q q2 _ => by rw [q] at q2; cases q2) (Fz.frozL ha j x hx) u hu)
  refine (h.2 _ w us hR1 hus1).mono ?_
  rintro e w' ⟨u, E', rfl, hs, hvr⟩
  have hblk : ∀ b, b < w.heap.size → w'.heap[b]? = w.heap[b]? := fun b hb => hs.fr.block b hb (fun i o L q => by simp [AHeap.get, Tr.get] at q)
  have hsz := hs.fr.size
  have hnew : ∀ i o L, H1.get i = some o → E'.ρ i = some L → w.heap.size ≤ L.b := fun i o L q1 q2 => by
    rcases hs.nb i o L q1 q2 with q | ⟨j, o', L', q, _⟩
    · exact q
    · simp [AHeap.get, Tr.get] at q
  have hext : Env.Ext E ⟨E.ρ, fun b => E.I b ∨ (w.heap.size ≤ b ∧ b < w'.heap.size), E.lk⟩ w w' := ⟨fun _ _ q => q, fun _ q => .inl q, fun b q => hblk b (hR.imm b q), fun _ _ _ q => q⟩
  refine ⟨u, ⟨E.ρ, fun b => E.I b ∨ (w.heap.size ≤ b ∧ b < w'.heap.size), E.lk⟩, rfl, ⟨hext, ⟨fun i L q => ?_, fun b q => ?_, fun i o q => ?_, hR.inj⟩, ⟨hs.fr.os, hs.fr.tape, hs.fr.output, hsz, fun b hb _ => hblk b hb⟩, fun i o L q q2 => .inr ⟨i, o, L, q, q2, rfl⟩, Nat.le_refl _, fun i L q => .inl q, fun b q => q.imp id (fun q => .inl q.1)⟩, ?_⟩
  · have := hR.dom i L q
    exact ⟨this.1, by omega⟩
  · rcases q with q | q
    · have := hR.imm b q
      omega
    · exact q.2
  · obtain ⟨L, q1, q2, q3⟩ := hR.obj i o q
    have hlt := (hR.dom i L q1).2
    refine ⟨L, q1, ObjR.mono hext (hblk _ hlt) q2, fun q4 => ?_⟩
    rcases q4 with q4 | q4
    · exact q3 q4
    · omega
  · refine Fz.sound hs.rel (fun _ _ q => q.elim) (fun b q => ?_) (fun i o L _ q1 q2 => Or.inr ⟨hnew i o L q1 q2, (hs.rel.dom i L q2).2⟩) hv u hvr
    have hlt := hs.rel.imm b q
    rcases hs.imm b q with q | q | ⟨j, o, L, q, _⟩
    · exact .inl q
    · exact .inr ⟨q, hlt⟩
    · simp [AHeap.get, Tr.get] at q
theorem perm_lift {α β : Type} {f : α → β} : ∀ {l m : List β}, l.Perm m → ∀ zs : List α, zs.map f = m → ∃ zs0 : List α, zs0.Perm zs ∧ zs0.map f = l := by
  intro l m h
  induction h with
  | nil => intro zs hz; exact ⟨zs, .refl _, hz⟩
  | cons x _ ih =>
    intro zs hz
    match zs, hz with
    | z :: zs, hz =>
      simp only [List.map_cons, List.cons.injEq] at hz
      obtain ⟨zs0, h1, h2⟩ := ih zs hz.2
      exact ⟨z :: zs0, h1.cons z, by rw [List.map_cons, h2, hz.1]⟩
  | swap x y l =>
    intro zs hz
    match zs, hz with
    | z1 :: z2 :: zs, hz =>
      simp only [List.map_cons, List.cons.injEq] at hz
      exact ⟨z2 :: z1 :: zs, .swap _ _ _, by simp [hz.1, hz.2.1, hz.2.2]⟩
  | trans _ _ ih1 ih2 =>
    intro zs hz
    obtain ⟨z1, h1, h2⟩ := ih2 zs hz
    obtain ⟨z0, h3, h4⟩ := ih1 z1 h2
    exact ⟨z0, h3.trans h1, h4⟩
inductive FzO (H H'' : AHeap) (N : Nat → Prop) : AObj → AObj → Prop
  | cells {l m : List AV} {opn} (hl : m.length = l.length) (h : ∀ (j : Nat) (x y : AV), l[j]? = some x → m[j]? = some y → Fz H H'' N x y) : FzO H H'' N (.cells l opn) (.cells m opn)
  | same {o : AObj} (h : ∀ i, N i) : FzO H H'' N o o
  | map {es : List ((AV × AV) × AV)} (h : ∀ e ∈ es, Fz H H'' N e.1.1 e.1.1 ∧ Fz H H'' N e.1.2 e.2) : FzO H H'' N (.map (es.map (·.1))) (.map (es.map fun e => (e.1.1, e.2)))
theorem EntR.fz {E E' : Env} {w w' : World} : ∀ {es : List ((AV × AV) × AV)} {rows : List MapEntry}, (∀ e ∈ es, (∀ u, AVRel E w e.1.1 u → AVRel E' w' e.1.1 u) ∧ (∀ u, AVRel E w e.1.2 u → AVRel E' w' e.2 u)) → EntR E w (es.map (·.1)) rows → EntR E' w' (es.map fun e => (e.1.1, e.2)) rows
  | [], rows, _, h => by simpa [EntR] using h
  | ((k, v), v') :: es, rows, hh, h => by
    simp only [List.map_cons, EntR] at h ⊢
    obtain ⟨e, es', rfl, h1, h2, h3⟩ := h
    have := hh _ (List.mem_cons_self ..)
    exact ⟨e, es', rfl, this.1 _ h1, this.2 _ h2, EntR.fz (fun e he => hh e (List.mem_cons_of_mem _ he)) h3⟩
mutual
theorem Fz.all {H H'' : AHeap} {N : Nat → Prop} (hN : ∀ i, N i) : ∀ (v : AV), Fz H H'' N v v
  | .bool _ => .bool _
  | .int _ _ => .int _ _
  | .str _ => .str _
  | .nilp => .nilp
  | .nils => .nils
  | .nilm => .nilm
  | .nilf => .nilf
  | .nili => .nili
  | .glob _ _ => .glob _ _
  | .agg l => .agg rfl (fun j x y hx hy => by rw [hx] at hy; cases hy; exact Fz.allL hN l j x hx)
  | .tup l => .tup rfl (fun j x y hx hy => by rw [hx] at hy; cases hy; exact Fz.allL hN l j x hx)
  | .fn _ l => .fn rfl (fun j x y hx hy => by rw [hx] at hy; cases hy; exact Fz.allL hN l j x hx)
  | .imm l _ _ => .imm rfl (fun j x y hx hy => by rw [hx] at hy; cases hy; exact Fz.allL hN l j x hx)
  | .iptr l _ => .iptr rfl (fun j x y hx hy => by rw [hx] at hy; cases hy; exact Fz.allL hN l j x hx)
  | .ifc _ x => .ifc (Fz.all hN x)
  | .ptr _ _ => .ptr (hN _)
  | .sl _ _ _ _ => .sl (hN _)
  | .map _ => .map (hN _)
theorem Fz.allL {H H'' : AHeap} {N : Nat → Prop} (hN : ∀ i, N i) : ∀ (l : List AV) (j : Nat) (x : AV), l[j]? = some x → Fz H H'' N x x
  | [], j, x, hx => by simp at hx
  | y :: l, j, x, hx => by
    cases j with
    | zero => simp at hx; subst hx; exact Fz.all hN y
    | succ j => exact Fz.allL hN l j x (by simpa using hx)
end
theorem FzO.sound {E E'' : Env} {w : World} {H H'' : AHeap} {N : Nat → Prop} {L : Loc} (hρ : ∀ i L, N i → E.ρ i = some L → E''.ρ i = some L) (hlk : E''.lk = E.lk) (hv : ∀ {v v' : AV}, Fz H H'' N v v' → ∀ u, AVRel E w v u → AVRel E'' w v' u) {o o' : AObj} (h : FzO H H'' N o o') (hO : ObjR E w L o) : ObjR E'' w L o' := by
  have hmap : ∀ {es : List (AV × AV)} {rows : Array MapEntry} {clock : Nat}, (∀ i, N i) → MapR E w es rows clock → MapR E'' w es rows clock := by
    intro es rows clock hN ⟨es0, h2, h3, h4, h5⟩
    refine ⟨es0, ?_, h3, h4, h5⟩
    have := EntR.fz (E := E) (E' := E'') (w := w) (w' := w) (es := es0.map fun e => (e, e.2)) (rows := rows.toList) (fun e he => ⟨fun u hu => hv (Fz.all hN _) u hu, fun u hu => by
      obtain ⟨e0, _, rfl⟩ := List.mem_map.1 he
      exact hv (Fz.all hN _) u hu⟩) (by rw [List.map_map]; simpa [Function.comp_def] using h2)
    rw [List.map_map] at this
    simpa [Function.comp_def] using this
  cases h with
  | same hN =>
    cases o with
    | cells c opn =>
      obtain ⟨C, t, fz, us, h1, h2, h3⟩ := hO
      exact ⟨C, t, fz, us, h1, h2.fz rfl (fun j x y hx hy u hu => by rw [hx] at hy; cases hy; exact hv (Fz.all hN x) u hu), h3⟩
    | map es =>
      obtain ⟨rows, clock, h1, h2⟩ := hO
      exact ⟨rows, clock, h1, hmap hN h2⟩
    | lmap es t =>
      obtain ⟨rows, clock, h1, h2, h3, h4⟩ := hO
      refine ⟨rows, clock, h1, hmap hN h2, ?_, by rw [hlk]; exact h4⟩
      cases q : E.ρ t with
      | none => exact absurd q h3
      | some L => rw [hρ t L (hN t) q]; simp
  | cells hl h =>
    obtain ⟨C, t, fz, us, h1, h2, h3, h4, h5, h6⟩ := hO
    exact ⟨C, t, fz, us, h1, h2.fz hl (fun j x y hx hy u hu => hv (h j x y hx hy) u hu), h3, by rw [hl]; exact h4, by rw [hl]; exact h5, by rw [hl]; exact h6⟩
  | @map es h =>
    obtain ⟨rows, clock, h1, es0, h2, h3, h4, h5⟩ := hO
    obtain ⟨zs, q1, q2⟩ := perm_lift h3 es rfl
    refine ⟨rows, clock, h1, zs.map (fun e => (e.1.1, e.2)), ?_, q1.map _, ?_, h5⟩
    · refine EntR.fz (fun e he => ?_) (by rw [q2]; exact h2)
      have := h e (q1.mem_iff.1 he)
      exact ⟨hv this.1, hv this.2⟩
    · rw [List.pairwise_map] at h4 ⊢
      exact h4
theorem CallOK.freeze {f : Nat} {args : List AV} {v v' : AV} {H H' H'' : AHeap} {N : Nat → Prop} (h : CallOK P f args H v H') (hN : ∀ i, i < H.next → N i) (hnx : H.next ≤ H''.next) (hNn : ∀ i, N i → i < H'.next → i < H''.next) (hv : Fz H' H'' N v v')
    (ho : ∀ i o'', H''.get i = some o'' → N i ∧ ∃ o', H'.get i = some o' ∧ FzO H' H'' N o' o'') : CallOK P f args H v' H'' := by
  classical
  refine ⟨h.1, fun E w us hR hus => (h.2 E w us hR hus).mono ?_⟩
  rintro e w' ⟨u, E', rfl, hs, hvr⟩
  have hS : ∀ {x y : AV}, Fz H' H'' N x y → ∀ u, AVRel E' w' x u → AVRel ⟨fun i => if N i then E'.ρ i else none, fun b => E'.I b ∨ ∃ i o L, H''.get i = none ∧ H'.get i = some o ∧ E'.ρ i = some L ∧ L.b = b, E'.lk⟩ w' y u := by
    intro x y hxy
    exact Fz.sound hs.rel (fun i L q1 q2 => by simp only [q1, if_true]; exact q2) (fun b q => Or.inl q) (fun i o L q1 q2 q3 => Or.inr ⟨i, o, L, q1, q2, q3, rfl⟩) hxy
  refine ⟨u, ⟨fun i => if N i then E'.ρ i else none, fun b => E'.I b ∨ ∃ i o L, H''.get i = none ∧ H'.get i = some o ∧ E'.ρ i = some L ∧ L.b = b, E'.lk⟩, rfl, ⟨⟨fun i L q => ?_, fun b q => .inl (hs.ext.I b q), hs.ext.same, hs.ext.lk⟩, ⟨fun i L q => ?_, fun b q => ?_, fun i o'' q => ?_, fun i j o o' L L' q1 q2 q3 q4 q5 => ?_⟩, hs.fr, fun i o'' L q1 q2 => ?_, hnx, fun i L q => ?_, fun b q => ?_⟩, hS hv u hvr⟩
  · simp only [hN i (hR.dom i L q).1, if_true]
    exact hs.ext.ρ i L q
  · simp only at q
    split at q
    · rename_i hNi
      have := hs.rel.dom i L q
      exact ⟨hNn i hNi this.1, this.2⟩
    · cases q
  · rcases q with q | ⟨i, o, L, _, _, q2, rfl⟩
    · exact hs.rel.imm b q
    · exact (hs.rel.dom i L q2).2
  · obtain ⟨hNi, o', q1, q2⟩ := ho i o'' q
    obtain ⟨L, r1, r2, r3⟩ := hs.rel.obj i o' q1
    refine ⟨L, by simp only [hNi, if_true]; exact r1, FzO.sound (E := E') (E'' := ⟨fun i => if N i then E'.ρ i else none, fun b => E'.I b ∨ ∃ i o L, H''.get i = none ∧ H'.get i = some o ∧ E'.ρ i = some L ∧ L.b = b, E'.lk⟩) (fun i L n q => by simp only [n, if_true]; exact q) rfl hS q2 r2, fun q4 => ?_⟩
    rcases q4 with q4 | ⟨j, o, L2, s1, s2, s3, s4⟩
    · exact r3 q4
    · refine hs.rel.inj i j o' o L L2 q1 s2 r1 s3 (fun e => ?_) s4.symm
      subst e
      rw [q] at s1
      cases s1
  · obtain ⟨n1, o1, a1, _⟩ := ho i o q1
    obtain ⟨n2, o2, a2, _⟩ := ho j o' q2
    simp only [n1, if_true] at q3
    simp only [n2, if_true] at q4
    exact hs.rel.inj i j o1 o2 L L' a1 a2 q3 q4 q5
  · obtain ⟨n1, o1, a1, _⟩ := ho i o'' q1
    simp only [n1, if_true] at q2
    exact hs.nb i o1 L a1 q2
  · simp only at q
    split at q
    · exact hs.ids i L q
    · cases q
  · rcases q with q | ⟨i, o, L, _, q1, q2, rfl⟩
    · exact hs.imm b q
    · rcases hs.nb i o L q1 q2 with q | q
      · exact .inr (.inl q)
      · obtain ⟨j, o', L', s1, s2, s3⟩ := q
        exact .inr (.inr ⟨j, o', L', s1, s2, s3⟩)
end Go.Eng
namespace Go.Eng
mutual
theorem AV.beq_refl : ∀ v : AV, AV.beq v v = true
  | .bool a => by simp [AV.beq]
  | .int k a => by simp [AV.beq]
  | .str a => by simp [AV.beq]
  | .ptr a b => by simp [AV.beq]
  | .nilp => by simp [AV.beq]
  | .nils => by simp [AV.beq]
  | .nilm => by simp [AV.beq]
  | .nilf => by simp [AV.beq]
  | .nili => by simp [AV.beq]
  | .sl a b c d => by simp [AV.beq]
  | .map a => by simp [AV.beq]
  | .fn f l => by simp [AV.beq, AV.beqL_refl l]
  | .ifc t x => by simp [AV.beq, AV.beq_refl x]
  | .agg l => by simp [AV.beq, AV.beqL_refl l]
  | .tup l => by simp [AV.beq, AV.beqL_refl l]
  | .imm l a b => by simp [AV.beq, AV.beqL_refl l]
  | .iptr l a => by simp [AV.beq, AV.beqL_refl l]
  | .glob a b => by simp [AV.beq]
theorem AV.beqL_refl : ∀ l : List AV, AV.beqL l l = true
  | [] => by simp [AV.beqL]
  | x :: l => by simp [AV.beqL, AV.beq_refl x, AV.beqL_refl l]
end
def WC (cf : CF) (ops : List XOper) (n : Nat) (tm : Tr AV) (H : AHeap) (Q : St → Prop) : Prop :=
  ∃ tr, xtrace cf ops n ⟨tm, H⟩ = some tr ∧ (∀ t ∈ tr, t.H = H) ∧ ∃ s', tr.getLast? = some s' ∧ Q s'
section
variable {cf : CF} {n : Nat} {tm : Tr AV} {H : AHeap} {Q : St → Prop}
theorem WC.nil (h : Q ⟨tm, H⟩) : WC cf [] n tm H Q := ⟨_, rfl, by simp, _, rfl, h⟩
theorem WC.step {o : XOper} {r : List XOper} {tm1 : Tr AV} (h : xstep cf ⟨tm, H⟩ n o = some ⟨tm1, H⟩) (k : WC cf r (n + 1) tm1 H Q) : WC cf (o :: r) n tm H Q := by
  obtain ⟨tr, h1, h2, s', h3, h4⟩ := k
  refine ⟨⟨tm, H⟩ :: tr, by simp only [xtrace, h, h1, Option.map_some], fun t ht => ?_, s', by rw [List.getLast?_cons, h3]; rfl, h4⟩
  rcases List.mem_cons.1 ht with rfl | ht
  · rfl
  · exact h2 t ht
theorem WC.op {d : Nat} {op : XOp} {r : List XOper} {v : AV} (h : xval cf (St.ev tm) H n op = some (v, H)) (k : WC cf r (n + 1) (tm.set d (some v)) H Q) : WC cf (⟨some d, op, none⟩ :: r) n tm H Q :=
  WC.step (by simp only [xstep, wantedA, h, putT]) k
theorem WC.gop' {d : Nat} {op : XOp} {r : List XOper} {v u : AV} {g : Nat} {b : Bool} (hg : tm.get g = some u) (hu : u = .bool b) (h : xval cf (St.ev tm) H n op = some (v, H)) (k : WC cf r (n + 1) (tm.set d (some v)) H Q) : WC cf (⟨some d, op, some (g, b)⟩ :: r) n tm H Q :=
  WC.step (by subst hu; simp only [xstep, wantedA, hg, beq_self_eq_true, h, putT]) k
theorem WC.gno' {d : Nat} {op : XOp} {r : List XOper} {u : AV} {g : Nat} {b : Bool} (hg : tm.get g = some u) (hu : u = .bool (!b)) (k : WC cf r (n + 1) (tm.set d (some undefA)) H Q) : WC cf (⟨some d, op, some (g, b)⟩ :: r) n tm H Q :=
  WC.step (by subst hu; cases b <;> simp [xstep, wantedA, hg, putT]) k
theorem WC.named {ops : List XOper} (h : ∀ tX, tX = tm → WC cf ops n tX H Q) : WC cf ops n tm H Q := h tm rfl
theorem xtrace_len : ∀ (ops : List XOper) (n : Nat) (s : St) (tr : List St), xtrace cf ops n s = some tr → tr.length = ops.length + 1
  | [], _, _, tr, h => by cases h; rfl
  | o :: r, n, s, tr, h => by
    simp only [xtrace] at h
    split at h
    · rename_i s1 h1
      obtain ⟨tr1, h2, rfl⟩ := Option.map_eq_some_iff.1 h
      simp [xtrace_len r _ _ _ h2]
    · cases h
theorem xtrace_at : ∀ (ops : List XOper) (n : Nat) (s : St) (tr : List St), xtrace cf ops n s = some tr → ∀ i o, ops[i]? = some o → ∃ t t', tr[i]? = some t ∧ xstep cf t (n + i) o = some t'
  | [], _, _, tr, h, i, o, hi => by simp at hi
  | o :: r, n, s, tr, h, i, o', hi => by
    simp only [xtrace] at h
    split at h
    · rename_i s1 h1
      obtain ⟨tr1, h2, rfl⟩ := Option.map_eq_some_iff.1 h
      cases i with
      | zero => simp at hi; subst hi; exact ⟨s, s1, rfl, h1⟩
      | succ i =>
        obtain ⟨t, t', q1, q2⟩ := xtrace_at r _ _ _ h2 i o' (by simpa using hi)
        exact ⟨t, t', by simpa using q1, by rw [show n + (i + 1) = n + 1 + i by omega]; exact q2⟩
    · cases h
def looseB (ops : List XOper) (l : Nat × List Nat × List Nat) : Bool :=
  l.2.2.isEmpty && (l.1 :: (l.2.1 ++ l.2.1.map (· + 1))).all (fun i => Nat.ble i ops.length) && (match ops[l.1]? with | some ⟨_, .load _ _, _⟩ => true | _ => false)
theorem W.regC {fuel : Nat} {ops : List XOper} {lo : List (Nat × List Nat × List Nat)} {Q : XE → St → Prop} (k : Nat) (hk : ops.length = k) (hlo : lo.all (looseB ops) = true) (h : ∀ H1 : AHeap, (∀ j, H1.get j = H.get j) → H1.next = H.next + k → WC cf ops H.next tm H1 (Q .normal)) : W cf fuel (.regd ops lo []) ⟨tm, H⟩ Q := by
  refine W.regd k hk ?_
  obtain ⟨tr, h1, h2, s', h3, h4⟩ := h (H.bump k) (fun j => get_bump _ _ _) rfl
  refine ⟨tr, h1, ?_, by simp [freshOk], s', h3, h4⟩
  rw [List.all_eq_true] at hlo ⊢
  intro l hl
  have hb := hlo l hl
  unfold looseB at hb
  rw [Bool.and_eq_true, Bool.and_eq_true] at hb
  obtain ⟨⟨b1, b2⟩, b3⟩ := hb
  have b1' : l.2.2 = [] := by simpa using b1
  have hlen := xtrace_len _ _ _ _ h1
  have hin : ∀ i ∈ (l.1 :: (l.2.1 ++ l.2.1.map (· + 1))), ∃ si, tr[i]? = some si ∧ si.H = H.bump k := by
    intro i hi
    rw [List.all_eq_true] at b2
    have := b2 i hi
    have hi' : i < tr.length := by rw [hlen]; have := Nat.le_of_ble_eq_true this; omega
    exact ⟨tr[i], List.getElem?_eq_getElem hi', h2 _ (List.getElem_mem hi')⟩
  split at b3
  · rename_i d m x g ho
    obtain ⟨t, t', q1, q2⟩ := xtrace_at _ _ _ _ h1 _ _ ho
    have ht : t.H = H.bump k := h2 t (List.mem_of_getElem? q1)
    unfold looseOk
    rw [ho, q1]
    dsimp only
    unfold xstep at q2
    generalize wantedA t.tm { dst := d, op := XOp.load m x, guard := g } = wd at q2 ⊢
    cases wd with
    | none => cases q2
    | some wb =>
      cases wb with
      | false => rfl
      | true =>
        dsimp only at q2 ⊢
        have hv : ∃ y, ∀ n, xop (St.ev t.tm) t.H n (XOp.load m x) = .v y := by
          cases hx : (St.ev t.tm x).bind (loadA t.H m) with
          | none => simp only [xval, xop, hx, AR.ofV] at q2; cases q2
          | some y => exact ⟨y, fun n => by simp only [xop, hx, AR.ofV]⟩
        obtain ⟨y, hy⟩ := hv
        rw [hy 0]
        dsimp only
        rw [List.all_eq_true]
        intro i hi
        obtain ⟨si, s1, s2⟩ := hin i hi
        rw [s1]
        dsimp only
        rw [b1', List.filter_nil]
        simp only [AHeap.less]
        rw [s2, ← ht, hy 0]
        exact AV.beq_refl y
  · cases b3
end
theorem op_ia {cf : CF} {z n : Nat} {a b c : AV} {H : AHeap} {ev : XO → Option AV} {x y : XO} (hx : ev x = some a) (hy : ev y = some b) (h : iaddrA z a b = some c) : xval cf ev H n (.iaddr z x y) = some (c, H) := by
  simp only [xval, xop, hx, hy, h] <;> rfl
def lenN : AV → Option Nat
  | .nils => some 0
  | .sl _ _ l _ => some l
  | .imm _ l _ => some l
  | _ => none
theorem Row.lenN {z l : Nat} {H : AHeap} {v : AV} {cs : List AV} (h : Row z H v l cs) : lenN v = some l := by
  rcases h with ⟨_, ⟨rfl, rfl⟩ | ⟨i, full, rfl, _⟩⟩ <;> rfl
theorem op_lenL {cf : CF} {n l : Nat} {a : AV} {H : AHeap} {ev : XO → Option AV} {x : XO} (hx : ev x = some a) (h : Go.Eng.lenN a = some l) : xval cf ev H n (.len x) = some (.int .i64 (l : Int), H) := by
  unfold Go.Eng.lenN at h
  split at h
  all_goals first | (cases h; simp only [xval, xop, hx] <;> rfl) | cases h
end Go.Eng
namespace Go.Eng
abbrev KL0 := List (Nat × AV)
def look : KL0 → Nat → Option AV
  | [], _ => none
  | (e, v) :: r, d => match Nat.beq d e with
    | true => some v
    | false => look r d
def evK (l : KL0) : XO → Option AV
  | .t d => look l d
  | .k v => some v
def Kw (tm : Tr AV) (l : KL0) : Prop := ∀ d v, look l d = some v → tm.get d = some v
theorem Kw.nil (tm : Tr AV) : Kw tm [] := fun d v h => by cases h
theorem Kw.set {tm : Tr AV} {l : KL0} (h : Kw tm l) (d : Nat) (v : AV) : Kw (tm.set d (some v)) ((d, v) :: l) := by
  intro e u he
  unfold look at he
  split at he
  · rename_i q
    have : e = d := by simpa using q
    subst this
    cases he
    exact Tr.get_set_self _ _ _
  · rename_i q
    have : e ≠ d := by
      intro w
      subst w
      simp at q
    rw [Tr.get_set_ne _ _ this]
    exact h e u he
theorem Kw.ev {tm : Tr AV} {l : KL0} (h : Kw tm l) {x : XO} {v : AV} (hx : evK l x = some v) : St.ev tm x = some v := by
  cases x with
  | t d => exact h d v hx
  | k u => exact hx
def Sub (l' l : KL0) : Prop := ∀ d v, look l d = some v → look l' d = some v
theorem Sub.nil (l : KL0) : Sub l [] := fun d v h => by cases h
theorem Sub.cons {l l' : KL0} {d : Nat} {v : AV} (h : look l' d = some v) (k : Sub l' l) : Sub l' ((d, v) :: l) := by
  intro e u he
  unfold look at he
  split at he
  · rename_i q
    have : e = d := by simpa using q
    subst this
    cases he
    exact h
  · exact k e u he
theorem Sub.refl (l : KL0) : Sub l l := fun _ _ h => h
theorem Kw.sub {tm : Tr AV} {l l' : KL0} (h : Kw tm l') (s : Sub l' l) : Kw tm l := fun d v q => h d v (s d v q)
def allSm (l : KL0) (xs : List XO) : Bool := xs.all fun x => (evK l x).isSome
theorem xval_kw {cf : CF} {tm : Tr AV} {l : KL0} (h : Kw tm l) {H : AHeap} {n : Nat} {y : XOp} (ha : allSm l y.opnds = true) : xval cf (St.ev tm) H n y = xval cf (evK l) H n y := by
  refine xval_congr fun x hx => ?_
  have := List.all_eq_true.1 ha x hx
  cases q : evK l x with
  | none => rw [q] at this; cases this
  | some v => exact h.ev q
def XV (cf : CF) (l : KL0) (H : AHeap) (n : Nat) (y : XOp) : Option (AV × AHeap) := xval cf (evK l) H n y
theorem loose_calm {cf : CF} {ops : List XOper} {lo : List (Nat × List Nat × List Nat)} {tm : Tr AV} {H : AHeap} {n b : Nat} {tr : List St} (h1 : xtrace cf ops n ⟨tm, H⟩ = some tr) (h2 : ∀ t ∈ tr, t.H = H) (hlo : lo.all (looseB ops) = true) : lo.all (looseOk ops tr b []) = true := by
  rw [List.all_eq_true] at hlo ⊢
  intro l hl
  have hb := hlo l hl
  unfold looseB at hb
  rw [Bool.and_eq_true, Bool.and_eq_true] at hb
  obtain ⟨⟨b1, b2⟩, b3⟩ := hb
  have b1' : l.2.2 = [] := by simpa using b1
  have hlen := xtrace_len _ _ _ _ h1
  have hin : ∀ i ∈ (l.1 :: (l.2.1 ++ l.2.1.map (· + 1))), ∃ si, tr[i]? = some si ∧ si.H = H := by
    intro i hi
    rw [List.all_eq_true] at b2
    have := b2 i hi
    have hi' : i < tr.length := by rw [hlen]; have := Nat.le_of_ble_eq_true this; omega
    exact ⟨tr[i], List.getElem?_eq_getElem hi', h2 _ (List.getElem_mem hi')⟩
  split at b3
  · rename_i d m x g ho
    obtain ⟨t, t', q1, q2⟩ := xtrace_at _ _ _ _ h1 _ _ ho
    have ht : t.H = H := h2 t (List.mem_of_getElem? q1)
    unfold looseOk
    rw [ho, q1]
    dsimp only
    unfold xstep at q2
    generalize wantedA t.tm { dst := d, op := XOp.load m x, guard := g } = wd at q2 ⊢
    cases wd with
    | none => cases q2
    | some wb =>
      cases wb with
      | false => rfl
      | true =>
        dsimp only at q2 ⊢
        have hv : ∃ y, ∀ n, xop (St.ev t.tm) t.H n (XOp.load m x) = .v y := by
          cases hx : (St.ev t.tm x).bind (loadA t.H m) with
          | none => simp only [xval, xop, hx, AR.ofV] at q2; cases q2
          | some y => exact ⟨y, fun n => by simp only [xop, hx, AR.ofV]⟩
        obtain ⟨y, hy⟩ := hv
        rw [hy 0]
        dsimp only
        rw [List.all_eq_true]
        intro i hi
        obtain ⟨si, s1, s2⟩ := hin i hi
        rw [s1]
        dsimp only
        rw [b1', List.filter_nil]
        simp only [AHeap.less]
        rw [s2, ← ht, hy 0]
        exact AV.beq_refl y
  · cases b3
def WK (cf : CF) (fuel : Nat) (c : XCode) (l : KL0) (H : AHeap) (Q : XE → KL0 → AHeap → Prop) : Prop :=
  ∀ tm, Kw tm l → W cf fuel c ⟨tm, H⟩ fun e s' => ∃ l', Kw s'.tm l' ∧ Q e l' s'.H
def WKO (cf : CF) (ops : List XOper) (n : Nat) (l : KL0) (H : AHeap) (Q : KL0 → AHeap → Prop) : Prop :=
  ∀ tm, Kw tm l → WO cf ops n ⟨tm, H⟩ fun s' => ∃ l', Kw s'.tm l' ∧ Q l' s'.H
def WKC (cf : CF) (ops : List XOper) (n : Nat) (l : KL0) (H : AHeap) (Q : KL0 → Prop) : Prop :=
  ∀ tm, Kw tm l → WC cf ops n tm H fun s' => s'.H = H ∧ ∃ l', Kw s'.tm l' ∧ Q l'
def calmB (o : XOper) : Bool := match o.op with
  | .call .. => true
  | y => match y.cls with
    | .p | .r => true
    | _ => false
section
variable {cf : CF} {fuel n : Nat} {l : KL0} {H : AHeap} {Q : XE → KL0 → AHeap → Prop} {R : KL0 → AHeap → Prop} {S : KL0 → Prop}
theorem WK.mono {c : XCode} {Q' : XE → KL0 → AHeap → Prop} (h : WK cf fuel c l H Q) (hq : ∀ e l' H', Q e l' H' → Q' e l' H') : WK cf fuel c l H Q' :=
  fun tm ht => (h tm ht).mono fun e s' ⟨l', h1, h2⟩ => ⟨l', h1, hq _ _ _ h2⟩
theorem WK.sub {c : XCode} {l' : KL0} (s : Sub l l') (h : WK cf fuel c l' H Q) : WK cf fuel c l H Q := fun tm ht => h tm (ht.sub s)
theorem WK.skip (h : Q .normal l H) : WK cf fuel .skip l H Q := fun tm ht => W.skip ⟨l, ht, h⟩
theorem WK.ret (h : Q .ret l H) : WK cf fuel .ret l H Q := fun tm ht => W.ret ⟨l, ht, h⟩
theorem WK.exit {id : Nat} (h : Q (.exit id) l H) : WK cf fuel (.exit id) l H Q := fun tm ht => W.exit ⟨l, ht, h⟩
theorem WK.seq {a b : XCode} (h : WK cf fuel a l H fun e l' H' => (e = .normal → WK cf fuel b l' H' Q) ∧ (e ≠ .normal → Q e l' H')) : WK cf fuel (.seq a b) l H Q :=
  fun tm ht => W.seq ((h tm ht).mono fun e s' ⟨l', h1, h2, h3⟩ => ⟨fun q => h2 q s'.tm h1, fun q => ⟨l', h1, h3 q⟩⟩)
theorem WK.block {id : Nat} {c : XCode} (h : WK cf fuel c l H fun e l' H' => (e = .exit id → Q .normal l' H') ∧ (e ≠ .exit id → Q e l' H')) : WK cf fuel (.block id c) l H Q :=
  fun tm ht => W.block ((h tm ht).mono fun e s' ⟨l', h1, h2, h3⟩ => ⟨fun q => ⟨l', h1, h2 q⟩, fun q => ⟨l', h1, h3 q⟩⟩)
theorem WK.condT {c : XO} {a b : XCode} {v : Bool} (hc : evK l c = some (.bool v)) (hv : v = true) (h : WK cf fuel a l H Q) : WK cf fuel (.cond c a b) l H Q :=
  fun tm ht => by subst hv; exact W.condT (ht.ev hc) (h tm ht)
theorem WK.condF {c : XO} {a b : XCode} {v : Bool} (hc : evK l c = some (.bool v)) (hv : v = false) (h : WK cf fuel b l H Q) : WK cf fuel (.cond c a b) l H Q :=
  fun tm ht => by subst hv; exact W.condF (ht.ev hc) (h tm ht)
theorem WK.condD {c : XO} {a b : XCode} {p : Prop} {_ : Decidable p} (hc : evK l c = some (.bool (decide p))) (h1 : p → WK cf fuel a l H Q) (h2 : ¬ p → WK cf fuel b l H Q) : WK cf fuel (.cond c a b) l H Q := by
  by_cases q : p
  · exact WK.condT hc (decide_eq_true q) (h1 q)
  · exact WK.condF hc (decide_eq_false q) (h2 q)
theorem WK.condB {c : XO} {a b : XCode} {v : Bool} (hc : evK l c = some (.bool v)) (h1 : v = true → WK cf fuel a l H Q) (h2 : v = false → WK cf fuel b l H Q) : WK cf fuel (.cond c a b) l H Q := by
  cases q : v with
  | true => exact WK.condT hc q (h1 q)
  | false => exact WK.condF hc q (h2 q)
theorem WK.loop {α : Type} {c : XCode} (L : α → KL0) (P : α → AHeap → Prop) (μ : α → Nat) (i : α) (hl : Sub l (L i)) (hP : P i H) (hm : μ i < fuel)
    (h : ∀ i H, P i H → WK cf fuel c (L i) H fun e l' H' => (e = .normal → ∃ j, Sub l' (L j) ∧ P j H' ∧ μ j < μ i) ∧ (e ≠ .normal → Q e l' H')) : WK cf fuel (.loop c) l H Q := by
  intro tm ht
  refine W.loop (fun i s => Kw s.tm (L i) ∧ P i s.H) μ i ⟨ht.sub hl, hP⟩ hm (fun i s ⟨h1, h2⟩ => ?_)
  obtain ⟨tm1, H1⟩ := s
  refine (h i H1 h2 tm1 h1).mono fun e s' ⟨l', q1, q2, q3⟩ => ⟨fun he => ?_, fun he => ⟨l', q1, q3 he⟩⟩
  obtain ⟨j, r1, r2, r3⟩ := q2 he
  exact ⟨j, ⟨q1.sub r1, r2⟩, r3⟩
theorem WK.cut {α : Type} {a b : XCode} (L : α → KL0) (P : α → AHeap → Prop) (h : WK cf fuel a l H fun e l' H' => (e = .normal → ∃ x, Sub l' (L x) ∧ P x H') ∧ (e ≠ .normal → Q e l' H')) (k : ∀ x H', P x H' → WK cf fuel b (L x) H' Q) : WK cf fuel (.seq a b) l H Q :=
  WK.seq (h.mono fun e l' H' ⟨h1, h2⟩ => ⟨fun he => by
    obtain ⟨x, q1, q2⟩ := h1 he
    exact (k x H' q2).sub q1, h2⟩)
def Stop (p : Prop) : Prop := p
theorem WK.reg {ops : List XOper} {k : Nat} (hk : ops.length = k) (h : WKO cf ops H.next l (H.bump k) fun l' H' => Q .normal l' H') : WK cf fuel (.reg ops) l H Q :=
  fun tm ht => W.reg k hk (h tm ht)
theorem WK.regC {ops : List XOper} {lo : List (Nat × List Nat × List Nat)} {k : Nat} (_ : ops.all calmB = true) (hk : ops.length = k) (hlo : lo.all (looseB ops) = true) (h : WKC cf ops H.next l (H.bump k) fun l' => Q .normal l' (H.bump k)) : WK cf fuel (.regd ops lo []) l H Q := by
  intro tm ht
  refine W.regd k hk ?_
  have h1 := h tm ht
  unfold WC at h1
  obtain ⟨tr, q1, q1', s', q2, q3, l', q4, q5⟩ := h1
  unfold WT
  refine ⟨tr, q1, ?_, by simp [freshOk], s', q2, l', q4, by rw [q3]; exact q5⟩
  exact loose_calm q1 q1' hlo
theorem WK.regd0 {ops : List XOper} {k : Nat} (hk : ops.length = k) (h : WKO cf ops H.next l (H.bump k) fun l' H' => Q .normal l' H') : WK cf fuel (.regd ops [] []) l H Q :=
  fun tm ht => W.regd0 k hk (h tm ht)
theorem WKO.nil (h : R l H) : WKO cf [] n l H R := fun tm ht => WO.nil ⟨l, ht, h⟩
theorem WKO.op {d : Nat} {op : XOp} {r : List XOper} {v : AV} {H1 : AHeap} (h : XV cf l H n op = some (v, H1)) (ha : allSm l op.opnds = true) (k : WKO cf r (n + 1) ((d, v) :: l) H1 R) : WKO cf (⟨some d, op, none⟩ :: r) n l H R :=
  fun tm ht => WO.op ((xval_kw ht ha).trans h) (k _ (ht.set d v))
theorem WKO.opn {op : XOp} {r : List XOper} {v : AV} {H1 : AHeap} (h : XV cf l H n op = some (v, H1)) (ha : allSm l op.opnds = true) (k : WKO cf r (n + 1) l H1 R) : WKO cf (⟨none, op, none⟩ :: r) n l H R :=
  fun tm ht => WO.opn ((xval_kw ht ha).trans h) (k _ ht)
theorem WKO.callV {d g : Nat} {x : XO} {xs : List XO} {cs avs : List AV} {P : AV → AHeap → Prop} {r : List XOper} (hx : evK l x = some (.fn g cs)) (hl : evL (evK l) xs = some avs) (ha : allSm l (x :: xs) = true) (h : ∃ v H', cf g (avs ++ cs) H = some (v, H') ∧ P v H')
    (k : ∀ v H', P v H' → WKO cf r (n + 1) ((d, v) :: l) H' R) : WKO cf (⟨some d, .call x xs, none⟩ :: r) n l H R := by
  obtain ⟨v, H', h1, h2⟩ := h
  exact WKO.op (H1 := H') (op_call hx hl h1) ha (k v H' h2)
theorem WKO.gop {d g : Nat} {b c : Bool} {op : XOp} {r : List XOper} {v : AV} {H1 : AHeap} (hg : look l g = some (.bool c)) (hc : c = b) (h : XV cf l H n op = some (v, H1)) (ha : allSm l op.opnds = true) (k : WKO cf r (n + 1) ((d, v) :: l) H1 R) : WKO cf (⟨some d, op, some (g, b)⟩ :: r) n l H R :=
  fun tm ht => WO.gop' (ht _ _ hg) (by rw [hc]) ((xval_kw ht ha).trans h) (k _ (ht.set d v))
theorem WKO.gcallV {d f g : Nat} {b c : Bool} {x : XO} {xs : List XO} {cs avs : List AV} {P : AV → AHeap → Prop} {r : List XOper} (hg : look l g = some (.bool c)) (hc : c = b) (hx : evK l x = some (.fn f cs)) (hl : evL (evK l) xs = some avs) (ha : allSm l (x :: xs) = true) (h : ∃ v H', cf f (avs ++ cs) H = some (v, H') ∧ P v H')
    (k : ∀ v H', P v H' → WKO cf r (n + 1) ((d, v) :: l) H' R) : WKO cf (⟨some d, .call x xs, some (g, b)⟩ :: r) n l H R := by
  obtain ⟨v, H', h1, h2⟩ := h
  exact WKO.gop (H1 := H') hg hc (op_call hx hl h1) ha (k v H' h2)
theorem WKO.gnoT {d g : Nat} {c : Bool} {op : XOp} {r : List XOper} (hg : look l g = some (.bool c)) (hc : c = false) (k : WKO cf r (n + 1) ((d, undefA) :: l) H R) : WKO cf (⟨some d, op, some (g, true)⟩ :: r) n l H R :=
  fun tm ht => WO.gno' (ht _ _ hg) (by rw [hc]; rfl) (k _ (ht.set d undefA))
theorem WKO.gnoF {d g : Nat} {c : Bool} {op : XOp} {r : List XOper} (hg : look l g = some (.bool c)) (hc : c = true) (k : WKO cf r (n + 1) ((d, undefA) :: l) H R) : WKO cf (⟨some d, op, some (g, false)⟩ :: r) n l H R :=
  fun tm ht => WO.gno' (ht _ _ hg) (by rw [hc]; rfl) (k _ (ht.set d undefA))
theorem WKO.gsp {d g : Nat} {b : Bool} {op : XOp} {p : Prop} {_ : Decidable p} {r : List XOper} (hg : look l g = some (.bool (decide p))) (h1 : p → WKO cf (⟨some d, op, some (g, b)⟩ :: r) n l H R) (h2 : ¬ p → WKO cf (⟨some d, op, some (g, b)⟩ :: r) n l H R) : WKO cf (⟨some d, op, some (g, b)⟩ :: r) n l H R := by
  by_cases q : p
  · exact h1 q
  · exact h2 q
theorem WKO.gspB {d g : Nat} {b c : Bool} {op : XOp} {r : List XOper} (hg : look l g = some (.bool c)) (h1 : c = true → WKO cf (⟨some d, op, some (g, b)⟩ :: r) n l H R) (h2 : c = false → WKO cf (⟨some d, op, some (g, b)⟩ :: r) n l H R) : WKO cf (⟨some d, op, some (g, b)⟩ :: r) n l H R := by
  cases q : c
  · exact h2 q
  · exact h1 q
theorem WKO.gnu {d g : Nat} {b : Bool} {op : XOp} {r : List XOper} (hg : look l g = some undefA) (k : WKO cf r (n + 1) ((d, undefA) :: l) H R) : WKO cf (⟨some d, op, some (g, b)⟩ :: r) n l H R := by
  intro tm ht
  have h := k _ (ht.set d undefA)
  unfold WO at h ⊢
  obtain ⟨s', h1, h2⟩ := h
  refine ⟨s', ?_, h2⟩
  have : xstep cf ⟨tm, H⟩ n ⟨some d, op, some (g, b)⟩ = some ⟨tm.set d (some undefA), H⟩ := by
    simp only [xstep, wantedA, ht _ _ hg, undefA, putT]
  simp only [xops, this]
  exact h1
theorem WKC.nil (h : S l) : WKC cf [] n l H S := fun tm ht => WC.nil ⟨rfl, l, ht, h⟩
theorem WKC.op {d : Nat} {op : XOp} {r : List XOper} {v : AV} (h : XV cf l H n op = some (v, H)) (ha : allSm l op.opnds = true) (k : WKC cf r (n + 1) ((d, v) :: l) H S) : WKC cf (⟨some d, op, none⟩ :: r) n l H S :=
  fun tm ht => WC.op ((xval_kw ht ha).trans h) (k _ (ht.set d v))
theorem WKC.gop {d g : Nat} {b c : Bool} {op : XOp} {r : List XOper} {v : AV} (hg : look l g = some (.bool c)) (hc : c = b) (h : XV cf l H n op = some (v, H)) (ha : allSm l op.opnds = true) (k : WKC cf r (n + 1) ((d, v) :: l) H S) : WKC cf (⟨some d, op, some (g, b)⟩ :: r) n l H S :=
  fun tm ht => WC.gop' (ht _ _ hg) (by rw [hc]) ((xval_kw ht ha).trans h) (k _ (ht.set d v))
theorem WKC.gnoT {d g : Nat} {c : Bool} {op : XOp} {r : List XOper} (hg : look l g = some (.bool c)) (hc : c = false) (k : WKC cf r (n + 1) ((d, undefA) :: l) H S) : WKC cf (⟨some d, op, some (g, true)⟩ :: r) n l H S :=
  fun tm ht => WC.gno' (ht _ _ hg) (by rw [hc]; rfl) (k _ (ht.set d undefA))
theorem WKC.gnoF {d g : Nat} {c : Bool} {op : XOp} {r : List XOper} (hg : look l g = some (.bool c)) (hc : c = true) (k : WKC cf r (n + 1) ((d, undefA) :: l) H S) : WKC cf (⟨some d, op, some (g, false)⟩ :: r) n l H S :=
  fun tm ht => WC.gno' (ht _ _ hg) (by rw [hc]; rfl) (k _ (ht.set d undefA))
theorem WKC.gnu {d g : Nat} {b : Bool} {op : XOp} {r : List XOper} (hg : look l g = some undefA) (k : WKC cf r (n + 1) ((d, undefA) :: l) H S) : WKC cf (⟨some d, op, some (g, b)⟩ :: r) n l H S :=
  fun tm ht => WC.step (tm1 := tm.set d (some undefA)) (by simp only [xstep, wantedA, ht _ _ hg, undefA, putT]) (k _ (ht.set d undefA))
theorem WKC.gsp {d g : Nat} {b : Bool} {op : XOp} {p : Prop} {_ : Decidable p} {r : List XOper} (hg : look l g = some (.bool (decide p))) (h1 : p → WKC cf (⟨some d, op, some (g, b)⟩ :: r) n l H S) (h2 : ¬ p → WKC cf (⟨some d, op, some (g, b)⟩ :: r) n l H S) : WKC cf (⟨some d, op, some (g, b)⟩ :: r) n l H S := by
  by_cases q : p
  · exact h1 q
  · exact h2 q
theorem WKC.gspB {d g : Nat} {b c : Bool} {op : XOp} {r : List XOper} (hg : look l g = some (.bool c)) (h1 : c = true → WKC cf (⟨some d, op, some (g, b)⟩ :: r) n l H S) (h2 : c = false → WKC cf (⟨some d, op, some (g, b)⟩ :: r) n l H S) : WKC cf (⟨some d, op, some (g, b)⟩ :: r) n l H S := by
  cases q : c
  · exact h2 q
  · exact h1 q
theorem notT {c : Bool} (h : c = false) : (!c) = true := by rw [h]; rfl
theorem notF {c : Bool} (h : c = true) : (!c) = false := by rw [h]; rfl
theorem known {p G : Prop} (_ : p) (g : G) : p → G := fun _ => g
def argsL : List AV → Nat → KL0
  | [], _ => []
  | x :: r, n => (n, x) :: argsL r (n + 1)
theorem argsT_lt : ∀ (avs : List AV) (n d : Nat) (t : Tr AV), d < n → (argsT avs n t).get d = t.get d
  | [], _, _, _, _ => rfl
  | x :: r, n, d, t, h => by
    unfold argsT
    rw [argsT_lt r (n + 1) d _ (by omega), Tr.get_set_ne _ _ (by omega)]
theorem args_kw : ∀ (avs : List AV) (n : Nat) (t : Tr AV), Kw (argsT avs n t) (argsL avs n)
  | [], _, _ => Kw.nil _
  | x :: r, n, t => by
    intro d v h
    unfold argsL at h
    unfold look at h
    unfold argsT
    split at h
    · rename_i q
      have : d = n := by simpa using q
      subst this
      rw [argsT_lt _ _ _ _ (by omega), Tr.get_set_self]
      exact h
    · exact args_kw r (n + 1) _ d v h
def resK1 (l : KL0) (H : AHeap) : XRes → Option AV
  | .t n => look l n
  | .c a n => (look l a).bind (loadA H n)
def resK (l : KL0) (H : AHeap) : List XRes → Option (List AV)
  | [] => some []
  | r :: rs => (resK1 l H r).bind fun x => (resK l H rs).bind fun xs => some (x :: xs)
theorem resK_L {tm : Tr AV} (ht : Kw tm l) : ∀ {rs : List XRes} {xs : List AV}, resK l H rs = some xs → resL ⟨tm, H⟩ rs = some xs
  | [], xs, h => h
  | r :: rs, xs, h => by
    unfold resK at h
    simp only [Option.bind_eq_some_iff] at h
    obtain ⟨x, h1, ys, h2, h3⟩ := h
    have h4 : resA ⟨tm, H⟩ r = some x := by
      cases r with
      | t n => exact ht _ _ h1
      | c a n =>
        simp only [resK1, Option.bind_eq_some_iff] at h1
        obtain ⟨y, q1, q2⟩ := h1
        simp only [resA, ht _ _ q1, Option.bind_some, q2]
    simp only [resL, h4, resK_L ht h2, bind, Option.bind_some]
    exact h3
theorem xfunc_ofK {fn : XFunc} {args : List AV} (hn : args.length = fn.np) (ht : args.length ≤ fn.nt) {Q : AV → AHeap → Prop}
    (h : WK cf fuel fn.code (argsL args 0) H fun e l' H' => (∀ id, e ≠ .exit id) ∧ ∃ r, resK l' H' fn.res = some r ∧ Q (wrapL r) H') : ∃ v H', xfunc cf fuel fn args H = some (v, H') ∧ Q v H' :=
  xfunc_of hn ht ((h _ (args_kw args 0 .e)).mono fun e s' ⟨l', h1, h2, r, h3, h4⟩ => ⟨h2, r, resK_L h1 h3, h4⟩)
end
def nA (n : Nat) : AV := .int .i64 (n : Int)
section
variable {cf : CF} {n a b : Nat} {H : AHeap} {l : KL0} {x y : XO}
theorem k_addN (hx : evK l x = some (nA a)) (hy : evK l y = some (nA b)) (h : a + b < 9223372036854775808) : XV cf l H n (.bin .add x y) = some (nA (a + b), H) :=
  op_bin hx hy (by
    show some (AV.int .i64 (wrapA .i64 ((a : Int) + (b : Int)))) = _
    rw [wrapI _ (by omega) (by omega)]
    rfl)
theorem k_subN (hx : evK l x = some (nA a)) (hy : evK l y = some (nA b)) (h : b ≤ a) (h' : a < 9223372036854775808) : XV cf l H n (.bin .sub x y) = some (nA (a - b), H) :=
  op_bin hx hy (by
    show some (AV.int .i64 (wrapA .i64 ((a : Int) - (b : Int)))) = _
    rw [wrapI _ (by omega) (by omega), show (a : Int) - (b : Int) = ((a - b : Nat) : Int) by omega]
    rfl)
theorem k_mulN (hx : evK l x = some (nA a)) (hy : evK l y = some (nA b)) (h : a * b < 9223372036854775808) : XV cf l H n (.bin .mul x y) = some (nA (a * b), H) :=
  op_bin hx hy (by
    show some (AV.int .i64 (wrapA .i64 ((a : Int) * (b : Int)))) = _
    rw [← Int.natCast_mul, wrapI _ (by omega) (by omega)]
    rfl)
theorem k_quoN (hx : evK l x = some (nA a)) (hy : evK l y = some (nA b)) (h : 0 < b) (h' : a < 9223372036854775808) : XV cf l H n (.bin .quo x y) = some (nA (a / b), H) :=
  op_bin hx hy (by
    show (if (b : Int) = 0 then none else some (AV.int .i64 (wrapA .i64 ((a : Int).tdiv (b : Int))))) = _
    have e : (a : Int).tdiv (b : Int) = ((a / b : Nat) : Int) := (Int.ofNat_tdiv a b).symm
    have := Nat.div_le_self a b
    rw [if_neg (by omega), e, wrapI _ (Int.le_trans (by decide) (Int.natCast_nonneg _)) (by omega)]
    rfl)
theorem k_remN (hx : evK l x = some (nA a)) (hy : evK l y = some (nA b)) (h : 0 < b) : XV cf l H n (.bin .rem x y) = some (nA (a % b), H) :=
  op_bin hx hy (by
    show (if (b : Int) = 0 then none else some (AV.int .i64 ((a : Int).tmod (b : Int)))) = _
    rw [if_neg (by omega), ← Int.ofNat_tmod]
    rfl)
theorem k_lssN (hx : evK l x = some (nA a)) (hy : evK l y = some (nA b)) : XV cf l H n (.bin .lss x y) = some (.bool (decide (a < b)), H) :=
  op_bin hx hy (by show some (AV.bool (decide ((a : Int) < (b : Int)))) = _; simp)
theorem k_leqN (hx : evK l x = some (nA a)) (hy : evK l y = some (nA b)) : XV cf l H n (.bin .leq x y) = some (.bool (decide (a ≤ b)), H) :=
  op_bin hx hy (by show some (AV.bool (decide ((a : Int) ≤ (b : Int)))) = _; simp)
theorem k_gtrN (hx : evK l x = some (nA a)) (hy : evK l y = some (nA b)) : XV cf l H n (.bin .gtr x y) = some (.bool (decide (a > b)), H) :=
  op_bin hx hy (by show some (AV.bool (decide ((a : Int) > (b : Int)))) = _; simp)
theorem k_geqN (hx : evK l x = some (nA a)) (hy : evK l y = some (nA b)) : XV cf l H n (.bin .geq x y) = some (.bool (decide (a ≥ b)), H) :=
  op_bin hx hy (by show some (AV.bool (decide ((a : Int) ≥ (b : Int)))) = _; simp)
theorem k_eqlN (hx : evK l x = some (nA a)) (hy : evK l y = some (nA b)) : XV cf l H n (.bin .eql x y) = some (.bool (decide (a = b)), H) :=
  op_bin hx hy (by
    show some (AV.bool ((a : Int) == (b : Int))) = _
    congr 2
    rw [Bool.eq_iff_iff]
    simp
    omega)
theorem k_neqN (hx : evK l x = some (nA a)) (hy : evK l y = some (nA b)) : XV cf l H n (.bin .neq x y) = some (.bool (decide (a ≠ b)), H) :=
  op_bin hx hy (by
    show some (AV.bool ((a : Int) != (b : Int))) = _
    congr 2
    rw [Bool.eq_iff_iff]
    simp
    omega)
theorem k_notD {p : Prop} {_ : Decidable p} (hx : evK l x = some (.bool (decide p))) : XV cf l H n (.un .not x) = some (.bool (decide (¬ p)), H) :=
  op_un hx (by
    show some (AV.bool (!decide p)) = _
    simp)
theorem k_pickT {y z : XO} {c : Bool} {v : AV} (hx : evK l x = some (.bool c)) (hc : c = true) (h : evK l y = some v) : XV cf l H n (.pick x y z) = some (v, H) := op_pick hx (.inl ⟨by rw [hc], h⟩)
theorem k_pickF {y z : XO} {c : Bool} {v : AV} (hx : evK l x = some (.bool c)) (hc : c = false) (h : evK l z = some v) : XV cf l H n (.pick x y z) = some (v, H) := op_pick hx (.inr ⟨by rw [hc], h⟩)
theorem k_mv {v : AV} (hx : evK l x = some v) : XV cf l H n (.mv x) = some (v, H) := op_mv hx
theorem k_bin {u v w : AV} {o : BinOp} (hx : evK l x = some u) (hy : evK l y = some v) (h : binA o u v = some w) : XV cf l H n (.bin o x y) = some (w, H) := op_bin hx hy h
theorem k_un {u v : AV} {o : UnOp} (hx : evK l x = some u) (h : unA o u = some v) : XV cf l H n (.un o x) = some (v, H) := op_un hx h
theorem k_ext {i : Nat} {r : List AV} {v : AV} (hx : evK l x = some (.tup r)) (h : r[i]? = some v) : XV cf l H n (.ext x i) = some (v, H) := op_ext hx h
theorem k_lenL {u : AV} {m : Nat} (hx : evK l x = some u) (h : lenN u = some m) : XV cf l H n (.len x) = some (nA m, H) := op_lenL hx h
theorem k_call {g : Nat} {H1 : AHeap} {v : AV} {xs : List XO} {cs r : List AV} (hx : evK l x = some (.fn g cs)) (hl : evL (evK l) xs = some r) (h : cf g (r ++ cs) H = some (v, H1)) : XV cf l H n (.call x xs) = some (v, H1) := op_call hx hl h
theorem k_faddr {o i p : Nat} (hx : evK l x = some (.ptr i p)) : XV cf l H n (.faddr o x) = some (.ptr i (p + o), H) := op_faddr hx
theorem k_nilc {i p : Nat} (hx : evK l x = some (.ptr i p)) : XV cf l H n (.nilc x) = some (.ptr i p, H) := op_nilc hx
theorem k_load {m : Option Nat} {u v : AV} (hx : evK l x = some u) (h : loadA H m u = some v) : XV cf l H n (.load m x) = some (v, H) := op_load hx h
theorem k_eqn {neg : Bool} {k : NK} {u v : AV} {b c : Bool} (hx : evK l x = some u) (hy : evK l y = some v) (h : eqnA k u v = some b) (hc : (b != neg) = c) : XV cf l H n (.eqn neg k x y) = some (.bool c, H) := by
  show xval cf (evK l) H n _ = _
  simp only [xval, xop, hx, hy, h, hc]
theorem k_build {z : List AV} {ps : List (Nat × Nat × XO)} {v : AV} (h : ((evParts (evK l) ps).bind fun q => (fillA z q).map .agg) = some v) : XV cf l H n (.build z ps) = some (v, H) := by
  show xval cf (evK l) H n _ = _
  simp only [xval, xop, h, AR.ofV]
theorem k_any {y : XOp} {r : AV × AHeap} (h : xval cf (evK l) H n y = some r) : XV cf l H n y = some r := h
theorem k_iaN {z i o len c : Nat} (hx : evK l x = some (.sl i o len c)) (hy : evK l y = some (nA a)) (h : a < len) : XV cf l H n (.iaddr z x y) = some (.ptr i (o + a * z), H) :=
  op_ia hx hy (by
    show (if idxOk (a : Int) len then some (AV.ptr i (o + (a : Int).toNat * z)) else none) = _
    rw [idxOk_lt h]
    simp)
theorem k_iaM {z len : Nat} {cs : List AV} {f : Bool} (hx : evK l x = some (.imm cs len f)) (hy : evK l y = some (nA a)) (h : a < len) : XV cf l H n (.iaddr z x y) = some (.iptr cs (a * z), H) :=
  op_ia hx hy (by
    show (if idxOk (a : Int) len then some (AV.iptr cs ((a : Int).toNat * z)) else none) = _
    rw [idxOk_lt h]
    simp)
end
theorem dcd {p : Prop} (h : p := by first | with_reducible rfl | with_reducible assumption | exact (rfl : (!true) = false) | exact (rfl : (!false) = true) | exact notT (by assumption) | exact notF (by assumption) | exact decide_eq_true (by assumption) | exact decide_eq_false (by assumption) | exact decide_eq_true (by omega) | exact decide_eq_false (by omega)) : p := h
theorem nxx {p : Prop} (h : p := by first | omega | (simp only [next_bump] at *; omega)) : p := h
theorem lnn {p : Prop} (h : p := by simp only [List.length_cons, List.length_nil, Nat.reduceAdd]; rfl) : p := h
theorem mmb {p : Prop} (h : p := by first | exact .head _ | exact .tail _ (.head _) | exact .tail _ (.tail _ (.head _)) | exact .tail _ (.tail _ (.tail _ (.head _))) | exact .tail _ (.tail _ (.tail _ (.tail _ (.head _))))) : p := h
theorem opA {p : Prop} (h : p := by first | exact k_mv rfl | exact k_addN rfl rfl (by omega) | exact k_subN rfl rfl (by omega) (by omega) | exact k_lssN rfl rfl | exact k_leqN rfl rfl | exact k_gtrN rfl rfl | exact k_geqN rfl rfl | exact k_eqlN rfl rfl | exact k_neqN rfl rfl | exact k_notD rfl | exact k_pickT rfl dcd rfl | exact k_pickF rfl dcd rfl | exact k_ext rfl rfl | exact k_lenL rfl rfl | exact k_quoN rfl rfl (by omega) (by omega) | exact k_remN rfl rfl (by omega) | exact k_mulN rfl rfl (by omega) | exact k_un rfl rfl | exact k_build rfl | exact k_eqn rfl rfl rfl rfl | exact k_bin rfl rfl rfl) : p := h
attribute [irreducible] XV Stop WK WKO WKC
end Go.Eng
