/-
  Parts of the proof.
-/
import Derived.Test.YtfbkbopmenilkaaZwVal
import Derived.Below
section
set_option linter.unusedSimpArgs false
set_option linter.unusedVariables false
namespace Zc27
open Go Zv
/-! cellarer/cellarerlaw27.MatrixChecks -/
def i3r0 : List It := [.u 6 (.mv (.b false))]
def f3r0 : AC := .reg i3r0 (some [0, 1, 2])
def i3r1 : List It := [.m 7 0, .m 8 1, .m 9 2, .u 10 (.call (.f 9) [true, true, true] [.t 7, .t 8, .t 9]), .u 11 (.un .not (.t 10))]
def f3r1 : AC := .reg i3r1 (some [0, 1, 2, 11])
def i3r2 : List It := [.u 12 (.call (.f 10) [] []), .m 6 12]
def f3r2 : AC := .reg i3r2 (some [6])
def i3r3 : List It := [.u 13 (.call (.f 10) [] []), .m 14 13, .g 15 (.mv (.t 0)) 14 true, .g 16 (.mv (.t 1)) 14 true, .g 17 (.mv (.t 2)) 14 true, .g 18 (.call (.f 12) [true] [.t 17]) 14 true, .g 19 (.call (.f 11) [true, true, true] [.t 15, .t 16, .t 18]) 14 true, .g 20 (.mv (.t 0)) 14 true, .g 21 (.mv (.t 1)) 14 true, .g 22 (.mv (.t 2)) 14 true, .g 23 (.call (.f 13) [true, true, true] [.t 20, .t 21, .t 22]) 14 true, .g 24 (.bin .eql (.t 19) (.t 23)) 14 true, .u 25 (.pick (.t 14) (.t 24) (.b false)), .m 6 25]
def f3r3 : AC := .reg i3r3 (some [6])
def b3 : AC := (.seq f3r0 (.seq (.seq f3r1 (.cond (.t 11) (.seq f3r2 .ret) .skip)) (.seq f3r3 .ret)))
def f3 : AF := ⟨3, [(6, none)], true, b3⟩
/-! cellarer/cellarerlaw27.MatrixUseful -/
def i4r0 : List It := [.u 1 (.box 4 (.t 0)), .u 2 (.mv (.b false)), .frz 1]
def f4r0 : AC := .reg i4r0 (some [1])
def i4r1 : List It := [.u 16 (.fa 0 (.t 1)), .u 17 (.ld false 1 (.t 16)), .u 18 (.fa 1 (.t 1)), .u 19 (.ld false 1 (.t 18)), .u 20 (.fa 2 (.t 1)), .u 21 (.ld false 1 (.t 20)), .u 22 (.fa 3 (.t 1)), .u 23 (.ld false 1 (.t 22)), .m 3 17, .m 4 19, .m 5 21, .m 6 23, .kill 1]
def f4r1 : AC := .reg i4r1 (some [3, 4, 5, 6])
def i4r2 : List It := [.u 24 (.bsl 1 []), .m 25 5, .u 26 (.app 1 24 (.t 24) (.t 25)), .m 27 6, .u 28 (.bsl 1 [.t 27]), .u 29 (.appf 1 24 (.t 26) (.t 28)), .m 7 29]
def f4r2 : AC := .reg i4r2 (some [3, 4, 5, 6, 7])
def i4r3 : List It := [.m 30 3, .m 31 4, .m 32 7, .u 33 (.call (.f 9) [true, true, true] [.t 30, .t 31, .t 32]), .u 34 (.un .not (.t 33))]
def f4r3 : AC := .reg i4r3 (some [3, 4, 5, 6, 7, 34])
def i4r4 : List It := [.u 35 (.call (.f 10) [] []), .m 2 35]
def f4r4 : AC := .reg i4r4 (some [2])
def i4r5 : List It := [.m 37 3, .m 38 4, .m 39 5, .u 40 (.call (.f 12) [true] [.t 39]), .m 41 6, .u 42 (.call (.f 15) [true] [.t 41]), .u 43 (.call (.f 14) [true, true, true, true] [.t 37, .t 38, .t 40, .t 42]), .m 36 43, .u 44 (.ext 0 (.t 36)), .u 45 (.ext 1 (.t 36)), .m 8 44, .m 9 45]
def f4r5 : AC := .reg i4r5 (some [3, 4, 5, 6, 7, 8, 9])
def i4r6 : List It := [.m 47 3, .m 48 4, .m 49 5, .u 50 (.call (.f 12) [true] [.t 49]), .u 51 (.call (.f 16) [true, true, true] [.t 47, .t 48, .t 50]), .m 46 51, .u 52 (.ext 0 (.t 46)), .u 53 (.ext 1 (.t 46)), .m 10 52, .m 11 53]
def f4r6 : AC := .reg i4r6 (some [3, 4, 5, 6, 7, 8, 9, 10, 11])
def i4r7 : List It := [.m 54 3, .m 55 4, .m 56 5, .u 57 (.call (.f 13) [true, true, true] [.t 54, .t 55, .t 56]), .m 12 57]
def f4r7 : AC := .reg i4r7 (some [3, 4, 5, 6, 7, 8, 9, 10, 11, 12])
def i4r8 : List It := [.m 58 12, .u 59 (.bin .neq (.t 58) (.i 0))]
def f4r8 : AC := .reg i4r8 (some [3, 4, 5, 6, 7, 8, 9, 10, 11, 12, 59])
def i4r9 : List It := [.u 60 (.call (.f 10) [] []), .m 61 60, .g 62 (.mv (.t 10)) 61 true, .g 63 (.lenL (.t 62)) 61 true, .g 64 (.bin .eql (.t 63) (.i 0)) 61 true, .u 65 (.pick (.t 61) (.t 64) (.b false)), .m 66 65, .g 67 (.mv (.t 11)) 66 true, .g 68 (.mv (.t 12)) 66 true, .g 69 (.bin .eql (.t 67) (.t 68)) 66 true, .u 70 (.pick (.t 66) (.t 69) (.b false)), .m 71 70, .g 72 (.mv (.t 8)) 71 true, .g 73 (.un .not (.t 72)) 71 true, .u 74 (.pick (.t 71) (.t 73) (.b false)), .m 2 74]
def f4r9 : AC := .reg i4r9 (some [2])
def i4r10 : List It := [.m 75 3, .m 76 4, .m 77 5, .u 78 (.call (.f 17) [true, true, true] [.t 75, .t 76, .t 77]), .m 13 78]
def f4r10 : AC := .reg i4r10 (some [3, 4, 5, 6, 7, 8, 9, 10, 11, 13])
def i4r11 : List It := [.m 79 11, .u 80 (.bin .neq (.t 79) (.i 0)), .m 81 80, .g 82 (.mv (.t 10)) 81 false, .g 83 (.lenL (.t 82)) 81 false, .g 84 (.mv (.t 13)) 81 false, .g 85 (.lenL (.t 84)) 81 false, .g 86 (.bin .neq (.t 83) (.t 85)) 81 false, .u 87 (.pick (.t 81) (.b true) (.t 86))]
def f4r11 : AC := .reg i4r11 (some [3, 4, 5, 6, 7, 8, 9, 10, 13, 87])
def i4r12 : List It := [.u 2 (.mv (.b false))]
def f4r12 : AC := .reg i4r12 (some [2])
def i4r13 : List It := [.u 14 (.mv (.i 0))]
def f4r13 : AC := .reg i4r13 (some [3, 4, 5, 6, 7, 8, 9, 10, 13, 14])
def i4r14 : List It := [.m 88 14, .m 89 10, .u 90 (.lenL (.t 89)), .u 91 (.bin .lss (.t 88) (.t 90))]
def f4r14 : AC := .reg i4r14 (some [3, 4, 5, 6, 7, 8, 9, 10, 13, 14, 91])
def i4r15 : List It := [.m 94 10, .m 95 14, .u 96 (.ia 1 (.t 94) (.t 95)), .u 97 (.ld false 1 (.t 96)), .m 98 13, .m 99 14, .u 100 (.ia 1 (.t 98) (.t 99)), .u 101 (.ld false 1 (.t 100)), .u 102 (.bin .neq (.t 97) (.t 101))]
def f4r15 : AC := .reg i4r15 (some [3, 4, 5, 6, 7, 8, 9, 10, 13, 14, 102])
def i4r16 : List It := [.u 2 (.mv (.b false))]
def f4r16 : AC := .reg i4r16 (some [2])
def i4r17 : List It := [.m 92 14, .u 93 (.bin .add (.t 92) (.i 1)), .m 14 93]
def f4r17 : AC := .reg i4r17 (some [3, 4, 5, 6, 7, 8, 9, 10, 13, 14])
def f4l0 : AC := (.seq (.seq f4r14 (.cond (.t 91) .skip (.exit 0))) (.seq (.blk 1 (.seq f4r15 (.cond (.t 102) (.seq f4r16 .ret) .skip))) f4r17))
def i4r18 : List It := [.m 103 3, .m 104 4, .m 105 7, .u 106 (.call (.f 13) [true, true, true] [.t 103, .t 104, .t 105]), .m 15 106]
def f4r18 : AC := .reg i4r18 (some [3, 4, 5, 6, 8, 9, 15])
def i4r19 : List It := [.m 107 15, .u 108 (.bin .neq (.t 107) (.i 0))]
def f4r19 : AC := .reg i4r19 (some [3, 4, 5, 6, 8, 9, 15, 108])
def i4r20 : List It := [.u 109 (.call (.f 10) [] []), .m 110 109, .g 111 (.mv (.t 8)) 110 true, .g 112 (.un .not (.t 111)) 110 true, .u 113 (.pick (.t 110) (.t 112) (.b false)), .m 114 113, .g 115 (.mv (.t 9)) 114 true, .g 116 (.mv (.t 15)) 114 true, .g 117 (.bin .eql (.t 115) (.t 116)) 114 true, .u 118 (.pick (.t 114) (.t 117) (.b false)), .m 2 118]
def f4r20 : AC := .reg i4r20 (some [2])
def i4r21 : List It := [.u 119 (.call (.f 10) [] []), .m 120 119, .g 121 (.mv (.t 9)) 120 true, .g 122 (.bin .eql (.t 121) (.i 0)) 120 true, .u 123 (.pick (.t 120) (.t 122) (.b false)), .m 124 123, .g 125 (.mv (.t 8)) 124 true, .g 126 (.mv (.t 3)) 124 true, .g 127 (.mv (.t 4)) 124 true, .g 128 (.mv (.t 5)) 124 true, .g 129 (.mv (.t 6)) 124 true, .g 130 (.call (.f 18) [true, true, true, true] [.t 126, .t 127, .t 128, .t 129]) 124 true, .g 131 (.binB .eql (.t 125) (.t 130)) 124 true, .u 132 (.pick (.t 124) (.t 131) (.b false)), .m 2 132]
def f4r21 : AC := .reg i4r21 (some [2])
def b4 : AC := (.seq f4r0 (.seq f4r1 (.seq f4r2 (.seq (.seq f4r3 (.cond (.t 34) (.seq f4r4 .ret) .skip)) (.seq f4r5 (.seq f4r6 (.seq (.seq f4r7 (.seq f4r8 (.cond (.t 59) (.seq f4r9 .ret) .skip))) (.seq f4r10 (.seq (.seq f4r11 (.cond (.t 87) (.seq f4r12 .ret) .skip)) (.seq (.seq f4r13 (.blk 0 (.loop f4l0))) (.seq (.seq f4r18 (.seq f4r19 (.cond (.t 108) (.seq f4r20 .ret) .skip))) (.seq f4r21 .ret))))))))))))
def f4 : AF := ⟨1, [(2, none)], true, b4⟩
/-! cellarer/cellarerlaw27.MatrixExhausts -/
def i6r0 : List It := [.u 6 (.mv (.b false))]
def f6r0 : AC := .reg i6r0 (some [0, 1, 2])
def i6r1 : List It := [.m 20 0, .m 21 1, .m 22 2, .u 23 (.call (.f 9) [true, true, true] [.t 20, .t 21, .t 22]), .u 24 (.un .not (.t 23)), .m 25 24, .g 26 (.mv (.t 0)) 25 false, .g 27 (.mv (.t 1)) 25 false, .g 28 (.mv (.t 2)) 25 false, .g 29 (.call (.f 13) [true, true, true] [.t 26, .t 27, .t 28]) 25 false, .g 30 (.bin .neq (.t 29) (.i 0)) 25 false, .u 31 (.pick (.t 25) (.b true) (.t 30)), .m 32 31, .g 33 (.mv (.t 2)) 32 false, .g 34 (.lenL (.t 33)) 32 false, .g 35 (.bin .gtr (.t 34) (.i 60)) 32 false, .u 36 (.pick (.t 32) (.b true) (.t 35))]
def f6r1 : AC := .reg i6r1 (some [0, 1, 2, 36])
def i6r2 : List It := [.u 37 (.call (.f 10) [] []), .m 6 37]
def f6r2 : AC := .reg i6r2 (some [6])
def i6r3 : List It := [.m 38 1, .u 39 (.lenL (.t 38)), .u 40 (.mkslT (.d (.agg [(.int .i64 0), (.int .i64 0), (.int .i64 0), (.lst [])])) 48 (.t 39)), .m 7 40]
def f6r3 : AC := .reg i6r3 (some [0, 1, 2, 7])
def i6r4 : List It := [.m 42 0, .m 43 1, .m 44 2, .u 45 (.callf (.f 12) [true] [.t 44]), .u 46 (.call (.f 19) [true, true, true] [.t 42, .t 43, .t 45]), .m 41 46, .u 47 (.ext 0 (.t 41)), .u 48 (.ext 1 (.t 41)), .u 49 (.ext 2 (.t 41)), .m 8 47, .m 9 48, .m 10 49]
def f6r4 : AC := .reg i6r4 (some [0, 1, 2, 7, 8, 9, 10])
def i6r5 : List It := [.m 51 0, .m 52 1, .m 53 2, .u 54 (.callf (.f 12) [true] [.t 53]), .m 55 7, .u 56 (.call (.f 14) [true, true, true, true] [.t 51, .t 52, .t 54, .t 55]), .m 50 56, .u 57 (.ext 0 (.t 50)), .u 58 (.ext 1 (.t 50)), .m 11 57, .m 12 58]
def f6r5 : AC := .reg i6r5 (some [0, 1, 2, 7, 8, 9, 10, 11, 12])
def i6r6 : List It := [.m 59 10, .u 60 (.bin .neq (.t 59) (.i 0)), .m 61 60, .g 62 (.mv (.t 12)) 61 false, .g 63 (.bin .neq (.t 62) (.i 0)) 61 false, .u 64 (.pick (.t 61) (.b true) (.t 63)), .m 65 64, .g 66 (.mv (.t 9)) 65 false, .g 67 (.mv (.t 11)) 65 false, .g 68 (.binB .neq (.t 66) (.t 67)) 65 false, .u 69 (.pick (.t 65) (.b true) (.t 68))]
def f6r6 : AC := .reg i6r6 (some [0, 1, 2, 7, 8, 9, 69])
def i6r7 : List It := [.u 6 (.mv (.b false))]
def f6r7 : AC := .reg i6r7 (some [6])
def i6r8 : List It := [.m 70 9, .u 71 (.un .not (.t 70))]
def f6r8 : AC := .reg i6r8 (some [0, 1, 2, 7, 8, 71])
def i6r9 : List It := [.u 72 (.call (.f 10) [] []), .m 6 72]
def f6r9 : AC := .reg i6r9 (some [6])
def i6r10 : List It := [.m 74 0, .m 75 1, .m 76 2, .u 77 (.call (.f 12) [true] [.t 76]), .m 78 8, .u 79 (.bsl 1 [.t 78]), .u 80 (.appf 1 24 (.t 77) (.t 79)), .u 81 (.call (.f 16) [true, true, true] [.t 74, .t 75, .t 80]), .m 73 81, .u 82 (.ext 0 (.t 73)), .u 83 (.ext 1 (.t 73)), .m 13 82, .m 14 83]
def f6r10 : AC := .reg i6r10 (some [0, 1, 2, 7, 8, 13, 14])
def i6r11 : List It := [.m 85 0, .m 86 1, .m 87 2, .u 88 (.call (.f 12) [true] [.t 87]), .m 89 7, .m 90 8, .u 91 (.bsl 1 [.t 89, .t 90]), .u 92 (.appf 1 24 (.t 88) (.t 91)), .u 93 (.call (.f 16) [true, true, true] [.t 85, .t 86, .t 92]), .m 84 93, .u 94 (.ext 0 (.t 84)), .u 95 (.ext 1 (.t 84)), .m 15 94, .m 16 95]
def f6r11 : AC := .reg i6r11 (some [0, 1, 2, 7, 13, 14, 15, 16])
def i6r12 : List It := [.m 97 0, .m 98 1, .m 99 2, .u 100 (.call (.f 12) [true] [.t 99]), .m 101 7, .u 102 (.bsl 1 [.t 101]), .u 103 (.appf 1 24 (.t 100) (.t 102)), .u 104 (.call (.f 19) [true, true, true] [.t 97, .t 98, .t 103]), .m 96 104, .u 105 (.ext 0 (.t 96)), .u 106 (.ext 1 (.t 96)), .u 107 (.ext 2 (.t 96)), .m 17 105, .m 18 106, .m 19 107]
def f6r12 : AC := .reg i6r12 (some [2, 13, 14, 15, 16, 18, 19])
def i6r13 : List It := [.m 108 14, .u 109 (.bin .neq (.t 108) (.i 0)), .m 110 109, .g 111 (.mv (.t 16)) 110 false, .g 112 (.bin .neq (.t 111) (.i 0)) 110 false, .u 113 (.pick (.t 110) (.b true) (.t 112)), .m 114 113, .g 115 (.mv (.t 19)) 114 false, .g 116 (.bin .neq (.t 115) (.i 0)) 114 false, .u 117 (.pick (.t 114) (.b true) (.t 116)), .m 118 117, .g 119 (.mv (.t 18)) 118 false, .u 120 (.pick (.t 118) (.b true) (.t 119)), .m 121 120, .g 122 (.mv (.t 15)) 121 false, .g 123 (.lenL (.t 122)) 121 false, .g 124 (.bin .eql (.t 123) (.i 0)) 121 false, .u 125 (.pick (.t 121) (.b true) (.t 124)), .m 126 125, .g 127 (.mv (.t 15)) 126 false, .g 128 (.mv (.t 15)) 126 false, .g 129 (.lenL (.t 128)) 126 false, .g 130 (.bin .sub (.t 129) (.i 1)) 126 false, .g 131 (.ia 1 (.t 127) (.t 130)) 126 false, .g 132 (.ld false 1 (.t 131)) 126 false, .g 133 (.mv (.t 2)) 126 false, .g 134 (.lenL (.t 133)) 126 false, .g 135 (.bin .add (.t 134) (.i 1)) 126 false, .g 136 (.bin .neq (.t 132) (.t 135)) 126 false, .u 137 (.pick (.t 126) (.b true) (.t 136))]
def f6r13 : AC := .reg i6r13 (some [2, 13, 137])
def i6r14 : List It := [.u 6 (.mv (.b false))]
def f6r14 : AC := .reg i6r14 (some [6])
def i6r15 : List It := [.u 138 (.call (.f 10) [] []), .m 139 138, .g 140 (.mv (.t 13)) 139 true, .g 141 (.lenL (.t 140)) 139 true, .g 142 (.bin .eql (.t 141) (.i 0)) 139 true, .g 143 (.mv (.t 142)) 139 true, .g 144 (.mv (.t 13)) 143 false, .g 145 (.mv (.t 13)) 143 false, .g 146 (.lenL (.t 145)) 143 false, .g 147 (.bin .sub (.t 146) (.i 1)) 143 false, .g 148 (.ia 1 (.t 144) (.t 147)) 143 false, .g 149 (.ld false 1 (.t 148)) 143 false, .g 150 (.mv (.t 2)) 143 false, .g 151 (.lenL (.t 150)) 143 false, .g 152 (.bin .neq (.t 149) (.t 151)) 143 false, .g 153 (.pick (.t 143) (.b true) (.t 152)) 139 true, .u 154 (.pick (.t 139) (.t 153) (.b false)), .m 6 154]
def f6r15 : AC := .reg i6r15 (some [6])
def b6 : AC := (.seq f6r0 (.seq (.seq f6r1 (.cond (.t 36) (.seq f6r2 .ret) .skip)) (.seq f6r3 (.seq f6r4 (.seq f6r5 (.seq (.seq f6r6 (.cond (.t 69) (.seq f6r7 .ret) .skip)) (.seq (.seq f6r8 (.cond (.t 71) (.seq f6r9 .ret) .skip)) (.seq f6r10 (.seq f6r11 (.seq f6r12 (.seq (.seq f6r13 (.cond (.t 137) (.seq f6r14 .ret) .skip)) (.seq f6r15 .ret))))))))))))
def f6 : AF := ⟨3, [(6, none)], true, b6⟩
/-! cellarer/cellarerlaw27.few -/
def i9r0 : List It := [.u 6 (.mv (.b false))]
def f9r0 : AC := .reg i9r0 (some [0, 1, 2])
def i9r1 : List It := [.u 7 (.mv (.i 0))]
def f9r1 : AC := .reg i9r1 (some [0, 1, 2, 7])
def i9r2 : List It := [.u 8 (.mv (.i 0))]
def f9r2 : AC := .reg i9r2 (some [0, 1, 2, 7, 8])
def i9r3 : List It := [.m 9 8, .m 10 2, .u 11 (.lenL (.t 10)), .u 12 (.bin .lss (.t 9) (.t 11)), .m 13 12, .g 14 (.mv (.t 8)) 13 true, .g 15 (.bin .lss (.t 14) (.i 10)) 13 true, .u 16 (.pick (.t 13) (.t 15) (.b false))]
def f9r3 : AC := .reg i9r3 (some [0, 1, 2, 7, 8, 16])
def i9r4 : List It := [.m 19 2, .m 20 8, .u 21 (.ia 1 (.t 19) (.t 20)), .u 22 (.ld false 1 (.t 21)), .m 23 7, .u 24 (.call (.f 29) [true, true, true] [.t 22, .t 23, (.i 60)]), .m 7 24]
def f9r4 : AC := .reg i9r4 (some [0, 1, 2, 7, 8])
def i9r5 : List It := [.m 17 8, .u 18 (.bin .add (.t 17) (.i 1)), .m 8 18]
def f9r5 : AC := .reg i9r5 (some [0, 1, 2, 7, 8])
def f9l0 : AC := (.seq (.seq f9r3 (.cond (.t 16) .skip (.exit 0))) (.seq (.blk 1 f9r4) f9r5))
def i9r6 : List It := [.m 25 0, .u 26 (.call (.f 30) [true] [.t 25]), .m 27 26, .g 28 (.mv (.t 1)) 27 true, .g 29 (.lenL (.t 28)) 27 true, .g 30 (.bin .leq (.t 29) (.i 10)) 27 true, .u 31 (.pick (.t 27) (.t 30) (.b false)), .m 32 31, .g 33 (.mv (.t 2)) 32 true, .g 34 (.lenL (.t 33)) 32 true, .g 35 (.bin .leq (.t 34) (.i 8)) 32 true, .u 36 (.pick (.t 32) (.t 35) (.b false)), .m 37 36, .g 38 (.mv (.t 7)) 37 true, .g 39 (.bin .leq (.t 38) (.i 60)) 37 true, .u 40 (.pick (.t 37) (.t 39) (.b false)), .m 6 40]
def f9r6 : AC := .reg i9r6 (some [6])
def b9 : AC := (.seq f9r0 (.seq f9r1 (.seq (.seq f9r2 (.blk 0 (.loop f9l0))) (.seq f9r6 .ret))))
def f9 : AF := ⟨3, [(6, none)], true, b9⟩
/-! cellarer/cellarerlaw27.awake -/
def i10r0 : List It := [.u 0 (.mv (.b false))]
def f10r0 : AC := .reg i10r0 (some [])
def i10r1 : List It := [.u 15 (.call (.f 31) [] []), .m 1 15]
def f10r1 : AC := .reg i10r1 (some [1])
def i10r2 : List It := [.u 16 (.build [(.d (.int .i64 0)), (.d (.int .i64 0)), (.d (.int .i64 0)), (.tl [] (some true))] []), .u 2 (.alloc 4 (.agg [(.d (.int .i64 0)), (.d (.int .i64 0)), (.d (.int .i64 0)), (.tl [] (some true))])), .o none (.st 4 (.t 2) (.t 16)) none, .frz 2]
def f10r2 : AC := .reg i10r2 (some [1, 2])
def i10r3 : List It := [.u 17 (.build [(.d (.int .i64 0)), (.d (.int .i64 0)), (.d (.int .i64 0)), (.tl [] (some true))] [(0, 1, (.i 2))]), .u 3 (.alloc 4 (.agg [(.d (.int .i64 0)), (.d (.int .i64 0)), (.d (.int .i64 0)), (.tl [] (some true))])), .o none (.st 4 (.t 3) (.t 17)) none, .frz 3]
def f10r3 : AC := .reg i10r3 (some [1, 2, 3])
def i10r4 : List It := [.m 19 1, .u 20 (.bsl 1 [(.i 2)]), .u 21 (.calln (.f 32) [true, true] [(.i 0), (.c (.tl [] (some true)))]), .u 22 (.bsl 4 [.t 21]), .u 23 (.ld true 4 (.t 3)), .u 24 (.ld true 4 (.t 2)), .u 25 (.bsl 4 [.t 23, .t 24]), .u 26 (.call (.f 32) [true, true] [(.i 1), .t 25]), .u 27 (.bsl 4 [.t 26]), .u 28 (.bsl 1 [.t 22, .t 27]), .u 29 (.call (.f 19) [true, true, true] [.t 19, .t 20, .t 28]), .m 18 29, .u 30 (.ext 0 (.t 18)), .u 31 (.ext 1 (.t 18)), .u 32 (.ext 2 (.t 18)), .m 4 30, .m 5 31, .m 6 32, .kill 3]
def f10r4 : AC := .reg i10r4 (some [1, 2, 4, 5, 6])
def i10r5 : List It := [.m 34 1, .u 35 (.bsl 1 [(.i 2)]), .u 36 (.calln (.f 32) [true, true] [(.i 0), (.c (.tl [] (some true)))]), .u 37 (.bsl 4 [.t 36]), .u 38 (.ld true 4 (.t 2)), .u 39 (.ld true 4 (.t 2)), .u 40 (.bsl 4 [.t 38, .t 39]), .u 41 (.call (.f 32) [true, true] [(.i 1), .t 40]), .u 42 (.bsl 4 [.t 41]), .u 43 (.bsl 1 [.t 37, .t 42]), .u 44 (.call (.f 19) [true, true, true] [.t 34, .t 35, .t 43]), .m 33 44, .u 45 (.ext 0 (.t 33)), .u 46 (.ext 1 (.t 33)), .u 47 (.ext 2 (.t 33)), .m 7 45, .m 8 46, .m 9 47]
def f10r5 : AC := .reg i10r5 (some [1, 2, 4, 5, 6, 8, 9])
def i10r6 : List It := [.m 49 1, .u 50 (.bsl 1 [(.i 2)]), .u 51 (.calln (.f 32) [true, true] [(.i 0), (.c (.tl [] (some true)))]), .u 52 (.bsl 4 [.t 51]), .u 53 (.ld true 4 (.t 2)), .u 54 (.ld true 4 (.t 2)), .u 55 (.bsl 4 [.t 53, .t 54]), .u 56 (.calln (.f 32) [true, true] [(.i 1), .t 55]), .u 57 (.bsl 4 [.t 56]), .u 58 (.ld true 4 (.t 2)), .u 59 (.bsl 4 [.t 58]), .u 60 (.bsl 1 [.t 52, .t 57, .t 59]), .u 61 (.call (.f 16) [true, true, true] [.t 49, .t 50, .t 60]), .m 48 61, .u 62 (.ext 0 (.t 48)), .u 63 (.ext 1 (.t 48)), .m 10 62, .m 11 63]
def f10r6 : AC := .reg i10r6 (some [1, 2, 4, 5, 6, 8, 9, 10, 11])
def i10r7 : List It := [.m 65 1, .u 66 (.bsl 1 [(.i 2)]), .u 67 (.ld true 4 (.t 2)), .u 68 (.bsl 4 [.t 67]), .u 69 (.call (.f 14) [true, true, true, true] [.t 65, .t 66, (.c (.tl [] (some true))), .t 68]), .m 64 69, .u 70 (.ext 0 (.t 64)), .u 71 (.ext 1 (.t 64)), .m 12 70, .m 13 71, .kill 2]
def f10r7 : AC := .reg i10r7 (some [4, 5, 6, 8, 9, 10, 11, 12, 13])
def i10r8 : List It := [.u 72 (.build [(.d (.int .i64 0)), (.d (.int .i64 0)), (.d (.int .i64 0)), (.tl [] (some true))] [(0, 1, (.i 2)), (2, 1, (.i 1))]), .u 73 (.build [(.d (.int .i64 0)), (.d (.int .i64 0)), (.d (.int .i64 0)), (.tl [] (some true))] []), .u 74 (.bsl 4 [.t 72, .t 73]), .u 75 (.build [(.d (.int .i64 0)), (.d (.int .i64 0)), (.d (.int .i64 0)), (.tl [] (some true))] [(0, 1, (.i 1)), (1, 1, (.i 1)), (3, 1, (.t 74))]), .u 76 (.bsl 4 [.t 75]), .m 14 76]
def f10r8 : AC := .reg i10r8 (some [4, 5, 6, 8, 9, 10, 11, 12, 13, 14])
def i10r9 : List It := [.m 77 6, .u 78 (.bin .eql (.t 77) (.i 0)), .m 79 78, .g 80 (.mv (.t 5)) 79 true, .u 81 (.pick (.t 79) (.t 80) (.b false)), .m 82 81, .g 83 (.mv (.t 4)) 82 true, .g 84 (.call (.f 22) [true] [.t 83]) 82 true, .g 85 (.mv (.t 14)) 82 true, .g 86 (.call (.f 21) [true, true] [.t 84, .t 85]) 82 true, .u 87 (.pick (.t 82) (.t 86) (.b false)), .m 88 87, .g 89 (.mv (.t 9)) 88 true, .g 90 (.bin .eql (.t 89) (.i 0)) 88 true, .u 91 (.pick (.t 88) (.t 90) (.b false)), .m 92 91, .g 93 (.mv (.t 8)) 92 true, .g 94 (.un .not (.t 93)) 92 true, .u 95 (.pick (.t 92) (.t 94) (.b false)), .m 96 95, .g 97 (.mv (.t 11)) 96 true, .g 98 (.bin .eql (.t 97) (.i 0)) 96 true, .u 99 (.pick (.t 96) (.t 98) (.b false)), .m 100 99, .g 101 (.mv (.t 10)) 100 true, .g 102 (.lenL (.t 101)) 100 true, .g 103 (.bin .eql (.t 102) (.i 1)) 100 true, .u 104 (.pick (.t 100) (.t 103) (.b false)), .m 105 104, .g 106 (.mv (.t 10)) 105 true, .g 107 (.ia 1 (.t 106) (.i 0)) 105 true, .g 108 (.ld false 1 (.t 107)) 105 true, .g 109 (.bin .eql (.t 108) (.i 2)) 105 true, .u 110 (.pick (.t 105) (.t 109) (.b false)), .m 111 110, .g 112 (.mv (.t 13)) 111 true, .g 113 (.bin .eql (.t 112) (.i 0)) 111 true, .u 114 (.pick (.t 111) (.t 113) (.b false)), .m 115 114, .g 116 (.mv (.t 12)) 115 true, .u 117 (.pick (.t 115) (.t 116) (.b false)), .m 0 117]
def f10r9 : AC := .reg i10r9 (some [0])
def b10 : AC := (.seq f10r0 (.seq f10r1 (.seq f10r2 (.seq f10r3 (.seq f10r4 (.seq f10r5 (.seq f10r6 (.seq f10r7 (.seq f10r8 (.seq f10r9 .ret))))))))))
def f10 : AF := ⟨0, [(0, none)], true, b10⟩
/-! cellarer/matrix.Check -/
def i11r0 : List It := [.u 3 (.box 1 (.t 0)), .u 6 (.mv (.i 0))]
def f11r0 : AC := .reg i11r0 (some [1, 2, 3])
def i11r1 : List It := [.u 13 (.ld false 1 (.t 3)), .u 14 (.call (.f 33) [true] [.t 13]), .u 15 (.bin .neq (.t 14) (.i 0))]
def f11r1 : AC := .reg i11r1 (some [1, 2, 3, 15])
def i11r2 : List It := [.u 6 (.mv (.i 3))]
def f11r2 : AC := .reg i11r2 (some [6])
def i11r3 : List It := [.m 16 1, .u 17 (.lenL (.t 16)), .u 18 (.bin .gtr (.t 17) (.i 8)), .m 19 18, .g 20 (.mv (.t 2)) 19 false, .g 21 (.lenL (.t 20)) 19 false, .g 22 (.bin .gtr (.t 21) (.i 64)) 19 false, .u 23 (.pick (.t 19) (.b true) (.t 22))]
def f11r3 : AC := .reg i11r3 (some [1, 2, 3, 23])
def i11r4 : List It := [.u 6 (.mv (.i 6))]
def f11r4 : AC := .reg i11r4 (some [6])
def i11r5 : List It := [.m 24 1, .u 25 (.mkf 35 [.t 3]), .u 26 (.call (.f 34) [true, true] [.t 24, .t 25])]
def f11r5 : AC := .reg i11r5 (some [1, 2, 3, 26])
def i11r6 : List It := [.u 6 (.mv (.i 2))]
def f11r6 : AC := .reg i11r6 (some [6])
def i11r7 : List It := [.m 27 2, .u 28 (.lenL (.t 27)), .u 29 (.mv (.i 0))]
def f11r7 : AC := .reg i11r7 (some [1, 2, 3, 27, 28, 29])
def i11r8 : List It := [.u 30 (.bin .lss (.t 29) (.t 28))]
def f11r8 : AC := .reg i11r8 (some [1, 2, 3, 27, 28, 29, 30])
def i11r9 : List It := [.u 31 (.ia 1 (.t 27) (.t 29)), .u 32 (.ld false 1 (.t 31)), .m 8 32]
def f11r9 : AC := .reg i11r9 (some [1, 2, 3, 8, 27, 28, 29])
def i11r10 : List It := [.m 33 8, .u 34 (.call (.f 36) [true, true] [.t 33, (.f 37)])]
def f11r10 : AC := .reg i11r10 (some [1, 2, 3, 27, 28, 29, 34])
def i11r11 : List It := [.u 6 (.mv (.i 7))]
def f11r11 : AC := .reg i11r11 (some [6])
def i11r12 : List It := [.u 35 (.bin .add (.t 29) (.i 1)), .m 29 35]
def f11r12 : AC := .reg i11r12 (some [1, 2, 3, 27, 28, 29])
def f11l0 : AC := (.seq f11r8 (.seq (.cond (.t 30) .skip (.exit 0)) (.seq (.blk 1 (.seq f11r9 (.seq f11r10 (.cond (.t 34) (.seq f11r11 .ret) .skip)))) f11r12)))
def i11r13 : List It := [.m 36 2, .u 37 (.lenL (.t 36)), .u 38 (.mv (.i 0))]
def f11r13 : AC := .reg i11r13 (some [1, 3, 36, 37, 38])
def i11r14 : List It := [.u 39 (.bin .lss (.t 38) (.t 37))]
def f11r14 : AC := .reg i11r14 (some [1, 3, 36, 37, 38, 39])
def i11r15 : List It := [.u 40 (.ia 1 (.t 36) (.t 38)), .u 41 (.ld false 1 (.t 40)), .m 10 41]
def f11r15 : AC := .reg i11r15 (some [1, 3, 10, 36, 37, 38])
def i11r16 : List It := [.m 42 10, .u 43 (.lenL (.t 42)), .m 44 1, .u 45 (.lenL (.t 44)), .u 46 (.bin .neq (.t 43) (.t 45))]
def f11r16 : AC := .reg i11r16 (some [1, 3, 10, 36, 37, 38, 46])
def i11r17 : List It := [.u 6 (.mv (.i 10))]
def f11r17 : AC := .reg i11r17 (some [6])
def i11r18 : List It := [.m 47 10, .u 48 (.lenL (.t 47)), .u 49 (.mv (.i 0))]
def f11r18 : AC := .reg i11r18 (some [1, 3, 36, 37, 38, 47, 48, 49])
def i11r19 : List It := [.u 50 (.bin .lss (.t 49) (.t 48))]
def f11r19 : AC := .reg i11r19 (some [1, 3, 36, 37, 38, 47, 48, 49, 50])
def i11r20 : List It := [.m 51 49, .u 52 (.ia 4 (.t 47) (.t 49)), .u 53 (.ld true 4 (.t 52)), .u 12 (.alloc 4 (.agg [(.d (.int .i64 0)), (.d (.int .i64 0)), (.d (.int .i64 0)), (.tl [] (some true))])), .m 11 51, .o none (.st 4 (.t 12) (.t 53)) none, .frz 12]
def f11r20 : AC := .reg i11r20 (some [1, 3, 11, 12, 36, 37, 38, 47, 48, 49])
def i11r21 : List It := [.u 54 (.ld false 1 (.t 3)), .m 55 1, .m 56 11, .u 57 (.ia 1 (.t 55) (.t 56)), .u 58 (.ld false 1 (.t 57)), .u 59 (.ld true 4 (.t 12)), .u 60 (.call (.f 39) [true, true, true] [.t 54, .t 58, .t 59]), .u 61 (.un .not (.t 60)), .kill 12]
def f11r21 : AC := .reg i11r21 (some [1, 3, 36, 37, 38, 47, 48, 49, 61])
def i11r22 : List It := [.u 6 (.mv (.i 10))]
def f11r22 : AC := .reg i11r22 (some [6])
def i11r23 : List It := [.u 62 (.bin .add (.t 49) (.i 1)), .m 49 62]
def f11r23 : AC := .reg i11r23 (some [1, 3, 36, 37, 38, 47, 48, 49])
def f11l1 : AC := (.seq f11r19 (.seq (.cond (.t 50) .skip (.exit 4)) (.seq (.blk 5 (.seq f11r20 (.seq f11r21 (.cond (.t 61) (.seq f11r22 .ret) .skip)))) f11r23)))
def i11r24 : List It := [.u 63 (.bin .add (.t 38) (.i 1)), .m 38 63]
def f11r24 : AC := .reg i11r24 (some [1, 3, 36, 37, 38])
def f11l2 : AC := (.seq f11r14 (.seq (.cond (.t 39) .skip (.exit 2)) (.seq (.blk 3 (.seq f11r15 (.seq (.seq f11r16 (.cond (.t 46) (.seq f11r17 .ret) .skip)) (.seq f11r18 (.blk 4 (.loop f11l1)))))) f11r24)))
def i11r25 : List It := [.u 6 (.mv (.i 0))]
def f11r25 : AC := .reg i11r25 (some [6])
def b11 : AC := (.seq f11r0 (.seq (.seq f11r1 (.cond (.t 15) (.seq f11r2 .ret) .skip)) (.seq (.seq f11r3 (.cond (.t 23) (.seq f11r4 .ret) .skip)) (.seq (.seq f11r5 (.cond (.t 26) (.seq f11r6 .ret) .skip)) (.seq (.seq f11r7 (.blk 0 (.loop f11l0))) (.seq (.seq f11r13 (.blk 2 (.loop f11l2))) (.seq f11r25 .ret)))))))
def f11 : AF := ⟨3, [(6, none)], true, b11⟩
/-! cellarer/cellarerlaw27.rows -/
def i12r0 : List It := [.u 2 (.mv (.c (.tl [] (some true))))]
def f12r0 : AC := .reg i12r0 (some [0])
def i12r1 : List It := [.u 3 (.mv (.c (.tl [] (some true))))]
def f12r1 : AC := .reg i12r1 (some [0, 3])
def i12r2 : List It := [.u 4 (.mv (.i 0))]
def f12r2 : AC := .reg i12r2 (some [0, 3, 4])
def i12r3 : List It := [.m 5 4, .m 6 0, .u 7 (.lenL (.t 6)), .u 8 (.bin .lss (.t 5) (.t 7))]
def f12r3 : AC := .reg i12r3 (some [0, 3, 4, 8])
def i12r4 : List It := [.m 11 3, .m 12 0, .m 13 4, .u 14 (.ia 1 (.t 12) (.t 13)), .u 15 (.ld false 1 (.t 14)), .u 16 (.call (.f 15) [true] [.t 15]), .u 17 (.bsl 1 [.t 16]), .u 18 (.app 1 24 (.t 11) (.t 17)), .m 3 18]
def f12r4 : AC := .reg i12r4 (some [0, 3, 4])
def i12r5 : List It := [.m 9 4, .u 10 (.bin .add (.t 9) (.i 1)), .m 4 10]
def f12r5 : AC := .reg i12r5 (some [0, 3, 4])
def f12l0 : AC := (.seq (.seq f12r3 (.cond (.t 8) .skip (.exit 0))) (.seq (.blk 1 f12r4) f12r5))
def i12r6 : List It := [.m 19 3, .m 2 19]
def f12r6 : AC := .reg i12r6 (some [2])
def b12 : AC := (.seq f12r0 (.seq f12r1 (.seq (.seq f12r2 (.blk 0 (.loop f12l0))) (.seq f12r6 .ret))))
def f12 : AF := ⟨1, [(2, none)], false, b12⟩
/-! cellarer/cellarerref27.Check -/
def i13r0 : List It := [.u 6 (.mv (.i 0))]
def f13r0 : AC := .reg i13r0 (some [0, 1, 2])
def i13r1 : List It := [.m 12 0, .u 13 (.call (.f 40) [true] [.t 12]), .u 14 (.bin .neq (.t 13) (.i 0))]
def f13r1 : AC := .reg i13r1 (some [0, 1, 2, 14])
def i13r2 : List It := [.u 6 (.mv (.i 3))]
def f13r2 : AC := .reg i13r2 (some [6])
def i13r3 : List It := [.m 15 1, .u 16 (.lenL (.t 15)), .u 17 (.bin .gtr (.t 16) (.i 8)), .m 18 17, .g 19 (.mv (.t 2)) 18 false, .g 20 (.lenL (.t 19)) 18 false, .g 21 (.bin .gtr (.t 20) (.i 64)) 18 false, .u 22 (.pick (.t 18) (.b true) (.t 21))]
def f13r3 : AC := .reg i13r3 (some [0, 1, 2, 22])
def i13r4 : List It := [.u 6 (.mv (.i 6))]
def f13r4 : AC := .reg i13r4 (some [6])
def i13r5 : List It := [.u 7 (.mv (.i 0))]
def f13r5 : AC := .reg i13r5 (some [0, 1, 2, 7])
def i13r6 : List It := [.m 23 7, .m 24 1, .u 25 (.lenL (.t 24)), .u 26 (.bin .lss (.t 23) (.t 25))]
def f13r6 : AC := .reg i13r6 (some [0, 1, 2, 7, 26])
def i13r7 : List It := [.m 29 1, .m 30 7, .u 31 (.ia 1 (.t 29) (.t 30)), .u 32 (.ld false 1 (.t 31)), .u 33 (.bin .lss (.t 32) (.i 0)), .m 34 33, .g 35 (.mv (.t 1)) 34 false, .g 36 (.mv (.t 7)) 34 false, .g 37 (.ia 1 (.t 35) (.t 36)) 34 false, .g 38 (.ld false 1 (.t 37)) 34 false, .g 39 (.mv (.t 0)) 34 false, .g 40 (.lenL (.t 39)) 34 false, .g 41 (.bin .gtr (.t 38) (.t 40)) 34 false, .u 42 (.pick (.t 34) (.b true) (.t 41))]
def f13r7 : AC := .reg i13r7 (some [0, 1, 2, 7, 42])
def i13r8 : List It := [.u 6 (.mv (.i 2))]
def f13r8 : AC := .reg i13r8 (some [6])
def i13r9 : List It := [.m 27 7, .u 28 (.bin .add (.t 27) (.i 1)), .m 7 28]
def f13r9 : AC := .reg i13r9 (some [0, 1, 2, 7])
def f13l0 : AC := (.seq (.seq f13r6 (.cond (.t 26) .skip (.exit 0))) (.seq (.blk 1 (.seq f13r7 (.cond (.t 42) (.seq f13r8 .ret) .skip))) f13r9))
def i13r10 : List It := [.u 8 (.mv (.i 0))]
def f13r10 : AC := .reg i13r10 (some [0, 1, 2, 8])
def i13r11 : List It := [.m 43 8, .m 44 2, .u 45 (.lenL (.t 44)), .u 46 (.bin .lss (.t 43) (.t 45))]
def f13r11 : AC := .reg i13r11 (some [0, 1, 2, 8, 46])
def i13r12 : List It := [.u 9 (.mv (.i 0))]
def f13r12 : AC := .reg i13r12 (some [0, 1, 2, 8, 9])
def i13r13 : List It := [.m 49 9, .m 50 2, .m 51 8, .u 52 (.ia 1 (.t 50) (.t 51)), .u 53 (.ld false 1 (.t 52)), .u 54 (.lenL (.t 53)), .u 55 (.bin .lss (.t 49) (.t 54))]
def f13r13 : AC := .reg i13r13 (some [0, 1, 2, 8, 9, 55])
def i13r14 : List It := [.m 58 2, .m 59 8, .u 60 (.ia 1 (.t 58) (.t 59)), .u 61 (.ld false 1 (.t 60)), .m 62 9, .u 63 (.ia 4 (.t 61) (.t 62)), .u 64 (.ld true 4 (.t 63)), .u 65 (.call (.f 41) [true, true] [.t 64, (.i 64)])]
def f13r14 : AC := .reg i13r14 (some [0, 1, 2, 8, 9, 65])
def i13r15 : List It := [.u 6 (.mv (.i 7))]
def f13r15 : AC := .reg i13r15 (some [6])
def i13r16 : List It := [.m 56 9, .u 57 (.bin .add (.t 56) (.i 1)), .m 9 57]
def f13r16 : AC := .reg i13r16 (some [0, 1, 2, 8, 9])
def f13l1 : AC := (.seq (.seq f13r13 (.cond (.t 55) .skip (.exit 4))) (.seq (.blk 5 (.seq f13r14 (.cond (.t 65) (.seq f13r15 .ret) .skip))) f13r16))
def i13r17 : List It := [.m 47 8, .u 48 (.bin .add (.t 47) (.i 1)), .m 8 48]
def f13r17 : AC := .reg i13r17 (some [0, 1, 2, 8])
def f13l2 : AC := (.seq (.seq f13r11 (.cond (.t 46) .skip (.exit 2))) (.seq (.blk 3 (.seq f13r12 (.blk 4 (.loop f13l1)))) f13r17))
def i13r18 : List It := [.u 10 (.mv (.i 0))]
def f13r18 : AC := .reg i13r18 (some [0, 1, 2, 10])
def i13r19 : List It := [.m 66 10, .m 67 2, .u 68 (.lenL (.t 67)), .u 69 (.bin .lss (.t 66) (.t 68))]
def f13r19 : AC := .reg i13r19 (some [0, 1, 2, 10, 69])
def i13r20 : List It := [.m 72 2, .m 73 10, .u 74 (.ia 1 (.t 72) (.t 73)), .u 75 (.ld false 1 (.t 74)), .u 76 (.lenL (.t 75)), .m 77 1, .u 78 (.lenL (.t 77)), .u 79 (.bin .neq (.t 76) (.t 78))]
def f13r20 : AC := .reg i13r20 (some [0, 1, 2, 10, 79])
def i13r21 : List It := [.u 6 (.mv (.i 10))]
def f13r21 : AC := .reg i13r21 (some [6])
def i13r22 : List It := [.u 11 (.mv (.i 0))]
def f13r22 : AC := .reg i13r22 (some [0, 1, 2, 10, 11])
def i13r23 : List It := [.m 80 11, .m 81 1, .u 82 (.lenL (.t 81)), .u 83 (.bin .lss (.t 80) (.t 82))]
def f13r23 : AC := .reg i13r23 (some [0, 1, 2, 10, 11, 83])
def i13r24 : List It := [.m 86 0, .m 87 1, .m 88 11, .u 89 (.ia 1 (.t 87) (.t 88)), .u 90 (.ld false 1 (.t 89)), .m 91 2, .m 92 10, .u 93 (.ia 1 (.t 91) (.t 92)), .u 94 (.ld false 1 (.t 93)), .m 95 11, .u 96 (.ia 4 (.t 94) (.t 95)), .u 97 (.ld true 4 (.t 96)), .u 98 (.call (.f 42) [true, true, true] [.t 86, .t 90, .t 97]), .u 99 (.un .not (.t 98))]
def f13r24 : AC := .reg i13r24 (some [0, 1, 2, 10, 11, 99])
def i13r25 : List It := [.u 6 (.mv (.i 10))]
def f13r25 : AC := .reg i13r25 (some [6])
def i13r26 : List It := [.m 84 11, .u 85 (.bin .add (.t 84) (.i 1)), .m 11 85]
def f13r26 : AC := .reg i13r26 (some [0, 1, 2, 10, 11])
def f13l3 : AC := (.seq (.seq f13r23 (.cond (.t 83) .skip (.exit 8))) (.seq (.blk 9 (.seq f13r24 (.cond (.t 99) (.seq f13r25 .ret) .skip))) f13r26))
def i13r27 : List It := [.m 70 10, .u 71 (.bin .add (.t 70) (.i 1)), .m 10 71]
def f13r27 : AC := .reg i13r27 (some [0, 1, 2, 10])
def f13l4 : AC := (.seq (.seq f13r19 (.cond (.t 69) .skip (.exit 6))) (.seq (.blk 7 (.seq (.seq f13r20 (.cond (.t 79) (.seq f13r21 .ret) .skip)) (.seq f13r22 (.blk 8 (.loop f13l3))))) f13r27))
def i13r28 : List It := [.u 6 (.mv (.i 0))]
def f13r28 : AC := .reg i13r28 (some [6])
def b13 : AC := (.seq f13r0 (.seq (.seq f13r1 (.cond (.t 14) (.seq f13r2 .ret) .skip)) (.seq (.seq f13r3 (.cond (.t 22) (.seq f13r4 .ret) .skip)) (.seq (.seq f13r5 (.blk 0 (.loop f13l0))) (.seq (.seq f13r10 (.blk 2 (.loop f13l2))) (.seq (.seq f13r18 (.blk 6 (.loop f13l4))) (.seq f13r28 .ret)))))))
def f13 : AF := ⟨3, [(6, none)], true, b13⟩
/-! cellarer/matrix.Useful -/
def i14r0 : List It := [.u 8 (.mv (.b false)), .u 9 (.mv (.i 0))]
def f14r0 : AC := .reg i14r0 (some [0, 1, 2, 3])
def i14r1 : List It := [.m 12 2, .u 13 (.call (.f 43) [true] [.t 12]), .m 14 3, .u 15 (.bsl 1 [.t 14]), .u 16 (.appf 1 24 (.t 13) (.t 15)), .m 10 16]
def f14r1 : AC := .reg i14r1 (some [0, 1, 2, 3, 10])
def i14r2 : List It := [.m 17 0, .m 18 1, .m 19 10, .u 20 (.call (.f 11) [true, true, true] [.t 17, .t 18, .t 19]), .m 11 20]
def f14r2 : AC := .reg i14r2 (some [0, 1, 2, 3, 11])
def i14r3 : List It := [.m 21 11, .u 22 (.bin .neq (.t 21) (.i 0))]
def f14r3 : AC := .reg i14r3 (some [0, 1, 2, 3, 11, 22])
def i14r4 : List It := [.m 23 11, .u 8 (.mv (.b false)), .m 9 23]
def f14r4 : AC := .reg i14r4 (some [8, 9])
def i14r5 : List It := [.m 24 0, .m 25 1, .m 26 2, .m 27 3, .u 28 (.call (.f 44) [true, true, true, true] [.t 24, .t 25, .t 26, .t 27]), .m 8 28, .u 9 (.mv (.i 0))]
def f14r5 : AC := .reg i14r5 (some [8, 9])
def b14 : AC := (.seq f14r0 (.seq f14r1 (.seq (.seq f14r2 (.seq f14r3 (.cond (.t 22) (.seq f14r4 .ret) .skip))) (.seq f14r5 .ret))))
def f14 : AF := ⟨4, [(8, none), (9, none)], true, b14⟩
/-! cellarer/cellarerlaw27.row -/
def i15r0 : List It := [.u 2 (.mv (.c (.tl [] (some true))))]
def f15r0 : AC := .reg i15r0 (some [0])
def i15r1 : List It := [.u 3 (.mv (.c (.tl [] (some true))))]
def f15r1 : AC := .reg i15r1 (some [0, 3])
def i15r2 : List It := [.u 4 (.mv (.i 0))]
def f15r2 : AC := .reg i15r2 (some [0, 3, 4])
def i15r3 : List It := [.m 5 4, .m 6 0, .u 7 (.lenL (.t 6)), .u 8 (.bin .lss (.t 5) (.t 7))]
def f15r3 : AC := .reg i15r3 (some [0, 3, 4, 8])
def i15r4 : List It := [.m 11 3, .m 12 0, .m 13 4, .u 14 (.ia 4 (.t 12) (.t 13)), .u 15 (.ld true 4 (.t 14)), .u 16 (.call (.f 45) [true] [.t 15]), .u 17 (.bsl 4 [.t 16]), .u 18 (.app 4 48 (.t 11) (.t 17)), .m 3 18]
def f15r4 : AC := .reg i15r4 (some [0, 3, 4])
def i15r5 : List It := [.m 9 4, .u 10 (.bin .add (.t 9) (.i 1)), .m 4 10]
def f15r5 : AC := .reg i15r5 (some [0, 3, 4])
def f15l0 : AC := (.seq (.seq f15r3 (.cond (.t 8) .skip (.exit 0))) (.seq (.blk 1 f15r4) f15r5))
def i15r6 : List It := [.m 19 3, .m 2 19]
def f15r6 : AC := .reg i15r6 (some [2])
def b15 : AC := (.seq f15r0 (.seq f15r1 (.seq (.seq f15r2 (.blk 0 (.loop f15l0))) (.seq f15r6 .ret))))
def f15 : AF := ⟨1, [(2, none)], true, b15⟩
/-! cellarer/matrix.Dead -/
def i16r0 : List It := [.u 6 (.mv (.c (.tl [] (some true)))), .u 7 (.mv (.i 0))]
def f16r0 : AC := .reg i16r0 (some [0, 1, 2])
def i16r1 : List It := [.m 12 0, .m 13 1, .m 14 2, .u 15 (.call (.f 11) [true, true, true] [.t 12, .t 13, .t 14]), .m 8 15]
def f16r1 : AC := .reg i16r1 (some [0, 1, 2, 8])
def i16r2 : List It := [.m 16 8, .u 17 (.bin .neq (.t 16) (.i 0))]
def f16r2 : AC := .reg i16r2 (some [0, 1, 2, 8, 17])
def i16r3 : List It := [.m 18 8, .u 6 (.mv (.c (.tl [] (some true)))), .m 7 18]
def f16r3 : AC := .reg i16r3 (some [6, 7])
def i16r4 : List It := [.u 9 (.mv (.c (.tl [] (some true))))]
def f16r4 : AC := .reg i16r4 (some [0, 1, 2, 9])
def i16r5 : List It := [.m 19 2, .u 20 (.lenL (.t 19)), .u 21 (.mv (.i 0))]
def f16r5 : AC := .reg i16r5 (some [0, 1, 2, 9, 19, 20, 21])
def i16r6 : List It := [.u 22 (.bin .lss (.t 21) (.t 20))]
def f16r6 : AC := .reg i16r6 (some [0, 1, 2, 9, 19, 20, 21, 22])
def i16r7 : List It := [.m 23 21, .u 24 (.ia 1 (.t 19) (.t 21)), .u 25 (.ld false 1 (.t 24)), .m 10 23, .m 11 25]
def f16r7 : AC := .reg i16r7 (some [0, 1, 2, 9, 10, 11, 19, 20, 21])
def i16r8 : List It := [.m 26 0, .m 27 1, .m 28 2, .m 29 10, .u 30 (.slc 1 (.t 28) none (some (.t 29))), .m 31 11, .u 32 (.call (.f 44) [true, true, true, true] [.t 26, .t 27, .t 30, .t 31]), .u 33 (.un .not (.t 32))]
def f16r8 : AC := .reg i16r8 (some [0, 1, 2, 9, 10, 19, 20, 21, 33])
def i16r9 : List It := [.m 34 9, .m 35 10, .u 36 (.bsl 1 [.t 35]), .u 37 (.app 1 8 (.t 34) (.t 36)), .m 9 37]
def f16r9 : AC := .reg i16r9 (some [0, 1, 2, 9, 19, 20, 21])
def i16r10 : List It := [.u 38 (.bin .add (.t 21) (.i 1)), .m 21 38]
def f16r10 : AC := .reg i16r10 (some [0, 1, 2, 9, 19, 20, 21])
def f16l0 : AC := (.seq f16r6 (.seq (.cond (.t 22) .skip (.exit 0)) (.seq (.blk 1 (.seq f16r7 (.seq f16r8 (.cond (.t 33) f16r9 .skip)))) f16r10)))
def i16r11 : List It := [.m 39 9, .m 6 39, .u 7 (.mv (.i 0))]
def f16r11 : AC := .reg i16r11 (some [6, 7])
def b16 : AC := (.seq f16r0 (.seq (.seq f16r1 (.seq f16r2 (.cond (.t 17) (.seq f16r3 .ret) .skip))) (.seq f16r4 (.seq (.seq f16r5 (.blk 0 (.loop f16l0))) (.seq f16r11 .ret)))))
def f16 : AF := ⟨3, [(6, none), (7, none)], true, b16⟩
/-! cellarer/cellarerref27.Dead -/
def i17r0 : List It := [.u 6 (.mv (.c (.tl [] (some true))))]
def f17r0 : AC := .reg i17r0 (some [0, 1, 2])
def i17r1 : List It := [.u 7 (.mv (.c (.tl [] (some true))))]
def f17r1 : AC := .reg i17r1 (some [0, 1, 2, 7])
def i17r2 : List It := [.u 8 (.mv (.i 0))]
def f17r2 : AC := .reg i17r2 (some [0, 1, 2, 7, 8])
def i17r3 : List It := [.m 9 8, .m 10 2, .u 11 (.lenL (.t 10)), .u 12 (.bin .lss (.t 9) (.t 11))]
def f17r3 : AC := .reg i17r3 (some [0, 1, 2, 7, 8, 12])
def i17r4 : List It := [.m 15 0, .m 16 1, .m 17 2, .m 18 8, .u 19 (.slc 1 (.t 17) none (some (.t 18))), .m 20 2, .m 21 8, .u 22 (.ia 1 (.t 20) (.t 21)), .u 23 (.ld false 1 (.t 22)), .u 24 (.call (.f 18) [true, true, true, true] [.t 15, .t 16, .t 19, .t 23]), .u 25 (.un .not (.t 24))]
def f17r4 : AC := .reg i17r4 (some [0, 1, 2, 7, 8, 25])
def i17r5 : List It := [.m 26 7, .m 27 8, .u 28 (.bsl 1 [.t 27]), .u 29 (.app 1 8 (.t 26) (.t 28)), .m 7 29]
def f17r5 : AC := .reg i17r5 (some [0, 1, 2, 7, 8])
def i17r6 : List It := [.m 13 8, .u 14 (.bin .add (.t 13) (.i 1)), .m 8 14]
def f17r6 : AC := .reg i17r6 (some [0, 1, 2, 7, 8])
def f17l0 : AC := (.seq (.seq f17r3 (.cond (.t 12) .skip (.exit 0))) (.seq (.blk 1 (.seq f17r4 (.cond (.t 25) f17r5 .skip))) f17r6))
def i17r7 : List It := [.m 30 7, .m 6 30]
def f17r7 : AC := .reg i17r7 (some [6])
def b17 : AC := (.seq f17r0 (.seq f17r1 (.seq (.seq f17r2 (.blk 0 (.loop f17l0))) (.seq f17r7 .ret))))
def f17 : AF := ⟨3, [(6, none)], true, b17⟩
/-! cellarer/cellarerref27.Useful -/
def i18r0 : List It := [.u 8 (.mv (.b false))]
def f18r0 : AC := .reg i18r0 (some [0, 1, 2, 3])
def i18r1 : List It := [.m 17 1, .u 18 (.lenL (.t 17)), .u 19 (.bin .eql (.t 18) (.i 0))]
def f18r1 : AC := .reg i18r1 (some [0, 1, 2, 3, 19])
def i18r2 : List It := [.m 20 2, .u 21 (.lenL (.t 20)), .u 22 (.bin .eql (.t 21) (.i 0)), .m 8 22]
def f18r2 : AC := .reg i18r2 (some [8])
def i18r3 : List It := [.m 23 1, .u 24 (.ia 1 (.t 23) (.i 0)), .u 25 (.ld false 1 (.t 24)), .m 9 25]
def f18r3 : AC := .reg i18r3 (some [0, 1, 2, 3, 9])
def i18r4 : List It := [.m 26 3, .u 27 (.bsl 1 [.t 26]), .m 10 27]
def f18r4 : AC := .reg i18r4 (some [0, 1, 2, 3, 9, 10])
def i18r5 : List It := [.m 28 3, .u 29 (.ia 4 (.t 28) (.i 0)), .u 30 (.ld true 4 (.t 29)), .u 11 (.alloc 4 (.agg [(.d (.int .i64 0)), (.d (.int .i64 0)), (.d (.int .i64 0)), (.tl [] (some true))])), .o none (.st 4 (.t 11) (.t 30)) none, .frz 11]
def f18r5 : AC := .reg i18r5 (some [0, 1, 2, 3, 9, 10, 11])
def i18r6 : List It := [.u 31 (.fa 0 (.t 11)), .u 32 (.ld false 1 (.t 31))]
def f18r6 : AC := .reg i18r6 (some [0, 1, 2, 3, 9, 10, 11, 32])
def i18r7 : List It := [.u 34 (.bin .eql (.t 32) (.i 2)), .m 33 34]
def f18r7 : AC := .reg i18r7 (some [0, 1, 2, 3, 9, 10, 11, 32, 33])
def i18r8 : List It := [.m 35 0, .m 36 1, .u 37 (.slc 1 (.t 36) (some (.i 1)) none), .m 38 2, .u 39 (.ld true 4 (.t 11)), .u 40 (.call (.f 46) [true, true, true] [.t 38, .t 39, (.i 0)]), .m 41 3, .u 42 (.slc 4 (.t 41) (some (.i 1)) none), .u 43 (.call (.f 18) [true, true, true, true] [.t 35, .t 37, .t 40, .t 42]), .m 8 43, .kill 11]
def f18r8 : AC := .reg i18r8 (some [8])
def i18r9 : List It := [.u 45 (.bin .eql (.t 32) (.i 1)), .m 44 45]
def f18r9 : AC := .reg i18r9 (some [0, 1, 2, 3, 9, 10, 11, 44])
def i18r10 : List It := [.m 46 0, .m 47 9, .u 48 (.bin .sub (.t 47) (.i 1)), .u 49 (.ia 2 (.t 46) (.t 48)), .u 50 (.fa 1 (.t 49)), .u 51 (.ld false 1 (.t 50)), .u 52 (.fa 1 (.t 11)), .u 53 (.ld false 1 (.t 52)), .u 54 (.ia 2 (.t 51) (.t 53)), .u 55 (.fa 1 (.t 54)), .u 56 (.ld false 1 (.t 55)), .u 57 (.lenL (.t 56)), .m 12 57]
def f18r10 : AC := .reg i18r10 (some [0, 1, 2, 10, 11, 12])
def i18r11 : List It := [.m 58 0, .m 59 0, .m 60 1, .u 61 (.fa 1 (.t 11)), .u 62 (.ld false 1 (.t 61)), .u 63 (.calln (.f 47) [true, true, true] [.t 59, .t 60, .t 62]), .m 64 2, .u 65 (.ld true 4 (.t 11)), .m 66 12, .u 67 (.calln (.f 46) [true, true, true] [.t 64, .t 65, .t 66]), .m 68 10, .u 69 (.ld true 4 (.t 11)), .m 70 12, .u 71 (.call (.f 46) [true, true, true] [.t 68, .t 69, .t 70]), .u 72 (.ia 1 (.t 71) (.i 0)), .u 73 (.ld false 1 (.t 72)), .u 74 (.call (.f 18) [true, true, true, true] [.t 58, .t 63, .t 67, .t 73]), .m 8 74, .kill 11]
def f18r11 : AC := .reg i18r11 (some [8])
def i18r12 : List It := [.m 75 2, .u 76 (.call (.f 48) [true] [.t 75]), .m 13 76, .kill 11]
def f18r12 : AC := .reg i18r12 (some [0, 1, 2, 3, 9, 10, 13])
def i18r13 : List It := [.m 77 0, .m 78 9, .m 79 13, .u 80 (.call (.f 49) [true, true, true] [.t 77, .t 78, .t 79]), .u 81 (.un .not (.t 80))]
def f18r13 : AC := .reg i18r13 (some [0, 1, 2, 3, 9, 10, 81])
def i18r14 : List It := [.m 82 0, .m 83 1, .u 84 (.slc 1 (.t 83) (some (.i 1)) none), .m 85 2, .u 86 (.call (.f 50) [true] [.t 85]), .m 87 3, .u 88 (.slc 4 (.t 87) (some (.i 1)) none), .u 89 (.call (.f 18) [true, true, true, true] [.t 82, .t 84, .t 86, .t 88]), .m 8 89]
def f18r14 : AC := .reg i18r14 (some [8])
def i18r15 : List It := [.u 14 (.mv (.i 0))]
def f18r15 : AC := .reg i18r15 (some [0, 1, 2, 9, 10, 14])
def i18r16 : List It := [.m 90 14, .m 91 0, .m 92 9, .u 93 (.bin .sub (.t 92) (.i 1)), .u 94 (.ia 2 (.t 91) (.t 93)), .u 95 (.fa 1 (.t 94)), .u 96 (.ld false 1 (.t 95)), .u 97 (.lenL (.t 96)), .u 98 (.bin .lss (.t 90) (.t 97))]
def f18r16 : AC := .reg i18r16 (some [0, 1, 2, 9, 10, 14, 98])
def i18r17 : List It := [.m 101 0, .m 102 9, .u 103 (.bin .sub (.t 102) (.i 1)), .u 104 (.ia 2 (.t 101) (.t 103)), .u 105 (.fa 1 (.t 104)), .u 106 (.ld false 1 (.t 105)), .m 107 14, .u 108 (.ia 2 (.t 106) (.t 107)), .u 109 (.fa 1 (.t 108)), .u 110 (.ld false 1 (.t 109)), .u 111 (.lenL (.t 110)), .m 15 111]
def f18r17 : AC := .reg i18r17 (some [0, 1, 2, 9, 10, 14, 15])
def i18r18 : List It := [.m 112 14, .u 113 (.build [(.d (.int .i64 0)), (.d (.int .i64 0)), (.d (.int .i64 0)), (.tl [] (some true))] [(0, 1, (.i 1)), (1, 1, (.t 112))]), .u 16 (.alloc 4 (.agg [(.d (.int .i64 0)), (.d (.int .i64 0)), (.d (.int .i64 0)), (.tl [] (some true))])), .o none (.st 4 (.t 16) (.t 113)) none, .frz 16]
def f18r18 : AC := .reg i18r18 (some [0, 1, 2, 9, 10, 14, 15, 16])
def i18r19 : List It := [.m 114 0, .m 115 0, .m 116 1, .m 117 14, .u 118 (.calln (.f 47) [true, true, true] [.t 115, .t 116, .t 117]), .m 119 2, .u 120 (.ld true 4 (.t 16)), .m 121 15, .u 122 (.calln (.f 46) [true, true, true] [.t 119, .t 120, .t 121]), .m 123 10, .u 124 (.ld true 4 (.t 16)), .m 125 15, .u 126 (.call (.f 46) [true, true, true] [.t 123, .t 124, .t 125]), .u 127 (.ia 1 (.t 126) (.i 0)), .u 128 (.ld false 1 (.t 127)), .u 129 (.call (.f 18) [true, true, true, true] [.t 114, .t 118, .t 122, .t 128]), .kill 16]
def f18r19 : AC := .reg i18r19 (some [0, 1, 2, 9, 10, 14, 129])
def i18r20 : List It := [.u 8 (.mv (.b true))]
def f18r20 : AC := .reg i18r20 (some [8])
def i18r21 : List It := [.m 99 14, .u 100 (.bin .add (.t 99) (.i 1)), .m 14 100]
def f18r21 : AC := .reg i18r21 (some [0, 1, 2, 9, 10, 14])
def f18l0 : AC := (.seq (.seq f18r16 (.cond (.t 98) .skip (.exit 1))) (.seq (.blk 2 (.seq f18r17 (.seq f18r18 (.seq f18r19 (.cond (.t 129) (.seq f18r20 .ret) .skip))))) f18r21))
def i18r22 : List It := [.u 8 (.mv (.b false))]
def f18r22 : AC := .reg i18r22 (some [8])
def b18 : AC := (.seq f18r0 (.seq (.seq f18r1 (.cond (.t 19) (.seq f18r2 .ret) .skip)) (.seq f18r3 (.seq f18r4 (.seq f18r5 (.seq (.seq f18r6 (.blk 0 (.seq f18r7 (.cond (.t 33) (.seq f18r8 .ret) (.seq f18r9 (.cond (.t 44) (.seq f18r10 (.seq f18r11 .ret)) .skip)))))) (.seq f18r12 (.seq (.seq f18r13 (.cond (.t 81) (.seq f18r14 .ret) .skip)) (.seq (.seq f18r15 (.blk 1 (.loop f18l0))) (.seq f18r22 .ret))))))))))
def f18 : AF := ⟨4, [(8, none)], true, b18⟩
/-! cellarer/matrix.Witness -/
def i19r0 : List It := [.u 6 (.mv (.c (.tl [] (some true)))), .u 7 (.mv (.b false)), .u 8 (.mv (.i 0))]
def f19r0 : AC := .reg i19r0 (some [0, 1, 2])
def i19r1 : List It := [.m 12 0, .m 13 1, .m 14 2, .u 15 (.call (.f 11) [true, true, true] [.t 12, .t 13, .t 14]), .m 9 15]
def f19r1 : AC := .reg i19r1 (some [0, 1, 2, 9])
def i19r2 : List It := [.m 16 9, .u 17 (.bin .neq (.t 16) (.i 0))]
def f19r2 : AC := .reg i19r2 (some [0, 1, 2, 9, 17])
def i19r3 : List It := [.m 18 9, .u 6 (.mv (.c (.tl [] (some true)))), .u 7 (.mv (.b false)), .m 8 18]
def f19r3 : AC := .reg i19r3 (some [6, 7, 8])
def i19r4 : List It := [.m 20 0, .m 21 1, .m 22 2, .u 23 (.call (.f 51) [true, true, true] [.t 20, .t 21, .t 22]), .m 19 23, .u 24 (.ext 0 (.t 19)), .u 25 (.ext 1 (.t 19)), .m 10 24, .m 11 25]
def f19r4 : AC := .reg i19r4 (some [10, 11])
def i19r5 : List It := [.m 26 10, .m 27 11, .m 6 26, .m 7 27, .u 8 (.mv (.i 0))]
def f19r5 : AC := .reg i19r5 (some [6, 7, 8])
def b19 : AC := (.seq f19r0 (.seq (.seq f19r1 (.seq f19r2 (.cond (.t 17) (.seq f19r3 .ret) .skip))) (.seq f19r4 (.seq f19r5 .ret))))
def f19 : AF := ⟨3, [(6, none), (7, none), (8, none)], true, b19⟩
/-! cellarer/cellarerref27.Witness -/
def i20r0 : List It := [.u 6 (.mv (.c (.tl [] (some true)))), .u 7 (.mv (.b false))]
def f20r0 : AC := .reg i20r0 (some [0, 1, 2])
def i20r1 : List It := [.m 17 1, .u 18 (.lenL (.t 17)), .u 19 (.bin .eql (.t 18) (.i 0))]
def f20r1 : AC := .reg i20r1 (some [0, 1, 2, 19])
def i20r2 : List It := [.m 20 2, .u 21 (.lenL (.t 20)), .u 22 (.bin .eql (.t 21) (.i 0)), .u 6 (.mv (.c (.tl [] (some true)))), .m 7 22]
def f20r2 : AC := .reg i20r2 (some [6, 7])
def i20r3 : List It := [.m 23 1, .u 24 (.ia 1 (.t 23) (.i 0)), .u 25 (.ld false 1 (.t 24)), .m 8 25]
def f20r3 : AC := .reg i20r3 (some [0, 1, 2, 8])
def i20r4 : List It := [.m 26 2, .u 27 (.call (.f 48) [true] [.t 26]), .m 9 27]
def f20r4 : AC := .reg i20r4 (some [0, 1, 2, 8, 9])
def i20r5 : List It := [.m 28 0, .m 29 8, .m 30 9, .u 31 (.call (.f 49) [true, true, true] [.t 28, .t 29, .t 30])]
def f20r5 : AC := .reg i20r5 (some [0, 1, 2, 8, 9, 31])
def i20r6 : List It := [.u 10 (.mv (.i 0))]
def f20r6 : AC := .reg i20r6 (some [0, 1, 2, 8, 10])
def i20r7 : List It := [.m 32 10, .m 33 0, .m 34 8, .u 35 (.bin .sub (.t 34) (.i 1)), .u 36 (.ia 2 (.t 33) (.t 35)), .u 37 (.fa 1 (.t 36)), .u 38 (.ld false 1 (.t 37)), .u 39 (.lenL (.t 38)), .u 40 (.bin .lss (.t 32) (.t 39))]
def f20r7 : AC := .reg i20r7 (some [0, 1, 2, 8, 10, 40])
def i20r8 : List It := [.m 43 0, .m 44 8, .u 45 (.bin .sub (.t 44) (.i 1)), .u 46 (.ia 2 (.t 43) (.t 45)), .u 47 (.fa 1 (.t 46)), .u 48 (.ld false 1 (.t 47)), .m 49 10, .u 50 (.ia 2 (.t 48) (.t 49)), .u 51 (.fa 1 (.t 50)), .u 52 (.ld false 1 (.t 51)), .u 53 (.lenL (.t 52)), .m 11 53]
def f20r8 : AC := .reg i20r8 (some [0, 1, 2, 8, 10, 11])
def i20r9 : List It := [.m 55 0, .m 56 0, .m 57 1, .m 58 10, .u 59 (.call (.f 47) [true, true, true] [.t 56, .t 57, .t 58]), .m 60 2, .m 61 10, .u 62 (.build [(.d (.int .i64 0)), (.d (.int .i64 0)), (.d (.int .i64 0)), (.tl [] (some true))] [(0, 1, (.i 1)), (1, 1, (.t 61))]), .m 63 11, .u 64 (.call (.f 46) [true, true, true] [.t 60, .t 62, .t 63]), .u 65 (.call (.f 20) [true, true, true] [.t 55, .t 59, .t 64]), .m 54 65, .u 66 (.ext 0 (.t 54)), .u 67 (.ext 1 (.t 54)), .m 12 66, .m 13 67]
def f20r9 : AC := .reg i20r9 (some [0, 1, 2, 8, 10, 11, 12, 13])
def i20r10 : List It := [.m 68 13]
def f20r10 : AC := .reg i20r10 (some [0, 1, 2, 8, 10, 11, 12, 68])
def i20r11 : List It := [.m 69 10, .u 70 (.bsl 4 []), .m 71 12, .m 72 11, .u 73 (.slc 4 (.t 71) none (some (.t 72))), .u 74 (.appf 4 48 (.t 70) (.t 73)), .u 75 (.build [(.d (.int .i64 0)), (.d (.int .i64 0)), (.d (.int .i64 0)), (.tl [] (some true))] [(0, 1, (.i 1)), (1, 1, (.t 69)), (3, 1, (.t 74))]), .u 76 (.bsl 4 [.t 75]), .m 14 76]
def f20r11 : AC := .reg i20r11 (some [11, 12, 14])
def i20r12 : List It := [.m 77 14, .m 78 12, .m 79 11, .u 80 (.slc 4 (.t 78) (some (.t 79)) none), .u 81 (.appf 4 48 (.t 77) (.t 80)), .m 6 81, .u 7 (.mv (.b true))]
def f20r12 : AC := .reg i20r12 (some [6, 7])
def i20r13 : List It := [.m 41 10, .u 42 (.bin .add (.t 41) (.i 1)), .m 10 42]
def f20r13 : AC := .reg i20r13 (some [0, 1, 2, 8, 10])
def f20l0 : AC := (.seq (.seq f20r7 (.cond (.t 40) .skip (.exit 0))) (.seq (.blk 1 (.seq f20r8 (.seq f20r9 (.seq f20r10 (.cond (.t 68) (.seq f20r11 (.seq f20r12 .ret)) .skip))))) f20r13))
def i20r14 : List It := [.u 6 (.mv (.c (.tl [] (some true)))), .u 7 (.mv (.b false))]
def f20r14 : AC := .reg i20r14 (some [6, 7])
def i20r15 : List It := [.m 83 0, .m 84 1, .u 85 (.slc 1 (.t 84) (some (.i 1)) none), .m 86 2, .u 87 (.call (.f 50) [true] [.t 86]), .u 88 (.call (.f 20) [true, true, true] [.t 83, .t 85, .t 87]), .m 82 88, .u 89 (.ext 0 (.t 82)), .u 90 (.ext 1 (.t 82)), .m 15 89, .m 16 90]
def f20r15 : AC := .reg i20r15 (some [0, 8, 9, 15, 16])
def i20r16 : List It := [.m 91 16, .u 92 (.un .not (.t 91))]
def f20r16 : AC := .reg i20r16 (some [0, 8, 9, 15, 92])
def i20r17 : List It := [.u 6 (.mv (.c (.tl [] (some true)))), .u 7 (.mv (.b false))]
def f20r17 : AC := .reg i20r17 (some [6, 7])
def i20r18 : List It := [.m 93 0, .m 94 8, .m 95 9, .u 96 (.call (.f 52) [true, true, true] [.t 93, .t 94, .t 95]), .u 97 (.bsl 4 [.t 96]), .m 98 15, .u 99 (.appf 4 48 (.t 97) (.t 98)), .m 6 99, .u 7 (.mv (.b true))]
def f20r18 : AC := .reg i20r18 (some [6, 7])
def b20 : AC := (.seq f20r0 (.seq (.seq f20r1 (.cond (.t 19) (.seq f20r2 .ret) .skip)) (.seq f20r3 (.seq f20r4 (.seq (.seq f20r5 (.cond (.t 31) (.seq (.seq f20r6 (.blk 0 (.loop f20l0))) (.seq f20r14 .ret)) .skip)) (.seq f20r15 (.seq (.seq f20r16 (.cond (.t 92) (.seq f20r17 .ret) .skip)) (.seq f20r18 .ret))))))))
def f20 : AF := ⟨3, [(6, none), (7, none)], true, b20⟩
/-! cellarer/cellarerref27.Same -/
def i21r0 : List It := [.u 4 (.mv (.b false))]
def f21r0 : AC := .reg i21r0 (some [0, 1])
def i21r1 : List It := [.m 6 0, .u 7 (.lenL (.t 6)), .m 8 1, .u 9 (.lenL (.t 8)), .u 10 (.bin .neq (.t 7) (.t 9))]
def f21r1 : AC := .reg i21r1 (some [0, 1, 10])
def i21r2 : List It := [.u 4 (.mv (.b false))]
def f21r2 : AC := .reg i21r2 (some [4])
def i21r3 : List It := [.u 5 (.mv (.i 0))]
def f21r3 : AC := .reg i21r3 (some [0, 1, 5])
def i21r4 : List It := [.m 11 5, .m 12 0, .u 13 (.lenL (.t 12)), .u 14 (.bin .lss (.t 11) (.t 13))]
def f21r4 : AC := .reg i21r4 (some [0, 1, 5, 14])
def i21r5 : List It := [.m 17 0, .m 18 5, .u 19 (.ia 4 (.t 17) (.t 18)), .u 20 (.ld true 4 (.t 19)), .m 21 1, .m 22 5, .u 23 (.ia 4 (.t 21) (.t 22)), .u 24 (.ld true 4 (.t 23)), .u 25 (.call (.f 53) [true, true] [.t 20, .t 24]), .u 26 (.un .not (.t 25))]
def f21r5 : AC := .reg i21r5 (some [0, 1, 5, 26])
def i21r6 : List It := [.u 4 (.mv (.b false))]
def f21r6 : AC := .reg i21r6 (some [4])
def i21r7 : List It := [.m 15 5, .u 16 (.bin .add (.t 15) (.i 1)), .m 5 16]
def f21r7 : AC := .reg i21r7 (some [0, 1, 5])
def f21l0 : AC := (.seq (.seq f21r4 (.cond (.t 14) .skip (.exit 0))) (.seq (.blk 1 (.seq f21r5 (.cond (.t 26) (.seq f21r6 .ret) .skip))) f21r7))
def i21r8 : List It := [.u 4 (.mv (.b true))]
def f21r8 : AC := .reg i21r8 (some [4])
def b21 : AC := (.seq f21r0 (.seq (.seq f21r1 (.cond (.t 10) (.seq f21r2 .ret) .skip)) (.seq (.seq f21r3 (.blk 0 (.loop f21l0))) (.seq f21r8 .ret))))
def f21 : AF := ⟨2, [(4, none)], true, b21⟩
/-! cellarer/cellarerlaw27.list -/
def i22r0 : List It := [.u 2 (.mv (.c (.tl [] (some true))))]
def f22r0 : AC := .reg i22r0 (some [0])
def i22r1 : List It := [.u 3 (.mv (.c (.tl [] (some true))))]
def f22r1 : AC := .reg i22r1 (some [0, 3])
def i22r2 : List It := [.u 4 (.mv (.i 0))]
def f22r2 : AC := .reg i22r2 (some [0, 3, 4])
def i22r3 : List It := [.m 5 4, .m 6 0, .u 7 (.lenL (.t 6)), .u 8 (.bin .lss (.t 5) (.t 7)), .m 9 8, .g 10 (.mv (.t 4)) 9 true, .g 11 (.bin .lss (.t 10) (.i 100)) 9 true, .u 12 (.pick (.t 9) (.t 11) (.b false))]
def f22r3 : AC := .reg i22r3 (some [0, 3, 4, 12])
def i22r4 : List It := [.m 15 3, .m 16 0, .m 17 4, .u 18 (.ia 4 (.t 16) (.t 17)), .u 19 (.ld true 4 (.t 18)), .u 20 (.call (.f 54) [true, true] [.t 19, (.i 80)]), .u 21 (.bsl 4 [.t 20]), .u 22 (.app 4 48 (.t 15) (.t 21)), .m 3 22]
def f22r4 : AC := .reg i22r4 (some [0, 3, 4])
def i22r5 : List It := [.m 13 4, .u 14 (.bin .add (.t 13) (.i 1)), .m 4 14]
def f22r5 : AC := .reg i22r5 (some [0, 3, 4])
def f22l0 : AC := (.seq (.seq f22r3 (.cond (.t 12) .skip (.exit 0))) (.seq (.blk 1 f22r4) f22r5))
def i22r6 : List It := [.m 23 3, .m 2 23]
def f22r6 : AC := .reg i22r6 (some [2])
def b22 : AC := (.seq f22r0 (.seq f22r1 (.seq (.seq f22r2 (.blk 0 (.loop f22l0))) (.seq f22r6 .ret))))
def f22 : AF := ⟨1, [(2, none)], true, b22⟩
/-! cellarer/cellarerlaw27.parts -/
def i29r0 : List It := [.u 6 (.mv (.i 0))]
def f29r0 : AC := .reg i29r0 (some [0, 1, 2])
def i29r1 : List It := [.u 7 (.mv (.i 0))]
def f29r1 : AC := .reg i29r1 (some [0, 1, 2, 7])
def i29r2 : List It := [.m 8 7, .m 9 0, .u 10 (.lenL (.t 9)), .u 11 (.bin .lss (.t 8) (.t 10)), .m 12 11, .g 13 (.mv (.t 1)) 12 true, .g 14 (.mv (.t 2)) 12 true, .g 15 (.bin .leq (.t 13) (.t 14)) 12 true, .u 16 (.pick (.t 12) (.t 15) (.b false))]
def f29r2 : AC := .reg i29r2 (some [0, 1, 2, 7, 16])
def i29r3 : List It := [.m 19 0, .m 20 7, .u 21 (.ia 4 (.t 19) (.t 20)), .u 22 (.fa 3 (.t 21)), .u 23 (.ld false 1 (.t 22)), .m 24 1, .u 25 (.bin .add (.t 24) (.i 1)), .m 26 2, .u 27 (.call (.f 29) [true, true, true] [.t 23, .t 25, .t 26]), .m 1 27]
def f29r3 : AC := .reg i29r3 (some [0, 1, 2, 7])
def i29r4 : List It := [.m 17 7, .u 18 (.bin .add (.t 17) (.i 1)), .m 7 18]
def f29r4 : AC := .reg i29r4 (some [0, 1, 2, 7])
def f29l0 : AC := (.seq (.seq f29r2 (.cond (.t 16) .skip (.exit 0))) (.seq (.blk 1 f29r3) f29r4))
def i29r5 : List It := [.m 28 1, .m 6 28]
def f29r5 : AC := .reg i29r5 (some [6])
def b29 : AC := (.seq f29r0 (.seq (.seq f29r1 (.blk 0 (.loop f29l0))) (.seq f29r5 .ret)))
def f29 : AF := ⟨3, [(6, none)], true, b29⟩
/-! cellarer/cellarerlaw19.Small -/
def i30r0 : List It := [.u 2 (.mv (.b false))]
def f30r0 : AC := .reg i30r0 (some [0])
def i30r1 : List It := [.u 3 (.mv (.i 0))]
def f30r1 : AC := .reg i30r1 (some [0, 3])
def i30r2 : List It := [.m 5 3, .m 6 0, .u 7 (.lenL (.t 6)), .u 8 (.bin .lss (.t 5) (.t 7)), .m 9 8, .g 10 (.mv (.t 3)) 9 true, .g 11 (.bin .lss (.t 10) (.i 10)) 9 true, .u 12 (.pick (.t 9) (.t 11) (.b false))]
def f30r2 : AC := .reg i30r2 (some [0, 3, 12])
def i30r3 : List It := [.m 15 0, .m 16 3, .u 17 (.ia 2 (.t 15) (.t 16)), .u 18 (.fa 0 (.t 17)), .u 19 (.ld false 1 (.t 18)), .u 20 (.lenS (.t 19)), .u 21 (.bin .gtr (.t 20) (.i 40)), .m 22 21, .g 23 (.mv (.t 0)) 22 false, .g 24 (.mv (.t 3)) 22 false, .g 25 (.ia 2 (.t 23) (.t 24)) 22 false, .g 26 (.fa 1 (.t 25)) 22 false, .g 27 (.ld false 1 (.t 26)) 22 false, .g 28 (.lenL (.t 27)) 22 false, .g 29 (.bin .gtr (.t 28) (.i 8)) 22 false, .u 30 (.pick (.t 22) (.b true) (.t 29))]
def f30r3 : AC := .reg i30r3 (some [0, 3, 30])
def i30r4 : List It := [.u 2 (.mv (.b false))]
def f30r4 : AC := .reg i30r4 (some [2])
def i30r5 : List It := [.u 4 (.mv (.i 0))]
def f30r5 : AC := .reg i30r5 (some [0, 3, 4])
def i30r6 : List It := [.m 31 4, .m 32 0, .m 33 3, .u 34 (.ia 2 (.t 32) (.t 33)), .u 35 (.fa 1 (.t 34)), .u 36 (.ld false 1 (.t 35)), .u 37 (.lenL (.t 36)), .u 38 (.bin .lss (.t 31) (.t 37))]
def f30r6 : AC := .reg i30r6 (some [0, 3, 4, 38])
def i30r7 : List It := [.m 41 0, .m 42 3, .u 43 (.ia 2 (.t 41) (.t 42)), .u 44 (.fa 1 (.t 43)), .u 45 (.ld false 1 (.t 44)), .m 46 4, .u 47 (.ia 2 (.t 45) (.t 46)), .u 48 (.fa 0 (.t 47)), .u 49 (.ld false 1 (.t 48)), .u 50 (.lenS (.t 49)), .u 51 (.bin .gtr (.t 50) (.i 40)), .m 52 51, .g 53 (.mv (.t 0)) 52 false, .g 54 (.mv (.t 3)) 52 false, .g 55 (.ia 2 (.t 53) (.t 54)) 52 false, .g 56 (.fa 1 (.t 55)) 52 false, .g 57 (.ld false 1 (.t 56)) 52 false, .g 58 (.mv (.t 4)) 52 false, .g 59 (.ia 2 (.t 57) (.t 58)) 52 false, .g 60 (.fa 1 (.t 59)) 52 false, .g 61 (.ld false 1 (.t 60)) 52 false, .g 62 (.lenL (.t 61)) 52 false, .g 63 (.bin .gtr (.t 62) (.i 8)) 52 false, .u 64 (.pick (.t 52) (.b true) (.t 63))]
def f30r7 : AC := .reg i30r7 (some [0, 3, 4, 64])
def i30r8 : List It := [.u 2 (.mv (.b false))]
def f30r8 : AC := .reg i30r8 (some [2])
def i30r9 : List It := [.m 39 4, .u 40 (.bin .add (.t 39) (.i 1)), .m 4 40]
def f30r9 : AC := .reg i30r9 (some [0, 3, 4])
def f30l0 : AC := (.seq (.seq f30r6 (.cond (.t 38) .skip (.exit 2))) (.seq (.blk 3 (.seq f30r7 (.cond (.t 64) (.seq f30r8 .ret) .skip))) f30r9))
def i30r10 : List It := [.m 13 3, .u 14 (.bin .add (.t 13) (.i 1)), .m 3 14]
def f30r10 : AC := .reg i30r10 (some [0, 3])
def f30l1 : AC := (.seq (.seq f30r2 (.cond (.t 12) .skip (.exit 0))) (.seq (.blk 1 (.seq (.seq f30r3 (.cond (.t 30) (.seq f30r4 .ret) .skip)) (.seq f30r5 (.blk 2 (.loop f30l0))))) f30r10))
def i30r11 : List It := [.m 65 0, .u 66 (.lenL (.t 65)), .u 67 (.bin .leq (.t 66) (.i 10)), .m 2 67]
def f30r11 : AC := .reg i30r11 (some [2])
def b30 : AC := (.seq f30r0 (.seq (.seq f30r1 (.blk 0 (.loop f30l1))) (.seq f30r11 .ret)))
def f30 : AF := ⟨1, [(2, none)], true, b30⟩
/-! cellarer/cellarerlaw19.Lists -/
def i31r0 : List It := [.u 0 (.mv (.c (.tl [] (some true))))]
def f31r0 : AC := .reg i31r0 (some [])
def i31r1 : List It := [.u 1 (.build [(.d (.str ⟨#[]⟩)), (.tl [] (some true))] [(0, 1, (.c (.d (.str ⟨#[70, 97, 108, 115, 101]⟩))))]), .u 2 (.build [(.d (.str ⟨#[]⟩)), (.tl [] (some true))] [(0, 1, (.c (.d (.str ⟨#[84, 114, 117, 101]⟩))))]), .u 3 (.bsl 2 [.t 1, .t 2]), .u 4 (.build [(.d (.str ⟨#[]⟩)), (.tl [] (some true))] [(0, 1, (.c (.d (.str ⟨#[66, 111, 111, 108]⟩)))), (1, 1, (.t 3))]), .u 5 (.build [(.d (.str ⟨#[]⟩)), (.tl [] (some true))] [(0, 1, (.c (.d (.str ⟨#[78, 105, 108]⟩))))]), .u 6 (.bsl 1 [(.i 0), (.i 2)]), .u 7 (.build [(.d (.str ⟨#[]⟩)), (.tl [] (some true))] [(0, 1, (.c (.d (.str ⟨#[67, 111, 110, 115]⟩)))), (1, 1, (.t 6))]), .u 8 (.bsl 2 [.t 5, .t 7]), .u 9 (.build [(.d (.str ⟨#[]⟩)), (.tl [] (some true))] [(0, 1, (.c (.d (.str ⟨#[76, 105, 115, 116]⟩)))), (1, 1, (.t 8))]), .u 10 (.bsl 2 [.t 4, .t 9]), .m 0 10]
def f31r1 : AC := .reg i31r1 (some [0])
def b31 : AC := (.seq f31r0 (.seq f31r1 .ret))
def f31 : AF := ⟨0, [(0, none)], true, b31⟩
/-! cellarer/cellarerlaw27.made -/
def i32r0 : List It := [.u 4 (.alloc 4 (.agg [(.d (.int .i64 0)), (.d (.int .i64 0)), (.d (.int .i64 0)), (.tl [] (some true))]))]
def f32r0 : AC := .reg i32r0 (some [0, 1, 4])
def i32r1 : List It := [.m 5 0, .m 6 1, .u 7 (.build [(.d (.int .i64 0)), (.d (.int .i64 0)), (.d (.int .i64 0)), (.tl [] (some true))] [(0, 1, (.i 1)), (1, 1, (.t 5)), (3, 1, (.t 6))]), .o none (.st 4 (.t 4) (.t 7)) none]
def f32r1 : AC := .reg i32r1 (some [4])
def b32 : AC := (.seq f32r0 (.seq f32r1 .ret))
def f32 : AF := ⟨2, [(4, some (true, 4))], true, b32⟩
/-! cellarer/datas.Check -/
def i33r0 : List It := [.u 1 (.box 1 (.t 0)), .u 2 (.mv (.i 0))]
def f33r0 : AC := .reg i33r0 (some [1])
def i33r1 : List It := [.u 7 (.ld false 1 (.t 1)), .u 8 (.call (.f 62) [true] [.t 7])]
def f33r1 : AC := .reg i33r1 (some [1, 8])
def i33r2 : List It := [.u 2 (.mv (.i 6))]
def f33r2 : AC := .reg i33r2 (some [2])
def i33r3 : List It := [.u 9 (.ld false 1 (.t 1)), .u 10 (.call (.f 63) [true] [.t 9]), .u 11 (.un .not (.t 10))]
def f33r3 : AC := .reg i33r3 (some [1, 11])
def i33r4 : List It := [.u 2 (.mv (.i 3))]
def f33r4 : AC := .reg i33r4 (some [2])
def i33r5 : List It := [.u 12 (.ld false 1 (.t 1)), .u 13 (.call (.f 64) [true] [.t 12])]
def f33r5 : AC := .reg i33r5 (some [1, 13])
def i33r6 : List It := [.u 2 (.mv (.i 8))]
def f33r6 : AC := .reg i33r6 (some [2])
def i33r7 : List It := [.u 14 (.ld false 1 (.t 1)), .u 15 (.lenL (.t 14)), .u 16 (.mv (.i 0))]
def f33r7 : AC := .reg i33r7 (some [1, 14, 15, 16])
def i33r8 : List It := [.u 17 (.bin .lss (.t 16) (.t 15))]
def f33r8 : AC := .reg i33r8 (some [1, 14, 15, 16, 17])
def i33r9 : List It := [.u 18 (.ia 2 (.t 14) (.t 16)), .u 19 (.ld true 2 (.t 18)), .u 4 (.alloc 2 (.agg [(.d (.str ⟨#[]⟩)), (.tl [] (some true))])), .o none (.st 2 (.t 4) (.t 19)) none, .frz 4]
def f33r9 : AC := .reg i33r9 (some [1, 4, 14, 15, 16])
def i33r10 : List It := [.u 20 (.fa 1 (.t 4)), .u 21 (.ld false 1 (.t 20)), .u 22 (.lenL (.t 21)), .u 23 (.mv (.i 0)), .kill 4]
def f33r10 : AC := .reg i33r10 (some [1, 14, 15, 16, 21, 22, 23])
def i33r11 : List It := [.u 24 (.bin .lss (.t 23) (.t 22))]
def f33r11 : AC := .reg i33r11 (some [1, 14, 15, 16, 21, 22, 23, 24])
def i33r12 : List It := [.u 25 (.ia 2 (.t 21) (.t 23)), .u 26 (.ld true 2 (.t 25)), .u 6 (.alloc 2 (.agg [(.d (.str ⟨#[]⟩)), (.tl [] (some true))])), .o none (.st 2 (.t 6) (.t 26)) none, .frz 6]
def f33r12 : AC := .reg i33r12 (some [1, 6, 14, 15, 16, 21, 22, 23])
def i33r13 : List It := [.u 27 (.fa 1 (.t 6)), .u 28 (.ld false 1 (.t 27)), .u 29 (.mkf 65 [.t 1]), .u 30 (.call (.f 34) [true, true] [.t 28, .t 29]), .kill 6]
def f33r13 : AC := .reg i33r13 (some [1, 14, 15, 16, 21, 22, 23, 30])
def i33r14 : List It := [.u 2 (.mv (.i 10))]
def f33r14 : AC := .reg i33r14 (some [2])
def i33r15 : List It := [.u 31 (.bin .add (.t 23) (.i 1)), .m 23 31]
def f33r15 : AC := .reg i33r15 (some [1, 14, 15, 16, 21, 22, 23])
def f33l0 : AC := (.seq f33r11 (.seq (.cond (.t 24) .skip (.exit 2)) (.seq (.blk 3 (.seq f33r12 (.seq f33r13 (.cond (.t 30) (.seq f33r14 .ret) .skip)))) f33r15)))
def i33r16 : List It := [.u 32 (.bin .add (.t 16) (.i 1)), .m 16 32]
def f33r16 : AC := .reg i33r16 (some [1, 14, 15, 16])
def f33l1 : AC := (.seq f33r8 (.seq (.cond (.t 17) .skip (.exit 0)) (.seq (.blk 1 (.seq f33r9 (.seq f33r10 (.blk 2 (.loop f33l0))))) f33r16)))
def i33r17 : List It := [.u 33 (.ld false 1 (.t 1)), .u 34 (.call (.f 67) [true] [.t 33]), .u 35 (.un .not (.t 34))]
def f33r17 : AC := .reg i33r17 (some [35])
def i33r18 : List It := [.u 2 (.mv (.i 7))]
def f33r18 : AC := .reg i33r18 (some [2])
def i33r19 : List It := [.u 2 (.mv (.i 0))]
def f33r19 : AC := .reg i33r19 (some [2])
def b33 : AC := (.seq f33r0 (.seq (.seq f33r1 (.cond (.t 8) (.seq f33r2 .ret) .skip)) (.seq (.seq f33r3 (.cond (.t 11) (.seq f33r4 .ret) .skip)) (.seq (.seq f33r5 (.cond (.t 13) (.seq f33r6 .ret) .skip)) (.seq (.seq f33r7 (.blk 0 (.loop f33l1))) (.seq (.seq f33r17 (.cond (.t 35) (.seq f33r18 .ret) .skip)) (.seq f33r19 .ret)))))))
def f33 : AF := ⟨1, [(2, none)], true, b33⟩
/-! slices.ContainsFunc[[]cellarer/api.Type,cellarer/api.Type] -/
def i34r0 : List It := [.u 4 (.mv (.b false))]
def f34r0 : AC := .reg i34r0 (some [0, 1])
def i34r1 : List It := [.m 5 0, .m 6 1, .u 7 (.call (.f 68) [true, true] [.t 5, .t 6]), .u 8 (.bin .geq (.t 7) (.i 0)), .m 4 8]
def f34r1 : AC := .reg i34r1 (some [4])
def b34 : AC := (.seq f34r0 (.seq f34r1 .ret))
def f34 : AF := ⟨2, [(4, none)], true, b34⟩
/-! cellarer/matrix.Check$1 -/
def i35r0 : List It := [.u 3 (.mv (.b false))]
def f35r0 : AC := .reg i35r0 (some [0, 1])
def i35r1 : List It := [.m 4 0, .u 5 (.bin .lss (.t 4) (.i 0)), .m 6 5, .g 7 (.mv (.t 0)) 6 false, .g 8 (.ld false 1 (.t 1)) 6 false, .g 9 (.lenL (.t 8)) 6 false, .g 10 (.bin .gtr (.t 7) (.t 9)) 6 false, .u 11 (.pick (.t 6) (.b true) (.t 10)), .m 3 11]
def f35r1 : AC := .reg i35r1 (some [3])
def b35 : AC := (.seq f35r0 (.seq f35r1 .ret))
def f35 : AF := ⟨2, [(3, none)], true, b35⟩
/-! slices.ContainsFunc[[]cellarer/matrix.Pat,cellarer/matrix.Pat] -/
def i36r0 : List It := [.u 4 (.mv (.b false))]
def f36r0 : AC := .reg i36r0 (some [0, 1])
def i36r1 : List It := [.m 5 0, .m 6 1, .u 7 (.call (.f 69) [true, true] [.t 5, .t 6]), .u 8 (.bin .geq (.t 7) (.i 0)), .m 4 8]
def f36r1 : AC := .reg i36r1 (some [4])
def b36 : AC := (.seq f36r0 (.seq f36r1 .ret))
def f36 : AF := ⟨2, [(4, none)], true, b36⟩
/-! cellarer/matrix.Check$2 -/
def i37r0 : List It := [.u 1 (.box 4 (.t 0)), .u 2 (.mv (.b false)), .frz 1]
def f37r0 : AC := .reg i37r0 (some [1])
def i37r1 : List It := [.u 3 (.ld true 4 (.t 1)), .u 4 (.call (.f 38) [true, true] [.t 3, (.i 0)]), .m 2 4, .kill 1]
def f37r1 : AC := .reg i37r1 (some [2])
def b37 : AC := (.seq f37r0 (.seq f37r1 .ret))
def f37 : AF := ⟨1, [(2, none)], true, b37⟩
/-! cellarer/matrix.deep -/
def i38r0 : List It := [.u 2 (.box 4 (.t 0)), .u 3 (.box 1 (.t 1)), .u 4 (.mv (.b false)), .frz 2]
def f38r0 : AC := .reg i38r0 (some [2, 3])
def i38r1 : List It := [.u 5 (.ld false 1 (.t 3)), .u 6 (.bin .gtr (.t 5) (.i 64)), .m 7 6, .g 8 (.fa 3 (.t 2)) 7 false, .g 9 (.ld false 1 (.t 8)) 7 false, .g 10 (.mkf 70 [.t 3]) 7 false, .g 11 (.call (.f 36) [true, true] [.t 9, .t 10]) 7 false, .u 12 (.pick (.t 7) (.b true) (.t 11)), .m 4 12, .kill 2]
def f38r1 : AC := .reg i38r1 (some [4])
def b38 : AC := (.seq f38r0 (.seq f38r1 .ret))
def f38 : AF := ⟨2, [(4, none)], true, b38⟩
/-! cellarer/matrix.fits -/
def i39r0 : List It := [.u 5 (.box 4 (.t 2)), .u 6 (.mv (.b false)), .frz 5]
def f39r0 : AC := .reg i39r0 (some [0, 1, 5])
def i39r1 : List It := [.u 10 (.fa 0 (.t 5)), .u 11 (.ld false 1 (.t 10))]
def f39r1 : AC := .reg i39r1 (some [0, 1, 5, 11])
def i39r2 : List It := [.u 13 (.bin .eql (.t 11) (.i 0)), .m 12 13]
def f39r2 : AC := .reg i39r2 (some [0, 1, 5, 11, 12])
def i39r3 : List It := [.u 14 (.fa 1 (.t 5)), .u 15 (.ld false 1 (.t 14)), .u 16 (.bin .eql (.t 15) (.i 0)), .m 17 16, .g 18 (.fa 2 (.t 5)) 17 true, .g 19 (.ld false 1 (.t 18)) 17 true, .g 20 (.bin .eql (.t 19) (.i 0)) 17 true, .u 21 (.pick (.t 17) (.t 20) (.b false)), .m 22 21, .g 23 (.fa 3 (.t 5)) 22 true, .g 24 (.ld false 1 (.t 23)) 22 true, .g 25 (.lenL (.t 24)) 22 true, .g 26 (.bin .eql (.t 25) (.i 0)) 22 true, .u 27 (.pick (.t 22) (.t 26) (.b false)), .m 6 27, .kill 5]
def f39r3 : AC := .reg i39r3 (some [6])
def i39r4 : List It := [.u 29 (.bin .eql (.t 11) (.i 2)), .m 28 29]
def f39r4 : AC := .reg i39r4 (some [0, 1, 5, 11, 28])
def i39r5 : List It := [.m 30 1, .u 31 (.bin .eql (.t 30) (.i 0)), .m 32 31, .g 33 (.fa 1 (.t 5)) 32 true, .g 34 (.ld false 1 (.t 33)) 32 true, .g 35 (.bin .eql (.t 34) (.i 0)) 32 true, .u 36 (.pick (.t 32) (.t 35) (.b false)), .m 37 36, .g 38 (.fa 3 (.t 5)) 37 true, .g 39 (.ld false 1 (.t 38)) 37 true, .g 40 (.lenL (.t 39)) 37 true, .g 41 (.bin .eql (.t 40) (.i 0)) 37 true, .u 42 (.pick (.t 37) (.t 41) (.b false)), .m 6 42, .kill 5]
def f39r5 : AC := .reg i39r5 (some [6])
def i39r6 : List It := [.u 44 (.bin .eql (.t 11) (.i 1)), .m 43 44]
def f39r6 : AC := .reg i39r6 (some [0, 1, 5, 43])
def i39r7 : List It := [.m 45 1, .u 46 (.bin .eql (.t 45) (.i 0)), .m 47 46, .g 48 (.fa 2 (.t 5)) 47 false, .g 49 (.ld false 1 (.t 48)) 47 false, .g 50 (.bin .neq (.t 49) (.i 0)) 47 false, .u 51 (.pick (.t 47) (.b true) (.t 50)), .m 52 51, .g 53 (.fa 1 (.t 5)) 52 false, .g 54 (.ld false 1 (.t 53)) 52 false, .g 55 (.bin .lss (.t 54) (.i 0)) 52 false, .u 56 (.pick (.t 52) (.b true) (.t 55)), .m 57 56, .g 58 (.fa 1 (.t 5)) 57 false, .g 59 (.ld false 1 (.t 58)) 57 false, .g 60 (.mv (.t 0)) 57 false, .g 61 (.mv (.t 1)) 57 false, .g 62 (.bin .sub (.t 61) (.i 1)) 57 false, .g 63 (.ia 2 (.t 60) (.t 62)) 57 false, .g 64 (.fa 1 (.t 63)) 57 false, .g 65 (.ld false 1 (.t 64)) 57 false, .g 66 (.lenL (.t 65)) 57 false, .g 67 (.bin .geq (.t 59) (.t 66)) 57 false, .u 68 (.pick (.t 57) (.b true) (.t 67))]
def f39r7 : AC := .reg i39r7 (some [0, 1, 5, 68])
def i39r8 : List It := [.u 6 (.mv (.b false)), .kill 5]
def f39r8 : AC := .reg i39r8 (some [6])
def i39r9 : List It := [.m 69 0, .m 70 1, .u 71 (.bin .sub (.t 70) (.i 1)), .u 72 (.ia 2 (.t 69) (.t 71)), .u 73 (.fa 1 (.t 72)), .u 74 (.ld false 1 (.t 73)), .u 75 (.fa 1 (.t 5)), .u 76 (.ld false 1 (.t 75)), .u 77 (.ia 2 (.t 74) (.t 76)), .u 78 (.fa 1 (.t 77)), .u 79 (.ld false 1 (.t 78)), .m 7 79]
def f39r9 : AC := .reg i39r9 (some [0, 5, 7])
def i39r10 : List It := [.m 80 7, .u 81 (.lenL (.t 80)), .u 82 (.fa 3 (.t 5)), .u 83 (.ld false 1 (.t 82)), .u 84 (.lenL (.t 83)), .u 85 (.bin .neq (.t 81) (.t 84))]
def f39r10 : AC := .reg i39r10 (some [0, 5, 7, 85])
def i39r11 : List It := [.u 6 (.mv (.b false)), .kill 5]
def f39r11 : AC := .reg i39r11 (some [6])
def i39r12 : List It := [.u 86 (.fa 3 (.t 5)), .u 87 (.ld false 1 (.t 86)), .u 88 (.lenL (.t 87)), .u 89 (.mv (.i 0)), .kill 5]
def f39r12 : AC := .reg i39r12 (some [0, 7, 87, 88, 89])
def i39r13 : List It := [.u 90 (.bin .lss (.t 89) (.t 88))]
def f39r13 : AC := .reg i39r13 (some [0, 7, 87, 88, 89, 90])
def i39r14 : List It := [.m 91 89, .u 92 (.ia 4 (.t 87) (.t 89)), .u 93 (.ld true 4 (.t 92)), .u 9 (.alloc 4 (.agg [(.d (.int .i64 0)), (.d (.int .i64 0)), (.d (.int .i64 0)), (.tl [] (some true))])), .m 8 91, .o none (.st 4 (.t 9) (.t 93)) none, .frz 9]
def f39r14 : AC := .reg i39r14 (some [0, 7, 8, 9, 87, 88, 89])
def i39r15 : List It := [.m 94 0, .m 95 7, .m 96 8, .u 97 (.ia 1 (.t 95) (.t 96)), .u 98 (.ld false 1 (.t 97)), .u 99 (.ld true 4 (.t 9)), .u 100 (.call (.f 39) [true, true, true] [.t 94, .t 98, .t 99]), .u 101 (.un .not (.t 100)), .kill 9]
def f39r15 : AC := .reg i39r15 (some [0, 7, 87, 88, 89, 101])
def i39r16 : List It := [.u 6 (.mv (.b false))]
def f39r16 : AC := .reg i39r16 (some [6])
def i39r17 : List It := [.u 102 (.bin .add (.t 89) (.i 1)), .m 89 102]
def f39r17 : AC := .reg i39r17 (some [0, 7, 87, 88, 89])
def f39l0 : AC := (.seq f39r13 (.seq (.cond (.t 90) .skip (.exit 1)) (.seq (.blk 2 (.seq f39r14 (.seq f39r15 (.cond (.t 101) (.seq f39r16 .ret) .skip)))) f39r17)))
def i39r18 : List It := [.u 6 (.mv (.b true))]
def f39r18 : AC := .reg i39r18 (some [6])
def i39r19 : List It := [.u 6 (.mv (.b false)), .kill 5]
def f39r19 : AC := .reg i39r19 (some [6])
def b39 : AC := (.seq f39r0 (.seq (.seq f39r1 (.blk 0 (.seq f39r2 (.cond (.t 12) (.seq f39r3 .ret) (.seq f39r4 (.cond (.t 28) (.seq f39r5 .ret) (.seq f39r6 (.cond (.t 43) (.seq (.seq f39r7 (.cond (.t 68) (.seq f39r8 .ret) .skip)) (.seq f39r9 (.seq (.seq f39r10 (.cond (.t 85) (.seq f39r11 .ret) .skip)) (.seq (.seq f39r12 (.blk 1 (.loop f39l0))) (.seq f39r18 .ret))))) .skip)))))))) (.seq f39r19 .ret)))
def f39 : AF := ⟨3, [(6, none)], true, b39⟩
/-! cellarer/cellarerref17.Check -/
def i40r0 : List It := [.u 2 (.mv (.i 0))]
def f40r0 : AC := .reg i40r0 (some [0])
def i40r1 : List It := [.m 4 0, .u 5 (.call (.f 71) [true] [.t 4]), .m 3 5]
def f40r1 : AC := .reg i40r1 (some [0, 3])
def i40r2 : List It := [.u 2 (.mv (.i 6))]
def f40r2 : AC := .reg i40r2 (some [2])
def i40r3 : List It := [.m 7 0, .u 8 (.call (.f 72) [true] [.t 7]), .u 9 (.un .not (.t 8)), .m 6 9]
def f40r3 : AC := .reg i40r3 (some [0, 6])
def i40r4 : List It := [.u 2 (.mv (.i 3))]
def f40r4 : AC := .reg i40r4 (some [2])
def i40r5 : List It := [.m 11 0, .u 12 (.call (.f 73) [true] [.t 11]), .m 10 12]
def f40r5 : AC := .reg i40r5 (some [0, 10])
def i40r6 : List It := [.u 2 (.mv (.i 8))]
def f40r6 : AC := .reg i40r6 (some [2])
def i40r7 : List It := [.m 14 0, .u 15 (.call (.f 74) [true] [.t 14]), .u 16 (.un .not (.t 15)), .m 13 16]
def f40r7 : AC := .reg i40r7 (some [0, 13])
def i40r8 : List It := [.u 2 (.mv (.i 10))]
def f40r8 : AC := .reg i40r8 (some [2])
def i40r9 : List It := [.m 18 0, .u 19 (.call (.f 75) [true] [.t 18]), .u 20 (.un .not (.t 19)), .m 17 20]
def f40r9 : AC := .reg i40r9 (some [17])
def i40r10 : List It := [.u 2 (.mv (.i 7))]
def f40r10 : AC := .reg i40r10 (some [2])
def i40r11 : List It := [.u 2 (.mv (.i 0))]
def f40r11 : AC := .reg i40r11 (some [2])
def b40 : AC := (.seq f40r0 (.seq (.blk 0 (.seq f40r1 (.cond (.t 3) (.seq f40r2 .ret) (.seq f40r3 (.cond (.t 6) (.seq f40r4 .ret) (.seq f40r5 (.cond (.t 10) (.seq f40r6 .ret) (.seq f40r7 (.cond (.t 13) (.seq f40r8 .ret) (.seq f40r9 (.cond (.t 17) (.seq f40r10 .ret) .skip))))))))))) (.seq f40r11 .ret)))
def f40 : AF := ⟨1, [(2, none)], true, b40⟩
/-! cellarer/cellarerref27.deep -/
def i41r0 : List It := [.u 2 (.box 4 (.t 0)), .u 4 (.mv (.b false)), .frz 2]
def f41r0 : AC := .reg i41r0 (some [1, 2])
def i41r1 : List It := [.m 6 1, .u 7 (.bin .lss (.t 6) (.i 0))]
def f41r1 : AC := .reg i41r1 (some [1, 2, 7])
def i41r2 : List It := [.u 4 (.mv (.b true)), .kill 2]
def f41r2 : AC := .reg i41r2 (some [4])
def i41r3 : List It := [.u 5 (.mv (.i 0))]
def f41r3 : AC := .reg i41r3 (some [1, 2, 5])
def i41r4 : List It := [.m 8 5, .u 9 (.fa 3 (.t 2)), .u 10 (.ld false 1 (.t 9)), .u 11 (.lenL (.t 10)), .u 12 (.bin .lss (.t 8) (.t 11))]
def f41r4 : AC := .reg i41r4 (some [1, 2, 5, 12])
def i41r5 : List It := [.u 15 (.fa 3 (.t 2)), .u 16 (.ld false 1 (.t 15)), .m 17 5, .u 18 (.ia 4 (.t 16) (.t 17)), .u 19 (.ld true 4 (.t 18)), .m 20 1, .u 21 (.bin .sub (.t 20) (.i 1)), .u 22 (.call (.f 41) [true, true] [.t 19, .t 21])]
def f41r5 : AC := .reg i41r5 (some [1, 2, 5, 22])
def i41r6 : List It := [.u 4 (.mv (.b true)), .kill 2]
def f41r6 : AC := .reg i41r6 (some [4])
def i41r7 : List It := [.m 13 5, .u 14 (.bin .add (.t 13) (.i 1)), .m 5 14]
def f41r7 : AC := .reg i41r7 (some [1, 2, 5])
def f41l0 : AC := (.seq (.seq f41r4 (.cond (.t 12) .skip (.exit 0))) (.seq (.blk 1 (.seq f41r5 (.cond (.t 22) (.seq f41r6 .ret) .skip))) f41r7))
def i41r8 : List It := [.u 4 (.mv (.b false)), .kill 2]
def f41r8 : AC := .reg i41r8 (some [4])
def b41 : AC := (.seq f41r0 (.seq (.seq f41r1 (.cond (.t 7) (.seq f41r2 .ret) .skip)) (.seq (.seq f41r3 (.blk 0 (.loop f41l0))) (.seq f41r8 .ret))))
def f41 : AF := ⟨2, [(4, none)], true, b41⟩
/-! cellarer/cellarerref27.fits -/
def i42r0 : List It := [.u 5 (.box 4 (.t 2)), .u 6 (.mv (.b false)), .frz 5]
def f42r0 : AC := .reg i42r0 (some [0, 1, 5])
def i42r1 : List It := [.u 9 (.fa 0 (.t 5)), .u 10 (.ld false 1 (.t 9))]
def f42r1 : AC := .reg i42r1 (some [0, 1, 5, 10])
def i42r2 : List It := [.u 12 (.bin .eql (.t 10) (.i 0)), .m 11 12]
def f42r2 : AC := .reg i42r2 (some [0, 1, 5, 10, 11])
def i42r3 : List It := [.u 13 (.fa 1 (.t 5)), .u 14 (.ld false 1 (.t 13)), .u 15 (.bin .eql (.t 14) (.i 0)), .m 16 15, .g 17 (.fa 2 (.t 5)) 16 true, .g 18 (.ld false 1 (.t 17)) 16 true, .g 19 (.bin .eql (.t 18) (.i 0)) 16 true, .u 20 (.pick (.t 16) (.t 19) (.b false)), .m 21 20, .g 22 (.fa 3 (.t 5)) 21 true, .g 23 (.ld false 1 (.t 22)) 21 true, .g 24 (.lenL (.t 23)) 21 true, .g 25 (.bin .eql (.t 24) (.i 0)) 21 true, .u 26 (.pick (.t 21) (.t 25) (.b false)), .m 6 26, .kill 5]
def f42r3 : AC := .reg i42r3 (some [6])
def i42r4 : List It := [.u 28 (.bin .eql (.t 10) (.i 2)), .m 27 28]
def f42r4 : AC := .reg i42r4 (some [0, 1, 5, 10, 27])
def i42r5 : List It := [.m 29 1, .u 30 (.bin .eql (.t 29) (.i 0)), .m 31 30, .g 32 (.fa 1 (.t 5)) 31 true, .g 33 (.ld false 1 (.t 32)) 31 true, .g 34 (.bin .eql (.t 33) (.i 0)) 31 true, .u 35 (.pick (.t 31) (.t 34) (.b false)), .m 36 35, .g 37 (.fa 3 (.t 5)) 36 true, .g 38 (.ld false 1 (.t 37)) 36 true, .g 39 (.lenL (.t 38)) 36 true, .g 40 (.bin .eql (.t 39) (.i 0)) 36 true, .u 41 (.pick (.t 36) (.t 40) (.b false)), .m 6 41, .kill 5]
def f42r5 : AC := .reg i42r5 (some [6])
def i42r6 : List It := [.u 43 (.bin .eql (.t 10) (.i 1)), .m 42 43]
def f42r6 : AC := .reg i42r6 (some [0, 1, 5, 42])
def i42r7 : List It := [.m 44 1, .u 45 (.bin .eql (.t 44) (.i 0)), .m 46 45, .g 47 (.fa 2 (.t 5)) 46 false, .g 48 (.ld false 1 (.t 47)) 46 false, .g 49 (.bin .neq (.t 48) (.i 0)) 46 false, .u 50 (.pick (.t 46) (.b true) (.t 49)), .m 51 50, .g 52 (.fa 1 (.t 5)) 51 false, .g 53 (.ld false 1 (.t 52)) 51 false, .g 54 (.bin .lss (.t 53) (.i 0)) 51 false, .u 55 (.pick (.t 51) (.b true) (.t 54)), .m 56 55, .g 57 (.fa 1 (.t 5)) 56 false, .g 58 (.ld false 1 (.t 57)) 56 false, .g 59 (.mv (.t 0)) 56 false, .g 60 (.mv (.t 1)) 56 false, .g 61 (.bin .sub (.t 60) (.i 1)) 56 false, .g 62 (.ia 2 (.t 59) (.t 61)) 56 false, .g 63 (.fa 1 (.t 62)) 56 false, .g 64 (.ld false 1 (.t 63)) 56 false, .g 65 (.lenL (.t 64)) 56 false, .g 66 (.bin .geq (.t 58) (.t 65)) 56 false, .u 67 (.pick (.t 56) (.b true) (.t 66))]
def f42r7 : AC := .reg i42r7 (some [0, 1, 5, 67])
def i42r8 : List It := [.u 6 (.mv (.b false)), .kill 5]
def f42r8 : AC := .reg i42r8 (some [6])
def i42r9 : List It := [.m 68 0, .m 69 1, .u 70 (.bin .sub (.t 69) (.i 1)), .u 71 (.ia 2 (.t 68) (.t 70)), .u 72 (.fa 1 (.t 71)), .u 73 (.ld false 1 (.t 72)), .u 74 (.fa 1 (.t 5)), .u 75 (.ld false 1 (.t 74)), .u 76 (.ia 2 (.t 73) (.t 75)), .u 77 (.fa 1 (.t 76)), .u 78 (.ld false 1 (.t 77)), .m 7 78]
def f42r9 : AC := .reg i42r9 (some [0, 5, 7])
def i42r10 : List It := [.m 79 7, .u 80 (.lenL (.t 79)), .u 81 (.fa 3 (.t 5)), .u 82 (.ld false 1 (.t 81)), .u 83 (.lenL (.t 82)), .u 84 (.bin .neq (.t 80) (.t 83))]
def f42r10 : AC := .reg i42r10 (some [0, 5, 7, 84])
def i42r11 : List It := [.u 6 (.mv (.b false)), .kill 5]
def f42r11 : AC := .reg i42r11 (some [6])
def i42r12 : List It := [.u 8 (.mv (.i 0))]
def f42r12 : AC := .reg i42r12 (some [0, 5, 7, 8])
def i42r13 : List It := [.m 85 8, .m 86 7, .u 87 (.lenL (.t 86)), .u 88 (.bin .lss (.t 85) (.t 87))]
def f42r13 : AC := .reg i42r13 (some [0, 5, 7, 8, 88])
def i42r14 : List It := [.m 91 0, .m 92 7, .m 93 8, .u 94 (.ia 1 (.t 92) (.t 93)), .u 95 (.ld false 1 (.t 94)), .u 96 (.fa 3 (.t 5)), .u 97 (.ld false 1 (.t 96)), .m 98 8, .u 99 (.ia 4 (.t 97) (.t 98)), .u 100 (.ld true 4 (.t 99)), .u 101 (.call (.f 42) [true, true, true] [.t 91, .t 95, .t 100]), .u 102 (.un .not (.t 101))]
def f42r14 : AC := .reg i42r14 (some [0, 5, 7, 8, 102])
def i42r15 : List It := [.u 6 (.mv (.b false)), .kill 5]
def f42r15 : AC := .reg i42r15 (some [6])
def i42r16 : List It := [.m 89 8, .u 90 (.bin .add (.t 89) (.i 1)), .m 8 90]
def f42r16 : AC := .reg i42r16 (some [0, 5, 7, 8])
def f42l0 : AC := (.seq (.seq f42r13 (.cond (.t 88) .skip (.exit 1))) (.seq (.blk 2 (.seq f42r14 (.cond (.t 102) (.seq f42r15 .ret) .skip))) f42r16))
def i42r17 : List It := [.u 6 (.mv (.b true)), .kill 5]
def f42r17 : AC := .reg i42r17 (some [6])
def i42r18 : List It := [.u 6 (.mv (.b false)), .kill 5]
def f42r18 : AC := .reg i42r18 (some [6])
def b42 : AC := (.seq f42r0 (.seq (.seq f42r1 (.blk 0 (.seq f42r2 (.cond (.t 11) (.seq f42r3 .ret) (.seq f42r4 (.cond (.t 27) (.seq f42r5 .ret) (.seq f42r6 (.cond (.t 42) (.seq (.seq f42r7 (.cond (.t 67) (.seq f42r8 .ret) .skip)) (.seq f42r9 (.seq (.seq f42r10 (.cond (.t 84) (.seq f42r11 .ret) .skip)) (.seq (.seq f42r12 (.blk 1 (.loop f42l0))) (.seq f42r17 .ret))))) .skip)))))))) (.seq f42r18 .ret)))
def f42 : AF := ⟨3, [(6, none)], true, b42⟩
/-! slices.Clone[[][]cellarer/matrix.Pat,[]cellarer/matrix.Pat] -/
def i43r0 : List It := [.u 2 (.mv (.c (.tl [] (some true))))]
def f43r0 : AC := .reg i43r0 (some [0])
def i43r1 : List It := [.m 3 0, .u 4 (.nilBin .s .eql (.t 3))]
def f43r1 : AC := .reg i43r1 (some [0, 4])
def i43r2 : List It := [.u 2 (.mv (.c (.tl [] (some true))))]
def f43r2 : AC := .reg i43r2 (some [2])
def i43r3 : List It := [.u 5 (.bsl 1 []), .m 6 0, .u 7 (.app 1 24 (.t 5) (.t 6)), .m 2 7]
def f43r3 : AC := .reg i43r3 (some [2])
def b43 : AC := (.seq f43r0 (.amb f43r1 (.t 4) (.seq f43r2 .ret) .skip (.seq f43r3 .ret)))
def f43 : AF := ⟨1, [(2, none)], false, b43⟩
/-! cellarer/matrix.useful -/
def i44r0 : List It := [.u 4 (.box 1 (.t 0)), .u 5 (.box 1 (.t 1)), .u 7 (.box 1 (.t 3)), .u 8 (.alloc 1 (.d (.bool false))), .frz 4, .frz 5, .frz 7]
def f44r0 : AC := .reg i44r0 (some [2, 4, 5, 7, 8])
def i44r1 : List It := [.u 14 (.ld false 1 (.t 5)), .u 15 (.lenL (.t 14)), .u 16 (.bin .eql (.t 15) (.i 0))]
def f44r1 : AC := .reg i44r1 (some [2, 4, 5, 7, 8, 16])
def i44r2 : List It := [.m 17 2, .u 18 (.lenL (.t 17)), .u 19 (.bin .eql (.t 18) (.i 0)), .o none (.st 1 (.t 8) (.t 19)) none, .kill 4, .kill 5, .kill 7]
def f44r2 : AC := .reg i44r2 (some [8])
def i44r3 : List It := [.u 20 (.ld false 1 (.t 7)), .u 21 (.ia 4 (.t 20) (.i 0)), .u 22 (.ld true 4 (.t 21)), .u 9 (.alloc 4 (.agg [(.d (.int .i64 0)), (.d (.int .i64 0)), (.d (.int .i64 0)), (.tl [] (some true))])), .o none (.st 4 (.t 9) (.t 22)) none]
def f44r3 : AC := .reg i44r3 (some [2, 4, 5, 7, 8, 9])
def i44r4 : List It := [.frz 9, .u 23 (.fa 0 (.t 9)), .u 24 (.ld false 1 (.t 23))]
def f44r4 : AC := .reg i44r4 (some [2, 4, 5, 7, 8, 9, 24])
def i44r5 : List It := [.u 26 (.bin .eql (.t 24) (.i 1)), .m 25 26]
def f44r5 : AC := .reg i44r5 (some [2, 4, 5, 7, 8, 9, 24, 25])
def i44r6 : List It := [.u 27 (.ldf false 1 (.t 4)), .u 28 (.ld false 1 (.t 4)), .u 29 (.ld false 1 (.t 5)), .u 30 (.fa 1 (.t 9)), .u 31 (.ld false 1 (.t 30)), .u 32 (.calln (.f 76) [true, true, true] [.t 28, .t 29, .t 31]), .m 33 2, .u 34 (.fa 1 (.t 9)), .u 35 (.ld false 1 (.t 34)), .u 36 (.fa 3 (.t 9)), .u 37 (.ld false 1 (.t 36)), .u 38 (.lenL (.t 37)), .u 39 (.calln (.f 77) [true, true, true] [.t 33, .t 35, .t 38]), .u 40 (.fa 3 (.t 9)), .u 41 (.ld false 1 (.t 40)), .u 42 (.call (.f 78) [true] [.t 41]), .u 43 (.ldf false 1 (.t 7)), .u 44 (.slc 4 (.t 43) (some (.i 1)) none), .u 45 (.appf 4 48 (.t 42) (.t 44)), .u 46 (.call (.f 44) [true, true, true, true] [.t 27, .t 32, .t 39, .t 45]), .o none (.st 1 (.t 8) (.t 46)) none, .kill 4, .kill 5, .kill 7]
def f44r6 : AC := .reg i44r6 (some [8])
def i44r7 : List It := [.u 48 (.bin .eql (.t 24) (.i 2)), .m 47 48]
def f44r7 : AC := .reg i44r7 (some [2, 4, 5, 7, 8, 9, 47])
def i44r8 : List It := [.u 49 (.ld false 1 (.t 4)), .u 50 (.ld false 1 (.t 5)), .u 51 (.slc 1 (.t 50) (some (.i 1)) none), .m 52 2, .u 53 (.mkf 80 [.t 9]), .u 54 (.calln (.f 79) [true, true] [.t 52, .t 53]), .u 55 (.ld false 1 (.t 7)), .u 56 (.slc 4 (.t 55) (some (.i 1)) none), .u 57 (.call (.f 44) [true, true, true, true] [.t 49, .t 51, .t 54, .t 56]), .o none (.st 1 (.t 8) (.t 57)) none, .kill 4, .kill 5, .kill 7]
def f44r8 : AC := .reg i44r8 (some [8])
def i44r9 : List It := [.m 59 2, .u 60 (.call (.f 82) [true] [.t 59]), .m 58 60, .u 61 (.ext 0 (.t 58)), .u 62 (.ext 1 (.t 58)), .m 10 61, .m 11 62]
def f44r9 : AC := .reg i44r9 (some [2, 4, 5, 7, 8, 10])
def i44r10 : List It := [.u 63 (.ld false 1 (.t 5)), .u 64 (.ia 1 (.t 63) (.i 0)), .u 65 (.ld false 1 (.t 64)), .u 66 (.bin .eql (.t 65) (.i 0)), .m 67 66, .g 68 (.mv (.t 10)) 67 false, .g 69 (.lenM (.t 68)) 67 false, .g 70 (.ld false 1 (.t 4)) 67 false, .g 71 (.ld false 1 (.t 5)) 67 false, .g 72 (.ia 1 (.t 71) (.i 0)) 67 false, .g 73 (.ld false 1 (.t 72)) 67 false, .g 74 (.bin .sub (.t 73) (.i 1)) 67 false, .g 75 (.ia 2 (.t 70) (.t 74)) 67 false, .g 76 (.fa 1 (.t 75)) 67 false, .g 77 (.ld false 1 (.t 76)) 67 false, .g 78 (.lenL (.t 77)) 67 false, .g 79 (.bin .lss (.t 69) (.t 78)) 67 false, .u 80 (.pick (.t 67) (.b true) (.t 79))]
def f44r10 : AC := .reg i44r10 (some [2, 4, 5, 7, 8, 80])
def i44r11 : List It := [.u 81 (.ld false 1 (.t 4)), .u 82 (.ld false 1 (.t 5)), .u 83 (.slc 1 (.t 82) (some (.i 1)) none), .m 84 2, .u 85 (.calln (.f 79) [true, true] [.t 84, (.f 81)]), .u 86 (.ld false 1 (.t 7)), .u 87 (.slc 4 (.t 86) (some (.i 1)) none), .u 88 (.call (.f 44) [true, true, true, true] [.t 81, .t 83, .t 85, .t 87]), .o none (.st 1 (.t 8) (.t 88)) none, .kill 4, .kill 5, .kill 7]
def f44r11 : AC := .reg i44r11 (some [8])
def i44r12 : List It := [.u 89 (.ld false 1 (.t 4)), .u 90 (.ld false 1 (.t 5)), .m 91 2, .u 92 (.call (.f 83) [true, true, true] [.t 89, .t 90, .t 91])]
def f44r12 : AC := .reg i44r12 (some [4, 5, 7, 8, 92])
def i44r13 : List It := [.m 12 93]
def f44r13 : AC := .reg i44r13 (some [4, 5, 7, 8, 12, 94])
def i44r14 : List It := [.m 13 94]
def f44r14 : AC := .reg i44r14 (some [4, 5, 7, 8, 12, 13])
def i44r15 : List It := [.u 95 (.ld false 1 (.t 4)), .u 96 (.ld false 1 (.t 4)), .u 97 (.ld false 1 (.t 5)), .m 98 12, .u 99 (.calln (.f 76) [true, true, true] [.t 96, .t 97, .t 98]), .m 100 13, .u 101 (.ld false 1 (.t 4)), .u 102 (.ld false 1 (.t 5)), .u 103 (.ia 1 (.t 102) (.i 0)), .u 104 (.ld false 1 (.t 103)), .u 105 (.bin .sub (.t 104) (.i 1)), .u 106 (.ia 2 (.t 101) (.t 105)), .u 107 (.fa 1 (.t 106)), .u 108 (.ld false 1 (.t 107)), .m 109 12, .u 110 (.ia 2 (.t 108) (.t 109)), .u 111 (.fa 1 (.t 110)), .u 112 (.ld false 1 (.t 111)), .u 113 (.lenL (.t 112)), .u 114 (.mkslT (.d (.agg [(.int .i64 0), (.int .i64 0), (.int .i64 0), (.lst [])])) 48 (.t 113)), .u 115 (.ld false 1 (.t 7)), .u 116 (.slc 4 (.t 115) (some (.i 1)) none), .u 117 (.appd 4 48 (.t 114) (.t 116)), .u 118 (.call (.f 44) [true, true, true, true] [.t 95, .t 99, .t 100, .t 117])]
def f44r15 : AC := .reg i44r15 (some [8, 118])
def i44r16 : List It := [.o none (.st 1 (.t 8) (.b true)) none]
def f44r16 : AC := .reg i44r16 (some [8])
def a44q0 : AC := (.seq f44r13 f44r14)
def d44q0 : AC := (.blk 2 (.seq f44r15 (.cond (.t 118) (.seq f44r16 .ret) .skip)))
def i44r17 : List It := [.o none (.st 1 (.t 8) (.b false)) none, .kill 4, .kill 5, .kill 7]
def f44r17 : AC := .reg i44r17 (some [8])
def b44 : AC := (.seq f44r0 (.seq (.seq f44r1 (.cond (.t 16) (.seq f44r2 .ret) .skip)) (.seq f44r3 (.seq (.seq f44r4 (.blk 0 (.seq f44r5 (.cond (.t 25) (.seq f44r6 .ret) (.seq f44r7 (.cond (.t 47) (.seq f44r8 .ret) .skip)))))) (.seq f44r9 (.seq (.seq f44r10 (.cond (.t 80) (.seq f44r11 .ret) .skip)) (.seq (.seq f44r12 (.blk 1 (.rng (.t 92) 704))) (.seq f44r17 .ret))))))))
def f44 : AF := ⟨4, [(8, some (false, 1))], true, b44⟩
def f1000704 : AF := ⟨2, [(93, none), (94, none)], false, .seq a44q0 d44q0⟩
/-! cellarer/cellarerlaw27.to -/
def i45r0 : List It := [.u 1 (.box 4 (.t 0)), .u 2 (.alloc 4 (.agg [(.d (.int .i64 0)), (.d (.int .i64 0)), (.d (.int .i64 0)), (.tl [] (some true))])), .frz 1]
def f45r0 : AC := .reg i45r0 (some [1, 2])
def i45r1 : List It := [.u 3 (.fa 0 (.t 1)), .u 4 (.ld false 1 (.t 3)), .u 5 (.fa 1 (.t 1)), .u 6 (.ld false 1 (.t 5)), .u 7 (.fa 2 (.t 1)), .u 8 (.ld false 1 (.t 7)), .u 9 (.fa 3 (.t 1)), .u 10 (.ld false 1 (.t 9)), .u 11 (.calln (.f 15) [true] [.t 10]), .u 12 (.build [(.d (.int .i64 0)), (.d (.int .i64 0)), (.d (.int .i64 0)), (.tl [] (some true))] [(0, 1, (.t 4)), (1, 1, (.t 6)), (2, 1, (.t 8)), (3, 1, (.t 11))]), .o none (.st 4 (.t 2) (.t 12)) none, .kill 1]
def f45r1 : AC := .reg i45r1 (some [2])
def b45 : AC := (.seq f45r0 (.seq f45r1 .ret))
def f45 : AF := ⟨1, [(2, some (true, 4))], true, b45⟩
/-! cellarer/cellarerref27.special -/
def i46r0 : List It := [.u 4 (.box 4 (.t 1)), .u 6 (.mv (.c (.tl [] (some true)))), .frz 4]
def f46r0 : AC := .reg i46r0 (some [0, 2, 4])
def i46r1 : List It := [.u 7 (.mv (.c (.tl [] (some true))))]
def f46r1 : AC := .reg i46r1 (some [0, 2, 4, 7])
def i46r2 : List It := [.u 8 (.mv (.i 0))]
def f46r2 : AC := .reg i46r2 (some [0, 2, 4, 7, 8])
def i46r3 : List It := [.m 11 8, .m 12 0, .u 13 (.lenL (.t 12)), .u 14 (.bin .lss (.t 11) (.t 13))]
def f46r3 : AC := .reg i46r3 (some [0, 2, 4, 7, 8, 14])
def i46r4 : List It := [.m 17 0, .m 18 8, .u 19 (.ia 1 (.t 17) (.t 18)), .u 20 (.ld false 1 (.t 19)), .u 21 (.ia 4 (.t 20) (.i 0)), .u 22 (.ld true 4 (.t 21)), .u 9 (.alloc 4 (.agg [(.d (.int .i64 0)), (.d (.int .i64 0)), (.d (.int .i64 0)), (.tl [] (some true))])), .o none (.st 4 (.t 9) (.t 22)) none, .frz 9]
def f46r4 : AC := .reg i46r4 (some [0, 2, 4, 7, 8, 9])
def i46r5 : List It := [.u 10 (.mv (.c (.tl [] (some true))))]
def f46r5 : AC := .reg i46r5 (some [0, 2, 4, 7, 8, 9, 10])
def i46r6 : List It := [.u 23 (.fa 0 (.t 9)), .u 24 (.ld false 1 (.t 23)), .u 25 (.bin .eql (.t 24) (.i 0))]
def f46r6 : AC := .reg i46r6 (some [0, 2, 4, 7, 8, 9, 10, 25])
def i46r7 : List It := [.m 26 2, .u 27 (.mksl (.d (.agg [(.int .i64 0), (.int .i64 0), (.int .i64 0), (.lst [])])) 4 48 (.t 26)), .m 10 27, .kill 9]
def f46r7 : AC := .reg i46r7 (some [0, 2, 4, 7, 8, 10])
def i46r8 : List It := [.u 28 (.ld true 4 (.t 9)), .u 29 (.ld true 4 (.t 4)), .u 30 (.call (.f 84) [true, true] [.t 28, .t 29])]
def f46r8 : AC := .reg i46r8 (some [0, 2, 4, 7, 8, 9, 10, 30])
def i46r9 : List It := [.m 31 10, .u 32 (.fa 3 (.t 9)), .u 33 (.ld false 1 (.t 32)), .u 34 (.app 4 48 (.t 31) (.t 33)), .m 10 34, .kill 9]
def f46r9 : AC := .reg i46r9 (some [0, 2, 4, 7, 8, 10])
def i46r10 : List It := [.m 35 7, .m 36 10, .m 37 0, .m 38 8, .u 39 (.ia 1 (.t 37) (.t 38)), .u 40 (.ld false 1 (.t 39)), .u 41 (.slc 4 (.t 40) (some (.i 1)) none), .u 42 (.app 4 48 (.t 36) (.t 41)), .frz 42, .u 43 (.bsl 1 [.t 42]), .u 44 (.app 1 24 (.t 35) (.t 43)), .m 7 44]
def f46r10 : AC := .reg i46r10 (some [0, 2, 4, 7, 8])
def i46r11 : List It := [.m 15 8, .u 16 (.bin .add (.t 15) (.i 1)), .m 8 16, .kill 9]
def f46r11 : AC := .reg i46r11 (some [0, 2, 4, 7, 8])
def f46l0 : AC := (.seq (.seq f46r3 (.cond (.t 14) .skip (.exit 0))) (.seq (.blk 1 (.seq f46r4 (.seq f46r5 (.seq (.seq f46r6 (.cond (.t 25) f46r7 (.seq f46r8 (.cond (.t 30) f46r9 (.exit 1))))) f46r10)))) f46r11))
def i46r12 : List It := [.m 45 7, .m 6 45, .kill 4]
def f46r12 : AC := .reg i46r12 (some [6])
def b46 : AC := (.seq f46r0 (.seq f46r1 (.seq (.seq f46r2 (.blk 0 (.loop f46l0))) (.seq f46r12 .ret))))
def f46 : AF := ⟨3, [(6, none)], true, b46⟩
/-! cellarer/cellarerref27.under -/
def i47r0 : List It := [.u 6 (.mv (.c (.tl [] (some true))))]
def f47r0 : AC := .reg i47r0 (some [0, 1, 2])
def i47r1 : List It := [.u 8 (.bsl 1 []), .m 9 0, .m 10 1, .u 11 (.ia 1 (.t 10) (.i 0)), .u 12 (.ld false 1 (.t 11)), .u 13 (.bin .sub (.t 12) (.i 1)), .u 14 (.ia 2 (.t 9) (.t 13)), .u 15 (.fa 1 (.t 14)), .u 16 (.ld false 1 (.t 15)), .m 17 2, .u 18 (.ia 2 (.t 16) (.t 17)), .u 19 (.fa 1 (.t 18)), .u 20 (.ld false 1 (.t 19)), .u 21 (.app 1 8 (.t 8) (.t 20)), .m 7 21]
def f47r1 : AC := .reg i47r1 (some [1, 7])
def i47r2 : List It := [.m 22 7, .m 23 1, .u 24 (.slc 1 (.t 23) (some (.i 1)) none), .u 25 (.app 1 8 (.t 22) (.t 24)), .m 6 25]
def f47r2 : AC := .reg i47r2 (some [6])
def b47 : AC := (.seq f47r0 (.seq f47r1 (.seq f47r2 .ret)))
def f47 : AF := ⟨3, [(6, none)], true, b47⟩
/-! cellarer/cellarerref27.heads -/
def i48r0 : List It := [.u 2 (.mv (.c (.tl [] (some true))))]
def f48r0 : AC := .reg i48r0 (some [0])
def i48r1 : List It := [.u 3 (.mv (.c (.tl [] (some true))))]
def f48r1 : AC := .reg i48r1 (some [0, 3])
def i48r2 : List It := [.u 4 (.mv (.i 0))]
def f48r2 : AC := .reg i48r2 (some [0, 3, 4])
def i48r3 : List It := [.m 8 4, .m 9 0, .u 10 (.lenL (.t 9)), .u 11 (.bin .lss (.t 8) (.t 10))]
def f48r3 : AC := .reg i48r3 (some [0, 3, 4, 11])
def i48r4 : List It := [.m 14 0, .m 15 4, .u 16 (.ia 1 (.t 14) (.t 15)), .u 17 (.ld false 1 (.t 16)), .u 18 (.ia 4 (.t 17) (.i 0)), .u 19 (.ld true 4 (.t 18)), .u 5 (.alloc 4 (.agg [(.d (.int .i64 0)), (.d (.int .i64 0)), (.d (.int .i64 0)), (.tl [] (some true))])), .o none (.st 4 (.t 5) (.t 19)) none, .frz 5]
def f48r4 : AC := .reg i48r4 (some [0, 3, 4, 5])
def i48r5 : List It := [.u 20 (.fa 0 (.t 5)), .u 21 (.ld false 1 (.t 20)), .u 22 (.bin .eql (.t 21) (.i 0)), .m 6 22]
def f48r5 : AC := .reg i48r5 (some [0, 3, 4, 5, 6])
def i48r6 : List It := [.u 7 (.mv (.i 0))]
def f48r6 : AC := .reg i48r6 (some [0, 3, 4, 5, 6, 7])
def i48r7 : List It := [.m 23 7, .m 24 3, .u 25 (.lenL (.t 24)), .u 26 (.bin .lss (.t 23) (.t 25))]
def f48r7 : AC := .reg i48r7 (some [0, 3, 4, 5, 6, 7, 26])
def i48r8 : List It := [.m 29 6, .m 30 29, .g 31 (.mv (.t 3)) 30 false, .g 32 (.mv (.t 7)) 30 false, .g 33 (.ia 4 (.t 31) (.t 32)) 30 false, .g 34 (.ld true 4 (.t 33)) 30 false, .g 35 (.ld true 4 (.t 5)) 30 false, .g 36 (.call (.f 84) [true, true] [.t 34, .t 35]) 30 false, .u 37 (.pick (.t 30) (.b true) (.t 36)), .m 6 37]
def f48r8 : AC := .reg i48r8 (some [0, 3, 4, 5, 6, 7])
def i48r9 : List It := [.m 27 7, .u 28 (.bin .add (.t 27) (.i 1)), .m 7 28]
def f48r9 : AC := .reg i48r9 (some [0, 3, 4, 5, 6, 7])
def f48l0 : AC := (.seq (.seq f48r7 (.cond (.t 26) .skip (.exit 2))) (.seq (.blk 3 f48r8) f48r9))
def i48r10 : List It := [.m 38 6, .u 39 (.un .not (.t 38))]
def f48r10 : AC := .reg i48r10 (some [0, 3, 4, 5, 39])
def i48r11 : List It := [.m 40 3, .u 41 (.ld true 4 (.t 5)), .u 42 (.bsl 4 [.t 41]), .u 43 (.app 4 48 (.t 40) (.t 42)), .m 3 43, .kill 5]
def f48r11 : AC := .reg i48r11 (some [0, 3, 4])
def i48r12 : List It := [.m 12 4, .u 13 (.bin .add (.t 12) (.i 1)), .m 4 13, .kill 5]
def f48r12 : AC := .reg i48r12 (some [0, 3, 4])
def f48l1 : AC := (.seq (.seq f48r3 (.cond (.t 11) .skip (.exit 0))) (.seq (.blk 1 (.seq f48r4 (.seq f48r5 (.seq (.seq f48r6 (.blk 2 (.loop f48l0))) (.seq f48r10 (.cond (.t 39) f48r11 .skip)))))) f48r12))
def i48r13 : List It := [.m 44 3, .m 2 44]
def f48r13 : AC := .reg i48r13 (some [2])
def b48 : AC := (.seq f48r0 (.seq f48r1 (.seq (.seq f48r2 (.blk 0 (.loop f48l1))) (.seq f48r13 .ret))))
def f48 : AF := ⟨1, [(2, none)], true, b48⟩
/-! cellarer/cellarerref27.all -/
def i49r0 : List It := [.u 6 (.mv (.b false))]
def f49r0 : AC := .reg i49r0 (some [0, 1, 2])
def i49r1 : List It := [.m 7 1, .u 8 (.bin .neq (.t 7) (.i 0)), .m 9 8, .g 10 (.mv (.t 2)) 9 true, .g 11 (.lenL (.t 10)) 9 true, .g 12 (.mv (.t 0)) 9 true, .g 13 (.mv (.t 1)) 9 true, .g 14 (.bin .sub (.t 13) (.i 1)) 9 true, .g 15 (.ia 2 (.t 12) (.t 14)) 9 true, .g 16 (.fa 1 (.t 15)) 9 true, .g 17 (.ld false 1 (.t 16)) 9 true, .g 18 (.lenL (.t 17)) 9 true, .g 19 (.bin .eql (.t 11) (.t 18)) 9 true, .u 20 (.pick (.t 9) (.t 19) (.b false)), .m 6 20]
def f49r1 : AC := .reg i49r1 (some [6])
def b49 : AC := (.seq f49r0 (.seq f49r1 .ret))
def f49 : AF := ⟨3, [(6, none)], true, b49⟩
/-! cellarer/cellarerref27.rest -/
def i50r0 : List It := [.u 2 (.mv (.c (.tl [] (some true))))]
def f50r0 : AC := .reg i50r0 (some [0])
def i50r1 : List It := [.u 3 (.mv (.c (.tl [] (some true))))]
def f50r1 : AC := .reg i50r1 (some [0, 3])
def i50r2 : List It := [.u 4 (.mv (.i 0))]
def f50r2 : AC := .reg i50r2 (some [0, 3, 4])
def i50r3 : List It := [.m 5 4, .m 6 0, .u 7 (.lenL (.t 6)), .u 8 (.bin .lss (.t 5) (.t 7))]
def f50r3 : AC := .reg i50r3 (some [0, 3, 4, 8])
def i50r4 : List It := [.m 11 0, .m 12 4, .u 13 (.ia 1 (.t 11) (.t 12)), .u 14 (.ld false 1 (.t 13)), .u 15 (.ia 4 (.t 14) (.i 0)), .u 16 (.fa 0 (.t 15)), .u 17 (.ld false 1 (.t 16)), .u 18 (.bin .eql (.t 17) (.i 0))]
def f50r4 : AC := .reg i50r4 (some [0, 3, 4, 18])
def i50r5 : List It := [.m 19 3, .m 20 0, .m 21 4, .u 22 (.ia 1 (.t 20) (.t 21)), .u 23 (.ld false 1 (.t 22)), .u 24 (.slc 4 (.t 23) (some (.i 1)) none), .u 25 (.bsl 1 [.t 24]), .u 26 (.app 1 24 (.t 19) (.t 25)), .m 3 26]
def f50r5 : AC := .reg i50r5 (some [0, 3, 4])
def i50r6 : List It := [.m 9 4, .u 10 (.bin .add (.t 9) (.i 1)), .m 4 10]
def f50r6 : AC := .reg i50r6 (some [0, 3, 4])
def f50l0 : AC := (.seq (.seq f50r3 (.cond (.t 8) .skip (.exit 0))) (.seq (.blk 1 (.seq f50r4 (.cond (.t 18) f50r5 .skip))) f50r6))
def i50r7 : List It := [.m 27 3, .m 2 27]
def f50r7 : AC := .reg i50r7 (some [2])
def b50 : AC := (.seq f50r0 (.seq f50r1 (.seq (.seq f50r2 (.blk 0 (.loop f50l0))) (.seq f50r7 .ret))))
def f50 : AF := ⟨1, [(2, none)], true, b50⟩
/-! cellarer/matrix.witness -/
def i51r0 : List It := [.u 3 (.box 1 (.t 0)), .u 4 (.box 1 (.t 1)), .u 6 (.alloc 1 (.tl [] (some true))), .u 7 (.alloc 1 (.d (.bool false))), .frz 3, .frz 4]
def f51r0 : AC := .reg i51r0 (some [2, 3, 4, 6, 7])
def i51r1 : List It := [.u 20 (.ld false 1 (.t 4)), .u 21 (.lenL (.t 20)), .u 22 (.bin .eql (.t 21) (.i 0))]
def f51r1 : AC := .reg i51r1 (some [2, 3, 4, 6, 7, 22])
def i51r2 : List It := [.m 23 2, .u 24 (.lenL (.t 23)), .u 25 (.bin .eql (.t 24) (.i 0)), .o none (.st 1 (.t 6) (.c (.tl [] (some true)))) none, .o none (.st 1 (.t 7) (.t 25)) none, .kill 3, .kill 4]
def f51r2 : AC := .reg i51r2 (some [6, 7])
def i51r3 : List It := [.m 27 2, .u 28 (.call (.f 82) [true] [.t 27]), .m 26 28, .u 29 (.ext 0 (.t 26)), .u 30 (.ext 1 (.t 26)), .m 8 29, .m 9 30]
def f51r3 : AC := .reg i51r3 (some [2, 3, 4, 6, 7, 8, 9])
def i51r4 : List It := [.u 31 (.ld false 1 (.t 4)), .u 32 (.ia 1 (.t 31) (.i 0)), .u 33 (.ld false 1 (.t 32)), .u 34 (.bin .neq (.t 33) (.i 0)), .m 35 34, .g 36 (.mv (.t 8)) 35 true, .g 37 (.lenM (.t 36)) 35 true, .g 38 (.ld false 1 (.t 3)) 35 true, .g 39 (.ld false 1 (.t 4)) 35 true, .g 40 (.ia 1 (.t 39) (.i 0)) 35 true, .g 41 (.ld false 1 (.t 40)) 35 true, .g 42 (.bin .sub (.t 41) (.i 1)) 35 true, .g 43 (.ia 2 (.t 38) (.t 42)) 35 true, .g 44 (.fa 1 (.t 43)) 35 true, .g 45 (.ld false 1 (.t 44)) 35 true, .g 46 (.lenL (.t 45)) 35 true, .g 47 (.bin .eql (.t 37) (.t 46)) 35 true, .u 48 (.pick (.t 35) (.t 47) (.b false))]
def f51r4 : AC := .reg i51r4 (some [2, 3, 4, 6, 7, 8, 9, 48])
def i51r5 : List It := [.u 49 (.ld false 1 (.t 3)), .u 50 (.ld false 1 (.t 4)), .m 51 2, .u 52 (.call (.f 83) [true, true, true] [.t 49, .t 50, .t 51])]
def f51r5 : AC := .reg i51r5 (some [3, 4, 6, 7, 52])
def i51r6 : List It := [.m 10 53]
def f51r6 : AC := .reg i51r6 (some [3, 4, 6, 7, 10, 54])
def i51r7 : List It := [.m 11 54]
def f51r7 : AC := .reg i51r7 (some [3, 4, 6, 7, 10, 11])
def i51r8 : List It := [.u 56 (.ld false 1 (.t 3)), .u 57 (.ld false 1 (.t 3)), .u 58 (.ld false 1 (.t 4)), .m 59 10, .u 60 (.calln (.f 76) [true, true, true] [.t 57, .t 58, .t 59]), .m 61 11, .u 62 (.call (.f 51) [true, true, true] [.t 56, .t 60, .t 61]), .m 55 62, .u 63 (.ext 0 (.t 55)), .u 64 (.ext 1 (.t 55)), .m 12 63, .m 13 64]
def f51r8 : AC := .reg i51r8 (some [3, 4, 6, 7, 10, 12, 13])
def i51r9 : List It := [.m 65 13]
def f51r9 : AC := .reg i51r9 (some [3, 4, 6, 7, 10, 12, 65])
def i51r10 : List It := [.u 66 (.ld false 1 (.t 3)), .u 67 (.ld false 1 (.t 4)), .u 68 (.ia 1 (.t 67) (.i 0)), .u 69 (.ld false 1 (.t 68)), .u 70 (.bin .sub (.t 69) (.i 1)), .u 71 (.ia 2 (.t 66) (.t 70)), .u 72 (.fa 1 (.t 71)), .u 73 (.ld false 1 (.t 72)), .m 74 10, .u 75 (.ia 2 (.t 73) (.t 74)), .u 76 (.fa 1 (.t 75)), .u 77 (.ld false 1 (.t 76)), .u 78 (.lenL (.t 77)), .m 14 78]
def f51r10 : AC := .reg i51r10 (some [6, 7, 10, 12, 14])
def i51r11 : List It := [.m 79 10, .m 80 12, .m 81 14, .u 82 (.slc 4 (.t 80) none (some (.t 81))), .u 83 (.callf (.f 78) [true] [.t 82]), .u 84 (.build [(.d (.int .i64 0)), (.d (.int .i64 0)), (.d (.int .i64 0)), (.tl [] (some true))] [(0, 1, (.i 1)), (1, 1, (.t 79)), (3, 1, (.t 83))]), .u 85 (.bsl 4 [.t 84]), .m 86 12, .m 87 14, .u 88 (.slc 4 (.t 86) (some (.t 87)) none), .u 89 (.appf 4 48 (.t 85) (.t 88)), .o none (.st 1 (.t 6) (.t 89)) none, .o none (.st 1 (.t 7) (.b true)) none]
def f51r11 : AC := .reg i51r11 (some [6, 7])
def a51q0 : AC := (.seq f51r6 f51r7)
def d51q0 : AC := (.blk 1 (.seq f51r8 (.seq f51r9 (.cond (.t 65) (.seq f51r10 (.seq f51r11 .ret)) .skip))))
def i51r12 : List It := [.o none (.st 1 (.t 6) (.c (.tl [] (some true)))) none, .o none (.st 1 (.t 7) (.b false)) none, .kill 3, .kill 4]
def f51r12 : AC := .reg i51r12 (some [6, 7])
def i51r13 : List It := [.u 91 (.ld false 1 (.t 3)), .u 92 (.ld false 1 (.t 4)), .u 93 (.slc 1 (.t 92) (some (.i 1)) none), .m 94 2, .u 95 (.calln (.f 79) [true, true] [.t 94, (.f 81)]), .u 96 (.call (.f 51) [true, true, true] [.t 91, .t 93, .t 95]), .m 90 96, .u 97 (.ext 0 (.t 90)), .u 98 (.ext 1 (.t 90)), .m 15 97, .m 16 98]
def f51r13 : AC := .reg i51r13 (some [3, 4, 6, 7, 8, 9, 15, 16])
def i51r14 : List It := [.m 99 16, .u 100 (.un .not (.t 99))]
def f51r14 : AC := .reg i51r14 (some [3, 4, 6, 7, 8, 9, 15, 100])
def i51r15 : List It := [.o none (.st 1 (.t 6) (.c (.tl [] (some true)))) none, .o none (.st 1 (.t 7) (.b false)) none, .kill 3, .kill 4]
def f51r15 : AC := .reg i51r15 (some [6, 7])
def i51r16 : List It := [.u 101 (.build [(.d (.int .i64 0)), (.d (.int .i64 0)), (.d (.int .i64 0)), (.tl [] (some true))] []), .u 17 (.alloc 4 (.agg [(.d (.int .i64 0)), (.d (.int .i64 0)), (.d (.int .i64 0)), (.tl [] (some true))])), .o none (.st 4 (.t 17) (.t 101)) none]
def f51r16 : AC := .reg i51r16 (some [3, 4, 6, 7, 8, 9, 15, 17])
def i51r17 : List It := [.m 103 8, .u 104 (.lenM (.t 103)), .u 105 (.bin .gtr (.t 104) (.i 0)), .m 102 105]
def f51r17 : AC := .reg i51r17 (some [3, 4, 6, 7, 8, 9, 15, 17, 102])
def i51r18 : List It := [.u 18 (.mv (.i 0))]
def f51r18 : AC := .reg i51r18 (some [3, 4, 6, 7, 8, 15, 17, 18])
def i51r19 : List It := [.m 106 8, .m 107 18, .u 108 (.lk .i (.d (.bool false)) false (.t 106) (.t 107))]
def f51r19 : AC := .reg i51r19 (some [3, 4, 6, 7, 8, 15, 17, 18, 108])
def i51r20 : List It := [.m 109 18, .u 110 (.bin .add (.t 109) (.i 1)), .m 18 110]
def f51r20 : AC := .reg i51r20 (some [3, 4, 6, 7, 8, 15, 17, 18])
def f51l0 : AC := (.seq (.seq f51r19 (.cond (.t 108) .skip (.exit 3))) (.blk 4 f51r20))
def i51r21 : List It := [.m 111 18, .u 112 (.ld false 1 (.t 3)), .u 113 (.ld false 1 (.t 4)), .u 114 (.ia 1 (.t 113) (.i 0)), .u 115 (.ld false 1 (.t 114)), .u 116 (.bin .sub (.t 115) (.i 1)), .u 117 (.ia 2 (.t 112) (.t 116)), .u 118 (.fa 1 (.t 117)), .u 119 (.ld false 1 (.t 118)), .m 120 18, .u 121 (.ia 2 (.t 119) (.t 120)), .u 122 (.fa 1 (.t 121)), .u 123 (.ld false 1 (.t 122)), .u 124 (.lenL (.t 123)), .u 125 (.mkslT (.d (.agg [(.int .i64 0), (.int .i64 0), (.int .i64 0), (.lst [])])) 48 (.t 124)), .u 126 (.build [(.d (.int .i64 0)), (.d (.int .i64 0)), (.d (.int .i64 0)), (.tl [] (some true))] [(0, 1, (.i 1)), (1, 1, (.t 111)), (3, 1, (.t 125))]), .o none (.st 4 (.t 17) (.t 126)) none, .kill 3, .kill 4]
def f51r21 : AC := .reg i51r21 (some [6, 7, 15, 17])
def i51r22 : List It := [.m 128 9, .u 129 (.lenM (.t 128)), .u 130 (.bin .gtr (.t 129) (.i 0)), .m 127 130, .kill 3, .kill 4]
def f51r22 : AC := .reg i51r22 (some [6, 7, 9, 15, 17, 127])
def i51r23 : List It := [.u 19 (.mv (.i 0))]
def f51r23 : AC := .reg i51r23 (some [6, 7, 9, 15, 17, 19])
def i51r24 : List It := [.m 131 9, .m 132 19, .u 133 (.lk .i (.d (.bool false)) false (.t 131) (.t 132))]
def f51r24 : AC := .reg i51r24 (some [6, 7, 9, 15, 17, 19, 133])
def i51r25 : List It := [.m 134 19, .u 135 (.bin .add (.t 134) (.i 1)), .m 19 135]
def f51r25 : AC := .reg i51r25 (some [6, 7, 9, 15, 17, 19])
def f51l1 : AC := (.seq (.seq f51r24 (.cond (.t 133) .skip (.exit 5))) (.blk 6 f51r25))
def i51r26 : List It := [.m 136 19, .u 137 (.build [(.d (.int .i64 0)), (.d (.int .i64 0)), (.d (.int .i64 0)), (.tl [] (some true))] [(0, 1, (.i 2)), (2, 1, (.t 136))]), .o none (.st 4 (.t 17) (.t 137)) none]
def f51r26 : AC := .reg i51r26 (some [6, 7, 15, 17])
def i51r27 : List It := [.u 138 (.ld true 4 (.t 17)), .u 139 (.bsl 4 [.t 138]), .m 140 15, .u 141 (.appf 4 48 (.t 139) (.t 140)), .o none (.st 1 (.t 6) (.t 141)) none, .o none (.st 1 (.t 7) (.b true)) none, .kill 17]
def f51r27 : AC := .reg i51r27 (some [6, 7])
def b51 : AC := (.seq f51r0 (.seq (.seq f51r1 (.cond (.t 22) (.seq f51r2 .ret) .skip)) (.seq f51r3 (.seq (.seq f51r4 (.cond (.t 48) (.seq (.seq f51r5 (.blk 0 (.rng (.t 52) 816))) (.seq f51r12 .ret)) .skip)) (.seq f51r13 (.seq (.seq f51r14 (.cond (.t 100) (.seq f51r15 .ret) .skip)) (.seq f51r16 (.seq (.blk 2 (.seq f51r17 (.cond (.t 102) (.seq f51r18 (.seq (.blk 3 (.loop f51l0)) f51r21)) (.seq f51r22 (.cond (.t 127) (.seq f51r23 (.seq (.blk 5 (.loop f51l1)) f51r26)) .skip))))) (.seq f51r27 .ret)))))))))
def f51 : AF := ⟨3, [(6, some (false, 1)), (7, some (false, 1))], true, b51⟩
def f1000816 : AF := ⟨2, [(53, none), (54, none)], false, .seq a51q0 d51q0⟩
/-! cellarer/cellarerref27.missing -/
def i52r0 : List It := [.u 6 (.alloc 4 (.agg [(.d (.int .i64 0)), (.d (.int .i64 0)), (.d (.int .i64 0)), (.tl [] (some true))]))]
def f52r0 : AC := .reg i52r0 (some [0, 1, 2, 6])
def i52r1 : List It := [.m 9 2, .u 10 (.lenL (.t 9)), .u 11 (.bin .eql (.t 10) (.i 0))]
def f52r1 : AC := .reg i52r1 (some [0, 1, 2, 6, 11])
def i52r2 : List It := [.u 12 (.build [(.d (.int .i64 0)), (.d (.int .i64 0)), (.d (.int .i64 0)), (.tl [] (some true))] []), .o none (.st 4 (.t 6) (.t 12)) none]
def f52r2 : AC := .reg i52r2 (some [6])
def i52r3 : List It := [.m 13 1, .u 14 (.bin .eql (.t 13) (.i 0))]
def f52r3 : AC := .reg i52r3 (some [0, 1, 2, 6, 14])
def i52r4 : List It := [.u 7 (.mv (.i 0))]
def f52r4 : AC := .reg i52r4 (some [2, 6, 7])
def i52r5 : List It := [.m 15 2, .m 16 7, .u 17 (.build [(.d (.int .i64 0)), (.d (.int .i64 0)), (.d (.int .i64 0)), (.tl [] (some true))] [(0, 1, (.i 2)), (2, 1, (.t 16))]), .u 18 (.call (.f 85) [true, true] [.t 15, .t 17])]
def f52r5 : AC := .reg i52r5 (some [2, 6, 7, 18])
def i52r6 : List It := [.m 19 7, .u 20 (.bin .add (.t 19) (.i 1)), .m 7 20]
def f52r6 : AC := .reg i52r6 (some [2, 6, 7])
def f52l0 : AC := (.seq (.seq f52r5 (.cond (.t 18) .skip (.exit 0))) (.blk 1 f52r6))
def i52r7 : List It := [.m 21 7, .u 22 (.build [(.d (.int .i64 0)), (.d (.int .i64 0)), (.d (.int .i64 0)), (.tl [] (some true))] [(0, 1, (.i 2)), (2, 1, (.t 21))]), .o none (.st 4 (.t 6) (.t 22)) none]
def f52r7 : AC := .reg i52r7 (some [6])
def i52r8 : List It := [.u 8 (.mv (.i 0))]
def f52r8 : AC := .reg i52r8 (some [0, 1, 2, 6, 8])
def i52r9 : List It := [.m 23 2, .m 24 8, .u 25 (.build [(.d (.int .i64 0)), (.d (.int .i64 0)), (.d (.int .i64 0)), (.tl [] (some true))] [(0, 1, (.i 1)), (1, 1, (.t 24))]), .u 26 (.call (.f 85) [true, true] [.t 23, .t 25])]
def f52r9 : AC := .reg i52r9 (some [0, 1, 2, 6, 8, 26])
def i52r10 : List It := [.m 27 8, .u 28 (.bin .add (.t 27) (.i 1)), .m 8 28]
def f52r10 : AC := .reg i52r10 (some [0, 1, 2, 6, 8])
def f52l1 : AC := (.seq (.seq f52r9 (.cond (.t 26) .skip (.exit 2))) (.blk 3 f52r10))
def i52r11 : List It := [.m 29 8, .m 30 0, .m 31 1, .u 32 (.bin .sub (.t 31) (.i 1)), .u 33 (.ia 2 (.t 30) (.t 32)), .u 34 (.fa 1 (.t 33)), .u 35 (.ld false 1 (.t 34)), .m 36 8, .u 37 (.ia 2 (.t 35) (.t 36)), .u 38 (.fa 1 (.t 37)), .u 39 (.ld false 1 (.t 38)), .u 40 (.lenL (.t 39)), .u 41 (.mkslT (.d (.agg [(.int .i64 0), (.int .i64 0), (.int .i64 0), (.lst [])])) 48 (.t 40)), .u 42 (.build [(.d (.int .i64 0)), (.d (.int .i64 0)), (.d (.int .i64 0)), (.tl [] (some true))] [(0, 1, (.i 1)), (1, 1, (.t 29)), (3, 1, (.t 41))]), .o none (.st 4 (.t 6) (.t 42)) none]
def f52r11 : AC := .reg i52r11 (some [6])
def b52 : AC := (.seq f52r0 (.seq (.seq f52r1 (.cond (.t 11) (.seq f52r2 .ret) .skip)) (.seq (.seq f52r3 (.cond (.t 14) (.seq f52r4 (.seq (.blk 0 (.loop f52l0)) (.seq f52r7 .ret))) .skip)) (.seq f52r8 (.seq (.blk 2 (.loop f52l1)) (.seq f52r11 .ret))))))
def f52 : AF := ⟨3, [(6, some (true, 4))], true, b52⟩
/-! cellarer/cellarerref27.Equal -/
def i53r0 : List It := [.u 2 (.box 4 (.t 0)), .u 3 (.box 4 (.t 1)), .u 4 (.mv (.b false)), .frz 2, .frz 3]
def f53r0 : AC := .reg i53r0 (some [2, 3])
def i53r1 : List It := [.u 5 (.fa 0 (.t 2)), .u 6 (.ld false 1 (.t 5)), .u 7 (.fa 0 (.t 3)), .u 8 (.ld false 1 (.t 7)), .u 9 (.bin .eql (.t 6) (.t 8)), .m 10 9, .g 11 (.fa 1 (.t 2)) 10 true, .g 12 (.ld false 1 (.t 11)) 10 true, .g 13 (.fa 1 (.t 3)) 10 true, .g 14 (.ld false 1 (.t 13)) 10 true, .g 15 (.bin .eql (.t 12) (.t 14)) 10 true, .u 16 (.pick (.t 10) (.t 15) (.b false)), .m 17 16, .g 18 (.fa 2 (.t 2)) 17 true, .g 19 (.ld false 1 (.t 18)) 17 true, .g 20 (.fa 2 (.t 3)) 17 true, .g 21 (.ld false 1 (.t 20)) 17 true, .g 22 (.bin .eql (.t 19) (.t 21)) 17 true, .u 23 (.pick (.t 17) (.t 22) (.b false)), .m 24 23, .g 25 (.fa 3 (.t 2)) 24 true, .g 26 (.ld false 1 (.t 25)) 24 true, .g 27 (.fa 3 (.t 3)) 24 true, .g 28 (.ld false 1 (.t 27)) 24 true, .g 29 (.call (.f 21) [true, true] [.t 26, .t 28]) 24 true, .u 30 (.pick (.t 24) (.t 29) (.b false)), .m 4 30, .kill 2, .kill 3]
def f53r1 : AC := .reg i53r1 (some [4])
def b53 : AC := (.seq f53r0 (.seq f53r1 .ret))
def f53 : AF := ⟨2, [(4, none)], true, b53⟩
/-! cellarer/cellarerlaw27.from -/
def i54r0 : List It := [.u 2 (.box 4 (.t 0)), .u 4 (.alloc 4 (.agg [(.d (.int .i64 0)), (.d (.int .i64 0)), (.d (.int .i64 0)), (.tl [] (some true))])), .frz 2]
def f54r0 : AC := .reg i54r0 (some [1, 2, 4])
def i54r1 : List It := [.u 7 (.fa 0 (.t 2)), .u 8 (.ld false 1 (.t 7)), .u 9 (.fa 1 (.t 2)), .u 10 (.ld false 1 (.t 9)), .u 11 (.fa 2 (.t 2)), .u 12 (.ld false 1 (.t 11)), .u 13 (.build [(.d (.int .i64 0)), (.d (.int .i64 0)), (.d (.int .i64 0)), (.tl [] (some true))] [(0, 1, (.t 8)), (1, 1, (.t 10)), (2, 1, (.t 12))]), .u 5 (.alloc 4 (.agg [(.d (.int .i64 0)), (.d (.int .i64 0)), (.d (.int .i64 0)), (.tl [] (some true))])), .o none (.st 4 (.t 5) (.t 13)) none]
def f54r1 : AC := .reg i54r1 (some [1, 2, 4, 5])
def i54r2 : List It := [.u 6 (.mv (.i 0))]
def f54r2 : AC := .reg i54r2 (some [1, 2, 4, 5, 6])
def i54r3 : List It := [.m 14 6, .u 15 (.fa 3 (.t 2)), .u 16 (.ld false 1 (.t 15)), .u 17 (.lenL (.t 16)), .u 18 (.bin .lss (.t 14) (.t 17)), .m 19 18, .g 20 (.mv (.t 1)) 19 true, .g 21 (.bin .gtr (.t 20) (.i 0)) 19 true, .u 22 (.pick (.t 19) (.t 21) (.b false))]
def f54r3 : AC := .reg i54r3 (some [1, 2, 4, 5, 6, 22])
def i54r4 : List It := [.u 25 (.fa 3 (.t 5)), .u 26 (.ld false 1 (.t 25)), .u 27 (.fa 3 (.t 2)), .u 28 (.ld false 1 (.t 27)), .m 29 6, .u 30 (.ia 4 (.t 28) (.t 29)), .u 31 (.ld true 4 (.t 30)), .m 32 1, .u 33 (.bin .sub (.t 32) (.i 1)), .u 34 (.calln (.f 54) [true, true] [.t 31, .t 33]), .u 35 (.bsl 4 [.t 34]), .u 36 (.app 4 48 (.t 26) (.t 35)), .u 37 (.fa 3 (.t 5)), .o none (.st 1 (.t 37) (.t 36)) none]
def f54r4 : AC := .reg i54r4 (some [1, 2, 4, 5, 6])
def i54r5 : List It := [.m 23 6, .u 24 (.bin .add (.t 23) (.i 1)), .m 6 24]
def f54r5 : AC := .reg i54r5 (some [1, 2, 4, 5, 6])
def f54l0 : AC := (.seq (.seq f54r3 (.cond (.t 22) .skip (.exit 0))) (.seq (.blk 1 f54r4) f54r5))
def i54r6 : List It := [.u 38 (.ld true 4 (.t 5)), .o none (.st 4 (.t 4) (.t 38)) none, .kill 2, .kill 5]
def f54r6 : AC := .reg i54r6 (some [4])
def b54 : AC := (.seq f54r0 (.seq f54r1 (.seq (.seq f54r2 (.blk 0 (.loop f54l0))) (.seq f54r6 .ret))))
def f54 : AF := ⟨2, [(4, some (true, 4))], true, b54⟩
/-! cellarer/datas.many -/
def i62r0 : List It := [.u 2 (.mv (.b false))]
def f62r0 : AC := .reg i62r0 (some [0])
def i62r1 : List It := [.m 5 0, .u 6 (.lenL (.t 5)), .u 7 (.bin .gtr (.t 6) (.i 64))]
def f62r1 : AC := .reg i62r1 (some [0, 7])
def i62r2 : List It := [.u 2 (.mv (.b true))]
def f62r2 : AC := .reg i62r2 (some [2])
def i62r3 : List It := [.m 8 0, .u 9 (.lenL (.t 8)), .u 10 (.mv (.i 0))]
def f62r3 : AC := .reg i62r3 (some [8, 9, 10])
def i62r4 : List It := [.u 11 (.bin .lss (.t 10) (.t 9))]
def f62r4 : AC := .reg i62r4 (some [8, 9, 10, 11])
def i62r5 : List It := [.u 12 (.ia 2 (.t 8) (.t 10)), .u 13 (.ld true 2 (.t 12)), .u 4 (.alloc 2 (.agg [(.d (.str ⟨#[]⟩)), (.tl [] (some true))])), .o none (.st 2 (.t 4) (.t 13)) none, .frz 4]
def f62r5 : AC := .reg i62r5 (some [4, 8, 9, 10])
def i62r6 : List It := [.u 14 (.fa 1 (.t 4)), .u 15 (.ld false 1 (.t 14)), .u 16 (.lenL (.t 15)), .u 17 (.bin .gtr (.t 16) (.i 16)), .m 18 17, .g 19 (.fa 1 (.t 4)) 18 false, .g 20 (.ld false 1 (.t 19)) 18 false, .g 21 (.call (.f 87) [true, true] [.t 20, (.f 88)]) 18 false, .u 22 (.pick (.t 18) (.b true) (.t 21)), .kill 4]
def f62r6 : AC := .reg i62r6 (some [8, 9, 10, 22])
def i62r7 : List It := [.u 2 (.mv (.b true))]
def f62r7 : AC := .reg i62r7 (some [2])
def i62r8 : List It := [.u 23 (.bin .add (.t 10) (.i 1)), .m 10 23]
def f62r8 : AC := .reg i62r8 (some [8, 9, 10])
def f62l0 : AC := (.seq f62r4 (.seq (.cond (.t 11) .skip (.exit 0)) (.seq (.blk 1 (.seq f62r5 (.seq f62r6 (.cond (.t 22) (.seq f62r7 .ret) .skip)))) f62r8)))
def i62r9 : List It := [.u 2 (.mv (.b false))]
def f62r9 : AC := .reg i62r9 (some [2])
def b62 : AC := (.seq f62r0 (.seq (.seq f62r1 (.cond (.t 7) (.seq f62r2 .ret) .skip)) (.seq (.seq f62r3 (.blk 0 (.loop f62l0))) (.seq f62r9 .ret))))
def f62 : AF := ⟨1, [(2, none)], true, b62⟩
/-! cellarer/datas.formed -/
def i63r0 : List It := [.u 2 (.mv (.b false))]
def f63r0 : AC := .reg i63r0 (some [0])
def i63r1 : List It := [.m 7 0, .u 8 (.lenL (.t 7)), .u 9 (.bin .eql (.t 8) (.i 0)), .m 10 9, .g 11 (.mv (.t 0)) 10 false, .g 12 (.ia 2 (.t 11) (.i 0)) 10 false, .g 13 (.fa 0 (.t 12)) 10 false, .g 14 (.ld false 1 (.t 13)) 10 false, .g 15 (.bin .neq (.t 14) (.c (.d (.str ⟨#[66, 111, 111, 108]⟩)))) 10 false, .u 16 (.pick (.t 10) (.b true) (.t 15)), .m 17 16, .g 18 (.mv (.t 0)) 17 false, .g 19 (.ia 2 (.t 18) (.i 0)) 17 false, .g 20 (.fa 1 (.t 19)) 17 false, .g 21 (.ld false 1 (.t 20)) 17 false, .g 22 (.lenL (.t 21)) 17 false, .g 23 (.bin .neq (.t 22) (.i 2)) 17 false, .u 24 (.pick (.t 17) (.b true) (.t 23))]
def f63r1 : AC := .reg i63r1 (some [0, 24])
def i63r2 : List It := [.u 2 (.mv (.b false))]
def f63r2 : AC := .reg i63r2 (some [2])
def i63r3 : List It := [.m 25 0, .u 26 (.ia 2 (.t 25) (.i 0)), .u 27 (.fa 1 (.t 26)), .u 28 (.ld false 1 (.t 27)), .u 29 (.ia 2 (.t 28) (.i 0)), .u 30 (.ld true 2 (.t 29)), .m 31 0, .u 32 (.ia 2 (.t 31) (.i 0)), .u 33 (.fa 1 (.t 32)), .u 34 (.ldf false 1 (.t 33)), .u 35 (.ia 2 (.t 34) (.i 1)), .u 36 (.ldf true 2 (.t 35)), .u 3 (.alloc 2 (.agg [(.d (.str ⟨#[]⟩)), (.tl [] (some true))])), .u 4 (.alloc 2 (.agg [(.d (.str ⟨#[]⟩)), (.tl [] (some true))])), .o none (.st 2 (.t 3) (.t 30)) none, .o none (.st 2 (.t 4) (.t 36)) none, .frz 3, .frz 4]
def f63r3 : AC := .reg i63r3 (some [0, 3, 4])
def i63r4 : List It := [.u 37 (.fa 0 (.t 3)), .u 38 (.ld false 1 (.t 37)), .u 39 (.bin .neq (.t 38) (.c (.d (.str ⟨#[70, 97, 108, 115, 101]⟩)))), .m 40 39, .g 41 (.fa 0 (.t 4)) 40 false, .g 42 (.ld false 1 (.t 41)) 40 false, .g 43 (.bin .neq (.t 42) (.c (.d (.str ⟨#[84, 114, 117, 101]⟩)))) 40 false, .u 44 (.pick (.t 40) (.b true) (.t 43)), .m 45 44, .g 46 (.fa 1 (.t 3)) 45 false, .g 47 (.ld false 1 (.t 46)) 45 false, .g 48 (.lenL (.t 47)) 45 false, .g 49 (.fa 1 (.t 4)) 45 false, .g 50 (.ld false 1 (.t 49)) 45 false, .g 51 (.lenL (.t 50)) 45 false, .g 52 (.bin .add (.t 48) (.t 51)) 45 false, .g 53 (.bin .gtr (.t 52) (.i 0)) 45 false, .u 54 (.pick (.t 45) (.b true) (.t 53)), .kill 3, .kill 4]
def f63r4 : AC := .reg i63r4 (some [0, 54])
def i63r5 : List It := [.u 2 (.mv (.b false))]
def f63r5 : AC := .reg i63r5 (some [2])
def i63r6 : List It := [.m 55 0, .u 56 (.lenL (.t 55)), .u 57 (.mv (.i 0))]
def f63r6 : AC := .reg i63r6 (some [55, 56, 57])
def i63r7 : List It := [.u 58 (.bin .lss (.t 57) (.t 56))]
def f63r7 : AC := .reg i63r7 (some [55, 56, 57, 58])
def i63r8 : List It := [.u 59 (.ia 2 (.t 55) (.t 57)), .u 60 (.ld true 2 (.t 59)), .u 6 (.alloc 2 (.agg [(.d (.str ⟨#[]⟩)), (.tl [] (some true))])), .o none (.st 2 (.t 6) (.t 60)) none, .frz 6]
def f63r8 : AC := .reg i63r8 (some [6, 55, 56, 57])
def i63r9 : List It := [.u 61 (.fa 0 (.t 6)), .u 62 (.ld false 1 (.t 61)), .u 63 (.call (.f 89) [true] [.t 62]), .u 64 (.un .not (.t 63)), .m 65 64, .g 66 (.fa 1 (.t 6)) 65 false, .g 67 (.ld false 1 (.t 66)) 65 false, .g 68 (.lenL (.t 67)) 65 false, .g 69 (.bin .eql (.t 68) (.i 0)) 65 false, .u 70 (.pick (.t 65) (.b true) (.t 69)), .m 71 70, .g 72 (.fa 1 (.t 6)) 71 false, .g 73 (.ld false 1 (.t 72)) 71 false, .g 74 (.call (.f 87) [true, true] [.t 73, (.f 90)]) 71 false, .u 75 (.pick (.t 71) (.b true) (.t 74)), .kill 6]
def f63r9 : AC := .reg i63r9 (some [55, 56, 57, 75])
def i63r10 : List It := [.u 2 (.mv (.b false))]
def f63r10 : AC := .reg i63r10 (some [2])
def i63r11 : List It := [.u 76 (.bin .add (.t 57) (.i 1)), .m 57 76]
def f63r11 : AC := .reg i63r11 (some [55, 56, 57])
def f63l0 : AC := (.seq f63r7 (.seq (.cond (.t 58) .skip (.exit 0)) (.seq (.blk 1 (.seq f63r8 (.seq f63r9 (.cond (.t 75) (.seq f63r10 .ret) .skip)))) f63r11)))
def i63r12 : List It := [.u 2 (.mv (.b true))]
def f63r12 : AC := .reg i63r12 (some [2])
def b63 : AC := (.seq f63r0 (.seq (.seq f63r1 (.cond (.t 24) (.seq f63r2 .ret) .skip)) (.seq f63r3 (.seq (.seq f63r4 (.cond (.t 54) (.seq f63r5 .ret) .skip)) (.seq (.seq f63r6 (.blk 0 (.loop f63l0))) (.seq f63r12 .ret))))))
def f63 : AF := ⟨1, [(2, none)], true, b63⟩
/-! cellarer/datas.twice -/
def i64r0 : List It := [.u 2 (.mv (.b false))]
def f64r0 : AC := .reg i64r0 (some [0])
def i64r1 : List It := [.u 9 (.mkmap), .o none (.mu .s (.t 9) (.c (.d (.str ⟨#[73, 110, 116]⟩))) (.b true)) none, .m 10 9, .u 11 (.mkmap), .m 3 10, .m 4 11]
def f64r1 : AC := .reg i64r1 (some [0, 3, 4])
def i64r2 : List It := [.m 12 0, .u 13 (.lenL (.t 12)), .u 14 (.mv (.i 0))]
def f64r2 : AC := .reg i64r2 (some [3, 4, 12, 13, 14])
def i64r3 : List It := [.u 15 (.bin .lss (.t 14) (.t 13))]
def f64r3 : AC := .reg i64r3 (some [3, 4, 12, 13, 14, 15])
def i64r4 : List It := [.u 16 (.ia 2 (.t 12) (.t 14)), .u 17 (.ld true 2 (.t 16)), .u 6 (.alloc 2 (.agg [(.d (.str ⟨#[]⟩)), (.tl [] (some true))])), .o none (.st 2 (.t 6) (.t 17)) none, .frz 6]
def f64r4 : AC := .reg i64r4 (some [3, 4, 6, 12, 13, 14])
def i64r5 : List It := [.m 18 3, .u 19 (.fa 0 (.t 6)), .u 20 (.ld false 1 (.t 19)), .u 21 (.lk .s (.d (.bool false)) false (.t 18) (.t 20))]
def f64r5 : AC := .reg i64r5 (some [3, 4, 6, 12, 13, 14, 21])
def i64r6 : List It := [.u 2 (.mv (.b true)), .kill 6]
def f64r6 : AC := .reg i64r6 (some [2])
def i64r7 : List It := [.m 22 3, .u 23 (.fa 0 (.t 6)), .u 24 (.ld false 1 (.t 23)), .o none (.mu .s (.t 22) (.t 24) (.b true)) none]
def f64r7 : AC := .reg i64r7 (some [3, 4, 6, 12, 13, 14])
def i64r8 : List It := [.u 25 (.fa 1 (.t 6)), .u 26 (.ld false 1 (.t 25)), .u 27 (.lenL (.t 26)), .u 28 (.mv (.i 0)), .kill 6]
def f64r8 : AC := .reg i64r8 (some [3, 4, 12, 13, 14, 26, 27, 28])
def i64r9 : List It := [.u 29 (.bin .lss (.t 28) (.t 27))]
def f64r9 : AC := .reg i64r9 (some [3, 4, 12, 13, 14, 26, 27, 28, 29])
def i64r10 : List It := [.u 30 (.ia 2 (.t 26) (.t 28)), .u 31 (.ld true 2 (.t 30)), .u 8 (.alloc 2 (.agg [(.d (.str ⟨#[]⟩)), (.tl [] (some true))])), .o none (.st 2 (.t 8) (.t 31)) none, .frz 8]
def f64r10 : AC := .reg i64r10 (some [3, 4, 8, 12, 13, 14, 26, 27, 28])
def i64r11 : List It := [.m 32 4, .u 33 (.fa 0 (.t 8)), .u 34 (.ld false 1 (.t 33)), .u 35 (.lk .s (.d (.bool false)) false (.t 32) (.t 34))]
def f64r11 : AC := .reg i64r11 (some [3, 4, 8, 12, 13, 14, 26, 27, 28, 35])
def i64r12 : List It := [.u 2 (.mv (.b true)), .kill 8]
def f64r12 : AC := .reg i64r12 (some [2])
def i64r13 : List It := [.m 36 4, .u 37 (.fa 0 (.t 8)), .u 38 (.ld false 1 (.t 37)), .o none (.mu .s (.t 36) (.t 38) (.b true)) none, .kill 8]
def f64r13 : AC := .reg i64r13 (some [3, 4, 12, 13, 14, 26, 27, 28])
def i64r14 : List It := [.u 39 (.bin .add (.t 28) (.i 1)), .m 28 39]
def f64r14 : AC := .reg i64r14 (some [3, 4, 12, 13, 14, 26, 27, 28])
def f64l0 : AC := (.seq f64r9 (.seq (.cond (.t 29) .skip (.exit 2)) (.seq (.blk 3 (.seq f64r10 (.seq (.seq f64r11 (.cond (.t 35) (.seq f64r12 .ret) .skip)) f64r13))) f64r14)))
def i64r15 : List It := [.u 40 (.bin .add (.t 14) (.i 1)), .m 14 40]
def f64r15 : AC := .reg i64r15 (some [3, 4, 12, 13, 14])
def f64l1 : AC := (.seq f64r3 (.seq (.cond (.t 15) .skip (.exit 0)) (.seq (.blk 1 (.seq f64r4 (.seq (.seq f64r5 (.cond (.t 21) (.seq f64r6 .ret) .skip)) (.seq f64r7 (.seq f64r8 (.blk 2 (.loop f64l0))))))) f64r15)))
def i64r16 : List It := [.u 2 (.mv (.b false))]
def f64r16 : AC := .reg i64r16 (some [2])
def b64 : AC := (.seq f64r0 (.seq f64r1 (.seq (.seq f64r2 (.blk 0 (.loop f64l1))) (.seq f64r16 .ret))))
def f64 : AF := ⟨1, [(2, none)], true, b64⟩
/-! cellarer/datas.Check$1 -/
def i65r0 : List It := [.u 3 (.mv (.b false))]
def f65r0 : AC := .reg i65r0 (some [0, 1])
def i65r1 : List It := [.u 4 (.ld false 1 (.t 1)), .m 5 0, .u 6 (.call (.f 66) [true, true] [.t 4, .t 5]), .u 7 (.un .not (.t 6)), .m 3 7]
def f65r1 : AC := .reg i65r1 (some [3])
def b65 : AC := (.seq f65r0 (.seq f65r1 .ret))
def f65 : AF := ⟨2, [(3, none)], true, b65⟩
/-! cellarer/datas.exists -/
def i66r0 : List It := [.u 4 (.mv (.b false))]
def f66r0 : AC := .reg i66r0 (some [0, 1])
def i66r1 : List It := [.m 5 1, .u 6 (.bin .geq (.t 5) (.i 0)), .m 7 6, .g 8 (.mv (.t 1)) 7 true, .g 9 (.mv (.t 0)) 7 true, .g 10 (.lenL (.t 9)) 7 true, .g 11 (.bin .leq (.t 8) (.t 10)) 7 true, .u 12 (.pick (.t 7) (.t 11) (.b false)), .m 4 12]
def f66r1 : AC := .reg i66r1 (some [4])
def b66 : AC := (.seq f66r0 (.seq f66r1 .ret))
def f66 : AF := ⟨2, [(4, none)], true, b66⟩
/-! cellarer/datas.finite -/
def i67r0 : List It := [.u 2 (.mv (.b false))]
def f67r0 : AC := .reg i67r0 (some [0])
def i67r1 : List It := [.m 7 0, .u 8 (.lenL (.t 7)), .u 9 (.bin .add (.t 8) (.i 1)), .u 10 (.mksl (.d (.bool false)) 1 1 (.t 9)), .u 3 (.alloc 1 (.tl [] (some true))), .o none (.st 1 (.t 3) (.t 10)) none]
def f67r1 : AC := .reg i67r1 (some [0, 3])
def i67r2 : List It := [.u 11 (.ld false 1 (.t 3)), .u 12 (.ia 1 (.t 11) (.i 0)), .o none (.st 1 (.t 12) (.b true)) none]
def f67r2 : AC := .reg i67r2 (some [0, 3])
def i67r3 : List It := [.u 4 (.mv (.b true))]
def f67r3 : AC := .reg i67r3 (some [0, 3, 4])
def i67r4 : List It := [.m 13 4]
def f67r4 : AC := .reg i67r4 (some [0, 3, 13])
def i67r5 : List It := [.u 4 (.mv (.b false))]
def f67r5 : AC := .reg i67r5 (some [0, 3, 4])
def i67r6 : List It := [.m 14 0, .u 15 (.lenL (.t 14)), .u 16 (.mv (.i 0))]
def f67r6 : AC := .reg i67r6 (some [0, 3, 4, 15, 16])
def i67r7 : List It := [.u 17 (.bin .lss (.t 16) (.t 15))]
def f67r7 : AC := .reg i67r7 (some [0, 3, 4, 15, 16, 17])
def i67r8 : List It := [.m 18 16, .m 5 18]
def f67r8 : AC := .reg i67r8 (some [0, 3, 4, 5, 15, 16])
def i67r9 : List It := [.m 19 0, .m 20 5, .u 21 (.ia 2 (.t 19) (.t 20)), .u 22 (.fa 1 (.t 21)), .u 23 (.ld false 1 (.t 22)), .u 24 (.mkf 91 [.t 3]), .u 25 (.call (.f 87) [true, true] [.t 23, .t 24]), .m 6 25]
def f67r9 : AC := .reg i67r9 (some [0, 3, 4, 5, 6, 15, 16])
def i67r10 : List It := [.m 26 6, .m 27 26, .g 28 (.ld false 1 (.t 3)) 27 true, .g 29 (.mv (.t 5)) 27 true, .g 30 (.bin .add (.t 29) (.i 1)) 27 true, .g 31 (.ia 1 (.t 28) (.t 30)) 27 true, .g 32 (.ld false 1 (.t 31)) 27 true, .g 33 (.un .not (.t 32)) 27 true, .u 34 (.pick (.t 27) (.t 33) (.b false))]
def f67r10 : AC := .reg i67r10 (some [0, 3, 4, 5, 15, 16, 34])
def i67r11 : List It := [.u 35 (.ld false 1 (.t 3)), .m 36 5, .u 37 (.bin .add (.t 36) (.i 1)), .u 38 (.ia 1 (.t 35) (.t 37)), .o none (.st 1 (.t 38) (.b true)) none, .u 4 (.mv (.b true))]
def f67r11 : AC := .reg i67r11 (some [0, 3, 4, 15, 16])
def i67r12 : List It := [.u 39 (.bin .add (.t 16) (.i 1)), .m 16 39]
def f67r12 : AC := .reg i67r12 (some [0, 3, 4, 15, 16])
def f67l0 : AC := (.seq f67r7 (.seq (.cond (.t 17) .skip (.exit 2)) (.seq (.blk 3 (.seq f67r8 (.seq f67r9 (.seq f67r10 (.cond (.t 34) f67r11 .skip))))) f67r12)))
def f67l1 : AC := (.seq (.seq f67r4 (.cond (.t 13) .skip (.exit 0))) (.blk 1 (.seq f67r5 (.seq f67r6 (.blk 2 (.loop f67l0))))))
def i67r13 : List It := [.u 40 (.ld false 1 (.t 3)), .u 41 (.call (.f 93) [true, true] [.t 40, (.b false)]), .u 42 (.un .not (.t 41)), .m 2 42]
def f67r13 : AC := .reg i67r13 (some [2])
def b67 : AC := (.seq f67r0 (.seq f67r1 (.seq f67r2 (.seq (.seq f67r3 (.blk 0 (.loop f67l1))) (.seq f67r13 .ret)))))
def f67 : AF := ⟨1, [(2, none)], true, b67⟩
/-! slices.IndexFunc[[]cellarer/api.Type,cellarer/api.Type] -/
def i68r0 : List It := [.u 4 (.mv (.i 0))]
def f68r0 : AC := .reg i68r0 (some [0, 1])
def i68r1 : List It := [.m 6 0, .u 7 (.lenL (.t 6)), .u 8 (.mv (.i 0))]
def f68r1 : AC := .reg i68r1 (some [0, 1, 7, 8])
def i68r2 : List It := [.u 9 (.bin .lss (.t 8) (.t 7))]
def f68r2 : AC := .reg i68r2 (some [0, 1, 7, 8, 9])
def i68r3 : List It := [.m 10 8, .m 5 10]
def f68r3 : AC := .reg i68r3 (some [0, 1, 5, 7, 8])
def i68r4 : List It := [.m 11 1, .m 12 0, .m 13 5, .u 14 (.ia 1 (.t 12) (.t 13)), .u 15 (.ld false 1 (.t 14)), .u 16 (.call (.t 11) [true] [.t 15])]
def f68r4 : AC := .reg i68r4 (some [0, 1, 5, 7, 8, 16])
def i68r5 : List It := [.m 17 5, .m 4 17]
def f68r5 : AC := .reg i68r5 (some [4])
def i68r6 : List It := [.u 18 (.bin .add (.t 8) (.i 1)), .m 8 18]
def f68r6 : AC := .reg i68r6 (some [0, 1, 7, 8])
def f68l0 : AC := (.seq f68r2 (.seq (.cond (.t 9) .skip (.exit 0)) (.seq (.blk 1 (.seq f68r3 (.seq f68r4 (.cond (.t 16) (.seq f68r5 .ret) .skip)))) f68r6)))
def i68r7 : List It := [.u 4 (.mv (.i (-1)))]
def f68r7 : AC := .reg i68r7 (some [4])
def b68 : AC := (.seq f68r0 (.seq (.seq f68r1 (.blk 0 (.loop f68l0))) (.seq f68r7 .ret)))
def f68 : AF := ⟨2, [(4, none)], true, b68⟩
/-! slices.IndexFunc[[]cellarer/matrix.Pat,cellarer/matrix.Pat] -/
def i69r0 : List It := [.u 4 (.mv (.i 0))]
def f69r0 : AC := .reg i69r0 (some [0, 1])
def i69r1 : List It := [.m 6 0, .u 7 (.lenL (.t 6)), .u 8 (.mv (.i 0))]
def f69r1 : AC := .reg i69r1 (some [0, 1, 7, 8])
def i69r2 : List It := [.u 9 (.bin .lss (.t 8) (.t 7))]
def f69r2 : AC := .reg i69r2 (some [0, 1, 7, 8, 9])
def i69r3 : List It := [.m 10 8, .m 5 10]
def f69r3 : AC := .reg i69r3 (some [0, 1, 5, 7, 8])
def i69r4 : List It := [.m 11 1, .m 12 0, .m 13 5, .u 14 (.ia 4 (.t 12) (.t 13)), .u 15 (.ld true 4 (.t 14)), .u 16 (.call (.t 11) [true] [.t 15])]
def f69r4 : AC := .reg i69r4 (some [0, 1, 5, 7, 8, 16])
def i69r5 : List It := [.m 17 5, .m 4 17]
def f69r5 : AC := .reg i69r5 (some [4])
def i69r6 : List It := [.u 18 (.bin .add (.t 8) (.i 1)), .m 8 18]
def f69r6 : AC := .reg i69r6 (some [0, 1, 7, 8])
def f69l0 : AC := (.seq f69r2 (.seq (.cond (.t 9) .skip (.exit 0)) (.seq (.blk 1 (.seq f69r3 (.seq f69r4 (.cond (.t 16) (.seq f69r5 .ret) .skip)))) f69r6)))
def i69r7 : List It := [.u 4 (.mv (.i (-1)))]
def f69r7 : AC := .reg i69r7 (some [4])
def b69 : AC := (.seq f69r0 (.seq (.seq f69r1 (.blk 0 (.loop f69l0))) (.seq f69r7 .ret)))
def f69 : AF := ⟨2, [(4, none)], true, b69⟩
/-! cellarer/matrix.deep$1 -/
def i70r0 : List It := [.u 2 (.box 4 (.t 0)), .u 3 (.mv (.b false)), .frz 2]
def f70r0 : AC := .reg i70r0 (some [1, 2])
def i70r1 : List It := [.u 4 (.ld true 4 (.t 2)), .u 5 (.ld false 1 (.t 1)), .u 6 (.bin .add (.t 5) (.i 1)), .u 7 (.call (.f 38) [true, true] [.t 4, .t 6]), .m 3 7, .kill 2]
def f70r1 : AC := .reg i70r1 (some [3])
def b70 : AC := (.seq f70r0 (.seq f70r1 .ret))
def f70 : AF := ⟨2, [(3, none)], true, b70⟩
/-! cellarer/cellarerref17.many -/
def i71r0 : List It := [.u 2 (.mv (.b false))]
def f71r0 : AC := .reg i71r0 (some [0])
def i71r1 : List It := [.m 5 0, .u 6 (.lenL (.t 5)), .u 7 (.bin .gtr (.t 6) (.i 64))]
def f71r1 : AC := .reg i71r1 (some [0, 7])
def i71r2 : List It := [.u 2 (.mv (.b true))]
def f71r2 : AC := .reg i71r2 (some [2])
def i71r3 : List It := [.u 3 (.mv (.i 0))]
def f71r3 : AC := .reg i71r3 (some [0, 3])
def i71r4 : List It := [.m 8 3, .m 9 0, .u 10 (.lenL (.t 9)), .u 11 (.bin .lss (.t 8) (.t 10))]
def f71r4 : AC := .reg i71r4 (some [0, 3, 11])
def i71r5 : List It := [.m 14 0, .m 15 3, .u 16 (.ia 2 (.t 14) (.t 15)), .u 17 (.fa 1 (.t 16)), .u 18 (.ld false 1 (.t 17)), .u 19 (.lenL (.t 18)), .u 20 (.bin .gtr (.t 19) (.i 16))]
def f71r5 : AC := .reg i71r5 (some [0, 3, 20])
def i71r6 : List It := [.u 2 (.mv (.b true))]
def f71r6 : AC := .reg i71r6 (some [2])
def i71r7 : List It := [.u 4 (.mv (.i 0))]
def f71r7 : AC := .reg i71r7 (some [0, 3, 4])
def i71r8 : List It := [.m 21 4, .m 22 0, .m 23 3, .u 24 (.ia 2 (.t 22) (.t 23)), .u 25 (.fa 1 (.t 24)), .u 26 (.ld false 1 (.t 25)), .u 27 (.lenL (.t 26)), .u 28 (.bin .lss (.t 21) (.t 27))]
def f71r8 : AC := .reg i71r8 (some [0, 3, 4, 28])
def i71r9 : List It := [.m 31 0, .m 32 3, .u 33 (.ia 2 (.t 31) (.t 32)), .u 34 (.fa 1 (.t 33)), .u 35 (.ld false 1 (.t 34)), .m 36 4, .u 37 (.ia 2 (.t 35) (.t 36)), .u 38 (.fa 1 (.t 37)), .u 39 (.ld false 1 (.t 38)), .u 40 (.lenL (.t 39)), .u 41 (.bin .gtr (.t 40) (.i 6))]
def f71r9 : AC := .reg i71r9 (some [0, 3, 4, 41])
def i71r10 : List It := [.u 2 (.mv (.b true))]
def f71r10 : AC := .reg i71r10 (some [2])
def i71r11 : List It := [.m 29 4, .u 30 (.bin .add (.t 29) (.i 1)), .m 4 30]
def f71r11 : AC := .reg i71r11 (some [0, 3, 4])
def f71l0 : AC := (.seq (.seq f71r8 (.cond (.t 28) .skip (.exit 2))) (.seq (.blk 3 (.seq f71r9 (.cond (.t 41) (.seq f71r10 .ret) .skip))) f71r11))
def i71r12 : List It := [.m 12 3, .u 13 (.bin .add (.t 12) (.i 1)), .m 3 13]
def f71r12 : AC := .reg i71r12 (some [0, 3])
def f71l1 : AC := (.seq (.seq f71r4 (.cond (.t 11) .skip (.exit 0))) (.seq (.blk 1 (.seq (.seq f71r5 (.cond (.t 20) (.seq f71r6 .ret) .skip)) (.seq f71r7 (.blk 2 (.loop f71l0))))) f71r12))
def i71r13 : List It := [.u 2 (.mv (.b false))]
def f71r13 : AC := .reg i71r13 (some [2])
def b71 : AC := (.seq f71r0 (.seq (.seq f71r1 (.cond (.t 7) (.seq f71r2 .ret) .skip)) (.seq (.seq f71r3 (.blk 0 (.loop f71l1))) (.seq f71r13 .ret))))
def f71 : AF := ⟨1, [(2, none)], true, b71⟩
/-! cellarer/cellarerref17.formed -/
def i72r0 : List It := [.u 2 (.mv (.b false))]
def f72r0 : AC := .reg i72r0 (some [0])
def i72r1 : List It := [.m 7 0, .u 8 (.lenL (.t 7)), .u 9 (.bin .eql (.t 8) (.i 0)), .m 10 9, .g 11 (.mv (.t 0)) 10 false, .g 12 (.ia 2 (.t 11) (.i 0)) 10 false, .g 13 (.fa 0 (.t 12)) 10 false, .g 14 (.ld false 1 (.t 13)) 10 false, .g 15 (.bin .neq (.t 14) (.c (.d (.str ⟨#[66, 111, 111, 108]⟩)))) 10 false, .u 16 (.pick (.t 10) (.b true) (.t 15)), .m 17 16, .g 18 (.mv (.t 0)) 17 false, .g 19 (.ia 2 (.t 18) (.i 0)) 17 false, .g 20 (.fa 1 (.t 19)) 17 false, .g 21 (.ld false 1 (.t 20)) 17 false, .g 22 (.lenL (.t 21)) 17 false, .g 23 (.bin .neq (.t 22) (.i 2)) 17 false, .u 24 (.pick (.t 17) (.b true) (.t 23))]
def f72r1 : AC := .reg i72r1 (some [0, 24])
def i72r2 : List It := [.u 2 (.mv (.b false))]
def f72r2 : AC := .reg i72r2 (some [2])
def i72r3 : List It := [.m 25 0, .u 26 (.ia 2 (.t 25) (.i 0)), .u 27 (.fa 1 (.t 26)), .u 28 (.ld false 1 (.t 27)), .u 29 (.ia 2 (.t 28) (.i 0)), .u 30 (.ld true 2 (.t 29)), .m 31 0, .u 32 (.ia 2 (.t 31) (.i 0)), .u 33 (.fa 1 (.t 32)), .u 34 (.ldf false 1 (.t 33)), .u 35 (.ia 2 (.t 34) (.i 1)), .u 36 (.ldf true 2 (.t 35)), .u 3 (.alloc 2 (.agg [(.d (.str ⟨#[]⟩)), (.tl [] (some true))])), .u 4 (.alloc 2 (.agg [(.d (.str ⟨#[]⟩)), (.tl [] (some true))])), .o none (.st 2 (.t 3) (.t 30)) none, .o none (.st 2 (.t 4) (.t 36)) none, .frz 3, .frz 4]
def f72r3 : AC := .reg i72r3 (some [0, 3, 4])
def i72r4 : List It := [.u 37 (.fa 0 (.t 3)), .u 38 (.ld false 1 (.t 37)), .u 39 (.bin .neq (.t 38) (.c (.d (.str ⟨#[70, 97, 108, 115, 101]⟩)))), .m 40 39, .g 41 (.fa 0 (.t 4)) 40 false, .g 42 (.ld false 1 (.t 41)) 40 false, .g 43 (.bin .neq (.t 42) (.c (.d (.str ⟨#[84, 114, 117, 101]⟩)))) 40 false, .u 44 (.pick (.t 40) (.b true) (.t 43)), .m 45 44, .g 46 (.fa 1 (.t 3)) 45 false, .g 47 (.ld false 1 (.t 46)) 45 false, .g 48 (.lenL (.t 47)) 45 false, .g 49 (.bin .gtr (.t 48) (.i 0)) 45 false, .u 50 (.pick (.t 45) (.b true) (.t 49)), .m 51 50, .g 52 (.fa 1 (.t 4)) 51 false, .g 53 (.ld false 1 (.t 52)) 51 false, .g 54 (.lenL (.t 53)) 51 false, .g 55 (.bin .gtr (.t 54) (.i 0)) 51 false, .u 56 (.pick (.t 51) (.b true) (.t 55)), .kill 3, .kill 4]
def f72r4 : AC := .reg i72r4 (some [0, 56])
def i72r5 : List It := [.u 2 (.mv (.b false))]
def f72r5 : AC := .reg i72r5 (some [2])
def i72r6 : List It := [.u 5 (.mv (.i 0))]
def f72r6 : AC := .reg i72r6 (some [0, 5])
def i72r7 : List It := [.m 57 5, .m 58 0, .u 59 (.lenL (.t 58)), .u 60 (.bin .lss (.t 57) (.t 59))]
def f72r7 : AC := .reg i72r7 (some [0, 5, 60])
def i72r8 : List It := [.m 63 0, .m 64 5, .u 65 (.ia 2 (.t 63) (.t 64)), .u 66 (.fa 0 (.t 65)), .u 67 (.ld false 1 (.t 66)), .u 68 (.call (.f 94) [true] [.t 67]), .u 69 (.un .not (.t 68)), .m 70 69, .g 71 (.mv (.t 0)) 70 false, .g 72 (.mv (.t 5)) 70 false, .g 73 (.ia 2 (.t 71) (.t 72)) 70 false, .g 74 (.fa 1 (.t 73)) 70 false, .g 75 (.ld false 1 (.t 74)) 70 false, .g 76 (.lenL (.t 75)) 70 false, .g 77 (.bin .eql (.t 76) (.i 0)) 70 false, .u 78 (.pick (.t 70) (.b true) (.t 77))]
def f72r8 : AC := .reg i72r8 (some [0, 5, 78])
def i72r9 : List It := [.u 2 (.mv (.b false))]
def f72r9 : AC := .reg i72r9 (some [2])
def i72r10 : List It := [.u 6 (.mv (.i 0))]
def f72r10 : AC := .reg i72r10 (some [0, 5, 6])
def i72r11 : List It := [.m 79 6, .m 80 0, .m 81 5, .u 82 (.ia 2 (.t 80) (.t 81)), .u 83 (.fa 1 (.t 82)), .u 84 (.ld false 1 (.t 83)), .u 85 (.lenL (.t 84)), .u 86 (.bin .lss (.t 79) (.t 85))]
def f72r11 : AC := .reg i72r11 (some [0, 5, 6, 86])
def i72r12 : List It := [.m 89 0, .m 90 5, .u 91 (.ia 2 (.t 89) (.t 90)), .u 92 (.fa 1 (.t 91)), .u 93 (.ld false 1 (.t 92)), .m 94 6, .u 95 (.ia 2 (.t 93) (.t 94)), .u 96 (.fa 0 (.t 95)), .u 97 (.ld false 1 (.t 96)), .u 98 (.call (.f 94) [true] [.t 97]), .u 99 (.un .not (.t 98))]
def f72r12 : AC := .reg i72r12 (some [0, 5, 6, 99])
def i72r13 : List It := [.u 2 (.mv (.b false))]
def f72r13 : AC := .reg i72r13 (some [2])
def i72r14 : List It := [.m 87 6, .u 88 (.bin .add (.t 87) (.i 1)), .m 6 88]
def f72r14 : AC := .reg i72r14 (some [0, 5, 6])
def f72l0 : AC := (.seq (.seq f72r11 (.cond (.t 86) .skip (.exit 2))) (.seq (.blk 3 (.seq f72r12 (.cond (.t 99) (.seq f72r13 .ret) .skip))) f72r14))
def i72r15 : List It := [.m 61 5, .u 62 (.bin .add (.t 61) (.i 1)), .m 5 62]
def f72r15 : AC := .reg i72r15 (some [0, 5])
def f72l1 : AC := (.seq (.seq f72r7 (.cond (.t 60) .skip (.exit 0))) (.seq (.blk 1 (.seq (.seq f72r8 (.cond (.t 78) (.seq f72r9 .ret) .skip)) (.seq f72r10 (.blk 2 (.loop f72l0))))) f72r15))
def i72r16 : List It := [.u 2 (.mv (.b true))]
def f72r16 : AC := .reg i72r16 (some [2])
def b72 : AC := (.seq f72r0 (.seq (.seq f72r1 (.cond (.t 24) (.seq f72r2 .ret) .skip)) (.seq f72r3 (.seq (.seq f72r4 (.cond (.t 56) (.seq f72r5 .ret) .skip)) (.seq (.seq f72r6 (.blk 0 (.loop f72l1))) (.seq f72r16 .ret))))))
def f72 : AF := ⟨1, [(2, none)], true, b72⟩
/-! cellarer/cellarerref17.twice -/
def i73r0 : List It := [.u 2 (.mv (.b false))]
def f73r0 : AC := .reg i73r0 (some [0])
def i73r1 : List It := [.u 3 (.mv (.c (.tl [] (some true)))), .u 4 (.mv (.c (.tl [] (some true))))]
def f73r1 : AC := .reg i73r1 (some [0, 3, 4])
def i73r2 : List It := [.m 7 3, .u 8 (.bsl 1 [(.c (.d (.str ⟨#[73, 110, 116]⟩)))]), .u 9 (.app 1 16 (.t 7) (.t 8)), .m 3 9]
def f73r2 : AC := .reg i73r2 (some [0, 3, 4])
def i73r3 : List It := [.u 5 (.mv (.i 0))]
def f73r3 : AC := .reg i73r3 (some [0, 3, 4, 5])
def i73r4 : List It := [.m 10 5, .m 11 0, .u 12 (.lenL (.t 11)), .u 13 (.bin .lss (.t 10) (.t 12))]
def f73r4 : AC := .reg i73r4 (some [0, 3, 4, 5, 13])
def i73r5 : List It := [.m 16 3, .m 17 0, .m 18 5, .u 19 (.ia 2 (.t 17) (.t 18)), .u 20 (.fa 0 (.t 19)), .u 21 (.ld false 1 (.t 20)), .u 22 (.call (.f 95) [true, true] [.t 16, .t 21])]
def f73r5 : AC := .reg i73r5 (some [0, 3, 4, 5, 22])
def i73r6 : List It := [.u 2 (.mv (.b true))]
def f73r6 : AC := .reg i73r6 (some [2])
def i73r7 : List It := [.m 23 3, .m 24 0, .m 25 5, .u 26 (.ia 2 (.t 24) (.t 25)), .u 27 (.fa 0 (.t 26)), .u 28 (.ld false 1 (.t 27)), .u 29 (.bsl 1 [.t 28]), .u 30 (.app 1 16 (.t 23) (.t 29)), .m 3 30]
def f73r7 : AC := .reg i73r7 (some [0, 3, 4, 5])
def i73r8 : List It := [.u 6 (.mv (.i 0))]
def f73r8 : AC := .reg i73r8 (some [0, 3, 4, 5, 6])
def i73r9 : List It := [.m 31 6, .m 32 0, .m 33 5, .u 34 (.ia 2 (.t 32) (.t 33)), .u 35 (.fa 1 (.t 34)), .u 36 (.ld false 1 (.t 35)), .u 37 (.lenL (.t 36)), .u 38 (.bin .lss (.t 31) (.t 37))]
def f73r9 : AC := .reg i73r9 (some [0, 3, 4, 5, 6, 38])
def i73r10 : List It := [.m 41 4, .m 42 0, .m 43 5, .u 44 (.ia 2 (.t 42) (.t 43)), .u 45 (.fa 1 (.t 44)), .u 46 (.ld false 1 (.t 45)), .m 47 6, .u 48 (.ia 2 (.t 46) (.t 47)), .u 49 (.fa 0 (.t 48)), .u 50 (.ld false 1 (.t 49)), .u 51 (.call (.f 95) [true, true] [.t 41, .t 50])]
def f73r10 : AC := .reg i73r10 (some [0, 3, 4, 5, 6, 51])
def i73r11 : List It := [.u 2 (.mv (.b true))]
def f73r11 : AC := .reg i73r11 (some [2])
def i73r12 : List It := [.m 52 4, .m 53 0, .m 54 5, .u 55 (.ia 2 (.t 53) (.t 54)), .u 56 (.fa 1 (.t 55)), .u 57 (.ld false 1 (.t 56)), .m 58 6, .u 59 (.ia 2 (.t 57) (.t 58)), .u 60 (.fa 0 (.t 59)), .u 61 (.ld false 1 (.t 60)), .u 62 (.bsl 1 [.t 61]), .u 63 (.app 1 16 (.t 52) (.t 62)), .m 4 63]
def f73r12 : AC := .reg i73r12 (some [0, 3, 4, 5, 6])
def i73r13 : List It := [.m 39 6, .u 40 (.bin .add (.t 39) (.i 1)), .m 6 40]
def f73r13 : AC := .reg i73r13 (some [0, 3, 4, 5, 6])
def f73l0 : AC := (.seq (.seq f73r9 (.cond (.t 38) .skip (.exit 2))) (.seq (.blk 3 (.seq (.seq f73r10 (.cond (.t 51) (.seq f73r11 .ret) .skip)) f73r12)) f73r13))
def i73r14 : List It := [.m 14 5, .u 15 (.bin .add (.t 14) (.i 1)), .m 5 15]
def f73r14 : AC := .reg i73r14 (some [0, 3, 4, 5])
def f73l1 : AC := (.seq (.seq f73r4 (.cond (.t 13) .skip (.exit 0))) (.seq (.blk 1 (.seq (.seq f73r5 (.cond (.t 22) (.seq f73r6 .ret) .skip)) (.seq f73r7 (.seq f73r8 (.blk 2 (.loop f73l0)))))) f73r14))
def i73r15 : List It := [.u 2 (.mv (.b false))]
def f73r15 : AC := .reg i73r15 (some [2])
def b73 : AC := (.seq f73r0 (.seq f73r1 (.seq f73r2 (.seq (.seq f73r3 (.blk 0 (.loop f73l1))) (.seq f73r15 .ret)))))
def f73 : AF := ⟨1, [(2, none)], true, b73⟩
/-! cellarer/cellarerref17.typed -/
def i74r0 : List It := [.u 2 (.mv (.b false))]
def f74r0 : AC := .reg i74r0 (some [0])
def i74r1 : List It := [.u 3 (.mv (.i 0))]
def f74r1 : AC := .reg i74r1 (some [0, 3])
def i74r2 : List It := [.m 7 3, .m 8 0, .u 9 (.lenL (.t 8)), .u 10 (.bin .lss (.t 7) (.t 9))]
def f74r2 : AC := .reg i74r2 (some [0, 3, 10])
def i74r3 : List It := [.u 4 (.mv (.i 0))]
def f74r3 : AC := .reg i74r3 (some [0, 3, 4])
def i74r4 : List It := [.m 13 4, .m 14 0, .m 15 3, .u 16 (.ia 2 (.t 14) (.t 15)), .u 17 (.fa 1 (.t 16)), .u 18 (.ld false 1 (.t 17)), .u 19 (.lenL (.t 18)), .u 20 (.bin .lss (.t 13) (.t 19))]
def f74r4 : AC := .reg i74r4 (some [0, 3, 4, 20])
def i74r5 : List It := [.m 23 0, .m 24 3, .u 25 (.ia 2 (.t 23) (.t 24)), .u 26 (.fa 1 (.t 25)), .u 27 (.ld false 1 (.t 26)), .m 28 4, .u 29 (.ia 2 (.t 27) (.t 28)), .u 30 (.fa 1 (.t 29)), .u 31 (.ld false 1 (.t 30)), .m 5 31]
def f74r5 : AC := .reg i74r5 (some [0, 3, 4, 5])
def i74r6 : List It := [.u 6 (.mv (.i 0))]
def f74r6 : AC := .reg i74r6 (some [0, 3, 4, 5, 6])
def i74r7 : List It := [.m 32 6, .m 33 5, .u 34 (.lenL (.t 33)), .u 35 (.bin .lss (.t 32) (.t 34))]
def f74r7 : AC := .reg i74r7 (some [0, 3, 4, 5, 6, 35])
def i74r8 : List It := [.m 38 0, .m 39 5, .m 40 6, .u 41 (.ia 1 (.t 39) (.t 40)), .u 42 (.ld false 1 (.t 41)), .u 43 (.call (.f 96) [true, true] [.t 38, .t 42]), .u 44 (.un .not (.t 43))]
def f74r8 : AC := .reg i74r8 (some [0, 3, 4, 5, 6, 44])
def i74r9 : List It := [.u 2 (.mv (.b false))]
def f74r9 : AC := .reg i74r9 (some [2])
def i74r10 : List It := [.m 36 6, .u 37 (.bin .add (.t 36) (.i 1)), .m 6 37]
def f74r10 : AC := .reg i74r10 (some [0, 3, 4, 5, 6])
def f74l0 : AC := (.seq (.seq f74r7 (.cond (.t 35) .skip (.exit 4))) (.seq (.blk 5 (.seq f74r8 (.cond (.t 44) (.seq f74r9 .ret) .skip))) f74r10))
def i74r11 : List It := [.m 21 4, .u 22 (.bin .add (.t 21) (.i 1)), .m 4 22]
def f74r11 : AC := .reg i74r11 (some [0, 3, 4])
def f74l1 : AC := (.seq (.seq f74r4 (.cond (.t 20) .skip (.exit 2))) (.seq (.blk 3 (.seq f74r5 (.seq f74r6 (.blk 4 (.loop f74l0))))) f74r11))
def i74r12 : List It := [.m 11 3, .u 12 (.bin .add (.t 11) (.i 1)), .m 3 12]
def f74r12 : AC := .reg i74r12 (some [0, 3])
def f74l2 : AC := (.seq (.seq f74r2 (.cond (.t 10) .skip (.exit 0))) (.seq (.blk 1 (.seq f74r3 (.blk 2 (.loop f74l1)))) f74r12))
def i74r13 : List It := [.u 2 (.mv (.b true))]
def f74r13 : AC := .reg i74r13 (some [2])
def b74 : AC := (.seq f74r0 (.seq (.seq f74r1 (.blk 0 (.loop f74l2))) (.seq f74r13 .ret)))
def f74 : AF := ⟨1, [(2, none)], true, b74⟩
/-! cellarer/cellarerref17.finite -/
def i75r0 : List It := [.u 2 (.mv (.b false))]
def f75r0 : AC := .reg i75r0 (some [0])
def i75r1 : List It := [.m 11 0, .u 12 (.lenL (.t 11)), .u 13 (.bin .add (.t 12) (.i 1)), .u 14 (.mksl (.d (.bool false)) 1 1 (.t 13)), .m 3 14]
def f75r1 : AC := .reg i75r1 (some [0, 3])
def i75r2 : List It := [.m 15 3, .u 16 (.ia 1 (.t 15) (.i 0)), .o none (.st 1 (.t 16) (.b true)) none]
def f75r2 : AC := .reg i75r2 (some [0, 3])
def i75r3 : List It := [.u 4 (.mv (.i 0))]
def f75r3 : AC := .reg i75r3 (some [0, 3, 4])
def i75r4 : List It := [.m 17 4, .m 18 0, .u 19 (.lenL (.t 18)), .u 20 (.bin .leq (.t 17) (.t 19))]
def f75r4 : AC := .reg i75r4 (some [0, 3, 4, 20])
def i75r5 : List It := [.u 5 (.mv (.i 0))]
def f75r5 : AC := .reg i75r5 (some [0, 3, 4, 5])
def i75r6 : List It := [.m 23 5, .m 24 0, .u 25 (.lenL (.t 24)), .u 26 (.bin .lss (.t 23) (.t 25))]
def f75r6 : AC := .reg i75r6 (some [0, 3, 4, 5, 26])
def i75r7 : List It := [.u 6 (.mv (.i 0))]
def f75r7 : AC := .reg i75r7 (some [0, 3, 4, 5, 6])
def i75r8 : List It := [.m 29 6, .m 30 0, .m 31 5, .u 32 (.ia 2 (.t 30) (.t 31)), .u 33 (.fa 1 (.t 32)), .u 34 (.ld false 1 (.t 33)), .u 35 (.lenL (.t 34)), .u 36 (.bin .lss (.t 29) (.t 35))]
def f75r8 : AC := .reg i75r8 (some [0, 3, 4, 5, 6, 36])
def i75r9 : List It := [.u 7 (.mv (.b true))]
def f75r9 : AC := .reg i75r9 (some [0, 3, 4, 5, 6, 7])
def i75r10 : List It := [.m 39 0, .m 40 5, .u 41 (.ia 2 (.t 39) (.t 40)), .u 42 (.fa 1 (.t 41)), .u 43 (.ld false 1 (.t 42)), .m 44 6, .u 45 (.ia 2 (.t 43) (.t 44)), .u 46 (.fa 1 (.t 45)), .u 47 (.ld false 1 (.t 46)), .m 8 47]
def f75r10 : AC := .reg i75r10 (some [0, 3, 4, 5, 6, 7, 8])
def i75r11 : List It := [.u 9 (.mv (.i 0))]
def f75r11 : AC := .reg i75r11 (some [0, 3, 4, 5, 6, 7, 8, 9])
def i75r12 : List It := [.m 48 9, .m 49 8, .u 50 (.lenL (.t 49)), .u 51 (.bin .lss (.t 48) (.t 50))]
def f75r12 : AC := .reg i75r12 (some [0, 3, 4, 5, 6, 7, 8, 9, 51])
def i75r13 : List It := [.m 54 7, .m 55 54, .g 56 (.mv (.t 3)) 55 true, .g 57 (.mv (.t 8)) 55 true, .g 58 (.mv (.t 9)) 55 true, .g 59 (.ia 1 (.t 57) (.t 58)) 55 true, .g 60 (.ld false 1 (.t 59)) 55 true, .g 61 (.ia 1 (.t 56) (.t 60)) 55 true, .g 62 (.ld false 1 (.t 61)) 55 true, .u 63 (.pick (.t 55) (.t 62) (.b false)), .m 7 63]
def f75r13 : AC := .reg i75r13 (some [0, 3, 4, 5, 6, 7, 8, 9])
def i75r14 : List It := [.m 52 9, .u 53 (.bin .add (.t 52) (.i 1)), .m 9 53]
def f75r14 : AC := .reg i75r14 (some [0, 3, 4, 5, 6, 7, 8, 9])
def f75l0 : AC := (.seq (.seq f75r12 (.cond (.t 51) .skip (.exit 6))) (.seq (.blk 7 f75r13) f75r14))
def i75r15 : List It := [.m 64 3, .m 65 5, .u 66 (.bin .add (.t 65) (.i 1)), .m 67 3, .m 68 5, .u 69 (.bin .add (.t 68) (.i 1)), .u 70 (.ia 1 (.t 67) (.t 69)), .u 71 (.ld false 1 (.t 70)), .m 72 71, .g 73 (.mv (.t 7)) 72 false, .u 74 (.pick (.t 72) (.b true) (.t 73)), .u 75 (.ia 1 (.t 64) (.t 66)), .o none (.st 1 (.t 75) (.t 74)) none]
def f75r15 : AC := .reg i75r15 (some [0, 3, 4, 5, 6])
def i75r16 : List It := [.m 37 6, .u 38 (.bin .add (.t 37) (.i 1)), .m 6 38]
def f75r16 : AC := .reg i75r16 (some [0, 3, 4, 5, 6])
def f75l1 : AC := (.seq (.seq f75r8 (.cond (.t 36) .skip (.exit 4))) (.seq (.blk 5 (.seq f75r9 (.seq f75r10 (.seq (.seq f75r11 (.blk 6 (.loop f75l0))) f75r15)))) f75r16))
def i75r17 : List It := [.m 27 5, .u 28 (.bin .add (.t 27) (.i 1)), .m 5 28]
def f75r17 : AC := .reg i75r17 (some [0, 3, 4, 5])
def f75l2 : AC := (.seq (.seq f75r6 (.cond (.t 26) .skip (.exit 2))) (.seq (.blk 3 (.seq f75r7 (.blk 4 (.loop f75l1)))) f75r17))
def i75r18 : List It := [.m 21 4, .u 22 (.bin .add (.t 21) (.i 1)), .m 4 22]
def f75r18 : AC := .reg i75r18 (some [0, 3, 4])
def f75l3 : AC := (.seq (.seq f75r4 (.cond (.t 20) .skip (.exit 0))) (.seq (.blk 1 (.seq f75r5 (.blk 2 (.loop f75l2)))) f75r18))
def i75r19 : List It := [.u 10 (.mv (.i 0))]
def f75r19 : AC := .reg i75r19 (some [3, 10])
def i75r20 : List It := [.m 76 10, .m 77 3, .u 78 (.lenL (.t 77)), .u 79 (.bin .lss (.t 76) (.t 78))]
def f75r20 : AC := .reg i75r20 (some [3, 10, 79])
def i75r21 : List It := [.m 82 3, .m 83 10, .u 84 (.ia 1 (.t 82) (.t 83)), .u 85 (.ld false 1 (.t 84)), .u 86 (.un .not (.t 85))]
def f75r21 : AC := .reg i75r21 (some [3, 10, 86])
def i75r22 : List It := [.u 2 (.mv (.b false))]
def f75r22 : AC := .reg i75r22 (some [2])
def i75r23 : List It := [.m 80 10, .u 81 (.bin .add (.t 80) (.i 1)), .m 10 81]
def f75r23 : AC := .reg i75r23 (some [3, 10])
def f75l4 : AC := (.seq (.seq f75r20 (.cond (.t 79) .skip (.exit 8))) (.seq (.blk 9 (.seq f75r21 (.cond (.t 86) (.seq f75r22 .ret) .skip))) f75r23))
def i75r24 : List It := [.u 2 (.mv (.b true))]
def f75r24 : AC := .reg i75r24 (some [2])
def b75 : AC := (.seq f75r0 (.seq f75r1 (.seq f75r2 (.seq (.seq f75r3 (.blk 0 (.loop f75l3))) (.seq (.seq f75r19 (.blk 8 (.loop f75l4))) (.seq f75r24 .ret))))))
def f75 : AF := ⟨1, [(2, none)], true, b75⟩
/-! cellarer/matrix.under -/
def i76r0 : List It := [.u 6 (.mv (.c (.tl [] (some true))))]
def f76r0 : AC := .reg i76r0 (some [0, 1, 2])
def i76r1 : List It := [.m 7 0, .m 8 1, .u 9 (.ia 1 (.t 8) (.i 0)), .u 10 (.ld false 1 (.t 9)), .u 11 (.bin .sub (.t 10) (.i 1)), .u 12 (.ia 2 (.t 7) (.t 11)), .u 13 (.fa 1 (.t 12)), .u 14 (.ld false 1 (.t 13)), .m 15 2, .u 16 (.ia 2 (.t 14) (.t 15)), .u 17 (.fa 1 (.t 16)), .u 18 (.ld false 1 (.t 17)), .u 19 (.call (.f 97) [true] [.t 18]), .m 20 1, .u 21 (.slc 1 (.t 20) (some (.i 1)) none), .u 22 (.app 1 8 (.t 19) (.t 21)), .m 6 22]
def f76r1 : AC := .reg i76r1 (some [6])
def b76 : AC := (.seq f76r0 (.seq f76r1 .ret))
def f76 : AF := ⟨3, [(6, none)], true, b76⟩
/-! cellarer/matrix.special -/
def i77r0 : List It := [.u 6 (.mv (.c (.tl [] (some true))))]
def f77r0 : AC := .reg i77r0 (some [0, 1, 2])
def i77r1 : List It := [.u 7 (.mv (.c (.tl [] (some true))))]
def f77r1 : AC := .reg i77r1 (some [0, 1, 2, 7])
def i77r2 : List It := [.m 11 0, .u 12 (.lenL (.t 11)), .u 13 (.mv (.i 0))]
def f77r2 : AC := .reg i77r2 (some [1, 2, 7, 11, 12, 13])
def i77r3 : List It := [.u 14 (.bin .lss (.t 13) (.t 12))]
def f77r3 : AC := .reg i77r3 (some [1, 2, 7, 11, 12, 13, 14])
def i77r4 : List It := [.u 15 (.ia 1 (.t 11) (.t 13)), .u 16 (.ld false 1 (.t 15)), .m 9 16]
def f77r4 : AC := .reg i77r4 (some [1, 2, 7, 9, 11, 12, 13])
def i77r5 : List It := [.m 17 9, .u 18 (.ia 4 (.t 17) (.i 0)), .u 19 (.ld true 4 (.t 18)), .u 10 (.alloc 4 (.agg [(.d (.int .i64 0)), (.d (.int .i64 0)), (.d (.int .i64 0)), (.tl [] (some true))])), .o none (.st 4 (.t 10) (.t 19)) none, .frz 10]
def f77r5 : AC := .reg i77r5 (some [1, 2, 7, 9, 10, 11, 12, 13])
def i77r6 : List It := [.u 21 (.fa 0 (.t 10)), .u 22 (.ld false 1 (.t 21)), .u 23 (.bin .eql (.t 22) (.i 0)), .m 20 23]
def f77r6 : AC := .reg i77r6 (some [1, 2, 7, 9, 10, 11, 12, 13, 20])
def i77r7 : List It := [.m 24 7, .m 25 2, .u 26 (.mkslT (.d (.agg [(.int .i64 0), (.int .i64 0), (.int .i64 0), (.lst [])])) 48 (.t 25)), .m 27 9, .u 28 (.slc 4 (.t 27) (some (.i 1)) none), .u 29 (.appd 4 48 (.t 26) (.t 28)), .u 30 (.bsl 1 [.t 29]), .u 31 (.app 1 24 (.t 24) (.t 30)), .m 7 31, .kill 10]
def f77r7 : AC := .reg i77r7 (some [1, 2, 7, 11, 12, 13])
def i77r8 : List It := [.u 33 (.fa 0 (.t 10)), .u 34 (.ld false 1 (.t 33)), .u 35 (.bin .eql (.t 34) (.i 1)), .m 36 35, .g 37 (.fa 1 (.t 10)) 36 true, .g 38 (.ld false 1 (.t 37)) 36 true, .g 39 (.mv (.t 1)) 36 true, .g 40 (.bin .eql (.t 38) (.t 39)) 36 true, .u 41 (.pick (.t 36) (.t 40) (.b false)), .m 32 41]
def f77r8 : AC := .reg i77r8 (some [1, 2, 7, 9, 10, 11, 12, 13, 32])
def i77r9 : List It := [.m 42 7, .u 43 (.fa 3 (.t 10)), .u 44 (.ld false 1 (.t 43)), .u 45 (.call (.f 78) [true] [.t 44]), .m 46 9, .u 47 (.slc 4 (.t 46) (some (.i 1)) none), .u 48 (.appf 4 48 (.t 45) (.t 47)), .u 49 (.bsl 1 [.t 48]), .u 50 (.app 1 24 (.t 42) (.t 49)), .m 7 50, .kill 10]
def f77r9 : AC := .reg i77r9 (some [1, 2, 7, 11, 12, 13])
def i77r10 : List It := [.u 51 (.bin .add (.t 13) (.i 1)), .m 13 51, .kill 10]
def f77r10 : AC := .reg i77r10 (some [1, 2, 7, 11, 12, 13])
def f77l0 : AC := (.seq f77r3 (.seq (.cond (.t 14) .skip (.exit 0)) (.seq (.blk 1 (.seq f77r4 (.seq f77r5 (.blk 2 (.seq f77r6 (.cond (.t 20) f77r7 (.seq f77r8 (.cond (.t 32) f77r9 .skip)))))))) f77r10)))
def i77r11 : List It := [.m 52 7, .m 6 52]
def f77r11 : AC := .reg i77r11 (some [6])
def b77 : AC := (.seq f77r0 (.seq f77r1 (.seq (.seq f77r2 (.blk 0 (.loop f77l0))) (.seq f77r11 .ret))))
def f77 : AF := ⟨3, [(6, none)], true, b77⟩
/-! slices.Clone[[]cellarer/matrix.Pat,cellarer/matrix.Pat] -/
def i78r0 : List It := [.u 2 (.mv (.c (.tl [] (some true))))]
def f78r0 : AC := .reg i78r0 (some [0])
def i78r1 : List It := [.m 3 0, .u 4 (.nilBin .s .eql (.t 3))]
def f78r1 : AC := .reg i78r1 (some [0, 4])
def i78r2 : List It := [.u 2 (.mv (.c (.tl [] (some true))))]
def f78r2 : AC := .reg i78r2 (some [2])
def i78r3 : List It := [.u 5 (.bsl 4 []), .m 6 0, .u 7 (.app 4 48 (.t 5) (.t 6)), .m 2 7]
def f78r3 : AC := .reg i78r3 (some [2])
def b78 : AC := (.seq f78r0 (.amb f78r1 (.t 4) (.seq f78r2 .ret) .skip (.seq f78r3 .ret)))
def f78 : AF := ⟨1, [(2, none)], false, b78⟩
/-! cellarer/matrix.rests -/
def i79r0 : List It := [.u 4 (.mv (.c (.tl [] (some true))))]
def f79r0 : AC := .reg i79r0 (some [0, 1])
def i79r1 : List It := [.u 5 (.mv (.c (.tl [] (some true))))]
def f79r1 : AC := .reg i79r1 (some [0, 1, 5])
def i79r2 : List It := [.m 8 0, .u 9 (.lenL (.t 8)), .u 10 (.mv (.i 0))]
def f79r2 : AC := .reg i79r2 (some [1, 5, 8, 9, 10])
def i79r3 : List It := [.u 11 (.bin .lss (.t 10) (.t 9))]
def f79r3 : AC := .reg i79r3 (some [1, 5, 8, 9, 10, 11])
def i79r4 : List It := [.u 12 (.ia 1 (.t 8) (.t 10)), .u 13 (.ld false 1 (.t 12)), .m 7 13]
def f79r4 : AC := .reg i79r4 (some [1, 5, 7, 8, 9, 10])
def i79r5 : List It := [.m 14 1, .m 15 7, .u 16 (.ia 4 (.t 15) (.i 0)), .u 17 (.ld true 4 (.t 16)), .u 18 (.call (.t 14) [true] [.t 17])]
def f79r5 : AC := .reg i79r5 (some [1, 5, 7, 8, 9, 10, 18])
def i79r6 : List It := [.m 19 5, .m 20 7, .u 21 (.slc 4 (.t 20) (some (.i 1)) none), .u 22 (.bsl 1 [.t 21]), .u 23 (.app 1 24 (.t 19) (.t 22)), .m 5 23]
def f79r6 : AC := .reg i79r6 (some [1, 5, 8, 9, 10])
def i79r7 : List It := [.u 24 (.bin .add (.t 10) (.i 1)), .m 10 24]
def f79r7 : AC := .reg i79r7 (some [1, 5, 8, 9, 10])
def f79l0 : AC := (.seq f79r3 (.seq (.cond (.t 11) .skip (.exit 0)) (.seq (.blk 1 (.seq f79r4 (.seq f79r5 (.cond (.t 18) f79r6 .skip)))) f79r7)))
def i79r8 : List It := [.m 25 5, .m 4 25]
def f79r8 : AC := .reg i79r8 (some [4])
def b79 : AC := (.seq f79r0 (.seq f79r1 (.seq (.seq f79r2 (.blk 0 (.loop f79l0))) (.seq f79r8 .ret))))
def f79 : AF := ⟨2, [(4, none)], true, b79⟩
/-! cellarer/matrix.useful$1 -/
def i80r0 : List It := [.u 2 (.box 4 (.t 0)), .u 3 (.mv (.b false)), .frz 2]
def f80r0 : AC := .reg i80r0 (some [1, 2])
def i80r1 : List It := [.u 4 (.ld true 4 (.t 2)), .u 5 (.call (.f 81) [true] [.t 4]), .m 6 5, .g 7 (.fa 2 (.t 2)) 6 false, .g 8 (.ld false 1 (.t 7)) 6 false, .g 9 (.fa 2 (.t 1)) 6 false, .g 10 (.ld false 1 (.t 9)) 6 false, .g 11 (.bin .eql (.t 8) (.t 10)) 6 false, .u 12 (.pick (.t 6) (.b true) (.t 11)), .m 3 12, .kill 2]
def f80r1 : AC := .reg i80r1 (some [3])
def b80 : AC := (.seq f80r0 (.seq f80r1 .ret))
def f80 : AF := ⟨2, [(3, none)], true, b80⟩
/-! cellarer/matrix.wild -/
def i81r0 : List It := [.u 1 (.box 4 (.t 0)), .u 2 (.mv (.b false)), .frz 1]
def f81r0 : AC := .reg i81r0 (some [1])
def i81r1 : List It := [.u 3 (.fa 0 (.t 1)), .u 4 (.ld false 1 (.t 3)), .u 5 (.bin .eql (.t 4) (.i 0)), .m 2 5, .kill 1]
def f81r1 : AC := .reg i81r1 (some [2])
def b81 : AC := (.seq f81r0 (.seq f81r1 .ret))
def f81 : AF := ⟨1, [(2, none)], true, b81⟩
/-! cellarer/matrix.heads -/
def i82r0 : List It := [.u 2 (.mv (.c (.d .nilm))), .u 3 (.mv (.c (.d .nilm)))]
def f82r0 : AC := .reg i82r0 (some [0])
def i82r1 : List It := [.u 8 (.mkmap), .u 9 (.mkmap), .m 4 8, .m 5 9]
def f82r1 : AC := .reg i82r1 (some [0, 4, 5])
def i82r2 : List It := [.m 10 0, .u 11 (.lenL (.t 10)), .u 12 (.mv (.i 0))]
def f82r2 : AC := .reg i82r2 (some [4, 5, 10, 11, 12])
def i82r3 : List It := [.u 13 (.bin .lss (.t 12) (.t 11))]
def f82r3 : AC := .reg i82r3 (some [4, 5, 10, 11, 12, 13])
def i82r4 : List It := [.u 14 (.ia 1 (.t 10) (.t 12)), .u 15 (.ld false 1 (.t 14)), .m 7 15]
def f82r4 : AC := .reg i82r4 (some [4, 5, 7, 10, 11, 12])
def i82r5 : List It := [.m 16 7, .u 17 (.ia 4 (.t 16) (.i 0)), .u 18 (.fa 0 (.t 17)), .u 19 (.ld false 1 (.t 18))]
def f82r5 : AC := .reg i82r5 (some [4, 5, 7, 10, 11, 12, 19])
def i82r6 : List It := [.u 21 (.bin .eql (.t 19) (.i 1)), .m 20 21]
def f82r6 : AC := .reg i82r6 (some [4, 5, 7, 10, 11, 12, 19, 20])
def i82r7 : List It := [.m 22 4, .m 23 7, .u 24 (.ia 4 (.t 23) (.i 0)), .u 25 (.fa 1 (.t 24)), .u 26 (.ld false 1 (.t 25)), .o none (.mu .i (.t 22) (.t 26) (.b true)) none]
def f82r7 : AC := .reg i82r7 (some [4, 5, 10, 11, 12])
def i82r8 : List It := [.u 28 (.bin .eql (.t 19) (.i 2)), .m 27 28]
def f82r8 : AC := .reg i82r8 (some [4, 5, 7, 10, 11, 12, 27])
def i82r9 : List It := [.m 29 5, .m 30 7, .u 31 (.ia 4 (.t 30) (.i 0)), .u 32 (.fa 2 (.t 31)), .u 33 (.ld false 1 (.t 32)), .o none (.mu .i (.t 29) (.t 33) (.b true)) none]
def f82r9 : AC := .reg i82r9 (some [4, 5, 10, 11, 12])
def i82r10 : List It := [.u 34 (.bin .add (.t 12) (.i 1)), .m 12 34]
def f82r10 : AC := .reg i82r10 (some [4, 5, 10, 11, 12])
def f82l0 : AC := (.seq f82r3 (.seq (.cond (.t 13) .skip (.exit 0)) (.seq (.blk 1 (.seq f82r4 (.seq f82r5 (.blk 2 (.seq f82r6 (.cond (.t 20) f82r7 (.seq f82r8 (.cond (.t 27) f82r9 .skip)))))))) f82r10)))
def i82r11 : List It := [.m 35 4, .m 36 5, .m 2 35, .m 3 36]
def f82r11 : AC := .reg i82r11 (some [2, 3])
def b82 : AC := (.seq f82r0 (.seq f82r1 (.seq (.seq f82r2 (.blk 0 (.loop f82l0))) (.seq f82r11 .ret))))
def f82 : AF := ⟨1, [(2, none), (3, none)], false, b82⟩
/-! cellarer/matrix.matrices -/
def i83r0 : List It := [.u 3 (.box 1 (.t 0)), .frz 3, .u 4 (.box 1 (.t 1)), .frz 4, .u 5 (.box 1 (.t 2)), .frz 5, .u 6 (.mv (.c (.d .nilf)))]
def f83r0 : AC := .reg i83r0 (some [3, 4, 5])
def i83r1 : List It := [.u 7 (.mkf 98 [.t 3, .t 4, .t 5]), .m 6 7]
def f83r1 : AC := .reg i83r1 (some [6])
def b83 : AC := (.seq f83r0 (.seq f83r1 .ret))
def f83 : AF := ⟨3, [(6, none)], false, b83⟩
/-! cellarer/cellarerref27.same -/
def i84r0 : List It := [.u 2 (.box 4 (.t 0)), .u 3 (.box 4 (.t 1)), .u 4 (.mv (.b false)), .frz 2, .frz 3]
def f84r0 : AC := .reg i84r0 (some [2, 3])
def i84r1 : List It := [.u 5 (.fa 0 (.t 2)), .u 6 (.ld false 1 (.t 5)), .u 7 (.fa 0 (.t 3)), .u 8 (.ld false 1 (.t 7)), .u 9 (.bin .eql (.t 6) (.t 8)), .m 10 9, .g 11 (.fa 1 (.t 2)) 10 true, .g 12 (.ld false 1 (.t 11)) 10 true, .g 13 (.fa 1 (.t 3)) 10 true, .g 14 (.ld false 1 (.t 13)) 10 true, .g 15 (.bin .eql (.t 12) (.t 14)) 10 true, .u 16 (.pick (.t 10) (.t 15) (.b false)), .m 17 16, .g 18 (.fa 2 (.t 2)) 17 true, .g 19 (.ld false 1 (.t 18)) 17 true, .g 20 (.fa 2 (.t 3)) 17 true, .g 21 (.ld false 1 (.t 20)) 17 true, .g 22 (.bin .eql (.t 19) (.t 21)) 17 true, .u 23 (.pick (.t 17) (.t 22) (.b false)), .m 4 23, .kill 2, .kill 3]
def f84r1 : AC := .reg i84r1 (some [4])
def b84 : AC := (.seq f84r0 (.seq f84r1 .ret))
def f84 : AF := ⟨2, [(4, none)], true, b84⟩
/-! cellarer/cellarerref27.has -/
def i85r0 : List It := [.u 3 (.box 4 (.t 1)), .u 4 (.mv (.b false)), .frz 3]
def f85r0 : AC := .reg i85r0 (some [0, 3])
def i85r1 : List It := [.u 5 (.mv (.i 0))]
def f85r1 : AC := .reg i85r1 (some [0, 3, 5])
def i85r2 : List It := [.m 6 5, .m 7 0, .u 8 (.lenL (.t 7)), .u 9 (.bin .lss (.t 6) (.t 8))]
def f85r2 : AC := .reg i85r2 (some [0, 3, 5, 9])
def i85r3 : List It := [.m 12 0, .m 13 5, .u 14 (.ia 4 (.t 12) (.t 13)), .u 15 (.ld true 4 (.t 14)), .u 16 (.ld true 4 (.t 3)), .u 17 (.call (.f 84) [true, true] [.t 15, .t 16])]
def f85r3 : AC := .reg i85r3 (some [0, 3, 5, 17])
def i85r4 : List It := [.u 4 (.mv (.b true)), .kill 3]
def f85r4 : AC := .reg i85r4 (some [4])
def i85r5 : List It := [.m 10 5, .u 11 (.bin .add (.t 10) (.i 1)), .m 5 11]
def f85r5 : AC := .reg i85r5 (some [0, 3, 5])
def f85l0 : AC := (.seq (.seq f85r2 (.cond (.t 9) .skip (.exit 0))) (.seq (.blk 1 (.seq f85r3 (.cond (.t 17) (.seq f85r4 .ret) .skip))) f85r5))
def i85r6 : List It := [.u 4 (.mv (.b false)), .kill 3]
def f85r6 : AC := .reg i85r6 (some [4])
def b85 : AC := (.seq f85r0 (.seq (.seq f85r1 (.blk 0 (.loop f85l0))) (.seq f85r6 .ret)))
def f85 : AF := ⟨2, [(4, none)], true, b85⟩
/-! slices.ContainsFunc[[]cellarer/api.Con,cellarer/api.Con] -/
def i87r0 : List It := [.u 4 (.mv (.b false))]
def f87r0 : AC := .reg i87r0 (some [0, 1])
def i87r1 : List It := [.m 5 0, .m 6 1, .u 7 (.call (.f 99) [true, true] [.t 5, .t 6]), .u 8 (.bin .geq (.t 7) (.i 0)), .m 4 8]
def f87r1 : AC := .reg i87r1 (some [4])
def b87 : AC := (.seq f87r0 (.seq f87r1 .ret))
def f87 : AF := ⟨2, [(4, none)], true, b87⟩
/-! cellarer/datas.many$1 -/
def i88r0 : List It := [.u 1 (.box 2 (.t 0)), .u 2 (.mv (.b false)), .frz 1]
def f88r0 : AC := .reg i88r0 (some [1])
def i88r1 : List It := [.u 3 (.fa 1 (.t 1)), .u 4 (.ld false 1 (.t 3)), .u 5 (.lenL (.t 4)), .u 6 (.bin .gtr (.t 5) (.i 6)), .m 2 6, .kill 1]
def f88r1 : AC := .reg i88r1 (some [2])
def b88 : AC := (.seq f88r0 (.seq f88r1 .ret))
def f88 : AF := ⟨1, [(2, none)], true, b88⟩
/-! cellarer/datas.name -/
def i89r0 : List It := [.u 2 (.mv (.b false))]
def f89r0 : AC := .reg i89r0 (some [0])
def i89r1 : List It := [.m 5 0, .u 6 (.bin .eql (.t 5) (.c (.d (.str ⟨#[]⟩)))), .m 7 6, .g 8 (.mv (.t 0)) 7 false, .g 9 (.lenS (.t 8)) 7 false, .g 10 (.bin .gtr (.t 9) (.i 32)) 7 false, .u 11 (.pick (.t 7) (.b true) (.t 10)), .m 12 11, .g 13 (.mv (.t 0)) 12 false, .g 14 (.ixS (.t 13) (.i 0)) 12 false, .g 15 (.bin .lss (.t 14) (.c (.d (.int .u8 65)))) 12 false, .u 16 (.pick (.t 12) (.b true) (.t 15)), .m 17 16, .g 18 (.mv (.t 0)) 17 false, .g 19 (.ixS (.t 18) (.i 0)) 17 false, .g 20 (.bin .gtr (.t 19) (.c (.d (.int .u8 90)))) 17 false, .u 21 (.pick (.t 17) (.b true) (.t 20))]
def f89r1 : AC := .reg i89r1 (some [0, 21])
def i89r2 : List It := [.u 2 (.mv (.b false))]
def f89r2 : AC := .reg i89r2 (some [2])
def i89r3 : List It := [.m 22 0, .u 23 (.lenS (.t 22)), .u 24 (.mv (.i 0))]
def f89r3 : AC := .reg i89r3 (some [0, 23, 24])
def i89r4 : List It := [.u 25 (.bin .lss (.t 24) (.t 23))]
def f89r4 : AC := .reg i89r4 (some [0, 23, 24, 25])
def i89r5 : List It := [.m 26 24, .m 3 26]
def f89r5 : AC := .reg i89r5 (some [0, 3, 23, 24])
def i89r6 : List It := [.m 27 0, .m 28 3, .u 29 (.ixS (.t 27) (.t 28)), .m 4 29]
def f89r6 : AC := .reg i89r6 (some [0, 4, 23, 24])
def i89r7 : List It := [.m 30 4, .u 31 (.bin .geq (.t 30) (.c (.d (.int .u8 97)))), .m 32 31, .g 33 (.mv (.t 4)) 32 true, .g 34 (.bin .leq (.t 33) (.c (.d (.int .u8 122)))) 32 true, .u 35 (.pick (.t 32) (.t 34) (.b false)), .m 36 35, .g 37 (.mv (.t 4)) 36 false, .g 38 (.bin .geq (.t 37) (.c (.d (.int .u8 65)))) 36 false, .g 39 (.mv (.t 38)) 36 false, .g 40 (.mv (.t 4)) 39 true, .g 41 (.bin .leq (.t 40) (.c (.d (.int .u8 90)))) 39 true, .g 42 (.pick (.t 39) (.t 41) (.b false)) 36 false, .u 43 (.pick (.t 36) (.b true) (.t 42)), .m 44 43, .g 45 (.mv (.t 4)) 44 false, .g 46 (.bin .geq (.t 45) (.c (.d (.int .u8 48)))) 44 false, .g 47 (.mv (.t 46)) 44 false, .g 48 (.mv (.t 4)) 47 true, .g 49 (.bin .leq (.t 48) (.c (.d (.int .u8 57)))) 47 true, .g 50 (.pick (.t 47) (.t 49) (.b false)) 44 false, .u 51 (.pick (.t 44) (.b true) (.t 50)), .m 52 51, .g 53 (.mv (.t 4)) 52 false, .g 54 (.bin .eql (.t 53) (.c (.d (.int .u8 95)))) 52 false, .u 55 (.pick (.t 52) (.b true) (.t 54)), .u 56 (.un .not (.t 55))]
def f89r7 : AC := .reg i89r7 (some [0, 23, 24, 56])
def i89r8 : List It := [.u 2 (.mv (.b false))]
def f89r8 : AC := .reg i89r8 (some [2])
def i89r9 : List It := [.u 57 (.bin .add (.t 24) (.i 1)), .m 24 57]
def f89r9 : AC := .reg i89r9 (some [0, 23, 24])
def f89l0 : AC := (.seq f89r4 (.seq (.cond (.t 25) .skip (.exit 0)) (.seq (.blk 1 (.seq f89r5 (.seq f89r6 (.seq f89r7 (.cond (.t 56) (.seq f89r8 .ret) .skip))))) f89r9)))
def i89r10 : List It := [.u 2 (.mv (.b true))]
def f89r10 : AC := .reg i89r10 (some [2])
def b89 : AC := (.seq f89r0 (.seq (.seq f89r1 (.cond (.t 21) (.seq f89r2 .ret) .skip)) (.seq (.seq f89r3 (.blk 0 (.loop f89l0))) (.seq f89r10 .ret))))
def f89 : AF := ⟨1, [(2, none)], true, b89⟩
/-! cellarer/datas.formed$1 -/
def i90r0 : List It := [.u 1 (.box 2 (.t 0)), .u 2 (.mv (.b false)), .frz 1]
def f90r0 : AC := .reg i90r0 (some [1])
def i90r1 : List It := [.u 3 (.fa 0 (.t 1)), .u 4 (.ld false 1 (.t 3)), .u 5 (.call (.f 89) [true] [.t 4]), .u 6 (.un .not (.t 5)), .m 2 6, .kill 1]
def f90r1 : AC := .reg i90r1 (some [2])
def b90 : AC := (.seq f90r0 (.seq f90r1 .ret))
def f90 : AF := ⟨1, [(2, none)], true, b90⟩
/-! cellarer/datas.finite$1 -/
def i91r0 : List It := [.u 2 (.box 2 (.t 0)), .u 3 (.mv (.b false)), .frz 2]
def f91r0 : AC := .reg i91r0 (some [1, 2])
def i91r1 : List It := [.u 4 (.fa 1 (.t 2)), .u 5 (.ld false 1 (.t 4)), .u 6 (.mkf 92 [.t 1]), .u 7 (.call (.f 34) [true, true] [.t 5, .t 6]), .u 8 (.un .not (.t 7)), .m 3 8, .kill 2]
def f91r1 : AC := .reg i91r1 (some [3])
def b91 : AC := (.seq f91r0 (.seq f91r1 .ret))
def f91 : AF := ⟨2, [(3, none)], true, b91⟩
/-! cellarer/datas.finite$1$1 -/
def i92r0 : List It := [.u 3 (.mv (.b false))]
def f92r0 : AC := .reg i92r0 (some [0, 1])
def i92r1 : List It := [.u 4 (.ld false 1 (.t 1)), .m 5 0, .u 6 (.ia 1 (.t 4) (.t 5)), .u 7 (.ld false 1 (.t 6)), .u 8 (.un .not (.t 7)), .m 3 8]
def f92r1 : AC := .reg i92r1 (some [3])
def b92 : AC := (.seq f92r0 (.seq f92r1 .ret))
def f92 : AF := ⟨2, [(3, none)], true, b92⟩
/-! slices.Contains[[]bool,bool] -/
def i93r0 : List It := [.u 4 (.mv (.b false))]
def f93r0 : AC := .reg i93r0 (some [0, 1])
def i93r1 : List It := [.m 5 0, .m 6 1, .u 7 (.call (.f 100) [true, true] [.t 5, .t 6]), .u 8 (.bin .geq (.t 7) (.i 0)), .m 4 8]
def f93r1 : AC := .reg i93r1 (some [4])
def b93 : AC := (.seq f93r0 (.seq f93r1 .ret))
def f93 : AF := ⟨2, [(4, none)], true, b93⟩
/-! cellarer/cellarerref17.IsName -/
def i94r0 : List It := [.u 2 (.mv (.b false))]
def f94r0 : AC := .reg i94r0 (some [0])
def i94r1 : List It := [.u 3 (.mv (.i 0))]
def f94r1 : AC := .reg i94r1 (some [0, 3])
def i94r2 : List It := [.m 6 3, .m 7 0, .u 8 (.lenS (.t 7)), .u 9 (.bin .lss (.t 6) (.t 8))]
def f94r2 : AC := .reg i94r2 (some [0, 3, 9])
def i94r3 : List It := [.m 12 0, .m 13 3, .u 14 (.ixS (.t 12) (.t 13)), .m 4 14]
def f94r3 : AC := .reg i94r3 (some [0, 3, 4])
def i94r4 : List It := [.m 15 4, .u 16 (.bin .geq (.t 15) (.c (.d (.int .u8 65)))), .m 17 16, .g 18 (.mv (.t 4)) 17 true, .g 19 (.bin .leq (.t 18) (.c (.d (.int .u8 90)))) 17 true, .u 20 (.pick (.t 17) (.t 19) (.b false)), .m 5 20]
def f94r4 : AC := .reg i94r4 (some [0, 3, 4, 5])
def i94r5 : List It := [.m 21 5, .u 22 (.un .not (.t 21)), .m 23 22, .g 24 (.mv (.t 3)) 23 true, .g 25 (.bin .eql (.t 24) (.i 0)) 23 true, .g 26 (.mv (.t 25)) 23 true, .g 27 (.mv (.t 4)) 26 false, .g 28 (.bin .geq (.t 27) (.c (.d (.int .u8 97)))) 26 false, .g 29 (.mv (.t 28)) 26 false, .g 30 (.mv (.t 4)) 29 true, .g 31 (.bin .leq (.t 30) (.c (.d (.int .u8 122)))) 29 true, .g 32 (.pick (.t 29) (.t 31) (.b false)) 26 false, .g 33 (.mv (.t 32)) 26 false, .g 34 (.mv (.t 4)) 33 false, .g 35 (.bin .geq (.t 34) (.c (.d (.int .u8 48)))) 33 false, .g 36 (.mv (.t 35)) 33 false, .g 37 (.mv (.t 4)) 36 true, .g 38 (.bin .leq (.t 37) (.c (.d (.int .u8 57)))) 36 true, .g 39 (.pick (.t 36) (.t 38) (.b false)) 33 false, .g 40 (.pick (.t 33) (.b true) (.t 39)) 26 false, .g 41 (.mv (.t 40)) 26 false, .g 42 (.mv (.t 4)) 41 false, .g 43 (.bin .eql (.t 42) (.c (.d (.int .u8 95)))) 41 false, .g 44 (.pick (.t 41) (.b true) (.t 43)) 26 false, .g 45 (.un .not (.t 44)) 26 false, .g 46 (.pick (.t 26) (.b true) (.t 45)) 23 true, .u 47 (.pick (.t 23) (.t 46) (.b false))]
def f94r5 : AC := .reg i94r5 (some [0, 3, 47])
def i94r6 : List It := [.u 2 (.mv (.b false))]
def f94r6 : AC := .reg i94r6 (some [2])
def i94r7 : List It := [.m 10 3, .u 11 (.bin .add (.t 10) (.i 1)), .m 3 11]
def f94r7 : AC := .reg i94r7 (some [0, 3])
def f94l0 : AC := (.seq (.seq f94r2 (.cond (.t 9) .skip (.exit 0))) (.seq (.blk 1 (.seq f94r3 (.seq f94r4 (.seq f94r5 (.cond (.t 47) (.seq f94r6 .ret) .skip))))) f94r7))
def i94r8 : List It := [.m 48 0, .u 49 (.lenS (.t 48)), .u 50 (.bin .geq (.t 49) (.i 1)), .m 51 50, .g 52 (.mv (.t 0)) 51 true, .g 53 (.lenS (.t 52)) 51 true, .g 54 (.bin .leq (.t 53) (.i 32)) 51 true, .u 55 (.pick (.t 51) (.t 54) (.b false)), .m 2 55]
def f94r8 : AC := .reg i94r8 (some [2])
def b94 : AC := (.seq f94r0 (.seq (.seq f94r1 (.blk 0 (.loop f94l0))) (.seq f94r8 .ret)))
def f94 : AF := ⟨1, [(2, none)], true, b94⟩
/-! cellarer/cellarerref17.in -/
def i95r0 : List It := [.u 4 (.mv (.b false))]
def f95r0 : AC := .reg i95r0 (some [0, 1])
def i95r1 : List It := [.u 5 (.mv (.i 0))]
def f95r1 : AC := .reg i95r1 (some [0, 1, 5])
def i95r2 : List It := [.m 6 5, .m 7 0, .u 8 (.lenL (.t 7)), .u 9 (.bin .lss (.t 6) (.t 8))]
def f95r2 : AC := .reg i95r2 (some [0, 1, 5, 9])
def i95r3 : List It := [.m 12 0, .m 13 5, .u 14 (.ia 1 (.t 12) (.t 13)), .u 15 (.ld false 1 (.t 14)), .m 16 1, .u 17 (.bin .eql (.t 15) (.t 16))]
def f95r3 : AC := .reg i95r3 (some [0, 1, 5, 17])
def i95r4 : List It := [.u 4 (.mv (.b true))]
def f95r4 : AC := .reg i95r4 (some [4])
def i95r5 : List It := [.m 10 5, .u 11 (.bin .add (.t 10) (.i 1)), .m 5 11]
def f95r5 : AC := .reg i95r5 (some [0, 1, 5])
def f95l0 : AC := (.seq (.seq f95r2 (.cond (.t 9) .skip (.exit 0))) (.seq (.blk 1 (.seq f95r3 (.cond (.t 17) (.seq f95r4 .ret) .skip))) f95r5))
def i95r6 : List It := [.u 4 (.mv (.b false))]
def f95r6 : AC := .reg i95r6 (some [4])
def b95 : AC := (.seq f95r0 (.seq (.seq f95r1 (.blk 0 (.loop f95l0))) (.seq f95r6 .ret)))
def f95 : AF := ⟨2, [(4, none)], true, b95⟩
/-! cellarer/cellarerref17.IsType -/
def i96r0 : List It := [.u 4 (.mv (.b false))]
def f96r0 : AC := .reg i96r0 (some [0, 1])
def i96r1 : List It := [.m 5 1, .u 6 (.bin .geq (.t 5) (.i 0)), .m 7 6, .g 8 (.mv (.t 1)) 7 true, .g 9 (.mv (.t 0)) 7 true, .g 10 (.lenL (.t 9)) 7 true, .g 11 (.bin .leq (.t 8) (.t 10)) 7 true, .u 12 (.pick (.t 7) (.t 11) (.b false)), .m 4 12]
def f96r1 : AC := .reg i96r1 (some [4])
def b96 : AC := (.seq f96r0 (.seq f96r1 .ret))
def f96 : AF := ⟨2, [(4, none)], true, b96⟩
/-! slices.Clone[[]cellarer/api.Type,cellarer/api.Type] -/
def i97r0 : List It := [.u 2 (.mv (.c (.tl [] (some true))))]
def f97r0 : AC := .reg i97r0 (some [0])
def i97r1 : List It := [.m 3 0, .u 4 (.nilBin .s .eql (.t 3))]
def f97r1 : AC := .reg i97r1 (some [0, 4])
def i97r2 : List It := [.u 2 (.mv (.c (.tl [] (some true))))]
def f97r2 : AC := .reg i97r2 (some [2])
def i97r3 : List It := [.u 5 (.bsl 1 []), .m 6 0, .u 7 (.app 1 8 (.t 5) (.t 6)), .m 2 7]
def f97r3 : AC := .reg i97r3 (some [2])
def b97 : AC := (.seq f97r0 (.amb f97r1 (.t 4) (.seq f97r2 .ret) .skip (.seq f97r3 .ret)))
def f97 : AF := ⟨1, [(2, none)], false, b97⟩
/-! cellarer/matrix.matrices$1 -/
def i98r0 : List It := [.u 7 (.ld false 1 (.t 1)), .u 8 (.ld false 1 (.t 2)), .u 9 (.ia 1 (.t 8) (.i 0)), .u 10 (.ld false 1 (.t 9)), .u 11 (.bin .sub (.t 10) (.i 1)), .u 12 (.ia 2 (.t 7) (.t 11)), .u 13 (.fa 1 (.t 12)), .u 14 (.ld false 1 (.t 13)), .u 15 (.lenL (.t 14)), .u 16 (.mv (.i 0))]
def f98r0 : AC := .reg i98r0 (some [0, 3, 14, 15, 16])
def i98r1 : List It := [.u 17 (.bin .lss (.t 16) (.t 15))]
def f98r1 : AC := .reg i98r1 (some [0, 3, 14, 15, 16, 17])
def i98r2 : List It := [.m 18 16, .u 19 (.ia 2 (.t 14) (.t 16)), .u 20 (.ld true 2 (.t 19)), .u 6 (.alloc 2 (.agg [(.d (.str ⟨#[]⟩)), (.tl [] (some true))])), .m 5 18, .o none (.st 2 (.t 6) (.t 20)) none, .frz 6]
def f98r2 : AC := .reg i98r2 (some [0, 3, 5, 6, 14, 15, 16])
def i98r3 : List It := [.m 21 0, .m 22 5, .u 23 (.ld false 1 (.t 3)), .m 24 5, .u 25 (.fa 1 (.t 6)), .u 26 (.ld false 1 (.t 25)), .u 27 (.lenL (.t 26)), .u 28 (.call (.f 77) [true, true, true] [.t 23, .t 24, .t 27]), .u 29 (.call (.t 21) [true, true] [.t 22, .t 28]), .u 30 (.un .not (.t 29)), .kill 6]
def f98r3 : AC := .reg i98r3 (some [0, 3, 14, 15, 16, 30])
def i98r4 : List It := [.u 31 (.bin .add (.t 16) (.i 1)), .m 16 31]
def f98r4 : AC := .reg i98r4 (some [0, 3, 14, 15, 16])
def f98l0 : AC := (.seq f98r1 (.seq (.cond (.t 17) .skip (.exit 0)) (.seq (.blk 1 (.seq f98r2 (.seq f98r3 (.cond (.t 30) .ret .skip)))) f98r4)))
def b98 : AC := (.seq f98r0 (.blk 0 (.loop f98l0)))
def f98 : AF := ⟨4, [], false, b98⟩
/-! slices.IndexFunc[[]cellarer/api.Con,cellarer/api.Con] -/
def i99r0 : List It := [.u 4 (.mv (.i 0))]
def f99r0 : AC := .reg i99r0 (some [0, 1])
def i99r1 : List It := [.m 6 0, .u 7 (.lenL (.t 6)), .u 8 (.mv (.i 0))]
def f99r1 : AC := .reg i99r1 (some [0, 1, 7, 8])
def i99r2 : List It := [.u 9 (.bin .lss (.t 8) (.t 7))]
def f99r2 : AC := .reg i99r2 (some [0, 1, 7, 8, 9])
def i99r3 : List It := [.m 10 8, .m 5 10]
def f99r3 : AC := .reg i99r3 (some [0, 1, 5, 7, 8])
def i99r4 : List It := [.m 11 1, .m 12 0, .m 13 5, .u 14 (.ia 2 (.t 12) (.t 13)), .u 15 (.ld true 2 (.t 14)), .u 16 (.call (.t 11) [true] [.t 15])]
def f99r4 : AC := .reg i99r4 (some [0, 1, 5, 7, 8, 16])
def i99r5 : List It := [.m 17 5, .m 4 17]
def f99r5 : AC := .reg i99r5 (some [4])
def i99r6 : List It := [.u 18 (.bin .add (.t 8) (.i 1)), .m 8 18]
def f99r6 : AC := .reg i99r6 (some [0, 1, 7, 8])
def f99l0 : AC := (.seq f99r2 (.seq (.cond (.t 9) .skip (.exit 0)) (.seq (.blk 1 (.seq f99r3 (.seq f99r4 (.cond (.t 16) (.seq f99r5 .ret) .skip)))) f99r6)))
def i99r7 : List It := [.u 4 (.mv (.i (-1)))]
def f99r7 : AC := .reg i99r7 (some [4])
def b99 : AC := (.seq f99r0 (.seq (.seq f99r1 (.blk 0 (.loop f99l0))) (.seq f99r7 .ret)))
def f99 : AF := ⟨2, [(4, none)], true, b99⟩
/-! slices.Index[[]bool,bool] -/
def i100r0 : List It := [.u 4 (.mv (.i 0))]
def f100r0 : AC := .reg i100r0 (some [0, 1])
def i100r1 : List It := [.m 6 0, .u 7 (.lenL (.t 6)), .u 8 (.mv (.i 0))]
def f100r1 : AC := .reg i100r1 (some [0, 1, 7, 8])
def i100r2 : List It := [.u 9 (.bin .lss (.t 8) (.t 7))]
def f100r2 : AC := .reg i100r2 (some [0, 1, 7, 8, 9])
def i100r3 : List It := [.m 10 8, .m 5 10]
def f100r3 : AC := .reg i100r3 (some [0, 1, 5, 7, 8])
def i100r4 : List It := [.m 11 1, .m 12 0, .m 13 5, .u 14 (.ia 1 (.t 12) (.t 13)), .u 15 (.ld false 1 (.t 14)), .u 16 (.binB .eql (.t 11) (.t 15))]
def f100r4 : AC := .reg i100r4 (some [0, 1, 5, 7, 8, 16])
def i100r5 : List It := [.m 17 5, .m 4 17]
def f100r5 : AC := .reg i100r5 (some [4])
def i100r6 : List It := [.u 18 (.bin .add (.t 8) (.i 1)), .m 8 18]
def f100r6 : AC := .reg i100r6 (some [0, 1, 7, 8])
def f100l0 : AC := (.seq f100r2 (.seq (.cond (.t 9) .skip (.exit 0)) (.seq (.blk 1 (.seq f100r3 (.seq f100r4 (.cond (.t 16) (.seq f100r5 .ret) .skip)))) f100r6)))
def i100r7 : List It := [.u 4 (.mv (.i (-1)))]
def f100r7 : AC := .reg i100r7 (some [4])
def b100 : AC := (.seq f100r0 (.seq (.seq f100r1 (.blk 0 (.loop f100l0))) (.seq f100r7 .ret)))
def f100 : AF := ⟨2, [(4, none)], true, b100⟩
def tab : Tab := fun n => match n with
  | 3 => some f3
  | 4 => some f4
  | 6 => some f6
  | 9 => some f9
  | 10 => some f10
  | 11 => some f11
  | 12 => some f12
  | 13 => some f13
  | 14 => some f14
  | 15 => some f15
  | 16 => some f16
  | 17 => some f17
  | 18 => some f18
  | 19 => some f19
  | 20 => some f20
  | 21 => some f21
  | 22 => some f22
  | 29 => some f29
  | 30 => some f30
  | 31 => some f31
  | 32 => some f32
  | 33 => some f33
  | 34 => some f34
  | 35 => some f35
  | 36 => some f36
  | 37 => some f37
  | 38 => some f38
  | 39 => some f39
  | 40 => some f40
  | 41 => some f41
  | 42 => some f42
  | 43 => some f43
  | 44 => some f44
  | 1000704 => some f1000704
  | 45 => some f45
  | 46 => some f46
  | 47 => some f47
  | 48 => some f48
  | 49 => some f49
  | 50 => some f50
  | 51 => some f51
  | 1000816 => some f1000816
  | 52 => some f52
  | 53 => some f53
  | 54 => some f54
  | 62 => some f62
  | 63 => some f63
  | 64 => some f64
  | 65 => some f65
  | 66 => some f66
  | 67 => some f67
  | 68 => some f68
  | 69 => some f69
  | 70 => some f70
  | 71 => some f71
  | 72 => some f72
  | 73 => some f73
  | 74 => some f74
  | 75 => some f75
  | 76 => some f76
  | 77 => some f77
  | 78 => some f78
  | 79 => some f79
  | 80 => some f80
  | 81 => some f81
  | 82 => some f82
  | 83 => some f83
  | 84 => some f84
  | 85 => some f85
  | 87 => some f87
  | 88 => some f88
  | 89 => some f89
  | 90 => some f90
  | 91 => some f91
  | 92 => some f92
  | 93 => some f93
  | 94 => some f94
  | 95 => some f95
  | 96 => some f96
  | 97 => some f97
  | 98 => some f98
  | 99 => some f99
  | 100 => some f100
  | _ => none
end Zc27
end
section
set_option linter.unusedSimpArgs false
set_option linter.unusedVariables false
namespace Zv
open Go

/-- Where a row lies: its block, its first cell, the cells of an element, the cells of the block. -/
structure Pl where
  b : Nat
  o : Nat
  es : Nat
  sz : Nat
  deriving Inhabited

/-- What is known of memory: blocks that stay as they are; where the rows lie; names and lengths in use. -/
structure G where
  φ : Nat → Option Obj
  μ : Nat → Nat → Pl
  N : Nat
  B : Nat → Nat
  /-- blocks that stay as they are, and are not looked at -/
  F : Nat → Option Obj
  /-- the code of the rounds: number, parameters, assignments, body, number of variables -/
  C : Nat → Array Tmp → Code → Code → Nat → Prop

def cellφ (φ : Nat → Option Obj) (b p : Nat) : Option Value :=
  match φ b with
  | some (.cells c _ _) => c[p]?
  | _ => none

def At (φ : Nat → Option Obj) (b p : Nat) (vs : List Value) : Prop := ∀ j v, vs[j]? = some v → cellφ φ b (p + j) = some v

/-- A value that one cell can hold. -/
def leaf : Value → Prop
  | .agg _ => False
  | .tuple _ => False
  | _ => True

mutual
inductive RepD (φ : Nat → Option Obj) : D → Value → Prop
  | bool (b : Bool) : RepD φ (.bool b) (.bool b)
  | int (k : IntKind) (n : Int) : RepD φ (.int k n) (.int k n)
  | str (s : ByteArray) : RepD φ (.str s) (.string s)
  | nilp : RepD φ .nilp (.pointer none)
  | nilf : RepD φ .nilf .nilFunc
  | nilm : RepD φ .nilm (.map none)
  | lst (l : List D) (es cap : Nat) (a : Option Addr) (vs : List Value) (hes : ∀ x, x ∈ l → x.cells.length = es) (hc : l.length ≤ cap)
      (hr : RepDs φ (l.flatMap D.cells) vs) (ha : l = [] ∨ ∃ b p, a = some ⟨b, p, none⟩ ∧ At φ b p vs) : RepD φ (.lst l) (.slice a l.length cap)
  | agg (l : List D) (vs : List Value) (hr : RepDs φ l vs) : RepD φ (.agg l) (.agg vs.toArray)
inductive RepDs (φ : Nat → Option Obj) : List D → List Value → Prop
  | nil : RepDs φ [] []
  | cons (x : D) (l : List D) (v : Value) (vs : List Value) (h : RepD φ x v) (hs : RepDs φ l vs) (hf : leaf v) : RepDs φ (x :: l) (v :: vs)
end

mutual
inductive Rep (g : G) : V → Value → Prop
  | d (x : D) (v : Value) (h : RepD g.φ x v) : Rep g (.d x) v
  | tl (l : List V) (nl : Option Bool) (es : Nat) (a : Option Addr) (vs : List Value) (hes : ∀ x, x ∈ l → x.cells.length = es)
      (hr : Reps g (l.flatMap V.cells) vs) (ha : l = [] ∨ ∃ b p, a = some ⟨b, p, none⟩ ∧ At g.φ b p vs)
      (hn : ∀ q, nl = some q → (q = true ↔ a = none)) (hf : ∀ v, v ∈ vs → leaf v) : Rep g (.tl l nl) (.slice a l.length l.length)
  | own (n es tot off len cap : Nat) (a : Addr) (he : (g.μ n tot).es = es) (hN : n < g.N) (hB : tot ≤ g.B n)
      (ha : cap = 0 ∨ a = ⟨(g.μ n tot).b, (g.μ n tot).o + off * (g.μ n tot).es, none⟩) (hl : len ≤ cap) (ht : off + len ≤ tot) (hc : tot ≤ off + cap)
      (hs : (g.μ n tot).o + (off + cap) * (g.μ n tot).es ≤ (g.μ n tot).sz) : Rep g (.own n es tot off len) (.slice (some a) len cap)
  | ptr (n tot i off : Nat) (hN : n < g.N) (hB : tot ≤ g.B n) :
      Rep g (.ptr n tot i off) (.pointer (some ⟨(g.μ n tot).b, (g.μ n tot).o + i * (g.μ n tot).es + off, none⟩))
  | fp (x : D) (off b p : Nat) (vs : List Value) (hr : RepDs g.φ x.cells vs) (ha : At g.φ b p vs) : Rep g (.fp x off) (.pointer (some ⟨b, p + off, none⟩))
  | clo (f : Nat) (caps : List V) (vs : List Value) (hr : Reps g caps vs) : Rep g (.clo f caps) (.func (.func f) #[] vs.toArray)
  | agg (l : List V) (vs : List Value) (hr : Reps g l vs) (hf : ∀ v, v ∈ vs → leaf v) : Rep g (.agg l) (.agg vs.toArray)
  | tup (l : List V) (vs : List Value) (hr : Reps g l vs) : Rep g (.tup l) (.tuple vs.toArray)
  | map (n : Nat) (hN : n < g.N) : Rep g (.map n) (.map (some (g.μ n 0).b))
  | yld (n : Nat) (hN : n < g.N) : Rep g (.yld n) (.func (.yield (g.μ n 0).b) #[] #[])
  | ub (b : Bool) : Rep g .ub (.bool b)
  | undef (v : Value) : Rep g .undef v
inductive Reps (g : G) : List V → List Value → Prop
  | nil : Reps g [] []
  | cons (x : V) (l : List V) (v : Value) (vs : List Value) (h : Rep g x v) (hs : Reps g l vs) : Reps g (x :: l) (v :: vs)
end

/-! ## More is known later -/

structure Le (g g' : G) : Prop where
  φ : ∀ b o, g.φ b = some o → g'.φ b = some o
  N : g.N ≤ g'.N
  B : ∀ n, n < g.N → g.B n ≤ g'.B n
  μ : ∀ n t, n < g.N → t ≤ g.B n → g'.μ n t = g.μ n t
  F : g'.F = g.F
  C : g'.C = g.C

theorem Le.refl (g : G) : Le g g := ⟨fun _ _ h => h, Nat.le_refl _, fun _ _ => Nat.le_refl _, fun _ _ _ _ => rfl, rfl, rfl⟩
theorem Le.trans {a b c : G} (h : Le a b) (k : Le b c) : Le a c :=
  ⟨fun _ _ x => k.φ _ _ (h.φ _ _ x), Nat.le_trans h.N k.N, fun n hn => Nat.le_trans (h.B n hn) (k.B n (Nat.lt_of_lt_of_le hn h.N)),
    fun n t hn ht => (k.μ n t (Nat.lt_of_lt_of_le hn h.N) (Nat.le_trans ht (h.B n hn))).trans (h.μ n t hn ht), k.F.trans h.F, k.C.trans h.C⟩

theorem cellφ_mono {φ φ' : Nat → Option Obj} (h : ∀ b o, φ b = some o → φ' b = some o) {b p : Nat} {v : Value} (hc : cellφ φ b p = some v) : cellφ φ' b p = some v := by
  unfold cellφ at hc ⊢
  cases hb : φ b with
  | none => rw [hb] at hc; cases hc
  | some o => rw [hb] at hc; rw [h _ _ hb]; exact hc

theorem At.mono {φ φ' : Nat → Option Obj} (h : ∀ b o, φ b = some o → φ' b = some o) {b p : Nat} {vs : List Value} (ha : At φ b p vs) : At φ' b p vs :=
  fun j v hj => cellφ_mono h (ha j v hj)

mutual
theorem RepD.mono {φ φ' : Nat → Option Obj} (h : ∀ b o, φ b = some o → φ' b = some o) : ∀ {x : D} {v : Value}, RepD φ x v → RepD φ' x v
  | _, _, .bool b => .bool b
  | _, _, .int k n => .int k n
  | _, _, .str s => .str s
  | _, _, .nilp => .nilp
  | _, _, .nilf => .nilf
  | _, _, .nilm => .nilm
  | _, _, .lst l es cap a vs hes hc hr ha => .lst l es cap a vs hes hc (RepDs.mono h hr) (ha.imp id fun ⟨b, p, e, hat⟩ => ⟨b, p, e, hat.mono h⟩)
  | _, _, .agg l vs hr => .agg l vs (RepDs.mono h hr)
theorem RepDs.mono {φ φ' : Nat → Option Obj} (h : ∀ b o, φ b = some o → φ' b = some o) : ∀ {x : List D} {v : List Value}, RepDs φ x v → RepDs φ' x v
  | _, _, .nil => .nil
  | _, _, .cons x l v vs hx hs hf => .cons x l v vs (RepD.mono h hx) (RepDs.mono h hs) hf
end

mutual
theorem Rep.mono {g g' : G} (h : Le g g') : ∀ {x : V} {v : Value}, Rep g x v → Rep g' x v
  | _, _, .d x v hx => .d x v (hx.mono h.φ)
  | _, _, .tl l nl es a vs hes hr ha hn hf => .tl l nl es a vs hes (Reps.mono h hr) (ha.imp id fun ⟨b, p, e, hat⟩ => ⟨b, p, e, hat.mono h.φ⟩) hn hf
  | _, _, .own n es tot off len cap a he hN hB ha hl ht hc hs => .own n es tot off len cap a (by rw [h.μ n tot hN hB]; exact he) (Nat.lt_of_lt_of_le hN h.N) (Nat.le_trans hB (h.B n hN)) (by rw [h.μ n tot hN hB]; exact ha) hl ht hc (by rw [h.μ n tot hN hB]; exact hs)
  | _, _, .ptr n tot i off hN hB => by rw [← h.μ n tot hN hB]; exact .ptr n tot i off (Nat.lt_of_lt_of_le hN h.N) (Nat.le_trans hB (h.B n hN))
  | _, _, .fp x off b p vs hr ha => .fp x off b p vs (hr.mono h.φ) (ha.mono h.φ)
  | _, _, .clo f caps vs hr => .clo f caps vs (Reps.mono h hr)
  | _, _, .agg l vs hr hf => .agg l vs (Reps.mono h hr) hf
  | _, _, .tup l vs hr => .tup l vs (Reps.mono h hr)
  | _, _, .map n hN => by rw [← h.μ n 0 hN (Nat.zero_le _)]; exact .map n (Nat.lt_of_lt_of_le hN h.N)
  | _, _, .yld n hN => by rw [← h.μ n 0 hN (Nat.zero_le _)]; exact .yld n (Nat.lt_of_lt_of_le hN h.N)
  | _, _, .ub b => .ub b
  | _, _, .undef v => .undef v
theorem Reps.mono {g g' : G} (h : Le g g') : ∀ {x : List V} {v : List Value}, Reps g x v → Reps g' x v
  | _, _, .nil => .nil
  | _, _, .cons x l v vs hx hs => .cons x l v vs (Rep.mono h hx) (Reps.mono h hs)
end

/-! ## Lists -/

theorem RepDs.length {φ : Nat → Option Obj} : ∀ {l : List D} {vs : List Value}, RepDs φ l vs → vs.length = l.length
  | _, _, .nil => rfl
  | _, _, .cons _ _ _ _ _ hs _ => by simp [RepDs.length hs]
theorem Reps.length {g : G} : ∀ {l : List V} {vs : List Value}, Reps g l vs → vs.length = l.length
  | _, _, .nil => rfl
  | _, _, .cons _ _ _ _ _ hs => by simp [Reps.length hs]

theorem RepDs.app {φ : Nat → Option Obj} : ∀ {l : List D} {vs : List Value} {l' : List D} {vs' : List Value}, RepDs φ l vs → RepDs φ l' vs' → RepDs φ (l ++ l') (vs ++ vs')
  | _, _, _, _, .nil, k => k
  | _, _, _, _, .cons x l v vs hx hs hf, k => .cons x _ v _ hx (RepDs.app hs k) hf
theorem Reps.app {g : G} : ∀ {l : List V} {vs : List Value} {l' : List V} {vs' : List Value}, Reps g l vs → Reps g l' vs' → Reps g (l ++ l') (vs ++ vs')
  | _, _, _, _, .nil, k => k
  | _, _, _, _, .cons x l v vs hx hs, k => .cons x _ v _ hx (Reps.app hs k)

theorem RepDs.split {φ : Nat → Option Obj} : ∀ {l l' : List D} {vs : List Value}, RepDs φ (l ++ l') vs → RepDs φ l (vs.take l.length) ∧ RepDs φ l' (vs.drop l.length)
  | [], _, _, h => ⟨.nil, h⟩
  | x :: l, l', _, .cons _ _ v vs hx hs hf => ⟨.cons x l v _ hx (RepDs.split hs).1 hf, (RepDs.split hs).2⟩
theorem Reps.split {g : G} : ∀ {l l' : List V} {vs : List Value}, Reps g (l ++ l') vs → Reps g l (vs.take l.length) ∧ Reps g l' (vs.drop l.length)
  | [], _, _, h => ⟨.nil, h⟩
  | x :: l, l', _, .cons _ _ v vs hx hs => ⟨.cons x l v _ hx (Reps.split hs).1, (Reps.split hs).2⟩

theorem RepDs.drop {φ : Nat → Option Obj} : ∀ {l : List D} {vs : List Value} (n : Nat), RepDs φ l vs → RepDs φ (l.drop n) (vs.drop n)
  | _, _, 0, h => h
  | _, _, _ + 1, .nil => .nil
  | _, _, n + 1, .cons _ _ _ _ _ hs _ => hs.drop n
theorem Reps.drop {g : G} : ∀ {l : List V} {vs : List Value} (n : Nat), Reps g l vs → Reps g (l.drop n) (vs.drop n)
  | _, _, 0, h => h
  | _, _, _ + 1, .nil => .nil
  | _, _, n + 1, .cons _ _ _ _ _ hs => hs.drop n
theorem RepDs.take {φ : Nat → Option Obj} : ∀ {l : List D} {vs : List Value} (n : Nat), RepDs φ l vs → RepDs φ (l.take n) (vs.take n)
  | _, _, 0, _ => .nil
  | _, _, _ + 1, .nil => .nil
  | _, _, n + 1, .cons x _ v _ h hs hf => .cons x _ v _ h (hs.take n) hf
theorem Reps.take {g : G} : ∀ {l : List V} {vs : List Value} (n : Nat), Reps g l vs → Reps g (l.take n) (vs.take n)
  | _, _, 0, _ => .nil
  | _, _, _ + 1, .nil => .nil
  | _, _, n + 1, .cons x _ v _ h hs => .cons x _ v _ h (hs.take n)

theorem RepDs.get {φ : Nat → Option Obj} : ∀ {l : List D} {vs : List Value} {i : Nat} {x : D}, RepDs φ l vs → l[i]? = some x → ∃ v, vs[i]? = some v ∧ RepD φ x v
  | _, _, _, _, .nil, h => by simp at h
  | _, _, 0, _, .cons x _ v _ hx _ _, h => by simp at h; subst h; exact ⟨v, rfl, hx⟩
  | _, _, i + 1, _, .cons _ _ _ _ _ hs _, h => by simp at h; simpa using RepDs.get hs h
theorem Reps.get {g : G} : ∀ {l : List V} {vs : List Value} {i : Nat} {x : V}, Reps g l vs → l[i]? = some x → ∃ v, vs[i]? = some v ∧ Rep g x v
  | _, _, _, _, .nil, h => by simp at h
  | _, _, 0, _, .cons x _ v _ hx _, h => by simp at h; subst h; exact ⟨v, rfl, hx⟩
  | _, _, i + 1, _, .cons _ _ _ _ _ hs, h => by simp at h; simpa using Reps.get hs h

theorem Reps.of_map_d {g : G} : ∀ {l : List D} {vs : List Value}, RepDs g.φ l vs → Reps g (l.map .d) vs
  | _, _, .nil => .nil
  | _, _, .cons x l v vs hx hs _ => .cons (.d x) _ v vs (.d x v hx) (Reps.of_map_d hs)
theorem Reps.to_map_d {g : G} : ∀ {l : List D} {vs : List Value}, Reps g (l.map .d) vs → (∀ v, v ∈ vs → leaf v) → RepDs g.φ l vs
  | [], _, .nil, _ => .nil
  | _ :: _, _, .cons _ _ v vs (.d x _ hx) hs, hf => .cons x _ v vs hx (Reps.to_map_d hs fun u hu => hf u (List.mem_cons_of_mem _ hu)) (hf v (List.mem_cons_self))
theorem RepDs.leaf {φ : Nat → Option Obj} : ∀ {l : List D} {vs : List Value}, RepDs φ l vs → ∀ v, v ∈ vs → Zv.leaf v
  | _, _, .nil, _, h => by simp at h
  | _, _, .cons _ _ _ _ _ hs hf, v, h => by
    rcases List.mem_cons.1 h with rfl | h
    · exact hf
    · exact RepDs.leaf hs v h

/-- A value's cells. -/
theorem RepD.cells {φ : Nat → Option Obj} {x : D} {v : Value} (h : RepD φ x v) : RepDs φ x.cells v.cells.toList := by
  cases h with
  | agg l vs hr => simpa [D.cells, Value.cells] using hr
  | bool b => exact .cons _ _ _ _ (.bool b) .nil trivial
  | int k n => exact .cons _ _ _ _ (.int k n) .nil trivial
  | str s => exact .cons _ _ _ _ (.str s) .nil trivial
  | nilp => exact .cons _ _ _ _ .nilp .nil trivial
  | nilf => exact .cons _ _ _ _ .nilf .nil trivial
  | nilm => exact .cons _ _ _ _ .nilm .nil trivial
  | lst l es cap a vs hes hc hr ha => exact .cons _ _ _ _ (.lst l es cap a vs hes hc hr ha) .nil trivial

theorem Rep.cells {g : G} {x : V} {v : Value} (hu : stor x = true) (h : Rep g x v) : Reps g x.cells v.cells.toList ∧ ∀ u, u ∈ v.cells.toList → leaf u := by
  have one : ∀ u : Value, leaf u → ∀ q, q ∈ [u] → leaf q := fun u hu q hq => by simp at hq; subst hq; exact hu
  cases h with
  | d x v hx => exact ⟨Reps.of_map_d hx.cells, hx.cells.leaf⟩
  | agg l vs hr hf => exact ⟨by simpa [V.cells, Value.cells] using hr, by simpa [Value.cells] using hf⟩
  | tl l nl es a vs hes hr ha hn hf => exact ⟨.cons _ _ _ _ (.tl l nl es a vs hes hr ha hn hf) .nil, one _ trivial⟩
  | own n es tot off len cap a he hN hB ha hl ht hc hs => exact ⟨.cons _ _ _ _ (.own n es tot off len cap a he hN hB ha hl ht hc hs) .nil, one _ trivial⟩
  | ptr n tot i off hN hB => exact ⟨.cons _ _ _ _ (.ptr n tot i off hN hB) .nil, one _ trivial⟩
  | fp x off b p vs hr ha => exact ⟨.cons _ _ _ _ (.fp x off b p vs hr ha) .nil, one _ trivial⟩
  | clo f caps vs hr => exact ⟨.cons _ _ _ _ (.clo f caps vs hr) .nil, one _ trivial⟩
  | tup l vs hr => cases hu
  | map n hN => exact ⟨.cons _ _ _ _ (.map n hN) .nil, one _ trivial⟩
  | yld n hN => exact ⟨.cons _ _ _ _ (.yld n hN) .nil, one _ trivial⟩
  | ub b => exact ⟨.cons _ _ _ _ (.ub b) .nil, one _ trivial⟩
  | undef v => cases hu

theorem toDs_cons {x : V} {l : List V} {ys : List D} (h : toDs (x :: l) = some ys) : ∃ y r, toD x = some y ∧ toDs l = some r ∧ ys = y :: r := by
  simp only [toDs] at h
  cases h1 : toD x with
  | none => rw [h1] at h; simp at h
  | some a =>
    cases h2 : toDs l with
    | none => rw [h1, h2] at h; simp at h
    | some b => rw [h1, h2] at h; simp at h; exact ⟨a, b, rfl, rfl, h.symm⟩
theorem toDs_mk {x : V} {l : List V} {y : D} {r : List D} (h : toD x = some y) (k : toDs l = some r) : toDs (x :: l) = some (y :: r) := by
  simp only [toDs, h, k]
theorem toDs_length : ∀ {l : List V} {ys : List D}, toDs l = some ys → l.length = ys.length
  | [], ys, h => by simp [toDs] at h; subst h; rfl
  | x :: l, ys, h => by obtain ⟨y, r, _, h2, rfl⟩ := toDs_cons h; simp [toDs_length h2]
theorem toDs_app : ∀ {l k : List V} {ys zs : List D}, toDs l = some ys → toDs k = some zs → toDs (l ++ k) = some (ys ++ zs)
  | [], k, ys, zs, h, h' => by simp [toDs] at h; subst h; exact h'
  | x :: l, k, ys, zs, h, h' => by obtain ⟨y, r, h1, h2, rfl⟩ := toDs_cons h; exact toDs_mk h1 (toDs_app h2 h')
theorem toDs_map_d : ∀ (l : List D), toDs (l.map .d) = some l
  | [] => rfl
  | x :: l => toDs_mk rfl (toDs_map_d l)
theorem toD_cells {x : V} {y : D} (h : toD x = some y) : toDs x.cells = some y.cells := by
  cases x with
  | d z => simp [toD] at h; subst h; exact toDs_map_d _
  | tl l nl =>
    have h' := h
    simp only [toD, Option.map_eq_some_iff] at h'
    obtain ⟨ds, hds, rfl⟩ := h'
    exact toDs_mk h rfl
  | agg l =>
    simp only [toD, Option.map_eq_some_iff] at h
    obtain ⟨ds, hds, rfl⟩ := h
    exact hds
  | _ => simp [toD] at h
theorem toDs_flat : ∀ {l : List V} {ys : List D}, toDs l = some ys → toDs (l.flatMap V.cells) = some (ys.flatMap D.cells)
  | [], ys, h => by simp [toDs] at h; subst h; rfl
  | x :: l, ys, h => by
    obtain ⟨y, r, h1, h2, rfl⟩ := toDs_cons h
    simpa using toDs_app (toD_cells h1) (toDs_flat h2)
theorem toD_len {x : V} {y : D} (h : toD x = some y) : y.cells.length = x.cells.length := (toDs_length (toD_cells h)).symm
theorem toDs_es : ∀ {l : List V} {ys : List D} {es : Nat}, toDs l = some ys → (∀ x, x ∈ l → x.cells.length = es) → ∀ y, y ∈ ys → y.cells.length = es
  | [], ys, es, h, _, y, hy => by simp [toDs] at h; subst h; simp at hy
  | x :: l, ys, es, h, hes, y, hy => by
    obtain ⟨z, r, h1, h2, rfl⟩ := toDs_cons h
    rcases List.mem_cons.1 hy with rfl | hy
    · rw [toD_len h1]; exact hes x (by simp)
    · exact toDs_es h2 (fun q hq => hes q (by simp [hq])) y hy

mutual
/-- What can be read as data is data. -/
theorem Rep.toD {g : G} : ∀ {x : V} {v : Value} {y : D}, Rep g x v → toD x = some y → RepD g.φ y v
  | _, _, _, .d x v hx, h => by simp [Zv.toD] at h; subst h; exact hx
  | _, _, _, .tl l nl es a vs hes hr ha hn hf, h => by
    simp only [Zv.toD, Option.map_eq_some_iff] at h
    obtain ⟨ds, hds, rfl⟩ := h
    rw [toDs_length hds]
    exact .lst ds es ds.length a vs (toDs_es hds hes) (Nat.le_refl _) (Reps.toDs hr (toDs_flat hds) hf) (ha.imp (fun e => by subst e; simp [Zv.toDs] at hds; exact hds) id)
  | _, _, _, .agg l vs hr hf, h => by
    simp only [Zv.toD, Option.map_eq_some_iff] at h
    obtain ⟨ds, hds, rfl⟩ := h
    exact .agg ds vs (Reps.toDs hr hds hf)
  | _, _, _, .own .., h => by simp [Zv.toD] at h
  | _, _, _, .ptr .., h => by simp [Zv.toD] at h
  | _, _, _, .fp .., h => by simp [Zv.toD] at h
  | _, _, _, .clo .., h => by simp [Zv.toD] at h
  | _, _, _, .tup .., h => by simp [Zv.toD] at h
  | _, _, _, .map .., h => by simp [Zv.toD] at h
  | _, _, _, .yld .., h => by simp [Zv.toD] at h
  | _, _, _, .ub .., h => by simp [Zv.toD] at h
  | _, _, _, .undef .., h => by simp [Zv.toD] at h
theorem Reps.toDs {g : G} : ∀ {x : List V} {v : List Value} {y : List D}, Reps g x v → toDs x = some y → (∀ u, u ∈ v → Zv.leaf u) → RepDs g.φ y v
  | _, _, _, .nil, h, _ => by simp [Zv.toDs] at h; subst h; exact .nil
  | _, _, _, .cons x l v vs hx hs, h, hf => by
    simp only [Zv.toDs] at h
    cases h1 : Zv.toD x with
    | none => rw [h1] at h; simp at h
    | some a =>
      cases h2 : Zv.toDs l with
      | none => rw [h1, h2] at h; simp at h
      | some b =>
        rw [h1, h2] at h
        simp at h
        subst h
        exact .cons a b v vs (Rep.toD hx h1) (Reps.toDs hs h2 fun u hu => hf u (List.mem_cons_of_mem _ hu)) (hf v (List.mem_cons_self))
end

theorem Rep.norm {g : G} {x : V} {v : Value} (h : Rep g x v) : Rep g (Zv.norm x) v := by
  unfold Zv.norm
  split
  · rename_i y hy; exact .d y v (h.toD hy)
  · exact h
theorem norm_len (x : V) : (norm x).cells.length = x.cells.length := by
  unfold norm
  split
  · rename_i y hy
    show (y.cells.map V.d).length = _
    rw [List.length_map, toD_len hy]
  · rfl
theorem asD_toDs : ∀ {l : List V} {ds : List D}, asD l = some ds → toDs l = some ds
  | [], ds, h => by simp [asD] at h; subst h; rfl
  | .d x :: l, ds, h => by
    simp only [asD, Option.map_eq_some_iff] at h
    obtain ⟨r, hr, rfl⟩ := h
    exact toDs_mk rfl (asD_toDs hr)
theorem Rep.mkAgg {g : G} {l : List V} {vs : List Value} (h : Reps g l vs) (hf : ∀ u, u ∈ vs → leaf u) : Rep g (Zv.mkAgg l) (.agg vs.toArray) := by
  unfold Zv.mkAgg
  split
  · rename_i ds hds; exact .d _ _ (.agg ds vs (h.toDs (asD_toDs hds) hf))
  · exact .agg l vs h hf
theorem stor_norm {x : V} (h : stor x = true) : stor (norm x) = true := by
  unfold norm
  split
  · rfl
  · exact h
theorem stor_mkAgg (l : List V) : stor (mkAgg l) = true := by
  unfold mkAgg
  split <;> rfl
theorem mkAgg_len (l : List V) : (mkAgg l).cells.length = l.length := by
  unfold mkAgg
  split
  · rename_i ds hds; show (ds.map V.d).length = _; rw [List.length_map, toDs_length (asD_toDs hds)]
  · rfl

/-! ## The heap and memory -/

/-- Memory's other parts are as they were; no block has gone. -/
structure Fx (w w' : World) : Prop where
  os : w'.os = w.os
  tape : w'.tape = w.tape
  output : w'.output = w.output
  size : w.heap.size ≤ w'.heap.size
theorem Fx.refl (w : World) : Fx w w := ⟨rfl, rfl, rfl, Nat.le_refl _⟩
theorem Fx.trans {a b c : World} (h : Fx a b) (k : Fx b c) : Fx a c := ⟨k.os.trans h.os, k.tape.trans h.tape, k.output.trans h.output, Nat.le_trans h.size k.size⟩

def Ob.tot : Ob → Nat
  | .arr _ els => els.length
  | .mp _ => 0
  | .lp _ _ _ => 0
def blk (g : G) (n : Nat) (o : Ob) : Nat := (g.μ n o.tot).b

/-- The entries of a map. -/
inductive RepKvs (g : G) : List (D × V) → List MapEntry → Prop
  | nil : RepKvs g [] []
  | cons (k : D) (x : V) (l : List (D × V)) (e : MapEntry) (es : List MapEntry) (hk : RepD g.φ k e.key) (hx : Rep g x e.val) (hs : RepKvs g l es) : RepKvs g ((k, x) :: l) (e :: es)

/-- How the record of a loop stands, as it says itself. -/
def LpSt : Option Ex → LoopState → Option Code → Prop
  | none, s, p => s = .ready ∧ p = none
  | some .norm, s, p => s = .busy ∧ p = none
  | some (.exit i), s, p => s = .done ∧ p = some (.exit i)
  | some .ret, s, p => s = .done ∧ p = some .ret

def ObRep (g : G) (w : World) (n : Nat) : Ob → Prop
  | .arr es els => ∃ c ty vs, w.heap[(g.μ n els.length).b]? = some (.cells c ty (0, 0)) ∧ c.size = (g.μ n els.length).sz ∧ ((g.μ n els.length).es = es ∧ (g.μ n els.length).o + els.length * es ≤ (g.μ n els.length).sz) ∧
      (∀ x, x ∈ els → x.cells.length = es) ∧ Reps g (els.flatMap V.cells) vs ∧ (∀ u, u ∈ vs → leaf u) ∧ (∀ j v, vs[j]? = some v → c[(g.μ n els.length).o + j]? = some v)
  | .mp kvs => ∃ es clock, w.heap[(g.μ n 0).b]? = some (.map es clock) ∧ RepKvs g kvs es.toList
  | .lp b e s => ∃ r : Loop, w.heap[(g.μ n 0).b]? = some (.loop r) ∧ (∀ t, Rep g (Env.get e t) (r.tmps.getD t undef)) ∧ g.C b r.params r.assign r.body r.tmps.size ∧ LpSt s r.state r.pending

structure Rel (g : G) (h : Hp) (w : World) : Prop where
  nx : h.next = g.N
  fr : ∀ b o, g.φ b = some o → w.heap[b]? = some o
  nd : (h.objs.map (·.1)).Nodup
  ob : ∀ n o, h.get n = some o → n < g.N ∧ g.B n = o.tot ∧ ObRep g w n o
  sep : ∀ n m o p, h.get n = some o → h.get m = some p → n ≠ m → blk g n o ≠ blk g m p
  out : ∀ n o, h.get n = some o → g.φ (blk g n o) = none
  kp : ∀ b o, g.F b = some o → w.heap[b]? = some o ∧ g.φ b = none
  kpo : ∀ n o, h.get n = some o → g.F (blk g n o) = none

theorem RepKvs.mono {g g' : G} (h : Le g g') : ∀ {l : List (D × V)} {es : List MapEntry}, RepKvs g l es → RepKvs g' l es
  | _, _, .nil => .nil
  | _, _, .cons k x l e es hk hx hs => .cons k x l e es (hk.mono h.φ) (hx.mono h) (RepKvs.mono h hs)

/-- An object as it was, in a later state where its block is as it was. -/
theorem ObRep.mono {g g' : G} {w w' : World} {n : Nat} {o : Ob} (hle : Le g g') (hn : n < g.N) (hB : o.tot ≤ g.B n) (hb : w'.heap[blk g n o]? = w.heap[blk g n o]?) (h : ObRep g w n o) : ObRep g' w' n o := by
  cases o with
  | arr es els =>
    obtain ⟨c, ty, vs, h1, h2, h3, h4, h5, h6, h7⟩ := h
    have e := hle.μ n els.length hn hB
    simp only [ObRep]
    rw [e]
    exact ⟨c, ty, vs, hb.trans h1, h2, h3, h4, h5.mono hle, h6, h7⟩
  | mp kvs =>
    obtain ⟨es, cl, h1, h2⟩ := h
    have e := hle.μ n 0 hn (Nat.zero_le _)
    simp only [ObRep]
    rw [e]
    exact ⟨es, cl, hb.trans h1, h2.mono hle⟩
  | lp b ev s =>
    obtain ⟨r, h1, h2, h3, h4⟩ := h
    have e := hle.μ n 0 hn (Nat.zero_le _)
    simp only [ObRep]
    rw [e]
    exact ⟨r, hb.trans h1, fun t => (h2 t).mono hle, by rw [hle.C]; exact h3, h4⟩
theorem blk_mono {g g' : G} {n : Nat} {o : Ob} (hle : Le g g') (hn : n < g.N) (hB : o.tot ≤ g.B n) : blk g' n o = blk g n o := by
  unfold blk; rw [hle.μ n _ hn hB]

/-! ### Lookups -/
theorem look_mem : ∀ {l : List (Nat × Ob)} {n : Nat} {o : Ob}, look l n = some o → (n, o) ∈ l
  | (m, q) :: l, n, o, h => by
    unfold look at h
    split at h
    · rename_i e; subst e; simp at h; subst h; simp
    · exact List.mem_cons_of_mem _ (look_mem h)
theorem look_of_mem : ∀ {l : List (Nat × Ob)} {n : Nat} {o : Ob}, (l.map (·.1)).Nodup → (n, o) ∈ l → look l n = some o
  | (m, q) :: l, n, o, hd, h => by
    unfold look
    rw [List.map_cons, List.nodup_cons] at hd
    rcases List.mem_cons.1 h with e | h'
    · cases e; simp
    · rw [if_neg (fun e => hd.1 (by subst e; exact List.mem_map.2 ⟨(n, o), h', rfl⟩))]
      exact look_of_mem hd.2 h'
theorem look_none : ∀ {l : List (Nat × Ob)} {n : Nat}, n ∉ l.map (·.1) → look l n = none
  | [], _, _ => rfl
  | (m, q) :: l, n, h => by
    simp at h
    unfold look
    rw [if_neg h.1]
    exact look_none (by simpa using h.2)
theorem look_upd : ∀ {l : List (Nat × Ob)} {n : Nat} {o q : Ob} (m : Nat), look l n = some q → look (upd l n o) m = if m = n then some o else look l m
  | (k, x) :: l, n, o, q, m, h => by
    unfold look at h
    by_cases e : n = k
    · subst e
      simp only [upd, if_true, look]
      by_cases e2 : m = n
      · simp [e2]
      · simp [e2]
    · rw [if_neg e] at h
      simp only [upd, if_neg e, look]
      by_cases e2 : m = k
      · subst e2
        rw [if_pos rfl, if_neg (fun h => e h.symm), if_pos rfl]
      · rw [if_neg e2, if_neg e2]
        exact look_upd m h
theorem upd_keys : ∀ (l : List (Nat × Ob)) (n : Nat) (o : Ob), (upd l n o).map (·.1) = l.map (·.1)
  | [], _, _ => rfl
  | (k, x) :: l, n, o => by
    unfold upd
    split
    · simp
    · simp [upd_keys l n o]
theorem del_keys : ∀ (l : List (Nat × Ob)) (n : Nat), ((del l n).map (·.1)).Sublist (l.map (·.1))
  | [], _ => .slnil
  | (k, x) :: l, n => by
    unfold del
    split
    · exact List.sublist_cons_self _ _
    · exact (del_keys l n).cons_cons _
theorem look_del : ∀ {l : List (Nat × Ob)} {n : Nat} (m : Nat), (l.map (·.1)).Nodup → look (del l n) m = if m = n then none else look l m
  | [], n, m, _ => by simp [del, look]
  | (k, x) :: l, n, m, hd => by
    rw [List.map_cons, List.nodup_cons] at hd
    unfold del
    by_cases e : n = k
    · subst e
      rw [if_pos rfl]
      by_cases e2 : m = n
      · subst e2; rw [if_pos rfl]; exact look_none hd.1
      · rw [if_neg e2]; simp only [look]; rw [if_neg e2]
    · rw [if_neg e]
      simp only [look]
      by_cases e2 : m = k
      · subst e2; rw [if_pos rfl, if_neg (fun h => e h.symm), if_pos rfl]
      · rw [if_neg e2, if_neg e2]; exact look_del m hd.2

end Zv
end
