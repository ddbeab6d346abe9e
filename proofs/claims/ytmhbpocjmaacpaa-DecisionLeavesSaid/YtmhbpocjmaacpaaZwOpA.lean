/-
  Parts of the proof.
-/
import Derived.Test.YtmhbpocjmaacpaaTabA
import Derived.Below
import Derived.Laws.Sem
import Derived.Laws.Cells
import Derived.Laws.CopyRow
import Derived.Laws.Strings
import Derived.Laws.Entries
import Derived.Laws.Cover3
import Derived.WideShapes
set_option linter.unusedSimpArgs false
set_option linter.unusedVariables false
section
namespace Zc28
open Go Zv
def f60r10:AC:=.reg i60r10 (some [2,4,5,7,8,80])
def i60r11:List It:=[.u 81 (.ld false 1 (.t 4)),.u 82 (.ld false 1 (.t 5)),.u 83 (.slc 1 (.t 82) (some (.i 1)) none),.m 84 2,.u 85 (.calln (.f 107) [true,true] [.t 84,(.f 109)]),.u 86 (.ld false 1 (.t 7)),.u 87 (.slc 4 (.t 86) (some (.i 1)) none),.u 88 (.call (.f 60) [true,true,true,true] [.t 81,.t 83,.t 85,.t 87]),.o none (.st 1 (.t 8) (.t 88)) none,.kill 4,.kill 5,.kill 7]
def f60r11:AC:=.reg i60r11 (some [8])
def i60r12:List It:=[.u 89 (.ld false 1 (.t 4)),.u 90 (.ld false 1 (.t 5)),.m 91 2,.u 92 (.call (.f 111) [true,true,true] [.t 89,.t 90,.t 91])]
def f60r12:AC:=.reg i60r12 (some [4,5,7,8,92])
def i60r13:List It:=[.m 12 93]
def f60r13:AC:=.reg i60r13 (some [4,5,7,8,12,94])
def i60r14:List It:=[.m 13 94]
def f60r14:AC:=.reg i60r14 (some [4,5,7,8,12,13])
def i60r15:List It:=[.u 95 (.ld false 1 (.t 4)),.u 96 (.ld false 1 (.t 4)),.u 97 (.ld false 1 (.t 5)),.m 98 12,.u 99 (.calln (.f 104) [true,true,true] [.t 96,.t 97,.t 98]),.m 100 13,.u 101 (.ld false 1 (.t 4)),.u 102 (.ld false 1 (.t 5)),.u 103 (.ia 1 (.t 102) (.i 0)),.u 104 (.ld false 1 (.t 103)),.u 105 (.bin .sub (.t 104) (.i 1)),.u 106 (.ia 2 (.t 101) (.t 105)),.u 107 (.fa 1 (.t 106)),.u 108 (.ld false 1 (.t 107)),.m 109 12,.u 110 (.ia 2 (.t 108) (.t 109)),.u 111 (.fa 1 (.t 110)),.u 112 (.ld false 1 (.t 111)),.u 113 (.lenL (.t 112)),.u 114 (.mkslT (.d (.agg [(.int .i64 0),(.int .i64 0),(.int .i64 0),(.lst [])])) 48 (.t 113)),.u 115 (.ld false 1 (.t 7)),.u 116 (.slc 4 (.t 115) (some (.i 1)) none),.u 117 (.appd 4 48 (.t 114) (.t 116)),.u 118 (.call (.f 60) [true,true,true,true] [.t 95,.t 99,.t 100,.t 117])]
def f60r15:AC:=.reg i60r15 (some [8,118])
def i60r16:List It:=[.o none (.st 1 (.t 8) (.b true)) none]
def f60r16:AC:=.reg i60r16 (some [8])
def a60q0:AC:=(.seq f60r13 f60r14)
def d60q0:AC:=(.blk 2 (.seq f60r15 (.cond (.t 118) (.seq f60r16 .ret) .skip)))
def i60r17:List It:=[.o none (.st 1 (.t 8) (.b false)) none,.kill 4,.kill 5,.kill 7]
def f60r17:AC:=.reg i60r17 (some [8])
def b60:AC:=(.seq f60r0 (.seq (.seq f60r1 (.cond (.t 16) (.seq f60r2 .ret) .skip)) (.seq f60r3 (.seq (.seq f60r4 (.blk 0 (.seq f60r5 (.cond (.t 25) (.seq f60r6 .ret) (.seq f60r7 (.cond (.t 47) (.seq f60r8 .ret) .skip)))))) (.seq f60r9 (.seq (.seq f60r10 (.cond (.t 80) (.seq f60r11 .ret) .skip)) (.seq (.seq f60r12 (.blk 1 (.rng (.t 92) 960))) (.seq f60r17 .ret))))))))
def f60:AF:=⟨4,[(8,some (false,1))],true,b60⟩
def f1000960:AF:=⟨2,[(93,none),(94,none)],false,.seq a60q0 d60q0⟩
def i61r0:List It:=[.u 4 (.mv (.i 0))]
def f61r0:AC:=.reg i61r0 (some [0,1])
def i61r1:List It:=[.m 6 0,.u 7 (.lenL (.t 6)),.u 8 (.mv (.i 0))]
def f61r1:AC:=.reg i61r1 (some [0,1,7,8])
def i61r2:List It:=[.u 9 (.bin .lss (.t 8) (.t 7))]
def f61r2:AC:=.reg i61r2 (some [0,1,7,8,9])
def i61r3:List It:=[.m 10 8,.m 5 10]
def f61r3:AC:=.reg i61r3 (some [0,1,5,7,8])
def i61r4:List It:=[.m 11 1,.m 12 0,.m 13 5,.u 14 (.ia 1 (.t 12) (.t 13)),.u 15 (.ld false 1 (.t 14)),.u 16 (.bin .eql (.t 11) (.t 15))]
def f61r4:AC:=.reg i61r4 (some [0,1,5,7,8,16])
def i61r5:List It:=[.m 17 5,.m 4 17]
def f61r5:AC:=.reg i61r5 (some [4])
def i61r6:List It:=[.u 18 (.bin .add (.t 8) (.i 1)),.m 8 18]
def f61r6:AC:=.reg i61r6 (some [0,1,7,8])
def f61l0:AC:=(.seq f61r2 (.seq (.cond (.t 9) .skip (.exit 0)) (.seq (.blk 1 (.seq f61r3 (.seq f61r4 (.cond (.t 16) (.seq f61r5 .ret) .skip)))) f61r6)))
def i61r7:List It:=[.u 4 (.mv (.i (-1)))]
def f61r7:AC:=.reg i61r7 (some [4])
def b61:AC:=(.seq f61r0 (.seq (.seq f61r1 (.blk 0 (.loop f61l0))) (.seq f61r7 .ret)))
def f61:AF:=⟨2,[(4,none)],true,b61⟩
def i62r0:List It:=[.u 4 (.alloc 3 (.agg [(.d (.int .i64 0)),(.d (.int .i64 0)),(.tl [] (some true))])),.u 5 (.mv (.b false))]
def f62r0:AC:=.reg i62r0 (some [0,1,4])
def i62r1:List It:=[.u 6 (.alloc 3 (.agg [(.d (.int .i64 0)),(.d (.int .i64 0)),(.tl [] (some true))]))]
def f62r1:AC:=.reg i62r1 (some [0,1,4,6])
def i62r2:List It:=[.m 9 0,.u 10 (.lenL (.t 9)),.u 11 (.bin .eql (.t 10) (.i 0))]
def f62r2:AC:=.reg i62r2 (some [0,1,4,6,11])
def i62r3:List It:=[.u 12 (.ld true 3 (.t 6)),.o none (.st 3 (.t 4) (.t 12)) none,.u 5 (.mv (.b false)),.kill 6]
def f62r3:AC:=.reg i62r3 (some [4,5])
def i62r4:List It:=[.m 13 0,.u 14 (.lenL (.t 13)),.u 15 (.mv (.i 0))]
def f62r4:AC:=.reg i62r4 (some [1,4,6,13,14,15])
def i62r5:List It:=[.u 16 (.bin .lss (.t 15) (.t 14))]
def f62r5:AC:=.reg i62r5 (some [1,4,6,13,14,15,16])
def i62r6:List It:=[.u 17 (.ia 1 (.t 13) (.t 15)),.u 18 (.ld false 1 (.t 17)),.m 8 18]
def f62r6:AC:=.reg i62r6 (some [1,4,6,8,13,14,15])
def i62r7:List It:=[.m 19 8,.u 20 (.bin .lss (.t 19) (.i 0)),.m 21 20,.g 22 (.mv (.t 8)) 21 false,.g 23 (.mv (.t 1)) 21 false,.g 24 (.lenL (.t 23)) 21 false,.g 25 (.bin .geq (.t 22) (.t 24)) 21 false,.u 26 (.pick (.t 21) (.b true) (.t 25))]
def f62r7:AC:=.reg i62r7 (some [1,4,6,8,13,14,15,26])
def i62r8:List It:=[.u 27 (.ld true 3 (.t 6)),.o none (.st 3 (.t 4) (.t 27)) none,.u 5 (.mv (.b false)),.kill 6]
def f62r8:AC:=.reg i62r8 (some [4,5])
def i62r9:List It:=[.m 28 1,.m 29 8,.u 30 (.ia 3 (.t 28) (.t 29)),.u 31 (.ld true 3 (.t 30)),.o none (.st 3 (.t 6) (.t 31)) none]
def f62r9:AC:=.reg i62r9 (some [4,6,13,14,15])
def i62r10:List It:=[.u 32 (.fa 2 (.t 6)),.u 33 (.ld false 1 (.t 32)),.m 1 33]
def f62r10:AC:=.reg i62r10 (some [1,4,6,13,14,15])
def i62r11:List It:=[.u 34 (.bin .add (.t 15) (.i 1)),.m 15 34]
def f62r11:AC:=.reg i62r11 (some [1,4,6,13,14,15])
def f62l0:AC:=(.seq f62r5 (.seq (.cond (.t 16) .skip (.exit 0)) (.seq (.blk 1 (.seq f62r6 (.seq (.seq f62r7 (.cond (.t 26) (.seq f62r8 .ret) .skip)) (.seq f62r9 f62r10)))) f62r11)))
def i62r12:List It:=[.u 35 (.ld true 3 (.t 6)),.o none (.st 3 (.t 4) (.t 35)) none,.u 5 (.mv (.b true)),.kill 6]
def f62r12:AC:=.reg i62r12 (some [4,5])
def b62:AC:=(.seq f62r0 (.seq f62r1 (.seq (.seq f62r2 (.cond (.t 11) (.seq f62r3 .ret) .skip)) (.seq (.seq f62r4 (.blk 0 (.loop f62l0))) (.seq f62r12 .ret)))))
def f62:AF:=⟨2,[(4,some (true,3)),(5,none)],true,b62⟩
def i63r0:List It:=[.u 7 (.box 1 (.t 1)),.u 8 (.mv (.b false))]
def f63r0:AC:=.reg i63r0 (some [0,2,3,4,5,7])
def i63r1:List It:=[.m 21 0,.u 22 (.bin .lss (.t 21) (.i 0)),.m 23 22,.g 24 (.mv (.t 0)) 23 false,.g 25 (.fa 0 (.t 2)) 23 false,.g 26 (.ld false 1 (.t 25)) 23 false,.g 27 (.lenL (.t 26)) 23 false,.g 28 (.bin .geq (.t 24) (.t 27)) 23 false,.u 29 (.pick (.t 23) (.b true) (.t 28)),.m 30 29,.g 31 (.ld false 1 (.t 3)) 30 false,.g 32 (.mv (.t 0)) 30 false,.g 33 (.ia 1 (.t 31) (.t 32)) 30 false,.g 34 (.ld false 1 (.t 33)) 30 false,.u 35 (.pick (.t 30) (.b true) (.t 34))]
def f63r1:AC:=.reg i63r1 (some [0,2,3,4,5,7,35])
def i63r2:List It:=[.u 8 (.mv (.b false))]
def f63r2:AC:=.reg i63r2 (some [8])
def i63r3:List It:=[.u 36 (.ld false 1 (.t 3)),.m 37 0,.u 38 (.ia 1 (.t 36) (.t 37)),.o none (.st 1 (.t 38) (.b true)) none]
def f63r3:AC:=.reg i63r3 (some [0,2,4,5,7])
def i63r4:List It:=[.u 39 (.fa 0 (.t 2)),.u 40 (.ld false 1 (.t 39)),.m 41 0,.u 42 (.ia 5 (.t 40) (.t 41)),.u 43 (.ld true 5 (.t 42)),.u 9 (.alloc 5 (.agg [(.tl [] (some true)),(.d (.bool false)),(.d (.int .i64 0)),(.tl [] (some true)),(.d (.int .i64 0))])),.o none (.st 5 (.t 9) (.t 43)) none]
def f63r4:AC:=.reg i63r4 (some [4,5,7,9])
def i63r5:List It:=[.u 44 (.fa 3 (.t 9)),.u 45 (.ld false 1 (.t 44)),.u 46 (.lenL (.t 45)),.u 47 (.bin .eql (.t 46) (.i 0))]
def f63r5:AC:=.reg i63r5 (some [4,5,7,9,47])
def i63r6:List It:=[.u 48 (.ld true 5 (.t 9)),.u 49 (.call (.f 64) [true] [.t 48]),.m 8 49]
def f63r6:AC:=.reg i63r6 (some [8])
def i63r7:List It:=[.u 50 (.ld false 1 (.t 7)),.u 51 (.mkf 66 [.t 9]),.u 52 (.call (.f 65) [true,true] [.t 50,.t 51]),.u 10 (.alloc 1 (.d (.int .i64 0))),.o none (.st 1 (.t 10) (.t 52)) none]
def f63r7:AC:=.reg i63r7 (some [4,5,7,9,10])
def i63r8:List It:=[.frz 9,.u 53 (.fa 4 (.t 9)),.u 54 (.ld false 1 (.t 53)),.u 55 (.bin .neq (.t 54) (.i 0)),.m 56 55,.g 57 (.ld false 1 (.t 10)) 56 false,.g 58 (.bin .lss (.t 57) (.i 0)) 56 false,.u 59 (.pick (.t 56) (.b true) (.t 58)),.m 60 59,.g 61 (.ld false 1 (.t 7)) 60 false,.g 62 (.ld false 1 (.t 10)) 60 false,.g 63 (.ia 4 (.t 61) (.t 62)) 60 false,.g 64 (.fa 2 (.t 63)) 60 false,.g 65 (.ld false 1 (.t 64)) 60 false,.u 66 (.pick (.t 60) (.b true) (.t 65)),.m 67 66,.g 68 (.ld false 1 (.t 7)) 67 false,.g 69 (.ld false 1 (.t 10)) 67 false,.g 70 (.ia 4 (.t 68) (.t 69)) 67 false,.g 71 (.fa 1 (.t 70)) 67 false,.g 72 (.ld false 1 (.t 71)) 67 false,.g 73 (.bin .neq (.t 72) (.i 0)) 67 false,.g 74 (.fa 1 (.t 9)) 67 false,.g 75 (.ld false 1 (.t 74)) 67 false,.g 76 (.binB .neq (.t 73) (.t 75)) 67 false,.u 77 (.pick (.t 67) (.b true) (.t 76))]
def f63r8:AC:=.reg i63r8 (some [4,5,7,9,10,77])
def i63r9:List It:=[.u 8 (.mv (.b false))]
def f63r9:AC:=.reg i63r9 (some [8])
def i63r10:List It:=[.u 78 (.mkf 67 [.t 7,.t 10]),.m 11 78]
def f63r10:AC:=.reg i63r10 (some [4,5,7,9,10,11])
def i63r11:List It:=[.u 79 (.ld false 1 (.t 7)),.u 80 (.ld false 1 (.t 10)),.u 81 (.ia 4 (.t 79) (.t 80)),.u 82 (.ld true 4 (.t 81)),.u 12 (.alloc 4 (.agg [(.tl [] (some true)),(.d (.int .i64 0)),(.d (.bool false)),(.tl [] (some true))])),.o none (.st 4 (.t 12) (.t 82)) none]
def f63r11:AC:=.reg i63r11 (some [4,5,9,11,12])
def i63r12:List It:=[.u 83 (.fa 1 (.t 9)),.u 84 (.ld false 1 (.t 83)),.u 85 (.un .not (.t 84))]
def f63r12:AC:=.reg i63r12 (some [4,5,9,11,12,85])
def i63r13:List It:=[.u 86 (.fa 3 (.t 9)),.u 87 (.ld false 1 (.t 86)),.u 88 (.lenL (.t 87)),.u 89 (.bin .neq (.t 88) (.i 2)),.m 90 89,.g 91 (.fa 3 (.t 12)) 90 false,.g 92 (.ld false 1 (.t 91)) 90 false,.g 93 (.fa 2 (.t 9)) 90 false,.g 94 (.ld false 1 (.t 93)) 90 false,.g 95 (.call (.f 69) [true,true] [.t 92,.t 94]) 90 false,.u 96 (.pick (.t 90) (.b true) (.t 95))]
def f63r13:AC:=.reg i63r13 (some [4,9,11,12,96])
def i63r14:List It:=[.u 8 (.mv (.b false)),.kill 12]
def f63r14:AC:=.reg i63r14 (some [8])
def i63r15:List It:=[.frz 12,.u 97 (.ldf true 4 (.t 12)),.u 98 (.ldf true 4 (.t 12)),.u 13 (.alloc 4 (.agg [(.tl [] (some true)),(.d (.int .i64 0)),(.d (.bool false)),(.tl [] (some true))])),.u 14 (.alloc 4 (.agg [(.tl [] (some true)),(.d (.int .i64 0)),(.d (.bool false)),(.tl [] (some true))])),.o none (.st 4 (.t 13) (.t 97)) none,.o none (.st 4 (.t 14) (.t 98)) none]
def f63r15:AC:=.reg i63r15 (some [4,9,11,12,13,14])
def i63r16:List It:=[.u 99 (.fa 2 (.t 13)),.o none (.st 1 (.t 99) (.b true)) none]
def f63r16:AC:=.reg i63r16 (some [4,9,11,12,13,14])
def i63r17:List It:=[.u 100 (.fa 3 (.t 12)),.u 101 (.ld false 1 (.t 100)),.u 102 (.fa 3 (.t 12)),.u 103 (.ld false 1 (.t 102)),.u 104 (.lenL (.t 103)),.u 105 (.fa 3 (.t 12)),.u 106 (.ld false 1 (.t 105)),.u 107 (.lenL (.t 106)),.u 108 (.slc3 1 (.t 101) none (some (.t 104)) (some (.t 107))),.u 109 (.fa 2 (.t 9)),.u 110 (.ld false 1 (.t 109)),.u 111 (.bsl 1 [.t 110]),.u 112 (.appd 1 8 (.t 108) (.t 111)),.u 113 (.fa 3 (.t 14)),.o none (.st 1 (.t 113) (.t 112)) none,.kill 12]
def f63r17:AC:=.reg i63r17 (some [4,9,11,13,14])
def i63r18:List It:=[.frz 14,.frz 13,.u 114 (.ldk (.t 4) false 1 (.t 4)),.u 115 (.fa 3 (.t 9)),.u 116 (.ldf false 1 (.t 115)),.u 117 (.ia 1 (.t 116) (.i 0)),.u 118 (.ldf false 1 (.t 117)),.m 119 11,.u 120 (.ldf true 4 (.t 13)),.u 121 (.callz (.t 4) (.t 119) [true] [.t 120]),.u 122 (.call (.t 114) [true,true] [.t 118,.t 121]),.m 123 122,.g 124 (.ldk (.t 4) false 1 (.t 4)) 123 true,.g 125 (.fa 3 (.t 9)) 123 true,.g 126 (.ldf false 1 (.t 125)) 123 true,.g 127 (.ia 1 (.t 126) (.i 1)) 123 true,.g 128 (.ldf false 1 (.t 127)) 123 true,.g 129 (.mv (.t 11)) 123 true,.g 130 (.ldf true 4 (.t 14)) 123 true,.g 131 (.callz (.t 4) (.t 129) [true] [.t 130]) 123 true,.g 132 (.call (.t 124) [true,true] [.t 128,.t 131]) 123 true,.u 133 (.pick (.t 123) (.t 132) (.b false)),.m 8 133,.kill 13,.kill 14]
def f63r18:AC:=.reg i63r18 (some [8])
def i63r19:List It:=[.u 134 (.ld false 1 (.t 5)),.u 135 (.fa 1 (.t 12)),.u 136 (.ld false 1 (.t 135)),.u 137 (.bin .sub (.t 136) (.i 1)),.u 138 (.ia 2 (.t 134) (.t 137)),.u 139 (.fa 1 (.t 138)),.u 140 (.ld false 1 (.t 139)),.m 15 140]
def f63r19:AC:=.reg i63r19 (some [4,9,11,12,15])
def i63r20:List It:=[.u 141 (.fa 2 (.t 9)),.u 142 (.ld false 1 (.t 141)),.u 143 (.bin .neq (.t 142) (.i 0)),.m 144 143,.g 145 (.fa 3 (.t 9)) 144 false,.g 146 (.ld false 1 (.t 145)) 144 false,.g 147 (.lenL (.t 146)) 144 false,.g 148 (.mv (.t 15)) 144 false,.g 149 (.lenL (.t 148)) 144 false,.g 150 (.bin .neq (.t 147) (.t 149)) 144 false,.u 151 (.pick (.t 144) (.b true) (.t 150))]
def f63r20:AC:=.reg i63r20 (some [4,9,11,12,15,151])
def i63r21:List It:=[.u 8 (.mv (.b false)),.kill 12]
def f63r21:AC:=.reg i63r21 (some [8])
def i63r22:List It:=[.u 152 (.fa 2 (.t 12)),.o none (.st 1 (.t 152) (.b true)) none]
def f63r22:AC:=.reg i63r22 (some [4,9,11,12,15])
def i63r23:List It:=[.u 153 (.fa 3 (.t 9)),.u 154 (.ld false 1 (.t 153)),.u 155 (.lenL (.t 154)),.u 156 (.mv (.i 0))]
def f63r23:AC:=.reg i63r23 (some [4,9,11,12,15,154,155,156])
def i63r24:List It:=[.u 157 (.bin .lss (.t 156) (.t 155))]
def f63r24:AC:=.reg i63r24 (some [4,9,11,12,15,154,155,156,157])
def i63r25:List It:=[.m 158 156,.u 159 (.ia 1 (.t 154) (.t 156)),.u 160 (.ld false 1 (.t 159)),.m 16 158,.m 17 160]
def f63r25:AC:=.reg i63r25 (some [4,9,11,12,15,16,17,154,155,156])
def i63r26:List It:=[.m 161 11,.u 162 (.ld true 4 (.t 12)),.u 163 (.call (.t 161) [true] [.t 162]),.m 18 163]
def f63r26:AC:=.reg i63r26 (some [4,9,11,12,15,16,17,18,154,155,156])
def i63r27:List It:=[.m 164 15,.m 165 16,.u 166 (.ia 2 (.t 164) (.t 165)),.u 167 (.fa 1 (.t 166)),.u 168 (.ld false 1 (.t 167)),.u 169 (.lenL (.t 168)),.u 170 (.mv (.i 0))]
def f63r27:AC:=.reg i63r27 (some [4,9,11,12,15,17,18,154,155,156,168,169,170])
def i63r28:List It:=[.u 171 (.bin .lss (.t 170) (.t 169))]
def f63r28:AC:=.reg i63r28 (some [4,9,11,12,15,17,18,154,155,156,168,169,170,171])
def i63r29:List It:=[.m 172 170,.u 173 (.ia 1 (.t 168) (.t 170)),.u 174 (.ld false 1 (.t 173)),.m 19 172,.m 20 174]
def f63r29:AC:=.reg i63r29 (some [4,9,11,12,15,17,18,19,20,154,155,156,168,169,170])
def i63r30:List It:=[.m 175 18,.u 176 (.fa 0 (.t 9)),.u 177 (.ld false 1 (.t 176)),.m 178 19,.u 179 (.call (.f 41) [true,true] [.t 177,.t 178]),.m 180 20,.u 181 (.build [(.tl [] (some true)),(.d (.int .i64 0)),(.d (.bool false)),(.tl [] (some true))] [(0,1,(.t 179)),(1,1,(.t 180))]),.u 182 (.bsl 4 [.t 181]),.u 183 (.app 4 64 (.t 175) (.t 182)),.m 18 183]
def f63r30:AC:=.reg i63r30 (some [4,9,11,12,15,17,18,154,155,156,168,169,170])
def i63r31:List It:=[.u 184 (.bin .add (.t 170) (.i 1)),.m 170 184]
def f63r31:AC:=.reg i63r31 (some [4,9,11,12,15,17,18,154,155,156,168,169,170])
def f63l0:AC:=(.seq f63r28 (.seq (.cond (.t 171) .skip (.exit 2)) (.seq (.blk 3 (.seq f63r29 f63r30)) f63r31)))
def i63r32:List It:=[.frz 18,.u 185 (.ld false 1 (.t 4)),.m 186 17,.m 187 18,.u 188 (.call (.t 185) [true,true] [.t 186,.t 187]),.u 189 (.un .not (.t 188))]
def f63r32:AC:=.reg i63r32 (some [4,9,11,12,15,154,155,156,189])
def i63r33:List It:=[.u 8 (.mv (.b false)),.kill 12]
def f63r33:AC:=.reg i63r33 (some [8])
def i63r34:List It:=[.u 190 (.bin .add (.t 156) (.i 1)),.m 156 190]
def f63r34:AC:=.reg i63r34 (some [4,9,11,12,15,154,155,156])
def f63l1:AC:=(.seq f63r24 (.seq (.cond (.t 157) .skip (.exit 0)) (.seq (.blk 1 (.seq f63r25 (.seq f63r26 (.seq (.seq f63r27 (.blk 2 (.loop f63l0))) (.seq f63r32 (.cond (.t 189) (.seq f63r33 .ret) .skip)))))) f63r34)))
def i63r35:List It:=[.u 8 (.mv (.b true)),.kill 12]
def f63r35:AC:=.reg i63r35 (some [8])
def b63:AC:=(.seq f63r0 (.seq (.seq f63r1 (.cond (.t 35) (.seq f63r2 .ret) .skip)) (.seq f63r3 (.seq f63r4 (.seq (.seq f63r5 (.cond (.t 47) (.seq f63r6 .ret) .skip)) (.seq f63r7 (.seq (.seq f63r8 (.cond (.t 77) (.seq f63r9 .ret) .skip)) (.seq f63r10 (.seq f63r11 (.seq (.seq f63r12 (.cond (.t 85) (.seq (.seq f63r13 (.cond (.t 96) (.seq f63r14 .ret) .skip)) (.seq f63r15 (.seq f63r16 (.seq f63r17 (.seq f63r18 .ret))))) .skip)) (.seq f63r19 (.seq (.seq f63r20 (.cond (.t 151) (.seq f63r21 .ret) .skip)) (.seq f63r22 (.seq (.seq f63r23 (.blk 0 (.loop f63l1))) (.seq f63r35 .ret)))))))))))))))
def f63:AF:=⟨6,[(8,none)],false,b63⟩
def i64r0:List It:=[.u 1 (.box 5 (.t 0)),.u 2 (.mv (.b false)),.frz 1]
def f64r0:AC:=.reg i64r0 (some [1])
def i64r1:List It:=[.u 3 (.fa 4 (.t 1)),.u 4 (.ld false 1 (.t 3)),.u 5 (.bin .geq (.t 4) (.i 0)),.m 6 5,.g 7 (.fa 0 (.t 1)) 6 true,.g 8 (.ld false 1 (.t 7)) 6 true,.g 9 (.lenL (.t 8)) 6 true,.g 10 (.bin .eql (.t 9) (.i 0)) 6 true,.u 11 (.pick (.t 6) (.t 10) (.b false)),.m 12 11,.g 13 (.fa 1 (.t 1)) 12 true,.g 14 (.ld false 1 (.t 13)) 12 true,.g 15 (.un .not (.t 14)) 12 true,.u 16 (.pick (.t 12) (.t 15) (.b false)),.m 17 16,.g 18 (.fa 2 (.t 1)) 17 true,.g 19 (.ld false 1 (.t 18)) 17 true,.g 20 (.bin .eql (.t 19) (.i 0)) 17 true,.u 21 (.pick (.t 17) (.t 20) (.b false)),.m 2 21,.kill 1]
def f64r1:AC:=.reg i64r1 (some [2])
def b64:AC:=(.seq f64r0 (.seq f64r1 .ret))
def f64:AF:=⟨1,[(2,none)],true,b64⟩
def i65r0:List It:=[.u 4 (.mv (.i 0))]
def f65r0:AC:=.reg i65r0 (some [0,1])
def i65r1:List It:=[.m 6 0,.u 7 (.lenL (.t 6)),.u 8 (.mv (.i 0))]
def f65r1:AC:=.reg i65r1 (some [0,1,7,8])
def i65r2:List It:=[.u 9 (.bin .lss (.t 8) (.t 7))]
def f65r2:AC:=.reg i65r2 (some [0,1,7,8,9])
def i65r3:List It:=[.m 10 8,.m 5 10]
def f65r3:AC:=.reg i65r3 (some [0,1,5,7,8])
def i65r4:List It:=[.m 11 1,.m 12 0,.m 13 5,.u 14 (.ia 4 (.t 12) (.t 13)),.u 15 (.ld true 4 (.t 14)),.u 16 (.call (.t 11) [true] [.t 15])]
def f65r4:AC:=.reg i65r4 (some [0,1,5,7,8,16])
def i65r5:List It:=[.m 17 5,.m 4 17]
def f65r5:AC:=.reg i65r5 (some [4])
def i65r6:List It:=[.u 18 (.bin .add (.t 8) (.i 1)),.m 8 18]
def f65r6:AC:=.reg i65r6 (some [0,1,7,8])
def f65l0:AC:=(.seq f65r2 (.seq (.cond (.t 9) .skip (.exit 0)) (.seq (.blk 1 (.seq f65r3 (.seq f65r4 (.cond (.t 16) (.seq f65r5 .ret) .skip)))) f65r6)))
def i65r7:List It:=[.u 4 (.mv (.i (-1)))]
def f65r7:AC:=.reg i65r7 (some [4])
def b65:AC:=(.seq f65r0 (.seq (.seq f65r1 (.blk 0 (.loop f65l0))) (.seq f65r7 .ret)))
def f65:AF:=⟨2,[(4,none)],true,b65⟩
def i66r0:List It:=[.u 2 (.box 4 (.t 0)),.u 3 (.mv (.b false)),.frz 2]
def f66r0:AC:=.reg i66r0 (some [1,2])
def i66r1:List It:=[.u 4 (.fa 0 (.t 2)),.u 5 (.ld false 1 (.t 4)),.u 6 (.fa 0 (.t 1)),.u 7 (.ld false 1 (.t 6)),.u 8 (.call (.f 21) [true,true] [.t 5,.t 7]),.m 3 8,.kill 2]
def f66r1:AC:=.reg i66r1 (some [3])
def b66:AC:=(.seq f66r0 (.seq f66r1 .ret))
def f66:AF:=⟨2,[(3,none)],true,b66⟩
def i67r0:List It:=[.u 3 (.box 4 (.t 0)),.u 4 (.mv (.c (.tl [] (some true)))),.frz 3]
def f67r0:AC:=.reg i67r0 (some [1,2,3])
def i67r1:List It:=[.u 5 (.ld false 1 (.t 1)),.u 6 (.ld false 1 (.t 2)),.u 7 (.ld true 4 (.t 3)),.u 8 (.bsl 4 [.t 7]),.u 9 (.call (.f 68) [true,true,true] [.t 5,.t 6,.t 8]),.m 4 9,.kill 3]
def f67r1:AC:=.reg i67r1 (some [4])
def b67:AC:=(.seq f67r0 (.seq f67r1 .ret))
def f67:AF:=⟨3,[(4,none)],false,b67⟩
def i68r0:List It:=[.u 6 (.mv (.c (.tl [] (some true))))]
def f68r0:AC:=.reg i68r0 (some [0,1,2])
def i68r1:List It:=[.m 7 0,.m 8 1,.u 9 (.slc 4 (.t 7) none (some (.t 8))),.m 10 2,.m 11 0,.m 12 1,.u 13 (.bin .add (.t 12) (.i 1)),.u 14 (.slc 4 (.t 11) (some (.t 13)) none),.u 15 (.bsl 1 [.t 9,.t 10,.t 14]),.u 16 (.call (.f 112) [true] [.t 15]),.m 6 16]
def f68r1:AC:=.reg i68r1 (some [6])
def b68:AC:=(.seq f68r0 (.seq f68r1 .ret))
def f68:AF:=⟨3,[(6,none)],false,b68⟩
def i69r0:List It:=[.u 4 (.mv (.b false))]
def f69r0:AC:=.reg i69r0 (some [0,1])
def i69r1:List It:=[.m 5 0,.m 6 1,.u 7 (.call (.f 113) [true,true] [.t 5,.t 6]),.u 8 (.bin .geq (.t 7) (.i 0)),.m 4 8]
def f69r1:AC:=.reg i69r1 (some [4])
def b69:AC:=(.seq f69r0 (.seq f69r1 .ret))
def f69:AF:=⟨2,[(4,none)],true,b69⟩
def i70r0:List It:=[.u 4 (.mv (.b false))]
def f70r0:AC:=.reg i70r0 (some [0,1])
def i70r1:List It:=[.m 5 0,.m 6 1,.u 7 (.call (.f 114) [true,true] [.t 5,.t 6]),.u 8 (.bin .geq (.t 7) (.i 0)),.m 4 8]
def f70r1:AC:=.reg i70r1 (some [4])
def b70:AC:=(.seq f70r0 (.seq f70r1 .ret))
def f70:AF:=⟨2,[(4,none)],true,b70⟩
def i71r0:List It:=[.u 2 (.mv (.i 0))]
def f71r0:AC:=.reg i71r0 (some [0])
def i71r1:List It:=[.m 4 0,.u 5 (.call (.f 115) [true] [.t 4]),.m 3 5]
def f71r1:AC:=.reg i71r1 (some [0,3])
def i71r2:List It:=[.u 2 (.mv (.i 6))]
def f71r2:AC:=.reg i71r2 (some [2])
def i71r3:List It:=[.m 7 0,.u 8 (.call (.f 116) [true] [.t 7]),.u 9 (.un .not (.t 8)),.m 6 9]
def f71r3:AC:=.reg i71r3 (some [0,6])
def i71r4:List It:=[.u 2 (.mv (.i 3))]
def f71r4:AC:=.reg i71r4 (some [2])
def i71r5:List It:=[.m 11 0,.u 12 (.call (.f 117) [true] [.t 11]),.m 10 12]
def f71r5:AC:=.reg i71r5 (some [0,10])
def i71r6:List It:=[.u 2 (.mv (.i 8))]
def f71r6:AC:=.reg i71r6 (some [2])
def i71r7:List It:=[.m 14 0,.u 15 (.call (.f 118) [true] [.t 14]),.u 16 (.un .not (.t 15)),.m 13 16]
def f71r7:AC:=.reg i71r7 (some [0,13])
def i71r8:List It:=[.u 2 (.mv (.i 10))]
def f71r8:AC:=.reg i71r8 (some [2])
def i71r9:List It:=[.m 18 0,.u 19 (.call (.f 119) [true] [.t 18]),.u 20 (.un .not (.t 19)),.m 17 20]
def f71r9:AC:=.reg i71r9 (some [17])
def i71r10:List It:=[.u 2 (.mv (.i 7))]
def f71r10:AC:=.reg i71r10 (some [2])
def i71r11:List It:=[.u 2 (.mv (.i 0))]
def f71r11:AC:=.reg i71r11 (some [2])
def b71:AC:=(.seq f71r0 (.seq (.blk 0 (.seq f71r1 (.cond (.t 3) (.seq f71r2 .ret) (.seq f71r3 (.cond (.t 6) (.seq f71r4 .ret) (.seq f71r5 (.cond (.t 10) (.seq f71r6 .ret) (.seq f71r7 (.cond (.t 13) (.seq f71r8 .ret) (.seq f71r9 (.cond (.t 17) (.seq f71r10 .ret) .skip))))))))))) (.seq f71r11 .ret)))
def f71:AF:=⟨1,[(2,none)],true,b71⟩
def i72r0:List It:=[.u 10 (.mv (.b false))]
def f72r0:AC:=.reg i72r0 (some [0,1,2,3,4])
def i72r1:List It:=[.m 22 2,.u 23 (.bin .lss (.t 22) (.i 0)),.m 24 23,.g 25 (.mv (.t 2)) 24 false,.g 26 (.mv (.t 1)) 24 false,.g 27 (.lenL (.t 26)) 24 false,.g 28 (.bin .geq (.t 25) (.t 27)) 24 false,.u 29 (.pick (.t 24) (.b true) (.t 28)),.m 30 29,.g 31 (.mv (.t 4)) 30 false,.g 32 (.mv (.t 2)) 30 false,.g 33 (.ia 1 (.t 31) (.t 32)) 30 false,.g 34 (.ld false 1 (.t 33)) 30 false,.u 35 (.pick (.t 30) (.b true) (.t 34))]
def f72r1:AC:=.reg i72r1 (some [0,1,2,3,4,35])
def i72r2:List It:=[.u 10 (.mv (.b false))]
def f72r2:AC:=.reg i72r2 (some [10])
def i72r3:List It:=[.m 36 4,.m 37 2,.u 38 (.ia 1 (.t 36) (.t 37)),.o none (.st 1 (.t 38) (.b true)) none]
def f72r3:AC:=.reg i72r3 (some [0,1,2,3,4])
def i72r4:List It:=[.m 39 1,.m 40 2,.u 41 (.ia 5 (.t 39) (.t 40)),.u 42 (.ld true 5 (.t 41)),.u 11 (.alloc 5 (.agg [(.tl [] (some true)),(.d (.bool false)),(.d (.int .i64 0)),(.tl [] (some true)),(.d (.int .i64 0))])),.o none (.st 5 (.t 11) (.t 42)) none,.frz 11]
def f72r4:AC:=.reg i72r4 (some [0,1,3,4,11])
def i72r5:List It:=[.u 43 (.fa 3 (.t 11)),.u 44 (.ld false 1 (.t 43)),.u 45 (.lenL (.t 44)),.u 46 (.bin .eql (.t 45) (.i 0))]
def f72r5:AC:=.reg i72r5 (some [0,1,3,4,11,46])
def i72r6:List It:=[.u 47 (.fa 4 (.t 11)),.u 48 (.ld false 1 (.t 47)),.u 49 (.bin .geq (.t 48) (.i 0)),.m 50 49,.g 51 (.fa 0 (.t 11)) 50 true,.g 52 (.ld false 1 (.t 51)) 50 true,.g 53 (.lenL (.t 52)) 50 true,.g 54 (.bin .eql (.t 53) (.i 0)) 50 true,.u 55 (.pick (.t 50) (.t 54) (.b false)),.m 56 55,.g 57 (.fa 1 (.t 11)) 56 true,.g 58 (.ld false 1 (.t 57)) 56 true,.g 59 (.un .not (.t 58)) 56 true,.u 60 (.pick (.t 56) (.t 59) (.b false)),.m 61 60,.g 62 (.fa 2 (.t 11)) 61 true,.g 63 (.ld false 1 (.t 62)) 61 true,.g 64 (.bin .eql (.t 63) (.i 0)) 61 true,.u 65 (.pick (.t 61) (.t 64) (.b false)),.m 10 65,.kill 11]
def f72r6:AC:=.reg i72r6 (some [10])
def i72r7:List It:=[.u 66 (.fa 4 (.t 11)),.u 67 (.ld false 1 (.t 66)),.u 68 (.bin .neq (.t 67) (.i 0))]
def f72r7:AC:=.reg i72r7 (some [0,1,3,4,11,68])
def i72r8:List It:=[.u 10 (.mv (.b false)),.kill 11]
def f72r8:AC:=.reg i72r8 (some [10])
def i72r9:List It:=[.u 12 (.mv (.i (-1)))]
def f72r9:AC:=.reg i72r9 (some [0,1,3,4,11,12])
def i72r10:List It:=[.u 13 (.mv (.i 0))]
def f72r10:AC:=.reg i72r10 (some [0,1,3,4,11,12,13])
def i72r11:List It:=[.m 69 13,.m 70 3,.u 71 (.lenL (.t 70)),.u 72 (.bin .lss (.t 69) (.t 71))]
def f72r11:AC:=.reg i72r11 (some [0,1,3,4,11,12,13,72])
def i72r12:List It:=[.m 75 3,.m 76 13,.u 77 (.ia 4 (.t 75) (.t 76)),.u 78 (.fa 0 (.t 77)),.u 79 (.ld false 1 (.t 78)),.u 80 (.fa 0 (.t 11)),.u 81 (.ld false 1 (.t 80)),.u 82 (.call (.f 120) [true,true] [.t 79,.t 81])]
def f72r12:AC:=.reg i72r12 (some [0,1,3,4,11,12,13,82])
def i72r13:List It:=[.m 83 13,.m 12 83]
def f72r13:AC:=.reg i72r13 (some [0,1,3,4,11,12,13])
def i72r14:List It:=[.m 73 13,.u 74 (.bin .add (.t 73) (.i 1)),.m 13 74]
def f72r14:AC:=.reg i72r14 (some [0,1,3,4,11,12,13])
def f72l0:AC:=(.seq (.seq f72r11 (.cond (.t 72) .skip (.exit 0))) (.seq (.blk 1 (.seq f72r12 (.cond (.t 82) f72r13 .skip))) f72r14))
def i72r15:List It:=[.m 84 12,.u 85 (.bin .lss (.t 84) (.i 0)),.m 86 85,.g 87 (.mv (.t 3)) 86 false,.g 88 (.mv (.t 12)) 86 false,.g 89 (.ia 4 (.t 87) (.t 88)) 86 false,.g 90 (.fa 2 (.t 89)) 86 false,.g 91 (.ld false 1 (.t 90)) 86 false,.u 92 (.pick (.t 86) (.b true) (.t 91)),.m 93 92,.g 94 (.mv (.t 3)) 93 false,.g 95 (.mv (.t 12)) 93 false,.g 96 (.ia 4 (.t 94) (.t 95)) 93 false,.g 97 (.fa 1 (.t 96)) 93 false,.g 98 (.ld false 1 (.t 97)) 93 false,.g 99 (.bin .neq (.t 98) (.i 0)) 93 false,.g 100 (.fa 1 (.t 11)) 93 false,.g 101 (.ld false 1 (.t 100)) 93 false,.g 102 (.binB .neq (.t 99) (.t 101)) 93 false,.u 103 (.pick (.t 93) (.b true) (.t 102))]
def f72r15:AC:=.reg i72r15 (some [0,1,3,4,11,12,103])
def i72r16:List It:=[.u 10 (.mv (.b false)),.kill 11]
def f72r16:AC:=.reg i72r16 (some [10])
def i72r17:List It:=[.u 104 (.fa 1 (.t 11)),.u 105 (.ld false 1 (.t 104))]
def f72r17:AC:=.reg i72r17 (some [0,1,3,4,11,12,105])
def i72r18:List It:=[.m 106 0,.m 107 3,.m 108 12,.u 109 (.ia 4 (.t 107) (.t 108)),.u 110 (.fa 1 (.t 109)),.u 111 (.ld false 1 (.t 110)),.u 112 (.bin .sub (.t 111) (.i 1)),.u 113 (.ia 2 (.t 106) (.t 112)),.u 114 (.fa 1 (.t 113)),.u 115 (.ld false 1 (.t 114)),.m 14 115]
def f72r18:AC:=.reg i72r18 (some [0,1,3,4,11,12,14])
def i72r19:List It:=[.u 116 (.fa 2 (.t 11)),.u 117 (.ld false 1 (.t 116)),.u 118 (.bin .neq (.t 117) (.i 0)),.m 119 118,.g 120 (.fa 3 (.t 11)) 119 false,.g 121 (.ld false 1 (.t 120)) 119 false,.g 122 (.lenL (.t 121)) 119 false,.g 123 (.mv (.t 14)) 119 false,.g 124 (.lenL (.t 123)) 119 false,.g 125 (.bin .neq (.t 122) (.t 124)) 119 false,.u 126 (.pick (.t 119) (.b true) (.t 125))]
def f72r19:AC:=.reg i72r19 (some [0,1,3,4,11,12,14,126])
def i72r20:List It:=[.u 10 (.mv (.b false)),.kill 11]
def f72r20:AC:=.reg i72r20 (some [10])
def i72r21:List It:=[.u 15 (.mv (.i 0))]
def f72r21:AC:=.reg i72r21 (some [0,1,3,4,11,12,14,15])
def i72r22:List It:=[.m 127 15,.m 128 14,.u 129 (.lenL (.t 128)),.u 130 (.bin .lss (.t 127) (.t 129))]
def f72r22:AC:=.reg i72r22 (some [0,1,3,4,11,12,14,15,130])
def i72r23:List It:=[.m 133 3,.u 134 (.call (.f 121) [true] [.t 133]),.m 16 134]
def f72r23:AC:=.reg i72r23 (some [0,1,3,4,11,12,14,15,16])
def i72r24:List It:=[.m 135 16,.m 136 12,.u 137 (.ia 4 (.t 135) (.t 136)),.u 138 (.fa 2 (.t 137)),.o none (.st 1 (.t 138) (.b true)) none]
def f72r24:AC:=.reg i72r24 (some [0,1,3,4,11,12,14,15,16])
def i72r25:List It:=[.u 17 (.mv (.i 0))]
def f72r25:AC:=.reg i72r25 (some [0,1,3,4,11,12,14,15,16,17])
def i72r26:List It:=[.m 139 17,.m 140 14,.m 141 15,.u 142 (.ia 2 (.t 140) (.t 141)),.u 143 (.fa 1 (.t 142)),.u 144 (.ld false 1 (.t 143)),.u 145 (.lenL (.t 144)),.u 146 (.bin .lss (.t 139) (.t 145))]
def f72r26:AC:=.reg i72r26 (some [0,1,3,4,11,12,14,15,16,17,146])
def i72r27:List It:=[.m 149 16,.u 150 (.fa 0 (.t 11)),.u 151 (.ld false 1 (.t 150)),.m 152 17,.u 153 (.calln (.f 93) [true,true] [.t 151,.t 152]),.m 154 14,.m 155 15,.u 156 (.ia 2 (.t 154) (.t 155)),.u 157 (.fa 1 (.t 156)),.u 158 (.ld false 1 (.t 157)),.m 159 17,.u 160 (.ia 1 (.t 158) (.t 159)),.u 161 (.ld false 1 (.t 160)),.u 162 (.build [(.tl [] (some true)),(.d (.int .i64 0)),(.d (.bool false)),(.tl [] (some true))] [(0,1,(.t 153)),(1,1,(.t 161))]),.u 163 (.bsl 4 [.t 162]),.u 164 (.app 4 64 (.t 149) (.t 163)),.m 16 164]
def f72r27:AC:=.reg i72r27 (some [0,1,3,4,11,12,14,15,16,17])
def i72r28:List It:=[.m 147 17,.u 148 (.bin .add (.t 147) (.i 1)),.m 17 148]
def f72r28:AC:=.reg i72r28 (some [0,1,3,4,11,12,14,15,16,17])
def f72l1:AC:=(.seq (.seq f72r26 (.cond (.t 146) .skip (.exit 4))) (.seq (.blk 5 f72r27) f72r28))
def i72r29:List It:=[.frz 16,.m 165 0,.m 166 1,.u 167 (.fa 3 (.t 11)),.u 168 (.ld false 1 (.t 167)),.m 169 15,.u 170 (.ia 1 (.t 168) (.t 169)),.u 171 (.ld false 1 (.t 170)),.m 172 16,.m 173 4,.u 174 (.call (.f 72) [true,true,true,true,true] [.t 165,.t 166,.t 171,.t 172,.t 173]),.u 175 (.un .not (.t 174))]
def f72r29:AC:=.reg i72r29 (some [0,1,3,4,11,12,14,15,175])
def i72r30:List It:=[.u 10 (.mv (.b false)),.kill 11]
def f72r30:AC:=.reg i72r30 (some [10])
def i72r31:List It:=[.m 131 15,.u 132 (.bin .add (.t 131) (.i 1)),.m 15 132]
def f72r31:AC:=.reg i72r31 (some [0,1,3,4,11,12,14,15])
def f72l2:AC:=(.seq (.seq f72r22 (.cond (.t 130) .skip (.exit 2))) (.seq (.blk 3 (.seq f72r23 (.seq f72r24 (.seq (.seq f72r25 (.blk 4 (.loop f72l1))) (.seq f72r29 (.cond (.t 175) (.seq f72r30 .ret) .skip)))))) f72r31))
def i72r32:List It:=[.u 10 (.mv (.b true)),.kill 11]
def f72r32:AC:=.reg i72r32 (some [10])
def i72r33:List It:=[.u 176 (.fa 3 (.t 11)),.u 177 (.ld false 1 (.t 176)),.u 178 (.lenL (.t 177)),.u 179 (.bin .neq (.t 178) (.i 2))]
def f72r33:AC:=.reg i72r33 (some [0,1,3,4,11,12,179])
def i72r34:List It:=[.u 10 (.mv (.b false)),.kill 11]
def f72r34:AC:=.reg i72r34 (some [10])
def i72r35:List It:=[.u 18 (.mv (.i 0))]
def f72r35:AC:=.reg i72r35 (some [0,1,3,4,11,12,18])
def i72r36:List It:=[.m 180 18,.m 181 3,.m 182 12,.u 183 (.ia 4 (.t 181) (.t 182)),.u 184 (.fa 3 (.t 183)),.u 185 (.ld false 1 (.t 184)),.u 186 (.lenL (.t 185)),.u 187 (.bin .lss (.t 180) (.t 186))]
def f72r36:AC:=.reg i72r36 (some [0,1,3,4,11,12,18,187])
def i72r37:List It:=[.m 190 3,.m 191 12,.u 192 (.ia 4 (.t 190) (.t 191)),.u 193 (.fa 3 (.t 192)),.u 194 (.ld false 1 (.t 193)),.m 195 18,.u 196 (.ia 1 (.t 194) (.t 195)),.u 197 (.ld false 1 (.t 196)),.u 198 (.fa 2 (.t 11)),.u 199 (.ld false 1 (.t 198)),.u 200 (.bin .eql (.t 197) (.t 199))]
def f72r37:AC:=.reg i72r37 (some [0,1,3,4,11,12,18,200])
def i72r38:List It:=[.u 10 (.mv (.b false)),.kill 11]
def f72r38:AC:=.reg i72r38 (some [10])
def i72r39:List It:=[.m 188 18,.u 189 (.bin .add (.t 188) (.i 1)),.m 18 189]
def f72r39:AC:=.reg i72r39 (some [0,1,3,4,11,12,18])
def f72l3:AC:=(.seq (.seq f72r36 (.cond (.t 187) .skip (.exit 6))) (.seq (.blk 7 (.seq f72r37 (.cond (.t 200) (.seq f72r38 .ret) .skip))) f72r39))
def i72r40:List It:=[.m 201 3,.u 202 (.call (.f 121) [true] [.t 201]),.m 19 202]
def f72r40:AC:=.reg i72r40 (some [0,1,3,4,11,12,19])
def i72r41:List It:=[.m 203 19,.m 204 12,.u 205 (.ia 4 (.t 203) (.t 204)),.u 206 (.fa 2 (.t 205)),.o none (.st 1 (.t 206) (.b true)) none]
def f72r41:AC:=.reg i72r41 (some [0,1,3,4,11,12,19])
def i72r42:List It:=[.m 207 3,.u 208 (.call (.f 121) [true] [.t 207]),.m 20 208]
def f72r42:AC:=.reg i72r42 (some [0,1,3,4,11,12,19,20])
def i72r43:List It:=[.u 21 (.mv (.c (.tl [] (some true))))]
def f72r43:AC:=.reg i72r43 (some [0,1,3,4,11,12,19,20,21])
def i72r44:List It:=[.m 209 21,.m 210 3,.m 211 12,.u 212 (.ia 4 (.t 210) (.t 211)),.u 213 (.fa 3 (.t 212)),.u 214 (.ld false 1 (.t 213)),.u 215 (.app 1 8 (.t 209) (.t 214)),.m 21 215]
def f72r44:AC:=.reg i72r44 (some [0,1,4,11,12,19,20,21])
def i72r45:List It:=[.m 216 20,.m 217 12,.m 218 21,.u 219 (.fa 2 (.t 11)),.u 220 (.ld false 1 (.t 219)),.u 221 (.bsl 1 [.t 220]),.u 222 (.appf 1 8 (.t 218) (.t 221)),.u 223 (.ia 4 (.t 216) (.t 217)),.u 224 (.fa 3 (.t 223)),.o none (.st 1 (.t 224) (.t 222)) none]
def f72r45:AC:=.reg i72r45 (some [0,1,4,11,19,20])
def i72r46:List It:=[.frz 20,.frz 19,.m 225 0,.m 226 1,.u 227 (.fa 3 (.t 11)),.u 228 (.ld false 1 (.t 227)),.u 229 (.ia 1 (.t 228) (.i 0)),.u 230 (.ld false 1 (.t 229)),.m 231 19,.m 232 4,.u 233 (.call (.f 72) [true,true,true,true,true] [.t 225,.t 226,.t 230,.t 231,.t 232]),.m 234 233,.g 235 (.mv (.t 0)) 234 true,.g 236 (.mv (.t 1)) 234 true,.g 237 (.fa 3 (.t 11)) 234 true,.g 238 (.ld false 1 (.t 237)) 234 true,.g 239 (.ia 1 (.t 238) (.i 1)) 234 true,.g 240 (.ld false 1 (.t 239)) 234 true,.g 241 (.mv (.t 20)) 234 true,.g 242 (.mv (.t 4)) 234 true,.g 243 (.call (.f 72) [true,true,true,true,true] [.t 235,.t 236,.t 240,.t 241,.t 242]) 234 true,.u 244 (.pick (.t 234) (.t 243) (.b false)),.m 10 244,.kill 11]
def f72r46:AC:=.reg i72r46 (some [10])
def b72:AC:=(.seq f72r0 (.seq (.seq f72r1 (.cond (.t 35) (.seq f72r2 .ret) .skip)) (.seq f72r3 (.seq f72r4 (.seq (.seq f72r5 (.cond (.t 46) (.seq f72r6 .ret) .skip)) (.seq (.seq f72r7 (.cond (.t 68) (.seq f72r8 .ret) .skip)) (.seq f72r9 (.seq (.seq f72r10 (.blk 0 (.loop f72l0))) (.seq (.seq f72r15 (.cond (.t 103) (.seq f72r16 .ret) .skip)) (.seq (.seq f72r17 (.cond (.t 105) (.seq f72r18 (.seq (.seq f72r19 (.cond (.t 126) (.seq f72r20 .ret) .skip)) (.seq (.seq f72r21 (.blk 2 (.loop f72l2))) (.seq f72r32 .ret)))) .skip)) (.seq (.seq f72r33 (.cond (.t 179) (.seq f72r34 .ret) .skip)) (.seq (.seq f72r35 (.blk 6 (.loop f72l3))) (.seq f72r40 (.seq f72r41 (.seq f72r42 (.seq f72r43 (.seq f72r44 (.seq f72r45 (.seq f72r46 .ret)))))))))))))))))))
def f72:AF:=⟨5,[(10,none)],false,b72⟩
def i73r0:List It:=[.u 5 (.box 3 (.t 2)),.u 6 (.mv (.i 0)),.u 7 (.mv (.i 0)),.frz 5]
def f73r0:AC:=.reg i73r0 (some [0,1,5])
def i73r1:List It:=[.m 11 0,.m 12 1,.u 13 (.call (.f 122) [true,true] [.t 11,.t 12]),.m 8 13]
def f73r1:AC:=.reg i73r1 (some [0,1,5,8])
def i73r2:List It:=[.m 14 8,.u 15 (.bin .neq (.t 14) (.i 0))]
def f73r2:AC:=.reg i73r2 (some [0,1,5,8,15])
def i73r3:List It:=[.m 16 8,.u 6 (.mv (.i 0)),.m 7 16,.kill 5]
def f73r3:AC:=.reg i73r3 (some [6,7])
def i73r4:List It:=[.m 18 0,.m 19 1,.u 20 (.ld true 3 (.t 5)),.u 21 (.call (.f 123) [true,true,true,true] [.t 18,.t 19,.t 20,(.f 124)]),.m 17 21,.u 22 (.ext 0 (.t 17)),.u 23 (.ext 1 (.t 17)),.m 9 22,.m 10 23,.kill 5]
def f73r4:AC:=.reg i73r4 (some [9,10])
def i73r5:List It:=[.m 24 10,.u 25 (.bin .neq (.t 24) (.i 0))]
def f73r5:AC:=.reg i73r5 (some [9,10,25])
def i73r6:List It:=[.m 26 10,.u 6 (.mv (.i 0)),.m 7 26]
def f73r6:AC:=.reg i73r6 (some [6,7])
def i73r7:List It:=[.m 27 9,.m 6 27,.u 7 (.mv (.i 0))]
def f73r7:AC:=.reg i73r7 (some [6,7])
def b73:AC:=(.seq f73r0 (.seq (.seq f73r1 (.seq f73r2 (.cond (.t 15) (.seq f73r3 .ret) .skip))) (.seq f73r4 (.seq (.seq f73r5 (.cond (.t 25) (.seq f73r6 .ret) .skip)) (.seq f73r7 .ret)))))
def f73:AF:=⟨3,[(6,none),(7,none)],true,b73⟩
def i74r0:List It:=[.u 4 (.mv (.i 0))]
def f74r0:AC:=.reg i74r0 (some [0,1])
def i74r1:List It:=[.m 6 0,.u 7 (.lenL (.t 6)),.u 8 (.mv (.i 0))]
def f74r1:AC:=.reg i74r1 (some [0,1,7,8])
def i74r2:List It:=[.u 9 (.bin .lss (.t 8) (.t 7))]
def f74r2:AC:=.reg i74r2 (some [0,1,7,8,9])
def i74r3:List It:=[.m 10 8,.m 5 10]
def f74r3:AC:=.reg i74r3 (some [0,1,5,7,8])
def i74r4:List It:=[.m 11 1,.m 12 0,.m 13 5,.u 14 (.ia 1 (.t 12) (.t 13)),.u 15 (.ld false 1 (.t 14)),.u 16 (.call (.t 11) [true] [.t 15])]
def f74r4:AC:=.reg i74r4 (some [0,1,5,7,8,16])
def i74r5:List It:=[.m 17 5,.m 4 17]
def f74r5:AC:=.reg i74r5 (some [4])
def i74r6:List It:=[.u 18 (.bin .add (.t 8) (.i 1)),.m 8 18]
def f74r6:AC:=.reg i74r6 (some [0,1,7,8])
def f74l0:AC:=(.seq f74r2 (.seq (.cond (.t 9) .skip (.exit 0)) (.seq (.blk 1 (.seq f74r3 (.seq f74r4 (.cond (.t 16) (.seq f74r5 .ret) .skip)))) f74r6)))
def i74r7:List It:=[.u 4 (.mv (.i (-1)))]
def f74r7:AC:=.reg i74r7 (some [4])
def b74:AC:=(.seq f74r0 (.seq (.seq f74r1 (.blk 0 (.loop f74l0))) (.seq f74r7 .ret)))
def f74:AF:=⟨2,[(4,none)],true,b74⟩
def i75r0:List It:=[.u 3 (.mv (.b false))]
def f75r0:AC:=.reg i75r0 (some [0,1])
def i75r1:List It:=[.m 4 0,.u 5 (.ld false 1 (.t 1)),.u 6 (.call (.f 76) [true,true] [.t 4,.t 5]),.m 3 6]
def f75r1:AC:=.reg i75r1 (some [3])
def b75:AC:=(.seq f75r0 (.seq f75r1 .ret))
def f75:AF:=⟨2,[(3,none)],true,b75⟩
def i76r0:List It:=[.u 4 (.mv (.b false))]
def f76r0:AC:=.reg i76r0 (some [0,1])
def i76r1:List It:=[.m 6 0,.u 7 (.lenL (.t 6)),.m 8 1,.u 9 (.lenL (.t 8)),.u 10 (.bin .neq (.t 7) (.t 9))]
def f76r1:AC:=.reg i76r1 (some [0,1,10])
def i76r2:List It:=[.u 4 (.mv (.b false))]
def f76r2:AC:=.reg i76r2 (some [4])
def i76r3:List It:=[.m 11 0,.u 12 (.lenL (.t 11)),.u 13 (.mv (.i 0))]
def f76r3:AC:=.reg i76r3 (some [0,1,12,13])
def i76r4:List It:=[.u 14 (.bin .lss (.t 13) (.t 12))]
def f76r4:AC:=.reg i76r4 (some [0,1,12,13,14])
def i76r5:List It:=[.m 15 13,.m 5 15]
def f76r5:AC:=.reg i76r5 (some [0,1,5,12,13])
def i76r6:List It:=[.m 16 0,.m 17 5,.u 18 (.ia 4 (.t 16) (.t 17)),.u 19 (.ld true 4 (.t 18)),.m 20 1,.m 21 5,.u 22 (.ia 3 (.t 20) (.t 21)),.u 23 (.ld true 3 (.t 22)),.u 24 (.call (.f 125) [true,true] [.t 19,.t 23]),.u 25 (.un .not (.t 24))]
def f76r6:AC:=.reg i76r6 (some [0,1,12,13,25])
def i76r7:List It:=[.u 4 (.mv (.b false))]
def f76r7:AC:=.reg i76r7 (some [4])
def i76r8:List It:=[.u 26 (.bin .add (.t 13) (.i 1)),.m 13 26]
def f76r8:AC:=.reg i76r8 (some [0,1,12,13])
def f76l0:AC:=(.seq f76r4 (.seq (.cond (.t 14) .skip (.exit 0)) (.seq (.blk 1 (.seq f76r5 (.seq f76r6 (.cond (.t 25) (.seq f76r7 .ret) .skip)))) f76r8)))
def i76r9:List It:=[.u 4 (.mv (.b true))]
def f76r9:AC:=.reg i76r9 (some [4])
def b76:AC:=(.seq f76r0 (.seq (.seq f76r1 (.cond (.t 10) (.seq f76r2 .ret) .skip)) (.seq (.seq f76r3 (.blk 0 (.loop f76l0))) (.seq f76r9 .ret))))
def f76:AF:=⟨2,[(4,none)],true,b76⟩
def i77r0:List It:=[.u 3 (.mv (.b false))]
def f77r0:AC:=.reg i77r0 (some [0,1])
def i77r1:List It:=[.m 4 0,.u 5 (.bin .lss (.t 4) (.i 0)),.m 6 5,.g 7 (.mv (.t 0)) 6 false,.g 8 (.ld false 1 (.t 1)) 6 false,.g 9 (.lenL (.t 8)) 6 false,.g 10 (.bin .gtr (.t 7) (.t 9)) 6 false,.u 11 (.pick (.t 6) (.b true) (.t 10)),.m 3 11]
def f77r1:AC:=.reg i77r1 (some [3])
def b77:AC:=(.seq f77r0 (.seq f77r1 .ret))
def f77:AF:=⟨2,[(3,none)],true,b77⟩
def i78r0:List It:=[.u 4 (.mv (.b false))]
def f78r0:AC:=.reg i78r0 (some [0,1])
def i78r1:List It:=[.m 5 0,.m 6 1,.u 7 (.call (.f 38) [true,true] [.t 5,.t 6]),.u 8 (.bin .geq (.t 7) (.i 0)),.m 4 8]
def f78r1:AC:=.reg i78r1 (some [4])
def b78:AC:=(.seq f78r0 (.seq f78r1 .ret))
def f78:AF:=⟨2,[(4,none)],true,b78⟩
def i79r0:List It:=[.u 1 (.box 4 (.t 0)),.u 2 (.mv (.b false)),.frz 1]
def f79r0:AC:=.reg i79r0 (some [1])
def i79r1:List It:=[.u 3 (.ld true 4 (.t 1)),.u 4 (.call (.f 80) [true,true] [.t 3,(.i 0)]),.m 2 4,.kill 1]
def f79r1:AC:=.reg i79r1 (some [2])
def b79:AC:=(.seq f79r0 (.seq f79r1 .ret))
def f79:AF:=⟨1,[(2,none)],true,b79⟩
def i80r0:List It:=[.u 2 (.box 4 (.t 0)),.u 3 (.box 1 (.t 1)),.u 4 (.mv (.b false)),.frz 2]
def f80r0:AC:=.reg i80r0 (some [2,3])
def i80r1:List It:=[.u 5 (.ld false 1 (.t 3)),.u 6 (.bin .gtr (.t 5) (.i 64)),.m 7 6,.g 8 (.fa 3 (.t 2)) 7 false,.g 9 (.ld false 1 (.t 8)) 7 false,.g 10 (.mkf 126 [.t 3]) 7 false,.g 11 (.call (.f 78) [true,true] [.t 9,.t 10]) 7 false,.u 12 (.pick (.t 7) (.b true) (.t 11)),.m 4 12,.kill 2]
def f80r1:AC:=.reg i80r1 (some [4])
def b80:AC:=(.seq f80r0 (.seq f80r1 .ret))
def f80:AF:=⟨2,[(4,none)],true,b80⟩
def i81r0:List It:=[.u 5 (.box 4 (.t 2)),.u 6 (.mv (.b false)),.frz 5]
def f81r0:AC:=.reg i81r0 (some [0,1,5])
def i81r1:List It:=[.u 10 (.fa 0 (.t 5)),.u 11 (.ld false 1 (.t 10))]
def f81r1:AC:=.reg i81r1 (some [0,1,5,11])
def i81r2:List It:=[.u 13 (.bin .eql (.t 11) (.i 0)),.m 12 13]
def f81r2:AC:=.reg i81r2 (some [0,1,5,11,12])
def i81r3:List It:=[.u 14 (.fa 1 (.t 5)),.u 15 (.ld false 1 (.t 14)),.u 16 (.bin .eql (.t 15) (.i 0)),.m 17 16,.g 18 (.fa 2 (.t 5)) 17 true,.g 19 (.ld false 1 (.t 18)) 17 true,.g 20 (.bin .eql (.t 19) (.i 0)) 17 true,.u 21 (.pick (.t 17) (.t 20) (.b false)),.m 22 21,.g 23 (.fa 3 (.t 5)) 22 true,.g 24 (.ld false 1 (.t 23)) 22 true,.g 25 (.lenL (.t 24)) 22 true,.g 26 (.bin .eql (.t 25) (.i 0)) 22 true,.u 27 (.pick (.t 22) (.t 26) (.b false)),.m 6 27,.kill 5]
def f81r3:AC:=.reg i81r3 (some [6])
def i81r4:List It:=[.u 29 (.bin .eql (.t 11) (.i 2)),.m 28 29]
def f81r4:AC:=.reg i81r4 (some [0,1,5,11,28])
def i81r5:List It:=[.m 30 1,.u 31 (.bin .eql (.t 30) (.i 0)),.m 32 31,.g 33 (.fa 1 (.t 5)) 32 true,.g 34 (.ld false 1 (.t 33)) 32 true,.g 35 (.bin .eql (.t 34) (.i 0)) 32 true,.u 36 (.pick (.t 32) (.t 35) (.b false)),.m 37 36,.g 38 (.fa 3 (.t 5)) 37 true,.g 39 (.ld false 1 (.t 38)) 37 true,.g 40 (.lenL (.t 39)) 37 true,.g 41 (.bin .eql (.t 40) (.i 0)) 37 true,.u 42 (.pick (.t 37) (.t 41) (.b false)),.m 6 42,.kill 5]
def f81r5:AC:=.reg i81r5 (some [6])
def i81r6:List It:=[.u 44 (.bin .eql (.t 11) (.i 1)),.m 43 44]
def f81r6:AC:=.reg i81r6 (some [0,1,5,43])
def i81r7:List It:=[.m 45 1,.u 46 (.bin .eql (.t 45) (.i 0)),.m 47 46,.g 48 (.fa 2 (.t 5)) 47 false,.g 49 (.ld false 1 (.t 48)) 47 false,.g 50 (.bin .neq (.t 49) (.i 0)) 47 false,.u 51 (.pick (.t 47) (.b true) (.t 50)),.m 52 51,.g 53 (.fa 1 (.t 5)) 52 false,.g 54 (.ld false 1 (.t 53)) 52 false,.g 55 (.bin .lss (.t 54) (.i 0)) 52 false,.u 56 (.pick (.t 52) (.b true) (.t 55)),.m 57 56,.g 58 (.fa 1 (.t 5)) 57 false,.g 59 (.ld false 1 (.t 58)) 57 false,.g 60 (.mv (.t 0)) 57 false,.g 61 (.mv (.t 1)) 57 false,.g 62 (.bin .sub (.t 61) (.i 1)) 57 false,.g 63 (.ia 2 (.t 60) (.t 62)) 57 false,.g 64 (.fa 1 (.t 63)) 57 false,.g 65 (.ld false 1 (.t 64)) 57 false,.g 66 (.lenL (.t 65)) 57 false,.g 67 (.bin .geq (.t 59) (.t 66)) 57 false,.u 68 (.pick (.t 57) (.b true) (.t 67))]
def f81r7:AC:=.reg i81r7 (some [0,1,5,68])
def i81r8:List It:=[.u 6 (.mv (.b false)),.kill 5]
def f81r8:AC:=.reg i81r8 (some [6])
def i81r9:List It:=[.m 69 0,.m 70 1,.u 71 (.bin .sub (.t 70) (.i 1)),.u 72 (.ia 2 (.t 69) (.t 71)),.u 73 (.fa 1 (.t 72)),.u 74 (.ld false 1 (.t 73)),.u 75 (.fa 1 (.t 5)),.u 76 (.ld false 1 (.t 75)),.u 77 (.ia 2 (.t 74) (.t 76)),.u 78 (.fa 1 (.t 77)),.u 79 (.ld false 1 (.t 78)),.m 7 79]
def f81r9:AC:=.reg i81r9 (some [0,5,7])
def i81r10:List It:=[.m 80 7,.u 81 (.lenL (.t 80)),.u 82 (.fa 3 (.t 5)),.u 83 (.ld false 1 (.t 82)),.u 84 (.lenL (.t 83)),.u 85 (.bin .neq (.t 81) (.t 84))]
def f81r10:AC:=.reg i81r10 (some [0,5,7,85])
def i81r11:List It:=[.u 6 (.mv (.b false)),.kill 5]
def f81r11:AC:=.reg i81r11 (some [6])
def i81r12:List It:=[.u 86 (.fa 3 (.t 5)),.u 87 (.ld false 1 (.t 86)),.u 88 (.lenL (.t 87)),.u 89 (.mv (.i 0)),.kill 5]
def f81r12:AC:=.reg i81r12 (some [0,7,87,88,89])
def i81r13:List It:=[.u 90 (.bin .lss (.t 89) (.t 88))]
def f81r13:AC:=.reg i81r13 (some [0,7,87,88,89,90])
def i81r14:List It:=[.m 91 89,.u 92 (.ia 4 (.t 87) (.t 89)),.u 93 (.ld true 4 (.t 92)),.u 9 (.alloc 4 (.agg [(.d (.int .i64 0)),(.d (.int .i64 0)),(.d (.int .i64 0)),(.tl [] (some true))])),.m 8 91,.o none (.st 4 (.t 9) (.t 93)) none,.frz 9]
def f81r14:AC:=.reg i81r14 (some [0,7,8,9,87,88,89])
def i81r15:List It:=[.m 94 0,.m 95 7,.m 96 8,.u 97 (.ia 1 (.t 95) (.t 96)),.u 98 (.ld false 1 (.t 97)),.u 99 (.ld true 4 (.t 9)),.u 100 (.call (.f 81) [true,true,true] [.t 94,.t 98,.t 99]),.u 101 (.un .not (.t 100)),.kill 9]
def f81r15:AC:=.reg i81r15 (some [0,7,87,88,89,101])
def i81r16:List It:=[.u 6 (.mv (.b false))]
def f81r16:AC:=.reg i81r16 (some [6])
def i81r17:List It:=[.u 102 (.bin .add (.t 89) (.i 1)),.m 89 102]
def f81r17:AC:=.reg i81r17 (some [0,7,87,88,89])
def f81l0:AC:=(.seq f81r13 (.seq (.cond (.t 90) .skip (.exit 1)) (.seq (.blk 2 (.seq f81r14 (.seq f81r15 (.cond (.t 101) (.seq f81r16 .ret) .skip)))) f81r17)))
def i81r18:List It:=[.u 6 (.mv (.b true))]
def f81r18:AC:=.reg i81r18 (some [6])
def i81r19:List It:=[.u 6 (.mv (.b false)),.kill 5]
def f81r19:AC:=.reg i81r19 (some [6])
def b81:AC:=(.seq f81r0 (.seq (.seq f81r1 (.blk 0 (.seq f81r2 (.cond (.t 12) (.seq f81r3 .ret) (.seq f81r4 (.cond (.t 28) (.seq f81r5 .ret) (.seq f81r6 (.cond (.t 43) (.seq (.seq f81r7 (.cond (.t 68) (.seq f81r8 .ret) .skip)) (.seq f81r9 (.seq (.seq f81r10 (.cond (.t 85) (.seq f81r11 .ret) .skip)) (.seq (.seq f81r12 (.blk 1 (.loop f81l0))) (.seq f81r18 .ret))))) .skip)))))))) (.seq f81r19 .ret)))
def f81:AF:=⟨3,[(6,none)],true,b81⟩
def i82r0:List It:=[.u 3 (.box 1 (.t 0)),.u 4 (.box 1 (.t 1)),.u 6 (.alloc 1 (.tl [] (some true))),.u 7 (.alloc 1 (.d (.bool false))),.frz 3,.frz 4]
def f82r0:AC:=.reg i82r0 (some [2,3,4,6,7])
def i82r1:List It:=[.u 20 (.ld false 1 (.t 4)),.u 21 (.lenL (.t 20)),.u 22 (.bin .eql (.t 21) (.i 0))]
def f82r1:AC:=.reg i82r1 (some [2,3,4,6,7,22])
def i82r2:List It:=[.m 23 2,.u 24 (.lenL (.t 23)),.u 25 (.bin .eql (.t 24) (.i 0)),.o none (.st 1 (.t 6) (.c (.tl [] (some true)))) none,.o none (.st 1 (.t 7) (.t 25)) none,.kill 3,.kill 4]
def f82r2:AC:=.reg i82r2 (some [6,7])
def i82r3:List It:=[.m 27 2,.u 28 (.call (.f 110) [true] [.t 27]),.m 26 28,.u 29 (.ext 0 (.t 26)),.u 30 (.ext 1 (.t 26)),.m 8 29,.m 9 30]
def f82r3:AC:=.reg i82r3 (some [2,3,4,6,7,8,9])
def i82r4:List It:=[.u 31 (.ld false 1 (.t 4)),.u 32 (.ia 1 (.t 31) (.i 0)),.u 33 (.ld false 1 (.t 32)),.u 34 (.bin .neq (.t 33) (.i 0)),.m 35 34,.g 36 (.mv (.t 8)) 35 true,.g 37 (.lenM (.t 36)) 35 true,.g 38 (.ld false 1 (.t 3)) 35 true,.g 39 (.ld false 1 (.t 4)) 35 true,.g 40 (.ia 1 (.t 39) (.i 0)) 35 true,.g 41 (.ld false 1 (.t 40)) 35 true,.g 42 (.bin .sub (.t 41) (.i 1)) 35 true,.g 43 (.ia 2 (.t 38) (.t 42)) 35 true,.g 44 (.fa 1 (.t 43)) 35 true,.g 45 (.ld false 1 (.t 44)) 35 true,.g 46 (.lenL (.t 45)) 35 true,.g 47 (.bin .eql (.t 37) (.t 46)) 35 true,.u 48 (.pick (.t 35) (.t 47) (.b false))]
def f82r4:AC:=.reg i82r4 (some [2,3,4,6,7,8,9,48])
def i82r5:List It:=[.u 49 (.ld false 1 (.t 3)),.u 50 (.ld false 1 (.t 4)),.m 51 2,.u 52 (.call (.f 111) [true,true,true] [.t 49,.t 50,.t 51])]
def f82r5:AC:=.reg i82r5 (some [3,4,6,7,52])
def i82r6:List It:=[.m 10 53]
def f82r6:AC:=.reg i82r6 (some [3,4,6,7,10,54])
def i82r7:List It:=[.m 11 54]
def f82r7:AC:=.reg i82r7 (some [3,4,6,7,10,11])
def i82r8:List It:=[.u 56 (.ld false 1 (.t 3)),.u 57 (.ld false 1 (.t 3)),.u 58 (.ld false 1 (.t 4)),.m 59 10,.u 60 (.calln (.f 104) [true,true,true] [.t 57,.t 58,.t 59]),.m 61 11,.u 62 (.call (.f 82) [true,true,true] [.t 56,.t 60,.t 61]),.m 55 62,.u 63 (.ext 0 (.t 55)),.u 64 (.ext 1 (.t 55)),.m 12 63,.m 13 64]
def f82r8:AC:=.reg i82r8 (some [3,4,6,7,10,12,13])
def i82r9:List It:=[.m 65 13]
def f82r9:AC:=.reg i82r9 (some [3,4,6,7,10,12,65])
def i82r10:List It:=[.u 66 (.ld false 1 (.t 3)),.u 67 (.ld false 1 (.t 4)),.u 68 (.ia 1 (.t 67) (.i 0)),.u 69 (.ld false 1 (.t 68)),.u 70 (.bin .sub (.t 69) (.i 1)),.u 71 (.ia 2 (.t 66) (.t 70)),.u 72 (.fa 1 (.t 71)),.u 73 (.ld false 1 (.t 72)),.m 74 10,.u 75 (.ia 2 (.t 73) (.t 74)),.u 76 (.fa 1 (.t 75)),.u 77 (.ld false 1 (.t 76)),.u 78 (.lenL (.t 77)),.m 14 78]
def f82r10:AC:=.reg i82r10 (some [6,7,10,12,14])
def i82r11:List It:=[.m 79 10,.m 80 12,.m 81 14,.u 82 (.slc 4 (.t 80) none (some (.t 81))),.u 83 (.callf (.f 106) [true] [.t 82]),.u 84 (.build [(.d (.int .i64 0)),(.d (.int .i64 0)),(.d (.int .i64 0)),(.tl [] (some true))] [(0,1,(.i 1)),(1,1,(.t 79)),(3,1,(.t 83))]),.u 85 (.bsl 4 [.t 84]),.m 86 12,.m 87 14,.u 88 (.slc 4 (.t 86) (some (.t 87)) none),.u 89 (.appf 4 48 (.t 85) (.t 88)),.o none (.st 1 (.t 6) (.t 89)) none,.o none (.st 1 (.t 7) (.b true)) none]
def f82r11:AC:=.reg i82r11 (some [6,7])
def a82q0:AC:=(.seq f82r6 f82r7)
def d82q0:AC:=(.blk 1 (.seq f82r8 (.seq f82r9 (.cond (.t 65) (.seq f82r10 (.seq f82r11 .ret)) .skip))))
def i82r12:List It:=[.o none (.st 1 (.t 6) (.c (.tl [] (some true)))) none,.o none (.st 1 (.t 7) (.b false)) none,.kill 3,.kill 4]
def f82r12:AC:=.reg i82r12 (some [6,7])
def i82r13:List It:=[.u 91 (.ld false 1 (.t 3)),.u 92 (.ld false 1 (.t 4)),.u 93 (.slc 1 (.t 92) (some (.i 1)) none),.m 94 2,.u 95 (.calln (.f 107) [true,true] [.t 94,(.f 109)]),.u 96 (.call (.f 82) [true,true,true] [.t 91,.t 93,.t 95]),.m 90 96,.u 97 (.ext 0 (.t 90)),.u 98 (.ext 1 (.t 90)),.m 15 97,.m 16 98]
def f82r13:AC:=.reg i82r13 (some [3,4,6,7,8,9,15,16])
def i82r14:List It:=[.m 99 16,.u 100 (.un .not (.t 99))]
def f82r14:AC:=.reg i82r14 (some [3,4,6,7,8,9,15,100])
def i82r15:List It:=[.o none (.st 1 (.t 6) (.c (.tl [] (some true)))) none,.o none (.st 1 (.t 7) (.b false)) none,.kill 3,.kill 4]
def f82r15:AC:=.reg i82r15 (some [6,7])
def i82r16:List It:=[.u 101 (.build [(.d (.int .i64 0)),(.d (.int .i64 0)),(.d (.int .i64 0)),(.tl [] (some true))] []),.u 17 (.alloc 4 (.agg [(.d (.int .i64 0)),(.d (.int .i64 0)),(.d (.int .i64 0)),(.tl [] (some true))])),.o none (.st 4 (.t 17) (.t 101)) none]
def f82r16:AC:=.reg i82r16 (some [3,4,6,7,8,9,15,17])
def i82r17:List It:=[.m 103 8,.u 104 (.lenM (.t 103)),.u 105 (.bin .gtr (.t 104) (.i 0)),.m 102 105]
def f82r17:AC:=.reg i82r17 (some [3,4,6,7,8,9,15,17,102])
def i82r18:List It:=[.u 18 (.mv (.i 0))]
def f82r18:AC:=.reg i82r18 (some [3,4,6,7,8,15,17,18])
def i82r19:List It:=[.m 106 8,.m 107 18,.u 108 (.lk .i (.d (.bool false)) false (.t 106) (.t 107))]
def f82r19:AC:=.reg i82r19 (some [3,4,6,7,8,15,17,18,108])
def i82r20:List It:=[.m 109 18,.u 110 (.bin .add (.t 109) (.i 1)),.m 18 110]
def f82r20:AC:=.reg i82r20 (some [3,4,6,7,8,15,17,18])
def f82l0:AC:=(.seq (.seq f82r19 (.cond (.t 108) .skip (.exit 3))) (.blk 4 f82r20))
def i82r21:List It:=[.m 111 18,.u 112 (.ld false 1 (.t 3)),.u 113 (.ld false 1 (.t 4)),.u 114 (.ia 1 (.t 113) (.i 0)),.u 115 (.ld false 1 (.t 114)),.u 116 (.bin .sub (.t 115) (.i 1)),.u 117 (.ia 2 (.t 112) (.t 116)),.u 118 (.fa 1 (.t 117)),.u 119 (.ld false 1 (.t 118)),.m 120 18,.u 121 (.ia 2 (.t 119) (.t 120)),.u 122 (.fa 1 (.t 121)),.u 123 (.ld false 1 (.t 122)),.u 124 (.lenL (.t 123)),.u 125 (.mkslT (.d (.agg [(.int .i64 0),(.int .i64 0),(.int .i64 0),(.lst [])])) 48 (.t 124)),.u 126 (.build [(.d (.int .i64 0)),(.d (.int .i64 0)),(.d (.int .i64 0)),(.tl [] (some true))] [(0,1,(.i 1)),(1,1,(.t 111)),(3,1,(.t 125))]),.o none (.st 4 (.t 17) (.t 126)) none,.kill 3,.kill 4]
def f82r21:AC:=.reg i82r21 (some [6,7,15,17])
def i82r22:List It:=[.m 128 9,.u 129 (.lenM (.t 128)),.u 130 (.bin .gtr (.t 129) (.i 0)),.m 127 130,.kill 3,.kill 4]
def f82r22:AC:=.reg i82r22 (some [6,7,9,15,17,127])
def i82r23:List It:=[.u 19 (.mv (.i 0))]
def f82r23:AC:=.reg i82r23 (some [6,7,9,15,17,19])
def i82r24:List It:=[.m 131 9,.m 132 19,.u 133 (.lk .i (.d (.bool false)) false (.t 131) (.t 132))]
def f82r24:AC:=.reg i82r24 (some [6,7,9,15,17,19,133])
def i82r25:List It:=[.m 134 19,.u 135 (.bin .add (.t 134) (.i 1)),.m 19 135]
def f82r25:AC:=.reg i82r25 (some [6,7,9,15,17,19])
def f82l1:AC:=(.seq (.seq f82r24 (.cond (.t 133) .skip (.exit 5))) (.blk 6 f82r25))
def i82r26:List It:=[.m 136 19,.u 137 (.build [(.d (.int .i64 0)),(.d (.int .i64 0)),(.d (.int .i64 0)),(.tl [] (some true))] [(0,1,(.i 2)),(2,1,(.t 136))]),.o none (.st 4 (.t 17) (.t 137)) none]
def f82r26:AC:=.reg i82r26 (some [6,7,15,17])
def i82r27:List It:=[.u 138 (.ld true 4 (.t 17)),.u 139 (.bsl 4 [.t 138]),.m 140 15,.u 141 (.appf 4 48 (.t 139) (.t 140)),.o none (.st 1 (.t 6) (.t 141)) none,.o none (.st 1 (.t 7) (.b true)) none,.kill 17]
def f82r27:AC:=.reg i82r27 (some [6,7])
def b82:AC:=(.seq f82r0 (.seq (.seq f82r1 (.cond (.t 22) (.seq f82r2 .ret) .skip)) (.seq f82r3 (.seq (.seq f82r4 (.cond (.t 48) (.seq (.seq f82r5 (.blk 0 (.rng (.t 52) 1312))) (.seq f82r12 .ret)) .skip)) (.seq f82r13 (.seq (.seq f82r14 (.cond (.t 100) (.seq f82r15 .ret) .skip)) (.seq f82r16 (.seq (.blk 2 (.seq f82r17 (.cond (.t 102) (.seq f82r18 (.seq (.blk 3 (.loop f82l0)) f82r21)) (.seq f82r22 (.cond (.t 127) (.seq f82r23 (.seq (.blk 5 (.loop f82l1)) f82r26)) .skip))))) (.seq f82r27 .ret)))))))))
def f82:AF:=⟨3,[(6,some (false,1)),(7,some (false,1))],true,b82⟩
def f1001312:AF:=⟨2,[(53,none),(54,none)],false,.seq a82q0 d82q0⟩
def i83r0:List It:=[.u 2 (.mv (.c (.tl [] (some true))))]
def f83r0:AC:=.reg i83r0 (some [0])
def i83r1:List It:=[.u 3 (.mv (.i 0))]
def f83r1:AC:=.reg i83r1 (some [0,3])
def i83r2:List It:=[.m 9 0,.u 10 (.lenL (.t 9)),.u 11 (.mv (.i 0))]
def f83r2:AC:=.reg i83r2 (some [0,3,9,10,11])
def i83r3:List It:=[.u 12 (.bin .lss (.t 11) (.t 10))]
def f83r3:AC:=.reg i83r3 (some [0,3,9,10,11,12])
def i83r4:List It:=[.u 13 (.ia 1 (.t 9) (.t 11)),.u 14 (.ld false 1 (.t 13)),.m 5 14]
def f83r4:AC:=.reg i83r4 (some [0,3,5,9,10,11])
def i83r5:List It:=[.m 15 3,.m 16 5,.u 17 (.lenL (.t 16)),.u 18 (.bin .add (.t 15) (.t 17)),.m 3 18]
def f83r5:AC:=.reg i83r5 (some [0,3,9,10,11])
def i83r6:List It:=[.m 19 3,.u 20 (.bin .lss (.t 19) (.i 0))]
def f83r6:AC:=.reg i83r6 (some [0,3,9,10,11,20])
def i83r7:List It:=[.u 21 (.stuck),.o none (.stuck) none]
def f83r7:AC:=.reg i83r7 (some [0,3,9,10,11])
def i83r8:List It:=[.u 22 (.bin .add (.t 11) (.i 1)),.m 11 22]
def f83r8:AC:=.reg i83r8 (some [0,3,9,10,11])
def f83l0:AC:=(.seq f83r3 (.seq (.cond (.t 12) .skip (.exit 0)) (.seq (.blk 1 (.seq f83r4 (.seq f83r5 (.seq f83r6 (.cond (.t 20) f83r7 .skip))))) f83r8)))
def i83r9:List It:=[.m 23 3,.u 24 (.call (.f 127) [false,true] [(.c (.tl [] (some true))),.t 23]),.m 6 24]
def f83r9:AC:=.reg i83r9 (some [0,6])
def i83r10:List It:=[.m 25 0,.u 26 (.lenL (.t 25)),.u 27 (.mv (.i 0))]
def f83r10:AC:=.reg i83r10 (some [6,25,26,27])
def i83r11:List It:=[.u 28 (.bin .lss (.t 27) (.t 26))]
def f83r11:AC:=.reg i83r11 (some [6,25,26,27,28])
def i83r12:List It:=[.u 29 (.ia 1 (.t 25) (.t 27)),.u 30 (.ld false 1 (.t 29)),.m 8 30]
def f83r12:AC:=.reg i83r12 (some [6,8,25,26,27])
def i83r13:List It:=[.m 31 6,.m 32 8,.u 33 (.app 4 48 (.t 31) (.t 32)),.m 6 33]
def f83r13:AC:=.reg i83r13 (some [6,25,26,27])
def i83r14:List It:=[.u 34 (.bin .add (.t 27) (.i 1)),.m 27 34]
def f83r14:AC:=.reg i83r14 (some [6,25,26,27])
def f83l1:AC:=(.seq f83r11 (.seq (.cond (.t 28) .skip (.exit 2)) (.seq (.blk 3 (.seq f83r12 f83r13)) f83r14)))
def i83r15:List It:=[.m 35 6,.m 2 35]
def f83r15:AC:=.reg i83r15 (some [2])
def b83:AC:=(.seq f83r0 (.seq f83r1 (.seq (.seq f83r2 (.blk 0 (.loop f83l0))) (.seq f83r9 (.seq (.seq f83r10 (.blk 2 (.loop f83l1))) (.seq f83r15 .ret))))))
def f83:AF:=⟨1,[(2,none)],true,b83⟩
def i84r0:List It:=[.u 2 (.mv (.c (.tl [] (some true))))]
def f84r0:AC:=.reg i84r0 (some [0])
def i84r1:List It:=[.u 3 (.mv (.i 0))]
def f84r1:AC:=.reg i84r1 (some [0,3])
def i84r2:List It:=[.m 9 0,.u 10 (.lenL (.t 9)),.u 11 (.mv (.i 0))]
def f84r2:AC:=.reg i84r2 (some [0,3,9,10,11])
def i84r3:List It:=[.u 12 (.bin .lss (.t 11) (.t 10))]
def f84r3:AC:=.reg i84r3 (some [0,3,9,10,11,12])
def i84r4:List It:=[.u 13 (.ia 1 (.t 9) (.t 11)),.u 14 (.ld false 1 (.t 13)),.m 5 14]
def f84r4:AC:=.reg i84r4 (some [0,3,5,9,10,11])
def i84r5:List It:=[.m 15 3,.m 16 5,.u 17 (.lenL (.t 16)),.u 18 (.bin .add (.t 15) (.t 17)),.m 3 18]
def f84r5:AC:=.reg i84r5 (some [0,3,9,10,11])
def i84r6:List It:=[.m 19 3,.u 20 (.bin .lss (.t 19) (.i 0))]
def f84r6:AC:=.reg i84r6 (some [0,3,9,10,11,20])
def i84r7:List It:=[.u 21 (.stuck),.o none (.stuck) none]
def f84r7:AC:=.reg i84r7 (some [0,3,9,10,11])
def i84r8:List It:=[.u 22 (.bin .add (.t 11) (.i 1)),.m 11 22]
def f84r8:AC:=.reg i84r8 (some [0,3,9,10,11])
def f84l0:AC:=(.seq f84r3 (.seq (.cond (.t 12) .skip (.exit 0)) (.seq (.blk 1 (.seq f84r4 (.seq f84r5 (.seq f84r6 (.cond (.t 20) f84r7 .skip))))) f84r8)))
def i84r9:List It:=[.m 23 3,.u 24 (.call (.f 128) [false,true] [(.c (.tl [] (some true))),.t 23]),.m 6 24]
def f84r9:AC:=.reg i84r9 (some [0,6])
def i84r10:List It:=[.m 25 0,.u 26 (.lenL (.t 25)),.u 27 (.mv (.i 0))]
def f84r10:AC:=.reg i84r10 (some [6,25,26,27])
def i84r11:List It:=[.u 28 (.bin .lss (.t 27) (.t 26))]
def f84r11:AC:=.reg i84r11 (some [6,25,26,27,28])
def i84r12:List It:=[.u 29 (.ia 1 (.t 25) (.t 27)),.u 30 (.ld false 1 (.t 29)),.m 8 30]
def f84r12:AC:=.reg i84r12 (some [6,8,25,26,27])
def i84r13:List It:=[.m 31 6,.m 32 8,.u 33 (.app 2 32 (.t 31) (.t 32)),.m 6 33]
def f84r13:AC:=.reg i84r13 (some [6,25,26,27])
def i84r14:List It:=[.u 34 (.bin .add (.t 27) (.i 1)),.m 27 34]
def f84r14:AC:=.reg i84r14 (some [6,25,26,27])
def f84l1:AC:=(.seq f84r11 (.seq (.cond (.t 28) .skip (.exit 2)) (.seq (.blk 3 (.seq f84r12 f84r13)) f84r14)))
def i84r15:List It:=[.m 35 6,.m 2 35]
def f84r15:AC:=.reg i84r15 (some [2])
def b84:AC:=(.seq f84r0 (.seq f84r1 (.seq (.seq f84r2 (.blk 0 (.loop f84l0))) (.seq f84r9 (.seq (.seq f84r10 (.blk 2 (.loop f84l1))) (.seq f84r15 .ret))))))
def f84:AF:=⟨1,[(2,none)],true,b84⟩
def i85r0:List It:=[.u 2 (.box 4 (.t 0)),.u 4 (.mv (.b false)),.frz 2]
def f85r0:AC:=.reg i85r0 (some [1,2])
def i85r1:List It:=[.m 6 1,.u 7 (.bin .lss (.t 6) (.i 0))]
def f85r1:AC:=.reg i85r1 (some [1,2,7])
def i85r2:List It:=[.u 4 (.mv (.b true)),.kill 2]
def f85r2:AC:=.reg i85r2 (some [4])
def i85r3:List It:=[.u 5 (.mv (.i 0))]
def f85r3:AC:=.reg i85r3 (some [1,2,5])
def i85r4:List It:=[.m 8 5,.u 9 (.fa 3 (.t 2)),.u 10 (.ld false 1 (.t 9)),.u 11 (.lenL (.t 10)),.u 12 (.bin .lss (.t 8) (.t 11))]
def f85r4:AC:=.reg i85r4 (some [1,2,5,12])
def i85r5:List It:=[.u 15 (.fa 3 (.t 2)),.u 16 (.ld false 1 (.t 15)),.m 17 5,.u 18 (.ia 4 (.t 16) (.t 17)),.u 19 (.ld true 4 (.t 18)),.m 20 1,.u 21 (.bin .sub (.t 20) (.i 1)),.u 22 (.call (.f 85) [true,true] [.t 19,.t 21])]
def f85r5:AC:=.reg i85r5 (some [1,2,5,22])
def i85r6:List It:=[.u 4 (.mv (.b true)),.kill 2]
def f85r6:AC:=.reg i85r6 (some [4])
def i85r7:List It:=[.m 13 5,.u 14 (.bin .add (.t 13) (.i 1)),.m 5 14]
def f85r7:AC:=.reg i85r7 (some [1,2,5])
def f85l0:AC:=(.seq (.seq f85r4 (.cond (.t 12) .skip (.exit 0))) (.seq (.blk 1 (.seq f85r5 (.cond (.t 22) (.seq f85r6 .ret) .skip))) f85r7))
def i85r8:List It:=[.u 4 (.mv (.b false)),.kill 2]
def f85r8:AC:=.reg i85r8 (some [4])
def b85:AC:=(.seq f85r0 (.seq (.seq f85r1 (.cond (.t 7) (.seq f85r2 .ret) .skip)) (.seq (.seq f85r3 (.blk 0 (.loop f85l0))) (.seq f85r8 .ret))))
def f85:AF:=⟨2,[(4,none)],true,b85⟩
def i86r0:List It:=[.u 5 (.box 4 (.t 2)),.u 6 (.mv (.b false)),.frz 5]
def f86r0:AC:=.reg i86r0 (some [0,1,5])
def i86r1:List It:=[.u 9 (.fa 0 (.t 5)),.u 10 (.ld false 1 (.t 9))]
def f86r1:AC:=.reg i86r1 (some [0,1,5,10])
def i86r2:List It:=[.u 12 (.bin .eql (.t 10) (.i 0)),.m 11 12]
def f86r2:AC:=.reg i86r2 (some [0,1,5,10,11])
def i86r3:List It:=[.u 13 (.fa 1 (.t 5)),.u 14 (.ld false 1 (.t 13)),.u 15 (.bin .eql (.t 14) (.i 0)),.m 16 15,.g 17 (.fa 2 (.t 5)) 16 true,.g 18 (.ld false 1 (.t 17)) 16 true,.g 19 (.bin .eql (.t 18) (.i 0)) 16 true,.u 20 (.pick (.t 16) (.t 19) (.b false)),.m 21 20,.g 22 (.fa 3 (.t 5)) 21 true,.g 23 (.ld false 1 (.t 22)) 21 true,.g 24 (.lenL (.t 23)) 21 true,.g 25 (.bin .eql (.t 24) (.i 0)) 21 true,.u 26 (.pick (.t 21) (.t 25) (.b false)),.m 6 26,.kill 5]
def f86r3:AC:=.reg i86r3 (some [6])
def i86r4:List It:=[.u 28 (.bin .eql (.t 10) (.i 2)),.m 27 28]
def f86r4:AC:=.reg i86r4 (some [0,1,5,10,27])
def i86r5:List It:=[.m 29 1,.u 30 (.bin .eql (.t 29) (.i 0)),.m 31 30,.g 32 (.fa 1 (.t 5)) 31 true,.g 33 (.ld false 1 (.t 32)) 31 true,.g 34 (.bin .eql (.t 33) (.i 0)) 31 true,.u 35 (.pick (.t 31) (.t 34) (.b false)),.m 36 35,.g 37 (.fa 3 (.t 5)) 36 true,.g 38 (.ld false 1 (.t 37)) 36 true,.g 39 (.lenL (.t 38)) 36 true,.g 40 (.bin .eql (.t 39) (.i 0)) 36 true,.u 41 (.pick (.t 36) (.t 40) (.b false)),.m 6 41,.kill 5]
def f86r5:AC:=.reg i86r5 (some [6])
def i86r6:List It:=[.u 43 (.bin .eql (.t 10) (.i 1)),.m 42 43]
def f86r6:AC:=.reg i86r6 (some [0,1,5,42])
def i86r7:List It:=[.m 44 1,.u 45 (.bin .eql (.t 44) (.i 0)),.m 46 45,.g 47 (.fa 2 (.t 5)) 46 false,.g 48 (.ld false 1 (.t 47)) 46 false,.g 49 (.bin .neq (.t 48) (.i 0)) 46 false,.u 50 (.pick (.t 46) (.b true) (.t 49)),.m 51 50,.g 52 (.fa 1 (.t 5)) 51 false,.g 53 (.ld false 1 (.t 52)) 51 false,.g 54 (.bin .lss (.t 53) (.i 0)) 51 false,.u 55 (.pick (.t 51) (.b true) (.t 54)),.m 56 55,.g 57 (.fa 1 (.t 5)) 56 false,.g 58 (.ld false 1 (.t 57)) 56 false,.g 59 (.mv (.t 0)) 56 false,.g 60 (.mv (.t 1)) 56 false,.g 61 (.bin .sub (.t 60) (.i 1)) 56 false,.g 62 (.ia 2 (.t 59) (.t 61)) 56 false,.g 63 (.fa 1 (.t 62)) 56 false,.g 64 (.ld false 1 (.t 63)) 56 false,.g 65 (.lenL (.t 64)) 56 false,.g 66 (.bin .geq (.t 58) (.t 65)) 56 false,.u 67 (.pick (.t 56) (.b true) (.t 66))]
def f86r7:AC:=.reg i86r7 (some [0,1,5,67])
def i86r8:List It:=[.u 6 (.mv (.b false)),.kill 5]
def f86r8:AC:=.reg i86r8 (some [6])
def i86r9:List It:=[.m 68 0,.m 69 1,.u 70 (.bin .sub (.t 69) (.i 1)),.u 71 (.ia 2 (.t 68) (.t 70)),.u 72 (.fa 1 (.t 71)),.u 73 (.ld false 1 (.t 72)),.u 74 (.fa 1 (.t 5)),.u 75 (.ld false 1 (.t 74)),.u 76 (.ia 2 (.t 73) (.t 75)),.u 77 (.fa 1 (.t 76)),.u 78 (.ld false 1 (.t 77)),.m 7 78]
def f86r9:AC:=.reg i86r9 (some [0,5,7])
def i86r10:List It:=[.m 79 7,.u 80 (.lenL (.t 79)),.u 81 (.fa 3 (.t 5)),.u 82 (.ld false 1 (.t 81)),.u 83 (.lenL (.t 82)),.u 84 (.bin .neq (.t 80) (.t 83))]
def f86r10:AC:=.reg i86r10 (some [0,5,7,84])
def i86r11:List It:=[.u 6 (.mv (.b false)),.kill 5]
def f86r11:AC:=.reg i86r11 (some [6])
def i86r12:List It:=[.u 8 (.mv (.i 0))]
def f86r12:AC:=.reg i86r12 (some [0,5,7,8])
def i86r13:List It:=[.m 85 8,.m 86 7,.u 87 (.lenL (.t 86)),.u 88 (.bin .lss (.t 85) (.t 87))]
def f86r13:AC:=.reg i86r13 (some [0,5,7,8,88])
def i86r14:List It:=[.m 91 0,.m 92 7,.m 93 8,.u 94 (.ia 1 (.t 92) (.t 93)),.u 95 (.ld false 1 (.t 94)),.u 96 (.fa 3 (.t 5)),.u 97 (.ld false 1 (.t 96)),.m 98 8,.u 99 (.ia 4 (.t 97) (.t 98)),.u 100 (.ld true 4 (.t 99)),.u 101 (.call (.f 86) [true,true,true] [.t 91,.t 95,.t 100]),.u 102 (.un .not (.t 101))]
def f86r14:AC:=.reg i86r14 (some [0,5,7,8,102])
def i86r15:List It:=[.u 6 (.mv (.b false)),.kill 5]
def f86r15:AC:=.reg i86r15 (some [6])
def i86r16:List It:=[.m 89 8,.u 90 (.bin .add (.t 89) (.i 1)),.m 8 90]
def f86r16:AC:=.reg i86r16 (some [0,5,7,8])
def f86l0:AC:=(.seq (.seq f86r13 (.cond (.t 88) .skip (.exit 1))) (.seq (.blk 2 (.seq f86r14 (.cond (.t 102) (.seq f86r15 .ret) .skip))) f86r16))
def i86r17:List It:=[.u 6 (.mv (.b true)),.kill 5]
def f86r17:AC:=.reg i86r17 (some [6])
def i86r18:List It:=[.u 6 (.mv (.b false)),.kill 5]
def f86r18:AC:=.reg i86r18 (some [6])
def b86:AC:=(.seq f86r0 (.seq (.seq f86r1 (.blk 0 (.seq f86r2 (.cond (.t 11) (.seq f86r3 .ret) (.seq f86r4 (.cond (.t 27) (.seq f86r5 .ret) (.seq f86r6 (.cond (.t 42) (.seq (.seq f86r7 (.cond (.t 67) (.seq f86r8 .ret) .skip)) (.seq f86r9 (.seq (.seq f86r10 (.cond (.t 84) (.seq f86r11 .ret) .skip)) (.seq (.seq f86r12 (.blk 1 (.loop f86l0))) (.seq f86r17 .ret))))) .skip)))))))) (.seq f86r18 .ret)))
def f86:AF:=⟨3,[(6,none)],true,b86⟩
def i87r0:List It:=[.u 2 (.mv (.c (.tl [] (some true))))]
def f87r0:AC:=.reg i87r0 (some [0])
def i87r1:List It:=[.u 3 (.mv (.c (.tl [] (some true))))]
def f87r1:AC:=.reg i87r1 (some [0,3])
def i87r2:List It:=[.u 4 (.mv (.i 0))]
def f87r2:AC:=.reg i87r2 (some [0,3,4])
def i87r3:List It:=[.m 8 4,.m 9 0,.u 10 (.lenL (.t 9)),.u 11 (.bin .lss (.t 8) (.t 10))]
def f87r3:AC:=.reg i87r3 (some [0,3,4,11])
def i87r4:List It:=[.m 14 0,.m 15 4,.u 16 (.ia 1 (.t 14) (.t 15)),.u 17 (.ld false 1 (.t 16)),.u 18 (.ia 4 (.t 17) (.i 0)),.u 19 (.ld true 4 (.t 18)),.u 5 (.alloc 4 (.agg [(.d (.int .i64 0)),(.d (.int .i64 0)),(.d (.int .i64 0)),(.tl [] (some true))])),.o none (.st 4 (.t 5) (.t 19)) none,.frz 5]
def f87r4:AC:=.reg i87r4 (some [0,3,4,5])
def i87r5:List It:=[.u 20 (.fa 0 (.t 5)),.u 21 (.ld false 1 (.t 20)),.u 22 (.bin .eql (.t 21) (.i 0)),.m 6 22]
def f87r5:AC:=.reg i87r5 (some [0,3,4,5,6])
def i87r6:List It:=[.u 7 (.mv (.i 0))]
def f87r6:AC:=.reg i87r6 (some [0,3,4,5,6,7])
def i87r7:List It:=[.m 23 7,.m 24 3,.u 25 (.lenL (.t 24)),.u 26 (.bin .lss (.t 23) (.t 25))]
def f87r7:AC:=.reg i87r7 (some [0,3,4,5,6,7,26])
def i87r8:List It:=[.m 29 6,.m 30 29,.g 31 (.mv (.t 3)) 30 false,.g 32 (.mv (.t 7)) 30 false,.g 33 (.ia 4 (.t 31) (.t 32)) 30 false,.g 34 (.ld true 4 (.t 33)) 30 false,.g 35 (.ld true 4 (.t 5)) 30 false,.g 36 (.call (.f 129) [true,true] [.t 34,.t 35]) 30 false,.u 37 (.pick (.t 30) (.b true) (.t 36)),.m 6 37]
def f87r8:AC:=.reg i87r8 (some [0,3,4,5,6,7])
def i87r9:List It:=[.m 27 7,.u 28 (.bin .add (.t 27) (.i 1)),.m 7 28]
def f87r9:AC:=.reg i87r9 (some [0,3,4,5,6,7])
def f87l0:AC:=(.seq (.seq f87r7 (.cond (.t 26) .skip (.exit 2))) (.seq (.blk 3 f87r8) f87r9))
def i87r10:List It:=[.m 38 6,.u 39 (.un .not (.t 38))]
def f87r10:AC:=.reg i87r10 (some [0,3,4,5,39])
def i87r11:List It:=[.m 40 3,.u 41 (.ld true 4 (.t 5)),.u 42 (.bsl 4 [.t 41]),.u 43 (.app 4 48 (.t 40) (.t 42)),.m 3 43,.kill 5]
def f87r11:AC:=.reg i87r11 (some [0,3,4])
def i87r12:List It:=[.m 12 4,.u 13 (.bin .add (.t 12) (.i 1)),.m 4 13,.kill 5]
def f87r12:AC:=.reg i87r12 (some [0,3,4])
def f87l1:AC:=(.seq (.seq f87r3 (.cond (.t 11) .skip (.exit 0))) (.seq (.blk 1 (.seq f87r4 (.seq f87r5 (.seq (.seq f87r6 (.blk 2 (.loop f87l0))) (.seq f87r10 (.cond (.t 39) f87r11 .skip)))))) f87r12))
def i87r13:List It:=[.m 44 3,.m 2 44]
def f87r13:AC:=.reg i87r13 (some [2])
def b87:AC:=(.seq f87r0 (.seq f87r1 (.seq (.seq f87r2 (.blk 0 (.loop f87l1))) (.seq f87r13 .ret))))
def f87:AF:=⟨1,[(2,none)],true,b87⟩
def i88r0:List It:=[.u 6 (.mv (.b false))]
def f88r0:AC:=.reg i88r0 (some [0,1,2])
def i88r1:List It:=[.m 7 1,.u 8 (.bin .neq (.t 7) (.i 0)),.m 9 8,.g 10 (.mv (.t 2)) 9 true,.g 11 (.lenL (.t 10)) 9 true,.g 12 (.mv (.t 0)) 9 true,.g 13 (.mv (.t 1)) 9 true,.g 14 (.bin .sub (.t 13) (.i 1)) 9 true,.g 15 (.ia 2 (.t 12) (.t 14)) 9 true,.g 16 (.fa 1 (.t 15)) 9 true,.g 17 (.ld false 1 (.t 16)) 9 true,.g 18 (.lenL (.t 17)) 9 true,.g 19 (.bin .eql (.t 11) (.t 18)) 9 true,.u 20 (.pick (.t 9) (.t 19) (.b false)),.m 6 20]
def f88r1:AC:=.reg i88r1 (some [6])
def b88:AC:=(.seq f88r0 (.seq f88r1 .ret))
def f88:AF:=⟨3,[(6,none)],true,b88⟩
def i89r0:List It:=[.u 6 (.mv (.c (.tl [] (some true))))]
def f89r0:AC:=.reg i89r0 (some [0,1,2])
def i89r1:List It:=[.u 8 (.bsl 1 []),.m 9 0,.m 10 1,.u 11 (.ia 1 (.t 10) (.i 0)),.u 12 (.ld false 1 (.t 11)),.u 13 (.bin .sub (.t 12) (.i 1)),.u 14 (.ia 2 (.t 9) (.t 13)),.u 15 (.fa 1 (.t 14)),.u 16 (.ld false 1 (.t 15)),.m 17 2,.u 18 (.ia 2 (.t 16) (.t 17)),.u 19 (.fa 1 (.t 18)),.u 20 (.ld false 1 (.t 19)),.u 21 (.app 1 8 (.t 8) (.t 20)),.m 7 21]
def f89r1:AC:=.reg i89r1 (some [1,7])
def i89r2:List It:=[.m 22 7,.m 23 1,.u 24 (.slc 1 (.t 23) (some (.i 1)) none),.u 25 (.app 1 8 (.t 22) (.t 24)),.m 6 25]
def f89r2:AC:=.reg i89r2 (some [6])
def b89:AC:=(.seq f89r0 (.seq f89r1 (.seq f89r2 .ret)))
def f89:AF:=⟨3,[(6,none)],true,b89⟩
def i90r0:List It:=[.u 4 (.box 4 (.t 1)),.u 6 (.mv (.c (.tl [] (some true)))),.frz 4]
def f90r0:AC:=.reg i90r0 (some [0,2,4])
def i90r1:List It:=[.u 7 (.mv (.c (.tl [] (some true))))]
def f90r1:AC:=.reg i90r1 (some [0,2,4,7])
def i90r2:List It:=[.u 8 (.mv (.i 0))]
def f90r2:AC:=.reg i90r2 (some [0,2,4,7,8])
def i90r3:List It:=[.m 11 8,.m 12 0,.u 13 (.lenL (.t 12)),.u 14 (.bin .lss (.t 11) (.t 13))]
def f90r3:AC:=.reg i90r3 (some [0,2,4,7,8,14])
def i90r4:List It:=[.m 17 0,.m 18 8,.u 19 (.ia 1 (.t 17) (.t 18)),.u 20 (.ld false 1 (.t 19)),.u 21 (.ia 4 (.t 20) (.i 0)),.u 22 (.ld true 4 (.t 21)),.u 9 (.alloc 4 (.agg [(.d (.int .i64 0)),(.d (.int .i64 0)),(.d (.int .i64 0)),(.tl [] (some true))])),.o none (.st 4 (.t 9) (.t 22)) none,.frz 9]
def f90r4:AC:=.reg i90r4 (some [0,2,4,7,8,9])
def i90r5:List It:=[.u 10 (.mv (.c (.tl [] (some true))))]
def f90r5:AC:=.reg i90r5 (some [0,2,4,7,8,9,10])
def i90r6:List It:=[.u 23 (.fa 0 (.t 9)),.u 24 (.ld false 1 (.t 23)),.u 25 (.bin .eql (.t 24) (.i 0))]
def f90r6:AC:=.reg i90r6 (some [0,2,4,7,8,9,10,25])
def i90r7:List It:=[.m 26 2,.u 27 (.mksl (.d (.agg [(.int .i64 0),(.int .i64 0),(.int .i64 0),(.lst [])])) 4 48 (.t 26)),.m 10 27,.kill 9]
def f90r7:AC:=.reg i90r7 (some [0,2,4,7,8,10])
def i90r8:List It:=[.u 28 (.ld true 4 (.t 9)),.u 29 (.ld true 4 (.t 4)),.u 30 (.call (.f 129) [true,true] [.t 28,.t 29])]
def f90r8:AC:=.reg i90r8 (some [0,2,4,7,8,9,10,30])
def i90r9:List It:=[.m 31 10,.u 32 (.fa 3 (.t 9)),.u 33 (.ld false 1 (.t 32)),.u 34 (.app 4 48 (.t 31) (.t 33)),.m 10 34,.kill 9]
def f90r9:AC:=.reg i90r9 (some [0,2,4,7,8,10])
def i90r10:List It:=[.m 35 7,.m 36 10,.m 37 0,.m 38 8,.u 39 (.ia 1 (.t 37) (.t 38)),.u 40 (.ld false 1 (.t 39)),.u 41 (.slc 4 (.t 40) (some (.i 1)) none),.u 42 (.app 4 48 (.t 36) (.t 41)),.frz 42,.u 43 (.bsl 1 [.t 42]),.u 44 (.app 1 24 (.t 35) (.t 43)),.m 7 44]
def f90r10:AC:=.reg i90r10 (some [0,2,4,7,8])
def i90r11:List It:=[.m 15 8,.u 16 (.bin .add (.t 15) (.i 1)),.m 8 16,.kill 9]
def f90r11:AC:=.reg i90r11 (some [0,2,4,7,8])
def f90l0:AC:=(.seq (.seq f90r3 (.cond (.t 14) .skip (.exit 0))) (.seq (.blk 1 (.seq f90r4 (.seq f90r5 (.seq (.seq f90r6 (.cond (.t 25) f90r7 (.seq f90r8 (.cond (.t 30) f90r9 (.exit 1))))) f90r10)))) f90r11))
def i90r12:List It:=[.m 45 7,.m 6 45,.kill 4]
def f90r12:AC:=.reg i90r12 (some [6])
def b90:AC:=(.seq f90r0 (.seq f90r1 (.seq (.seq f90r2 (.blk 0 (.loop f90l0))) (.seq f90r12 .ret))))
def f90:AF:=⟨3,[(6,none)],true,b90⟩
def i91r0:List It:=[.u 2 (.mv (.c (.tl [] (some true))))]
def f91r0:AC:=.reg i91r0 (some [0])
def i91r1:List It:=[.u 3 (.mv (.c (.tl [] (some true))))]
def f91r1:AC:=.reg i91r1 (some [0,3])
def i91r2:List It:=[.u 4 (.mv (.i 0))]
def f91r2:AC:=.reg i91r2 (some [0,3,4])
def i91r3:List It:=[.m 5 4,.m 6 0,.u 7 (.lenL (.t 6)),.u 8 (.bin .lss (.t 5) (.t 7))]
def f91r3:AC:=.reg i91r3 (some [0,3,4,8])
def i91r4:List It:=[.m 11 0,.m 12 4,.u 13 (.ia 1 (.t 11) (.t 12)),.u 14 (.ld false 1 (.t 13)),.u 15 (.ia 4 (.t 14) (.i 0)),.u 16 (.fa 0 (.t 15)),.u 17 (.ld false 1 (.t 16)),.u 18 (.bin .eql (.t 17) (.i 0))]
def f91r4:AC:=.reg i91r4 (some [0,3,4,18])
def i91r5:List It:=[.m 19 3,.m 20 0,.m 21 4,.u 22 (.ia 1 (.t 20) (.t 21)),.u 23 (.ld false 1 (.t 22)),.u 24 (.slc 4 (.t 23) (some (.i 1)) none),.u 25 (.bsl 1 [.t 24]),.u 26 (.app 1 24 (.t 19) (.t 25)),.m 3 26]
def f91r5:AC:=.reg i91r5 (some [0,3,4])
def i91r6:List It:=[.m 9 4,.u 10 (.bin .add (.t 9) (.i 1)),.m 4 10]
def f91r6:AC:=.reg i91r6 (some [0,3,4])
def f91l0:AC:=(.seq (.seq f91r3 (.cond (.t 8) .skip (.exit 0))) (.seq (.blk 1 (.seq f91r4 (.cond (.t 18) f91r5 .skip))) f91r6))
def i91r7:List It:=[.m 27 3,.m 2 27]
def f91r7:AC:=.reg i91r7 (some [2])
def b91:AC:=(.seq f91r0 (.seq f91r1 (.seq (.seq f91r2 (.blk 0 (.loop f91l0))) (.seq f91r7 .ret))))
def f91:AF:=⟨1,[(2,none)],true,b91⟩
def i92r0:List It:=[.u 6 (.alloc 4 (.agg [(.d (.int .i64 0)),(.d (.int .i64 0)),(.d (.int .i64 0)),(.tl [] (some true))]))]
def f92r0:AC:=.reg i92r0 (some [0,1,2,6])
def i92r1:List It:=[.m 9 2,.u 10 (.lenL (.t 9)),.u 11 (.bin .eql (.t 10) (.i 0))]
def f92r1:AC:=.reg i92r1 (some [0,1,2,6,11])
def i92r2:List It:=[.u 12 (.build [(.d (.int .i64 0)),(.d (.int .i64 0)),(.d (.int .i64 0)),(.tl [] (some true))] []),.o none (.st 4 (.t 6) (.t 12)) none]
def f92r2:AC:=.reg i92r2 (some [6])
def i92r3:List It:=[.m 13 1,.u 14 (.bin .eql (.t 13) (.i 0))]
def f92r3:AC:=.reg i92r3 (some [0,1,2,6,14])
def i92r4:List It:=[.u 7 (.mv (.i 0))]
def f92r4:AC:=.reg i92r4 (some [2,6,7])
def i92r5:List It:=[.m 15 2,.m 16 7,.u 17 (.build [(.d (.int .i64 0)),(.d (.int .i64 0)),(.d (.int .i64 0)),(.tl [] (some true))] [(0,1,(.i 2)),(2,1,(.t 16))]),.u 18 (.call (.f 130) [true,true] [.t 15,.t 17])]
def f92r5:AC:=.reg i92r5 (some [2,6,7,18])
def i92r6:List It:=[.m 19 7,.u 20 (.bin .add (.t 19) (.i 1)),.m 7 20]
def f92r6:AC:=.reg i92r6 (some [2,6,7])
def f92l0:AC:=(.seq (.seq f92r5 (.cond (.t 18) .skip (.exit 0))) (.blk 1 f92r6))
def i92r7:List It:=[.m 21 7,.u 22 (.build [(.d (.int .i64 0)),(.d (.int .i64 0)),(.d (.int .i64 0)),(.tl [] (some true))] [(0,1,(.i 2)),(2,1,(.t 21))]),.o none (.st 4 (.t 6) (.t 22)) none]
def f92r7:AC:=.reg i92r7 (some [6])
def i92r8:List It:=[.u 8 (.mv (.i 0))]
def f92r8:AC:=.reg i92r8 (some [0,1,2,6,8])
def i92r9:List It:=[.m 23 2,.m 24 8,.u 25 (.build [(.d (.int .i64 0)),(.d (.int .i64 0)),(.d (.int .i64 0)),(.tl [] (some true))] [(0,1,(.i 1)),(1,1,(.t 24))]),.u 26 (.call (.f 130) [true,true] [.t 23,.t 25])]
def f92r9:AC:=.reg i92r9 (some [0,1,2,6,8,26])
def i92r10:List It:=[.m 27 8,.u 28 (.bin .add (.t 27) (.i 1)),.m 8 28]
def f92r10:AC:=.reg i92r10 (some [0,1,2,6,8])
def f92l1:AC:=(.seq (.seq f92r9 (.cond (.t 26) .skip (.exit 2))) (.blk 3 f92r10))
def i92r11:List It:=[.m 29 8,.m 30 0,.m 31 1,.u 32 (.bin .sub (.t 31) (.i 1)),.u 33 (.ia 2 (.t 30) (.t 32)),.u 34 (.fa 1 (.t 33)),.u 35 (.ld false 1 (.t 34)),.m 36 8,.u 37 (.ia 2 (.t 35) (.t 36)),.u 38 (.fa 1 (.t 37)),.u 39 (.ld false 1 (.t 38)),.u 40 (.lenL (.t 39)),.u 41 (.mkslT (.d (.agg [(.int .i64 0),(.int .i64 0),(.int .i64 0),(.lst [])])) 48 (.t 40)),.u 42 (.build [(.d (.int .i64 0)),(.d (.int .i64 0)),(.d (.int .i64 0)),(.tl [] (some true))] [(0,1,(.i 1)),(1,1,(.t 29)),(3,1,(.t 41))]),.o none (.st 4 (.t 6) (.t 42)) none]
def f92r11:AC:=.reg i92r11 (some [6])
def b92:AC:=(.seq f92r0 (.seq (.seq f92r1 (.cond (.t 11) (.seq f92r2 .ret) .skip)) (.seq (.seq f92r3 (.cond (.t 14) (.seq f92r4 (.seq (.blk 0 (.loop f92l0)) (.seq f92r7 .ret))) .skip)) (.seq f92r8 (.seq (.blk 2 (.loop f92l1)) (.seq f92r11 .ret))))))
def f92:AF:=⟨3,[(6,some (true,4))],true,b92⟩
def i93r0:List It:=[.u 4 (.mv (.c (.tl [] (some true))))]
def f93r0:AC:=.reg i93r0 (some [0,1])
def i93r1:List It:=[.u 5 (.mv (.c (.tl [] (some true))))]
def f93r1:AC:=.reg i93r1 (some [0,1,5])
def i93r2:List It:=[.m 6 5,.m 7 0,.u 8 (.app 1 8 (.t 6) (.t 7)),.m 5 8]
def f93r2:AC:=.reg i93r2 (some [1,5])
def i93r3:List It:=[.m 9 5,.m 10 1,.u 11 (.bsl 1 [.t 10]),.u 12 (.app 1 8 (.t 9) (.t 11)),.m 4 12]
def f93r3:AC:=.reg i93r3 (some [4])
def b93:AC:=(.seq f93r0 (.seq f93r1 (.seq f93r2 (.seq f93r3 .ret))))
def f93:AF:=⟨2,[(4,none)],true,b93⟩
def i94r0:List It:=[.u 9 (.fa 0 (.t 1)),.u 10 (.ld false 1 (.t 9)),.u 11 (.lenL (.t 10)),.u 12 (.mksl (.d (.bool false)) 1 1 (.t 11)),.u 4 (.alloc 1 (.tl [] (some true))),.o none (.st 1 (.t 4) (.t 12)) none]
def f94r0:AC:=.reg i94r0 (some [0,1,2,4])
def i94r1:List It:=[.u 5 (.alloc 1 (.tl [] (some true)))]
def f94r1:AC:=.reg i94r1 (some [0,1,2,4,5])
def i94r2:List It:=[.u 6 (.alloc 1 (.d .nilf))]
def f94r2:AC:=.reg i94r2 (some [0,1,2,4,5,6])
def i94r3:List It:=[.u 13 (.mkf 95 [.t 1,.t 4,.t 2,.t 5,.t 6]),.o none (.st 1 (.t 6) (.t 13)) none]
def f94r3:AC:=.reg i94r3 (some [0,5,6])
def i94r4:List It:=[.u 14 (.ld false 1 (.t 6)),.u 15 (.call (.t 14) [true] [(.i 0)]),.u 16 (.un .not (.t 15))]
def f94r4:AC:=.reg i94r4 (some [0,5,16])
def i94r5:List It:=[.u 17 (.ld false 1 (.t 5)),.u 18 (.lenL (.t 17)),.u 19 (.mv (.i 0))]
def f94r5:AC:=.reg i94r5 (some [0,17,18,19])
def i94r6:List It:=[.u 20 (.bin .lss (.t 19) (.t 18))]
def f94r6:AC:=.reg i94r6 (some [0,17,18,19,20])
def i94r7:List It:=[.u 21 (.ia 5 (.t 17) (.t 19)),.u 22 (.ld true 5 (.t 21)),.u 8 (.alloc 5 (.agg [(.tl [] (some true)),(.d (.bool false)),(.d (.int .i64 0)),(.tl [] (some true)),(.d (.int .i64 0))])),.o none (.st 5 (.t 8) (.t 22)) none,.frz 8]
def f94r7:AC:=.reg i94r7 (some [0,8,17,18,19])
def i94r8:List It:=[.m 23 0,.u 24 (.ld true 5 (.t 8)),.u 25 (.call (.t 23) [true] [.t 24]),.u 26 (.un .not (.t 25)),.kill 8]
def f94r8:AC:=.reg i94r8 (some [0,17,18,19,26])
def i94r9:List It:=[.u 27 (.bin .add (.t 19) (.i 1)),.m 19 27]
def f94r9:AC:=.reg i94r9 (some [0,17,18,19])
def f94l0:AC:=(.seq f94r6 (.seq (.cond (.t 20) .skip (.exit 0)) (.seq (.blk 1 (.seq f94r7 (.seq f94r8 (.cond (.t 26) .ret .skip)))) f94r9)))
def b94:AC:=(.seq f94r0 (.seq f94r1 (.seq f94r2 (.seq f94r3 (.seq (.seq f94r4 (.cond (.t 16) .ret .skip)) (.seq f94r5 (.blk 0 (.loop f94l0))))))))
def f94:AF:=⟨3,[],false,b94⟩
def i95r0:List It:=[.u 7 (.mv (.b false))]
def f95r0:AC:=.reg i95r0 (some [0,1,2,3,4,5])
def i95r1:List It:=[.m 8 0,.u 9 (.bin .lss (.t 8) (.i 0)),.m 10 9,.g 11 (.mv (.t 0)) 10 false,.g 12 (.fa 0 (.t 1)) 10 false,.g 13 (.ld false 1 (.t 12)) 10 false,.g 14 (.lenL (.t 13)) 10 false,.g 15 (.bin .geq (.t 11) (.t 14)) 10 false,.u 16 (.pick (.t 10) (.b true) (.t 15)),.m 17 16,.g 18 (.ld false 1 (.t 2)) 17 false,.g 19 (.mv (.t 0)) 17 false,.g 20 (.ia 1 (.t 18) (.t 19)) 17 false,.g 21 (.ld false 1 (.t 20)) 17 false,.u 22 (.pick (.t 17) (.b true) (.t 21))]
def f95r1:AC:=.reg i95r1 (some [0,1,2,3,4,5,22])
def i95r2:List It:=[.u 7 (.mv (.b false))]
def f95r2:AC:=.reg i95r2 (some [7])
def i95r3:List It:=[.u 23 (.ld false 1 (.t 2)),.m 24 0,.u 25 (.ia 1 (.t 23) (.t 24)),.o none (.st 1 (.t 25) (.b true)) none]
def f95r3:AC:=.reg i95r3 (some [0,1,3,4,5])
def i95r4:List It:=[.m 26 0,.u 27 (.ld false 1 (.t 3)),.u 28 (.bin .eql (.t 26) (.t 27))]
def f95r4:AC:=.reg i95r4 (some [0,1,4,5,28])
def i95r5:List It:=[.u 7 (.mv (.b true))]
def f95r5:AC:=.reg i95r5 (some [7])
def i95r6:List It:=[.u 29 (.ld false 1 (.t 4)),.u 30 (.fa 0 (.t 1)),.u 31 (.ld false 1 (.t 30)),.m 32 0,.u 33 (.ia 5 (.t 31) (.t 32)),.u 34 (.ld true 5 (.t 33)),.u 35 (.bsl 5 [.t 34]),.u 36 (.app 5 72 (.t 29) (.t 35)),.o none (.st 1 (.t 4) (.t 36)) none]
def f95r6:AC:=.reg i95r6 (some [0,1,4,5])
def i95r7:List It:=[.u 37 (.fa 0 (.t 1)),.u 38 (.ld false 1 (.t 37)),.m 39 0,.u 40 (.ia 5 (.t 38) (.t 39)),.u 41 (.fa 3 (.t 40)),.u 42 (.ld false 1 (.t 41)),.u 43 (.ld false 1 (.t 5)),.u 44 (.call (.f 96) [true,true] [.t 42,.t 43])]
def f95r7:AC:=.reg i95r7 (some [4,44])
def i95r8:List It:=[.u 7 (.mv (.b true))]
def f95r8:AC:=.reg i95r8 (some [7])
def i95r9:List It:=[.u 45 (.ld false 1 (.t 4)),.u 46 (.ld false 1 (.t 4)),.u 47 (.lenL (.t 46)),.u 48 (.bin .sub (.t 47) (.i 1)),.u 49 (.slc 5 (.t 45) none (some (.t 48))),.o none (.st 1 (.t 4) (.t 49)) none]
def f95r9:AC:=.reg i95r9 (some [])
def i95r10:List It:=[.u 7 (.mv (.b false))]
def f95r10:AC:=.reg i95r10 (some [7])
def b95:AC:=(.seq f95r0 (.seq (.seq f95r1 (.cond (.t 22) (.seq f95r2 .ret) .skip)) (.seq f95r3 (.seq (.seq f95r4 (.cond (.t 28) (.seq f95r5 .ret) .skip)) (.seq f95r6 (.seq (.seq f95r7 (.cond (.t 44) (.seq f95r8 .ret) .skip)) (.seq f95r9 (.seq f95r10 .ret))))))))
def f95:AF:=⟨6,[(7,none)],false,b95⟩
def i96r0:List It:=[.u 4 (.mv (.b false))]
def f96r0:AC:=.reg i96r0 (some [0,1])
def i96r1:List It:=[.m 5 0,.m 6 1,.u 7 (.call (.f 131) [true,true] [.t 5,.t 6]),.u 8 (.bin .geq (.t 7) (.i 0)),.m 4 8]
def f96r1:AC:=.reg i96r1 (some [4])
def b96:AC:=(.seq f96r0 (.seq f96r1 .ret))
def f96:AF:=⟨2,[(4,none)],false,b96⟩
def i97r0:List It:=[.u 4 (.mv (.b false))]
def f97r0:AC:=.reg i97r0 (some [0,1])
def i97r1:List It:=[.m 5 0,.m 6 1,.u 7 (.call (.f 132) [true,true] [.t 5,.t 6]),.u 8 (.bin .geq (.t 7) (.i 0)),.m 4 8]
def f97r1:AC:=.reg i97r1 (some [4])
def b97:AC:=(.seq f97r0 (.seq f97r1 .ret))
def f97:AF:=⟨2,[(4,none)],true,b97⟩
def i98r0:List It:=[.u 1 (.box 2 (.t 0)),.u 2 (.mv (.b false)),.frz 1]
def f98r0:AC:=.reg i98r0 (some [1])
def i98r1:List It:=[.u 3 (.fa 1 (.t 1)),.u 4 (.ld false 1 (.t 3)),.u 5 (.lenL (.t 4)),.u 6 (.bin .gtr (.t 5) (.i 6)),.m 2 6,.kill 1]
def f98r1:AC:=.reg i98r1 (some [2])
def b98:AC:=(.seq f98r0 (.seq f98r1 .ret))
def f98:AF:=⟨1,[(2,none)],true,b98⟩
def i99r0:List It:=[.u 2 (.mv (.b false))]
def f99r0:AC:=.reg i99r0 (some [0])
def i99r1:List It:=[.m 5 0,.u 6 (.bin .eql (.t 5) (.c (.d (.str ⟨#[]⟩)))),.m 7 6,.g 8 (.mv (.t 0)) 7 false,.g 9 (.lenS (.t 8)) 7 false,.g 10 (.bin .gtr (.t 9) (.i 32)) 7 false,.u 11 (.pick (.t 7) (.b true) (.t 10)),.m 12 11,.g 13 (.mv (.t 0)) 12 false,.g 14 (.ixS (.t 13) (.i 0)) 12 false,.g 15 (.bin .lss (.t 14) (.c (.d (.int .u8 65)))) 12 false,.u 16 (.pick (.t 12) (.b true) (.t 15)),.m 17 16,.g 18 (.mv (.t 0)) 17 false,.g 19 (.ixS (.t 18) (.i 0)) 17 false,.g 20 (.bin .gtr (.t 19) (.c (.d (.int .u8 90)))) 17 false,.u 21 (.pick (.t 17) (.b true) (.t 20))]
def f99r1:AC:=.reg i99r1 (some [0,21])
def i99r2:List It:=[.u 2 (.mv (.b false))]
def f99r2:AC:=.reg i99r2 (some [2])
def i99r3:List It:=[.m 22 0,.u 23 (.lenS (.t 22)),.u 24 (.mv (.i 0))]
def f99r3:AC:=.reg i99r3 (some [0,23,24])
def i99r4:List It:=[.u 25 (.bin .lss (.t 24) (.t 23))]
def f99r4:AC:=.reg i99r4 (some [0,23,24,25])
def i99r5:List It:=[.m 26 24,.m 3 26]
def f99r5:AC:=.reg i99r5 (some [0,3,23,24])
def i99r6:List It:=[.m 27 0,.m 28 3,.u 29 (.ixS (.t 27) (.t 28)),.m 4 29]
def f99r6:AC:=.reg i99r6 (some [0,4,23,24])
def i99r7:List It:=[.m 30 4,.u 31 (.bin .geq (.t 30) (.c (.d (.int .u8 97)))),.m 32 31,.g 33 (.mv (.t 4)) 32 true,.g 34 (.bin .leq (.t 33) (.c (.d (.int .u8 122)))) 32 true,.u 35 (.pick (.t 32) (.t 34) (.b false)),.m 36 35,.g 37 (.mv (.t 4)) 36 false,.g 38 (.bin .geq (.t 37) (.c (.d (.int .u8 65)))) 36 false,.g 39 (.mv (.t 38)) 36 false,.g 40 (.mv (.t 4)) 39 true,.g 41 (.bin .leq (.t 40) (.c (.d (.int .u8 90)))) 39 true,.g 42 (.pick (.t 39) (.t 41) (.b false)) 36 false,.u 43 (.pick (.t 36) (.b true) (.t 42)),.m 44 43,.g 45 (.mv (.t 4)) 44 false,.g 46 (.bin .geq (.t 45) (.c (.d (.int .u8 48)))) 44 false,.g 47 (.mv (.t 46)) 44 false,.g 48 (.mv (.t 4)) 47 true,.g 49 (.bin .leq (.t 48) (.c (.d (.int .u8 57)))) 47 true,.g 50 (.pick (.t 47) (.t 49) (.b false)) 44 false,.u 51 (.pick (.t 44) (.b true) (.t 50)),.m 52 51,.g 53 (.mv (.t 4)) 52 false,.g 54 (.bin .eql (.t 53) (.c (.d (.int .u8 95)))) 52 false,.u 55 (.pick (.t 52) (.b true) (.t 54)),.u 56 (.un .not (.t 55))]
def f99r7:AC:=.reg i99r7 (some [0,23,24,56])
def i99r8:List It:=[.u 2 (.mv (.b false))]
def f99r8:AC:=.reg i99r8 (some [2])
def i99r9:List It:=[.u 57 (.bin .add (.t 24) (.i 1)),.m 24 57]
def f99r9:AC:=.reg i99r9 (some [0,23,24])
def f99l0:AC:=(.seq f99r4 (.seq (.cond (.t 25) .skip (.exit 0)) (.seq (.blk 1 (.seq f99r5 (.seq f99r6 (.seq f99r7 (.cond (.t 56) (.seq f99r8 .ret) .skip))))) f99r9)))
def i99r10:List It:=[.u 2 (.mv (.b true))]
def f99r10:AC:=.reg i99r10 (some [2])
def b99:AC:=(.seq f99r0 (.seq (.seq f99r1 (.cond (.t 21) (.seq f99r2 .ret) .skip)) (.seq (.seq f99r3 (.blk 0 (.loop f99l0))) (.seq f99r10 .ret))))
def f99:AF:=⟨1,[(2,none)],true,b99⟩
def i100r0:List It:=[.u 1 (.box 2 (.t 0)),.u 2 (.mv (.b false)),.frz 1]
def f100r0:AC:=.reg i100r0 (some [1])
def i100r1:List It:=[.u 3 (.fa 0 (.t 1)),.u 4 (.ld false 1 (.t 3)),.u 5 (.call (.f 99) [true] [.t 4]),.u 6 (.un .not (.t 5)),.m 2 6,.kill 1]
def f100r1:AC:=.reg i100r1 (some [2])
def b100:AC:=(.seq f100r0 (.seq f100r1 .ret))
def f100:AF:=⟨1,[(2,none)],true,b100⟩
def i101r0:List It:=[.u 4 (.mv (.i 0))]
def f101r0:AC:=.reg i101r0 (some [0,1])
def i101r1:List It:=[.m 6 0,.u 7 (.lenL (.t 6)),.u 8 (.mv (.i 0))]
def f101r1:AC:=.reg i101r1 (some [0,1,7,8])
def i101r2:List It:=[.u 9 (.bin .lss (.t 8) (.t 7))]
def f101r2:AC:=.reg i101r2 (some [0,1,7,8,9])
def i101r3:List It:=[.m 10 8,.m 5 10]
def f101r3:AC:=.reg i101r3 (some [0,1,5,7,8])
def i101r4:List It:=[.m 11 1,.m 12 0,.m 13 5,.u 14 (.ia 1 (.t 12) (.t 13)),.u 15 (.ld false 1 (.t 14)),.u 16 (.call (.t 11) [true] [.t 15])]
def f101r4:AC:=.reg i101r4 (some [0,1,5,7,8,16])
def i101r5:List It:=[.m 17 5,.m 4 17]
def f101r5:AC:=.reg i101r5 (some [4])
def i101r6:List It:=[.u 18 (.bin .add (.t 8) (.i 1)),.m 8 18]
def f101r6:AC:=.reg i101r6 (some [0,1,7,8])
def f101l0:AC:=(.seq f101r2 (.seq (.cond (.t 9) .skip (.exit 0)) (.seq (.blk 1 (.seq f101r3 (.seq f101r4 (.cond (.t 16) (.seq f101r5 .ret) .skip)))) f101r6)))
def i101r7:List It:=[.u 4 (.mv (.i (-1)))]
def f101r7:AC:=.reg i101r7 (some [4])
def b101:AC:=(.seq f101r0 (.seq (.seq f101r1 (.blk 0 (.loop f101l0))) (.seq f101r7 .ret)))
def f101:AF:=⟨2,[(4,none)],true,b101⟩
def i102r0:List It:=[.u 2 (.box 2 (.t 0)),.u 3 (.mv (.b false)),.frz 2]
def f102r0:AC:=.reg i102r0 (some [1,2])
def i102r1:List It:=[.u 4 (.fa 1 (.t 2)),.u 5 (.ld false 1 (.t 4)),.u 6 (.mkf 103 [.t 1]),.u 7 (.call (.f 56) [true,true] [.t 5,.t 6]),.u 8 (.un .not (.t 7)),.m 3 8,.kill 2]
def f102r1:AC:=.reg i102r1 (some [3])
def b102:AC:=(.seq f102r0 (.seq f102r1 .ret))
def f102:AF:=⟨2,[(3,none)],true,b102⟩
def i103r0:List It:=[.u 3 (.mv (.b false))]
def f103r0:AC:=.reg i103r0 (some [0,1])
def i103r1:List It:=[.u 4 (.ld false 1 (.t 1)),.m 5 0,.u 6 (.ia 1 (.t 4) (.t 5)),.u 7 (.ld false 1 (.t 6)),.u 8 (.un .not (.t 7)),.m 3 8]
def f103r1:AC:=.reg i103r1 (some [3])
def b103:AC:=(.seq f103r0 (.seq f103r1 .ret))
def f103:AF:=⟨2,[(3,none)],true,b103⟩
def i104r0:List It:=[.u 6 (.mv (.c (.tl [] (some true))))]
def f104r0:AC:=.reg i104r0 (some [0,1,2])
def i104r1:List It:=[.m 7 0,.m 8 1,.u 9 (.ia 1 (.t 8) (.i 0)),.u 10 (.ld false 1 (.t 9)),.u 11 (.bin .sub (.t 10) (.i 1)),.u 12 (.ia 2 (.t 7) (.t 11)),.u 13 (.fa 1 (.t 12)),.u 14 (.ld false 1 (.t 13)),.m 15 2,.u 16 (.ia 2 (.t 14) (.t 15)),.u 17 (.fa 1 (.t 16)),.u 18 (.ld false 1 (.t 17)),.u 19 (.call (.f 133) [true] [.t 18]),.m 20 1,.u 21 (.slc 1 (.t 20) (some (.i 1)) none),.u 22 (.app 1 8 (.t 19) (.t 21)),.m 6 22]
def f104r1:AC:=.reg i104r1 (some [6])
def b104:AC:=(.seq f104r0 (.seq f104r1 .ret))
def f104:AF:=⟨3,[(6,none)],true,b104⟩
def i105r0:List It:=[.u 6 (.mv (.c (.tl [] (some true))))]
def f105r0:AC:=.reg i105r0 (some [0,1,2])
def i105r1:List It:=[.u 7 (.mv (.c (.tl [] (some true))))]
def f105r1:AC:=.reg i105r1 (some [0,1,2,7])
def i105r2:List It:=[.m 11 0,.u 12 (.lenL (.t 11)),.u 13 (.mv (.i 0))]
def f105r2:AC:=.reg i105r2 (some [1,2,7,11,12,13])
def i105r3:List It:=[.u 14 (.bin .lss (.t 13) (.t 12))]
def f105r3:AC:=.reg i105r3 (some [1,2,7,11,12,13,14])
def i105r4:List It:=[.u 15 (.ia 1 (.t 11) (.t 13)),.u 16 (.ld false 1 (.t 15)),.m 9 16]
def f105r4:AC:=.reg i105r4 (some [1,2,7,9,11,12,13])
def i105r5:List It:=[.m 17 9,.u 18 (.ia 4 (.t 17) (.i 0)),.u 19 (.ld true 4 (.t 18)),.u 10 (.alloc 4 (.agg [(.d (.int .i64 0)),(.d (.int .i64 0)),(.d (.int .i64 0)),(.tl [] (some true))])),.o none (.st 4 (.t 10) (.t 19)) none,.frz 10]
def f105r5:AC:=.reg i105r5 (some [1,2,7,9,10,11,12,13])
def i105r6:List It:=[.u 21 (.fa 0 (.t 10)),.u 22 (.ld false 1 (.t 21)),.u 23 (.bin .eql (.t 22) (.i 0)),.m 20 23]
def f105r6:AC:=.reg i105r6 (some [1,2,7,9,10,11,12,13,20])
def i105r7:List It:=[.m 24 7,.m 25 2,.u 26 (.mkslT (.d (.agg [(.int .i64 0),(.int .i64 0),(.int .i64 0),(.lst [])])) 48 (.t 25)),.m 27 9,.u 28 (.slc 4 (.t 27) (some (.i 1)) none),.u 29 (.appd 4 48 (.t 26) (.t 28)),.u 30 (.bsl 1 [.t 29]),.u 31 (.app 1 24 (.t 24) (.t 30)),.m 7 31,.kill 10]
def f105r7:AC:=.reg i105r7 (some [1,2,7,11,12,13])
def i105r8:List It:=[.u 33 (.fa 0 (.t 10)),.u 34 (.ld false 1 (.t 33)),.u 35 (.bin .eql (.t 34) (.i 1)),.m 36 35,.g 37 (.fa 1 (.t 10)) 36 true,.g 38 (.ld false 1 (.t 37)) 36 true,.g 39 (.mv (.t 1)) 36 true,.g 40 (.bin .eql (.t 38) (.t 39)) 36 true,.u 41 (.pick (.t 36) (.t 40) (.b false)),.m 32 41]
def f105r8:AC:=.reg i105r8 (some [1,2,7,9,10,11,12,13,32])
def i105r9:List It:=[.m 42 7,.u 43 (.fa 3 (.t 10)),.u 44 (.ld false 1 (.t 43)),.u 45 (.call (.f 106) [true] [.t 44]),.m 46 9,.u 47 (.slc 4 (.t 46) (some (.i 1)) none),.u 48 (.appf 4 48 (.t 45) (.t 47)),.u 49 (.bsl 1 [.t 48]),.u 50 (.app 1 24 (.t 42) (.t 49)),.m 7 50,.kill 10]
def f105r9:AC:=.reg i105r9 (some [1,2,7,11,12,13])
def i105r10:List It:=[.u 51 (.bin .add (.t 13) (.i 1)),.m 13 51,.kill 10]
def f105r10:AC:=.reg i105r10 (some [1,2,7,11,12,13])
def f105l0:AC:=(.seq f105r3 (.seq (.cond (.t 14) .skip (.exit 0)) (.seq (.blk 1 (.seq f105r4 (.seq f105r5 (.blk 2 (.seq f105r6 (.cond (.t 20) f105r7 (.seq f105r8 (.cond (.t 32) f105r9 .skip)))))))) f105r10)))
def i105r11:List It:=[.m 52 7,.m 6 52]
def f105r11:AC:=.reg i105r11 (some [6])
def b105:AC:=(.seq f105r0 (.seq f105r1 (.seq (.seq f105r2 (.blk 0 (.loop f105l0))) (.seq f105r11 .ret))))
def f105:AF:=⟨3,[(6,none)],true,b105⟩
def i106r0:List It:=[.u 2 (.mv (.c (.tl [] (some true))))]
def f106r0:AC:=.reg i106r0 (some [0])
def i106r1:List It:=[.m 3 0,.u 4 (.nilBin .s .eql (.t 3))]
def f106r1:AC:=.reg i106r1 (some [0,4])
def i106r2:List It:=[.u 2 (.mv (.c (.tl [] (some true))))]
def f106r2:AC:=.reg i106r2 (some [2])
def i106r3:List It:=[.u 5 (.bsl 4 []),.m 6 0,.u 7 (.app 4 48 (.t 5) (.t 6)),.m 2 7]
def f106r3:AC:=.reg i106r3 (some [2])
def b106:AC:=(.seq f106r0 (.amb f106r1 (.t 4) (.seq f106r2 .ret) .skip (.seq f106r3 .ret)))
def f106:AF:=⟨1,[(2,none)],false,b106⟩
def i107r0:List It:=[.u 4 (.mv (.c (.tl [] (some true))))]
def f107r0:AC:=.reg i107r0 (some [0,1])
def i107r1:List It:=[.u 5 (.mv (.c (.tl [] (some true))))]
def f107r1:AC:=.reg i107r1 (some [0,1,5])
def i107r2:List It:=[.m 8 0,.u 9 (.lenL (.t 8)),.u 10 (.mv (.i 0))]
def f107r2:AC:=.reg i107r2 (some [1,5,8,9,10])
def i107r3:List It:=[.u 11 (.bin .lss (.t 10) (.t 9))]
def f107r3:AC:=.reg i107r3 (some [1,5,8,9,10,11])
def i107r4:List It:=[.u 12 (.ia 1 (.t 8) (.t 10)),.u 13 (.ld false 1 (.t 12)),.m 7 13]
def f107r4:AC:=.reg i107r4 (some [1,5,7,8,9,10])
def i107r5:List It:=[.m 14 1,.m 15 7,.u 16 (.ia 4 (.t 15) (.i 0)),.u 17 (.ld true 4 (.t 16)),.u 18 (.call (.t 14) [true] [.t 17])]
def f107r5:AC:=.reg i107r5 (some [1,5,7,8,9,10,18])
def i107r6:List It:=[.m 19 5,.m 20 7,.u 21 (.slc 4 (.t 20) (some (.i 1)) none),.u 22 (.bsl 1 [.t 21]),.u 23 (.app 1 24 (.t 19) (.t 22)),.m 5 23]
def f107r6:AC:=.reg i107r6 (some [1,5,8,9,10])
def i107r7:List It:=[.u 24 (.bin .add (.t 10) (.i 1)),.m 10 24]
def f107r7:AC:=.reg i107r7 (some [1,5,8,9,10])
def f107l0:AC:=(.seq f107r3 (.seq (.cond (.t 11) .skip (.exit 0)) (.seq (.blk 1 (.seq f107r4 (.seq f107r5 (.cond (.t 18) f107r6 .skip)))) f107r7)))
def i107r8:List It:=[.m 25 5,.m 4 25]
def f107r8:AC:=.reg i107r8 (some [4])
def b107:AC:=(.seq f107r0 (.seq f107r1 (.seq (.seq f107r2 (.blk 0 (.loop f107l0))) (.seq f107r8 .ret))))
def f107:AF:=⟨2,[(4,none)],true,b107⟩
def i108r0:List It:=[.u 2 (.box 4 (.t 0)),.u 3 (.mv (.b false)),.frz 2]
def f108r0:AC:=.reg i108r0 (some [1,2])
def i108r1:List It:=[.u 4 (.ld true 4 (.t 2)),.u 5 (.call (.f 109) [true] [.t 4]),.m 6 5,.g 7 (.fa 2 (.t 2)) 6 false,.g 8 (.ld false 1 (.t 7)) 6 false,.g 9 (.fa 2 (.t 1)) 6 false,.g 10 (.ld false 1 (.t 9)) 6 false,.g 11 (.bin .eql (.t 8) (.t 10)) 6 false,.u 12 (.pick (.t 6) (.b true) (.t 11)),.m 3 12,.kill 2]
def f108r1:AC:=.reg i108r1 (some [3])
def b108:AC:=(.seq f108r0 (.seq f108r1 .ret))
def f108:AF:=⟨2,[(3,none)],true,b108⟩
def i109r0:List It:=[.u 1 (.box 4 (.t 0)),.u 2 (.mv (.b false)),.frz 1]
def f109r0:AC:=.reg i109r0 (some [1])
def i109r1:List It:=[.u 3 (.fa 0 (.t 1)),.u 4 (.ld false 1 (.t 3)),.u 5 (.bin .eql (.t 4) (.i 0)),.m 2 5,.kill 1]
def f109r1:AC:=.reg i109r1 (some [2])
def b109:AC:=(.seq f109r0 (.seq f109r1 .ret))
def f109:AF:=⟨1,[(2,none)],true,b109⟩
def i110r0:List It:=[.u 2 (.mv (.c (.d .nilm))),.u 3 (.mv (.c (.d .nilm)))]
def f110r0:AC:=.reg i110r0 (some [0])
def i110r1:List It:=[.u 8 (.mkmap),.u 9 (.mkmap),.m 4 8,.m 5 9]
def f110r1:AC:=.reg i110r1 (some [0,4,5])
def i110r2:List It:=[.m 10 0,.u 11 (.lenL (.t 10)),.u 12 (.mv (.i 0))]
def f110r2:AC:=.reg i110r2 (some [4,5,10,11,12])
def i110r3:List It:=[.u 13 (.bin .lss (.t 12) (.t 11))]
def f110r3:AC:=.reg i110r3 (some [4,5,10,11,12,13])
def i110r4:List It:=[.u 14 (.ia 1 (.t 10) (.t 12)),.u 15 (.ld false 1 (.t 14)),.m 7 15]
def f110r4:AC:=.reg i110r4 (some [4,5,7,10,11,12])
def i110r5:List It:=[.m 16 7,.u 17 (.ia 4 (.t 16) (.i 0)),.u 18 (.fa 0 (.t 17)),.u 19 (.ld false 1 (.t 18))]
def f110r5:AC:=.reg i110r5 (some [4,5,7,10,11,12,19])
def i110r6:List It:=[.u 21 (.bin .eql (.t 19) (.i 1)),.m 20 21]
def f110r6:AC:=.reg i110r6 (some [4,5,7,10,11,12,19,20])
def i110r7:List It:=[.m 22 4,.m 23 7,.u 24 (.ia 4 (.t 23) (.i 0)),.u 25 (.fa 1 (.t 24)),.u 26 (.ld false 1 (.t 25)),.o none (.mu .i (.t 22) (.t 26) (.b true)) none]
def f110r7:AC:=.reg i110r7 (some [4,5,10,11,12])
def i110r8:List It:=[.u 28 (.bin .eql (.t 19) (.i 2)),.m 27 28]
def f110r8:AC:=.reg i110r8 (some [4,5,7,10,11,12,27])
def i110r9:List It:=[.m 29 5,.m 30 7,.u 31 (.ia 4 (.t 30) (.i 0)),.u 32 (.fa 2 (.t 31)),.u 33 (.ld false 1 (.t 32)),.o none (.mu .i (.t 29) (.t 33) (.b true)) none]
def f110r9:AC:=.reg i110r9 (some [4,5,10,11,12])
def i110r10:List It:=[.u 34 (.bin .add (.t 12) (.i 1)),.m 12 34]
def f110r10:AC:=.reg i110r10 (some [4,5,10,11,12])
def f110l0:AC:=(.seq f110r3 (.seq (.cond (.t 13) .skip (.exit 0)) (.seq (.blk 1 (.seq f110r4 (.seq f110r5 (.blk 2 (.seq f110r6 (.cond (.t 20) f110r7 (.seq f110r8 (.cond (.t 27) f110r9 .skip)))))))) f110r10)))
def i110r11:List It:=[.m 35 4,.m 36 5,.m 2 35,.m 3 36]
def f110r11:AC:=.reg i110r11 (some [2,3])
def b110:AC:=(.seq f110r0 (.seq f110r1 (.seq (.seq f110r2 (.blk 0 (.loop f110l0))) (.seq f110r11 .ret))))
def f110:AF:=⟨1,[(2,none),(3,none)],false,b110⟩
def i111r0:List It:=[.u 3 (.box 1 (.t 0)),.frz 3,.u 4 (.box 1 (.t 1)),.frz 4,.u 5 (.box 1 (.t 2)),.frz 5,.u 6 (.mv (.c (.d .nilf)))]
def f111r0:AC:=.reg i111r0 (some [3,4,5])
def i111r1:List It:=[.u 7 (.mkf 134 [.t 3,.t 4,.t 5]),.m 6 7]
def f111r1:AC:=.reg i111r1 (some [6])
def b111:AC:=(.seq f111r0 (.seq f111r1 .ret))
def f111:AF:=⟨3,[(6,none)],false,b111⟩
def i112r0:List It:=[.u 2 (.mv (.c (.tl [] (some true))))]
def f112r0:AC:=.reg i112r0 (some [0])
def i112r1:List It:=[.u 3 (.mv (.i 0))]
def f112r1:AC:=.reg i112r1 (some [0,3])
def i112r2:List It:=[.m 9 0,.u 10 (.lenL (.t 9)),.u 11 (.mv (.i 0))]
def f112r2:AC:=.reg i112r2 (some [0,3,9,10,11])
def i112r3:List It:=[.u 12 (.bin .lss (.t 11) (.t 10))]
def f112r3:AC:=.reg i112r3 (some [0,3,9,10,11,12])
def i112r4:List It:=[.u 13 (.ia 1 (.t 9) (.t 11)),.u 14 (.ld false 1 (.t 13)),.m 5 14]
def f112r4:AC:=.reg i112r4 (some [0,3,5,9,10,11])
def i112r5:List It:=[.m 15 3,.m 16 5,.u 17 (.lenL (.t 16)),.u 18 (.bin .add (.t 15) (.t 17)),.m 3 18]
def f112r5:AC:=.reg i112r5 (some [0,3,9,10,11])
def i112r6:List It:=[.m 19 3,.u 20 (.bin .lss (.t 19) (.i 0))]
def f112r6:AC:=.reg i112r6 (some [0,3,9,10,11,20])
def i112r7:List It:=[.u 21 (.stuck),.o none (.stuck) none]
def f112r7:AC:=.reg i112r7 (some [0,3,9,10,11])
def i112r8:List It:=[.u 22 (.bin .add (.t 11) (.i 1)),.m 11 22]
def f112r8:AC:=.reg i112r8 (some [0,3,9,10,11])
def f112l0:AC:=(.seq f112r3 (.seq (.cond (.t 12) .skip (.exit 0)) (.seq (.blk 1 (.seq f112r4 (.seq f112r5 (.seq f112r6 (.cond (.t 20) f112r7 .skip))))) f112r8)))
def i112r9:List It:=[.m 23 3,.u 24 (.call (.f 135) [false,true] [(.c (.tl [] (some true))),.t 23]),.m 6 24]
def f112r9:AC:=.reg i112r9 (some [0,6])
def i112r10:List It:=[.m 25 0,.u 26 (.lenL (.t 25)),.u 27 (.mv (.i 0))]
def f112r10:AC:=.reg i112r10 (some [6,25,26,27])
def i112r11:List It:=[.u 28 (.bin .lss (.t 27) (.t 26))]
def f112r11:AC:=.reg i112r11 (some [6,25,26,27,28])
def i112r12:List It:=[.u 29 (.ia 1 (.t 25) (.t 27)),.u 30 (.ld false 1 (.t 29)),.m 8 30]
def f112r12:AC:=.reg i112r12 (some [6,8,25,26,27])
def i112r13:List It:=[.m 31 6,.m 32 8,.u 33 (.app 4 64 (.t 31) (.t 32)),.m 6 33]
def f112r13:AC:=.reg i112r13 (some [6,25,26,27])
def i112r14:List It:=[.u 34 (.bin .add (.t 27) (.i 1)),.m 27 34]
def f112r14:AC:=.reg i112r14 (some [6,25,26,27])
def f112l1:AC:=(.seq f112r11 (.seq (.cond (.t 28) .skip (.exit 2)) (.seq (.blk 3 (.seq f112r12 f112r13)) f112r14)))
def i112r15:List It:=[.m 35 6,.m 2 35]
def f112r15:AC:=.reg i112r15 (some [2])
def b112:AC:=(.seq f112r0 (.seq f112r1 (.seq (.seq f112r2 (.blk 0 (.loop f112l0))) (.seq f112r9 (.seq (.seq f112r10 (.blk 2 (.loop f112l1))) (.seq f112r15 .ret))))))
def f112:AF:=⟨1,[(2,none)],false,b112⟩
def i113r0:List It:=[.u 4 (.mv (.i 0))]
def f113r0:AC:=.reg i113r0 (some [0,1])
def i113r1:List It:=[.m 6 0,.u 7 (.lenL (.t 6)),.u 8 (.mv (.i 0))]
def f113r1:AC:=.reg i113r1 (some [0,1,7,8])
def i113r2:List It:=[.u 9 (.bin .lss (.t 8) (.t 7))]
def f113r2:AC:=.reg i113r2 (some [0,1,7,8,9])
def i113r3:List It:=[.m 10 8,.m 5 10]
def f113r3:AC:=.reg i113r3 (some [0,1,5,7,8])
def i113r4:List It:=[.m 11 1,.m 12 0,.m 13 5,.u 14 (.ia 1 (.t 12) (.t 13)),.u 15 (.ld false 1 (.t 14)),.u 16 (.bin .eql (.t 11) (.t 15))]
def f113r4:AC:=.reg i113r4 (some [0,1,5,7,8,16])
def i113r5:List It:=[.m 17 5,.m 4 17]
def f113r5:AC:=.reg i113r5 (some [4])
def i113r6:List It:=[.u 18 (.bin .add (.t 8) (.i 1)),.m 8 18]
def f113r6:AC:=.reg i113r6 (some [0,1,7,8])
def f113l0:AC:=(.seq f113r2 (.seq (.cond (.t 9) .skip (.exit 0)) (.seq (.blk 1 (.seq f113r3 (.seq f113r4 (.cond (.t 16) (.seq f113r5 .ret) .skip)))) f113r6)))
def i113r7:List It:=[.u 4 (.mv (.i (-1)))]
def f113r7:AC:=.reg i113r7 (some [4])
def b113:AC:=(.seq f113r0 (.seq (.seq f113r1 (.blk 0 (.loop f113l0))) (.seq f113r7 .ret)))
def f113:AF:=⟨2,[(4,none)],true,b113⟩
def i114r0:List It:=[.u 4 (.mv (.i 0))]
def f114r0:AC:=.reg i114r0 (some [0,1])
def i114r1:List It:=[.m 6 0,.u 7 (.lenL (.t 6)),.u 8 (.mv (.i 0))]
def f114r1:AC:=.reg i114r1 (some [0,1,7,8])
def i114r2:List It:=[.u 9 (.bin .lss (.t 8) (.t 7))]
def f114r2:AC:=.reg i114r2 (some [0,1,7,8,9])
def i114r3:List It:=[.m 10 8,.m 5 10]
def f114r3:AC:=.reg i114r3 (some [0,1,5,7,8])
def i114r4:List It:=[.m 11 1,.m 12 0,.m 13 5,.u 14 (.ia 1 (.t 12) (.t 13)),.u 15 (.ld false 1 (.t 14)),.u 16 (.binB .eql (.t 11) (.t 15))]
def f114r4:AC:=.reg i114r4 (some [0,1,5,7,8,16])
def i114r5:List It:=[.m 17 5,.m 4 17]
def f114r5:AC:=.reg i114r5 (some [4])
def i114r6:List It:=[.u 18 (.bin .add (.t 8) (.i 1)),.m 8 18]
def f114r6:AC:=.reg i114r6 (some [0,1,7,8])
def f114l0:AC:=(.seq f114r2 (.seq (.cond (.t 9) .skip (.exit 0)) (.seq (.blk 1 (.seq f114r3 (.seq f114r4 (.cond (.t 16) (.seq f114r5 .ret) .skip)))) f114r6)))
def i114r7:List It:=[.u 4 (.mv (.i (-1)))]
def f114r7:AC:=.reg i114r7 (some [4])
def b114:AC:=(.seq f114r0 (.seq (.seq f114r1 (.blk 0 (.loop f114l0))) (.seq f114r7 .ret)))
def f114:AF:=⟨2,[(4,none)],true,b114⟩
def i115r0:List It:=[.u 2 (.mv (.b false))]
def f115r0:AC:=.reg i115r0 (some [0])
def i115r1:List It:=[.m 5 0,.u 6 (.lenL (.t 5)),.u 7 (.bin .gtr (.t 6) (.i 64))]
def f115r1:AC:=.reg i115r1 (some [0,7])
def i115r2:List It:=[.u 2 (.mv (.b true))]
def f115r2:AC:=.reg i115r2 (some [2])
def i115r3:List It:=[.u 3 (.mv (.i 0))]
def f115r3:AC:=.reg i115r3 (some [0,3])
def i115r4:List It:=[.m 8 3,.m 9 0,.u 10 (.lenL (.t 9)),.u 11 (.bin .lss (.t 8) (.t 10))]
def f115r4:AC:=.reg i115r4 (some [0,3,11])
def i115r5:List It:=[.m 14 0,.m 15 3,.u 16 (.ia 2 (.t 14) (.t 15)),.u 17 (.fa 1 (.t 16)),.u 18 (.ld false 1 (.t 17)),.u 19 (.lenL (.t 18)),.u 20 (.bin .gtr (.t 19) (.i 16))]
def f115r5:AC:=.reg i115r5 (some [0,3,20])
def i115r6:List It:=[.u 2 (.mv (.b true))]
def f115r6:AC:=.reg i115r6 (some [2])
def i115r7:List It:=[.u 4 (.mv (.i 0))]
def f115r7:AC:=.reg i115r7 (some [0,3,4])
def i115r8:List It:=[.m 21 4,.m 22 0,.m 23 3,.u 24 (.ia 2 (.t 22) (.t 23)),.u 25 (.fa 1 (.t 24)),.u 26 (.ld false 1 (.t 25)),.u 27 (.lenL (.t 26)),.u 28 (.bin .lss (.t 21) (.t 27))]
def f115r8:AC:=.reg i115r8 (some [0,3,4,28])
def i115r9:List It:=[.m 31 0,.m 32 3,.u 33 (.ia 2 (.t 31) (.t 32)),.u 34 (.fa 1 (.t 33)),.u 35 (.ld false 1 (.t 34)),.m 36 4,.u 37 (.ia 2 (.t 35) (.t 36)),.u 38 (.fa 1 (.t 37)),.u 39 (.ld false 1 (.t 38)),.u 40 (.lenL (.t 39)),.u 41 (.bin .gtr (.t 40) (.i 6))]
def f115r9:AC:=.reg i115r9 (some [0,3,4,41])
def i115r10:List It:=[.u 2 (.mv (.b true))]
def f115r10:AC:=.reg i115r10 (some [2])
def i115r11:List It:=[.m 29 4,.u 30 (.bin .add (.t 29) (.i 1)),.m 4 30]
def f115r11:AC:=.reg i115r11 (some [0,3,4])
def f115l0:AC:=(.seq (.seq f115r8 (.cond (.t 28) .skip (.exit 2))) (.seq (.blk 3 (.seq f115r9 (.cond (.t 41) (.seq f115r10 .ret) .skip))) f115r11))
def i115r12:List It:=[.m 12 3,.u 13 (.bin .add (.t 12) (.i 1)),.m 3 13]
def f115r12:AC:=.reg i115r12 (some [0,3])
def f115l1:AC:=(.seq (.seq f115r4 (.cond (.t 11) .skip (.exit 0))) (.seq (.blk 1 (.seq (.seq f115r5 (.cond (.t 20) (.seq f115r6 .ret) .skip)) (.seq f115r7 (.blk 2 (.loop f115l0))))) f115r12))
def i115r13:List It:=[.u 2 (.mv (.b false))]
def f115r13:AC:=.reg i115r13 (some [2])
def b115:AC:=(.seq f115r0 (.seq (.seq f115r1 (.cond (.t 7) (.seq f115r2 .ret) .skip)) (.seq (.seq f115r3 (.blk 0 (.loop f115l1))) (.seq f115r13 .ret))))
def f115:AF:=⟨1,[(2,none)],true,b115⟩
def i116r0:List It:=[.u 2 (.mv (.b false))]
def f116r0:AC:=.reg i116r0 (some [0])
def i116r1:List It:=[.m 7 0,.u 8 (.lenL (.t 7)),.u 9 (.bin .eql (.t 8) (.i 0)),.m 10 9,.g 11 (.mv (.t 0)) 10 false,.g 12 (.ia 2 (.t 11) (.i 0)) 10 false,.g 13 (.fa 0 (.t 12)) 10 false,.g 14 (.ld false 1 (.t 13)) 10 false,.g 15 (.bin .neq (.t 14) (.c (.d (.str ⟨#[66,111,111,108]⟩)))) 10 false,.u 16 (.pick (.t 10) (.b true) (.t 15)),.m 17 16,.g 18 (.mv (.t 0)) 17 false,.g 19 (.ia 2 (.t 18) (.i 0)) 17 false,.g 20 (.fa 1 (.t 19)) 17 false,.g 21 (.ld false 1 (.t 20)) 17 false,.g 22 (.lenL (.t 21)) 17 false,.g 23 (.bin .neq (.t 22) (.i 2)) 17 false,.u 24 (.pick (.t 17) (.b true) (.t 23))]
def f116r1:AC:=.reg i116r1 (some [0,24])
def i116r2:List It:=[.u 2 (.mv (.b false))]
def f116r2:AC:=.reg i116r2 (some [2])
def i116r3:List It:=[.m 25 0,.u 26 (.ia 2 (.t 25) (.i 0)),.u 27 (.fa 1 (.t 26)),.u 28 (.ld false 1 (.t 27)),.u 29 (.ia 2 (.t 28) (.i 0)),.u 30 (.ld true 2 (.t 29)),.m 31 0,.u 32 (.ia 2 (.t 31) (.i 0)),.u 33 (.fa 1 (.t 32)),.u 34 (.ldf false 1 (.t 33)),.u 35 (.ia 2 (.t 34) (.i 1)),.u 36 (.ldf true 2 (.t 35)),.u 3 (.alloc 2 (.agg [(.d (.str ⟨#[]⟩)),(.tl [] (some true))])),.u 4 (.alloc 2 (.agg [(.d (.str ⟨#[]⟩)),(.tl [] (some true))])),.o none (.st 2 (.t 3) (.t 30)) none,.o none (.st 2 (.t 4) (.t 36)) none,.frz 3,.frz 4]
def f116r3:AC:=.reg i116r3 (some [0,3,4])
def i116r4:List It:=[.u 37 (.fa 0 (.t 3)),.u 38 (.ld false 1 (.t 37)),.u 39 (.bin .neq (.t 38) (.c (.d (.str ⟨#[70,97,108,115,101]⟩)))),.m 40 39,.g 41 (.fa 0 (.t 4)) 40 false,.g 42 (.ld false 1 (.t 41)) 40 false,.g 43 (.bin .neq (.t 42) (.c (.d (.str ⟨#[84,114,117,101]⟩)))) 40 false,.u 44 (.pick (.t 40) (.b true) (.t 43)),.m 45 44,.g 46 (.fa 1 (.t 3)) 45 false,.g 47 (.ld false 1 (.t 46)) 45 false,.g 48 (.lenL (.t 47)) 45 false,.g 49 (.bin .gtr (.t 48) (.i 0)) 45 false,.u 50 (.pick (.t 45) (.b true) (.t 49)),.m 51 50,.g 52 (.fa 1 (.t 4)) 51 false,.g 53 (.ld false 1 (.t 52)) 51 false,.g 54 (.lenL (.t 53)) 51 false,.g 55 (.bin .gtr (.t 54) (.i 0)) 51 false,.u 56 (.pick (.t 51) (.b true) (.t 55)),.kill 3,.kill 4]
def f116r4:AC:=.reg i116r4 (some [0,56])
def i116r5:List It:=[.u 2 (.mv (.b false))]
def f116r5:AC:=.reg i116r5 (some [2])
def i116r6:List It:=[.u 5 (.mv (.i 0))]
def f116r6:AC:=.reg i116r6 (some [0,5])
def i116r7:List It:=[.m 57 5,.m 58 0,.u 59 (.lenL (.t 58)),.u 60 (.bin .lss (.t 57) (.t 59))]
def f116r7:AC:=.reg i116r7 (some [0,5,60])
def i116r8:List It:=[.m 63 0,.m 64 5,.u 65 (.ia 2 (.t 63) (.t 64)),.u 66 (.fa 0 (.t 65)),.u 67 (.ld false 1 (.t 66)),.u 68 (.call (.f 136) [true] [.t 67]),.u 69 (.un .not (.t 68)),.m 70 69,.g 71 (.mv (.t 0)) 70 false,.g 72 (.mv (.t 5)) 70 false,.g 73 (.ia 2 (.t 71) (.t 72)) 70 false,.g 74 (.fa 1 (.t 73)) 70 false,.g 75 (.ld false 1 (.t 74)) 70 false,.g 76 (.lenL (.t 75)) 70 false,.g 77 (.bin .eql (.t 76) (.i 0)) 70 false,.u 78 (.pick (.t 70) (.b true) (.t 77))]
def f116r8:AC:=.reg i116r8 (some [0,5,78])
def i116r9:List It:=[.u 2 (.mv (.b false))]
def f116r9:AC:=.reg i116r9 (some [2])
def i116r10:List It:=[.u 6 (.mv (.i 0))]
def f116r10:AC:=.reg i116r10 (some [0,5,6])
def i116r11:List It:=[.m 79 6,.m 80 0,.m 81 5,.u 82 (.ia 2 (.t 80) (.t 81)),.u 83 (.fa 1 (.t 82)),.u 84 (.ld false 1 (.t 83)),.u 85 (.lenL (.t 84)),.u 86 (.bin .lss (.t 79) (.t 85))]
def f116r11:AC:=.reg i116r11 (some [0,5,6,86])
def i116r12:List It:=[.m 89 0,.m 90 5,.u 91 (.ia 2 (.t 89) (.t 90)),.u 92 (.fa 1 (.t 91)),.u 93 (.ld false 1 (.t 92)),.m 94 6,.u 95 (.ia 2 (.t 93) (.t 94)),.u 96 (.fa 0 (.t 95)),.u 97 (.ld false 1 (.t 96)),.u 98 (.call (.f 136) [true] [.t 97]),.u 99 (.un .not (.t 98))]
def f116r12:AC:=.reg i116r12 (some [0,5,6,99])
def i116r13:List It:=[.u 2 (.mv (.b false))]
def f116r13:AC:=.reg i116r13 (some [2])
def i116r14:List It:=[.m 87 6,.u 88 (.bin .add (.t 87) (.i 1)),.m 6 88]
def f116r14:AC:=.reg i116r14 (some [0,5,6])
def f116l0:AC:=(.seq (.seq f116r11 (.cond (.t 86) .skip (.exit 2))) (.seq (.blk 3 (.seq f116r12 (.cond (.t 99) (.seq f116r13 .ret) .skip))) f116r14))
def i116r15:List It:=[.m 61 5,.u 62 (.bin .add (.t 61) (.i 1)),.m 5 62]
def f116r15:AC:=.reg i116r15 (some [0,5])
def f116l1:AC:=(.seq (.seq f116r7 (.cond (.t 60) .skip (.exit 0))) (.seq (.blk 1 (.seq (.seq f116r8 (.cond (.t 78) (.seq f116r9 .ret) .skip)) (.seq f116r10 (.blk 2 (.loop f116l0))))) f116r15))
def i116r16:List It:=[.u 2 (.mv (.b true))]
def f116r16:AC:=.reg i116r16 (some [2])
def b116:AC:=(.seq f116r0 (.seq (.seq f116r1 (.cond (.t 24) (.seq f116r2 .ret) .skip)) (.seq f116r3 (.seq (.seq f116r4 (.cond (.t 56) (.seq f116r5 .ret) .skip)) (.seq (.seq f116r6 (.blk 0 (.loop f116l1))) (.seq f116r16 .ret))))))
def f116:AF:=⟨1,[(2,none)],true,b116⟩
def i117r0:List It:=[.u 2 (.mv (.b false))]
def f117r0:AC:=.reg i117r0 (some [0])
def i117r1:List It:=[.u 3 (.mv (.c (.tl [] (some true)))),.u 4 (.mv (.c (.tl [] (some true))))]
def f117r1:AC:=.reg i117r1 (some [0,3,4])
def i117r2:List It:=[.m 7 3,.u 8 (.bsl 1 [(.c (.d (.str ⟨#[73,110,116]⟩)))]),.u 9 (.app 1 16 (.t 7) (.t 8)),.m 3 9]
def f117r2:AC:=.reg i117r2 (some [0,3,4])
def i117r3:List It:=[.u 5 (.mv (.i 0))]
def f117r3:AC:=.reg i117r3 (some [0,3,4,5])
def i117r4:List It:=[.m 10 5,.m 11 0,.u 12 (.lenL (.t 11)),.u 13 (.bin .lss (.t 10) (.t 12))]
def f117r4:AC:=.reg i117r4 (some [0,3,4,5,13])
def i117r5:List It:=[.m 16 3,.m 17 0,.m 18 5,.u 19 (.ia 2 (.t 17) (.t 18)),.u 20 (.fa 0 (.t 19)),.u 21 (.ld false 1 (.t 20)),.u 22 (.call (.f 137) [true,true] [.t 16,.t 21])]
def f117r5:AC:=.reg i117r5 (some [0,3,4,5,22])
def i117r6:List It:=[.u 2 (.mv (.b true))]
def f117r6:AC:=.reg i117r6 (some [2])
def i117r7:List It:=[.m 23 3,.m 24 0,.m 25 5,.u 26 (.ia 2 (.t 24) (.t 25)),.u 27 (.fa 0 (.t 26)),.u 28 (.ld false 1 (.t 27)),.u 29 (.bsl 1 [.t 28]),.u 30 (.app 1 16 (.t 23) (.t 29)),.m 3 30]
def f117r7:AC:=.reg i117r7 (some [0,3,4,5])
def i117r8:List It:=[.u 6 (.mv (.i 0))]
def f117r8:AC:=.reg i117r8 (some [0,3,4,5,6])
def i117r9:List It:=[.m 31 6,.m 32 0,.m 33 5,.u 34 (.ia 2 (.t 32) (.t 33)),.u 35 (.fa 1 (.t 34)),.u 36 (.ld false 1 (.t 35)),.u 37 (.lenL (.t 36)),.u 38 (.bin .lss (.t 31) (.t 37))]
def f117r9:AC:=.reg i117r9 (some [0,3,4,5,6,38])
def i117r10:List It:=[.m 41 4,.m 42 0,.m 43 5,.u 44 (.ia 2 (.t 42) (.t 43)),.u 45 (.fa 1 (.t 44)),.u 46 (.ld false 1 (.t 45)),.m 47 6,.u 48 (.ia 2 (.t 46) (.t 47)),.u 49 (.fa 0 (.t 48)),.u 50 (.ld false 1 (.t 49)),.u 51 (.call (.f 137) [true,true] [.t 41,.t 50])]
def f117r10:AC:=.reg i117r10 (some [0,3,4,5,6,51])
def i117r11:List It:=[.u 2 (.mv (.b true))]
def f117r11:AC:=.reg i117r11 (some [2])
def i117r12:List It:=[.m 52 4,.m 53 0,.m 54 5,.u 55 (.ia 2 (.t 53) (.t 54)),.u 56 (.fa 1 (.t 55)),.u 57 (.ld false 1 (.t 56)),.m 58 6,.u 59 (.ia 2 (.t 57) (.t 58)),.u 60 (.fa 0 (.t 59)),.u 61 (.ld false 1 (.t 60)),.u 62 (.bsl 1 [.t 61]),.u 63 (.app 1 16 (.t 52) (.t 62)),.m 4 63]
def f117r12:AC:=.reg i117r12 (some [0,3,4,5,6])
def i117r13:List It:=[.m 39 6,.u 40 (.bin .add (.t 39) (.i 1)),.m 6 40]
def f117r13:AC:=.reg i117r13 (some [0,3,4,5,6])
def f117l0:AC:=(.seq (.seq f117r9 (.cond (.t 38) .skip (.exit 2))) (.seq (.blk 3 (.seq (.seq f117r10 (.cond (.t 51) (.seq f117r11 .ret) .skip)) f117r12)) f117r13))
def i117r14:List It:=[.m 14 5,.u 15 (.bin .add (.t 14) (.i 1)),.m 5 15]
def f117r14:AC:=.reg i117r14 (some [0,3,4,5])
def f117l1:AC:=(.seq (.seq f117r4 (.cond (.t 13) .skip (.exit 0))) (.seq (.blk 1 (.seq (.seq f117r5 (.cond (.t 22) (.seq f117r6 .ret) .skip)) (.seq f117r7 (.seq f117r8 (.blk 2 (.loop f117l0)))))) f117r14))
def i117r15:List It:=[.u 2 (.mv (.b false))]
def f117r15:AC:=.reg i117r15 (some [2])
def b117:AC:=(.seq f117r0 (.seq f117r1 (.seq f117r2 (.seq (.seq f117r3 (.blk 0 (.loop f117l1))) (.seq f117r15 .ret)))))
def f117:AF:=⟨1,[(2,none)],true,b117⟩
def i118r0:List It:=[.u 2 (.mv (.b false))]
def f118r0:AC:=.reg i118r0 (some [0])
def i118r1:List It:=[.u 3 (.mv (.i 0))]
def f118r1:AC:=.reg i118r1 (some [0,3])
def i118r2:List It:=[.m 7 3,.m 8 0,.u 9 (.lenL (.t 8)),.u 10 (.bin .lss (.t 7) (.t 9))]
def f118r2:AC:=.reg i118r2 (some [0,3,10])
def i118r3:List It:=[.u 4 (.mv (.i 0))]
def f118r3:AC:=.reg i118r3 (some [0,3,4])
def i118r4:List It:=[.m 13 4,.m 14 0,.m 15 3,.u 16 (.ia 2 (.t 14) (.t 15)),.u 17 (.fa 1 (.t 16)),.u 18 (.ld false 1 (.t 17)),.u 19 (.lenL (.t 18)),.u 20 (.bin .lss (.t 13) (.t 19))]
def f118r4:AC:=.reg i118r4 (some [0,3,4,20])
def i118r5:List It:=[.m 23 0,.m 24 3,.u 25 (.ia 2 (.t 23) (.t 24)),.u 26 (.fa 1 (.t 25)),.u 27 (.ld false 1 (.t 26)),.m 28 4,.u 29 (.ia 2 (.t 27) (.t 28)),.u 30 (.fa 1 (.t 29)),.u 31 (.ld false 1 (.t 30)),.m 5 31]
def f118r5:AC:=.reg i118r5 (some [0,3,4,5])
def i118r6:List It:=[.u 6 (.mv (.i 0))]
def f118r6:AC:=.reg i118r6 (some [0,3,4,5,6])
def i118r7:List It:=[.m 32 6,.m 33 5,.u 34 (.lenL (.t 33)),.u 35 (.bin .lss (.t 32) (.t 34))]
def f118r7:AC:=.reg i118r7 (some [0,3,4,5,6,35])
def i118r8:List It:=[.m 38 0,.m 39 5,.m 40 6,.u 41 (.ia 1 (.t 39) (.t 40)),.u 42 (.ld false 1 (.t 41)),.u 43 (.call (.f 138) [true,true] [.t 38,.t 42]),.u 44 (.un .not (.t 43))]
def f118r8:AC:=.reg i118r8 (some [0,3,4,5,6,44])
def i118r9:List It:=[.u 2 (.mv (.b false))]
def f118r9:AC:=.reg i118r9 (some [2])
def i118r10:List It:=[.m 36 6,.u 37 (.bin .add (.t 36) (.i 1)),.m 6 37]
def f118r10:AC:=.reg i118r10 (some [0,3,4,5,6])
def f118l0:AC:=(.seq (.seq f118r7 (.cond (.t 35) .skip (.exit 4))) (.seq (.blk 5 (.seq f118r8 (.cond (.t 44) (.seq f118r9 .ret) .skip))) f118r10))
def i118r11:List It:=[.m 21 4,.u 22 (.bin .add (.t 21) (.i 1)),.m 4 22]
def f118r11:AC:=.reg i118r11 (some [0,3,4])
def f118l1:AC:=(.seq (.seq f118r4 (.cond (.t 20) .skip (.exit 2))) (.seq (.blk 3 (.seq f118r5 (.seq f118r6 (.blk 4 (.loop f118l0))))) f118r11))
def i118r12:List It:=[.m 11 3,.u 12 (.bin .add (.t 11) (.i 1)),.m 3 12]
def f118r12:AC:=.reg i118r12 (some [0,3])
def f118l2:AC:=(.seq (.seq f118r2 (.cond (.t 10) .skip (.exit 0))) (.seq (.blk 1 (.seq f118r3 (.blk 2 (.loop f118l1)))) f118r12))
def i118r13:List It:=[.u 2 (.mv (.b true))]
def f118r13:AC:=.reg i118r13 (some [2])
def b118:AC:=(.seq f118r0 (.seq (.seq f118r1 (.blk 0 (.loop f118l2))) (.seq f118r13 .ret)))
def f118:AF:=⟨1,[(2,none)],true,b118⟩
def i119r0:List It:=[.u 2 (.mv (.b false))]
def f119r0:AC:=.reg i119r0 (some [0])
def i119r1:List It:=[.m 11 0,.u 12 (.lenL (.t 11)),.u 13 (.bin .add (.t 12) (.i 1)),.u 14 (.mksl (.d (.bool false)) 1 1 (.t 13)),.m 3 14]
def f119r1:AC:=.reg i119r1 (some [0,3])
def i119r2:List It:=[.m 15 3,.u 16 (.ia 1 (.t 15) (.i 0)),.o none (.st 1 (.t 16) (.b true)) none]
def f119r2:AC:=.reg i119r2 (some [0,3])
def i119r3:List It:=[.u 4 (.mv (.i 0))]
def f119r3:AC:=.reg i119r3 (some [0,3,4])
def i119r4:List It:=[.m 17 4,.m 18 0,.u 19 (.lenL (.t 18)),.u 20 (.bin .leq (.t 17) (.t 19))]
def f119r4:AC:=.reg i119r4 (some [0,3,4,20])
def i119r5:List It:=[.u 5 (.mv (.i 0))]
def f119r5:AC:=.reg i119r5 (some [0,3,4,5])
def i119r6:List It:=[.m 23 5,.m 24 0,.u 25 (.lenL (.t 24)),.u 26 (.bin .lss (.t 23) (.t 25))]
def f119r6:AC:=.reg i119r6 (some [0,3,4,5,26])
def i119r7:List It:=[.u 6 (.mv (.i 0))]
def f119r7:AC:=.reg i119r7 (some [0,3,4,5,6])
def i119r8:List It:=[.m 29 6,.m 30 0,.m 31 5,.u 32 (.ia 2 (.t 30) (.t 31)),.u 33 (.fa 1 (.t 32)),.u 34 (.ld false 1 (.t 33)),.u 35 (.lenL (.t 34)),.u 36 (.bin .lss (.t 29) (.t 35))]
def f119r8:AC:=.reg i119r8 (some [0,3,4,5,6,36])
def i119r9:List It:=[.u 7 (.mv (.b true))]
def f119r9:AC:=.reg i119r9 (some [0,3,4,5,6,7])
def i119r10:List It:=[.m 39 0,.m 40 5,.u 41 (.ia 2 (.t 39) (.t 40)),.u 42 (.fa 1 (.t 41)),.u 43 (.ld false 1 (.t 42)),.m 44 6,.u 45 (.ia 2 (.t 43) (.t 44)),.u 46 (.fa 1 (.t 45)),.u 47 (.ld false 1 (.t 46)),.m 8 47]
def f119r10:AC:=.reg i119r10 (some [0,3,4,5,6,7,8])
def i119r11:List It:=[.u 9 (.mv (.i 0))]
def f119r11:AC:=.reg i119r11 (some [0,3,4,5,6,7,8,9])
def i119r12:List It:=[.m 48 9,.m 49 8,.u 50 (.lenL (.t 49)),.u 51 (.bin .lss (.t 48) (.t 50))]
def f119r12:AC:=.reg i119r12 (some [0,3,4,5,6,7,8,9,51])
def i119r13:List It:=[.m 54 7,.m 55 54,.g 56 (.mv (.t 3)) 55 true,.g 57 (.mv (.t 8)) 55 true,.g 58 (.mv (.t 9)) 55 true,.g 59 (.ia 1 (.t 57) (.t 58)) 55 true,.g 60 (.ld false 1 (.t 59)) 55 true,.g 61 (.ia 1 (.t 56) (.t 60)) 55 true,.g 62 (.ld false 1 (.t 61)) 55 true,.u 63 (.pick (.t 55) (.t 62) (.b false)),.m 7 63]
def f119r13:AC:=.reg i119r13 (some [0,3,4,5,6,7,8,9])
def i119r14:List It:=[.m 52 9,.u 53 (.bin .add (.t 52) (.i 1)),.m 9 53]
def f119r14:AC:=.reg i119r14 (some [0,3,4,5,6,7,8,9])
def f119l0:AC:=(.seq (.seq f119r12 (.cond (.t 51) .skip (.exit 6))) (.seq (.blk 7 f119r13) f119r14))
def i119r15:List It:=[.m 64 3,.m 65 5,.u 66 (.bin .add (.t 65) (.i 1)),.m 67 3,.m 68 5,.u 69 (.bin .add (.t 68) (.i 1)),.u 70 (.ia 1 (.t 67) (.t 69)),.u 71 (.ld false 1 (.t 70)),.m 72 71,.g 73 (.mv (.t 7)) 72 false,.u 74 (.pick (.t 72) (.b true) (.t 73)),.u 75 (.ia 1 (.t 64) (.t 66)),.o none (.st 1 (.t 75) (.t 74)) none]
def f119r15:AC:=.reg i119r15 (some [0,3,4,5,6])
def i119r16:List It:=[.m 37 6,.u 38 (.bin .add (.t 37) (.i 1)),.m 6 38]
def f119r16:AC:=.reg i119r16 (some [0,3,4,5,6])
def f119l1:AC:=(.seq (.seq f119r8 (.cond (.t 36) .skip (.exit 4))) (.seq (.blk 5 (.seq f119r9 (.seq f119r10 (.seq (.seq f119r11 (.blk 6 (.loop f119l0))) f119r15)))) f119r16))
def i119r17:List It:=[.m 27 5,.u 28 (.bin .add (.t 27) (.i 1)),.m 5 28]
def f119r17:AC:=.reg i119r17 (some [0,3,4,5])
def f119l2:AC:=(.seq (.seq f119r6 (.cond (.t 26) .skip (.exit 2))) (.seq (.blk 3 (.seq f119r7 (.blk 4 (.loop f119l1)))) f119r17))
def i119r18:List It:=[.m 21 4,.u 22 (.bin .add (.t 21) (.i 1)),.m 4 22]
def f119r18:AC:=.reg i119r18 (some [0,3,4])
def f119l3:AC:=(.seq (.seq f119r4 (.cond (.t 20) .skip (.exit 0))) (.seq (.blk 1 (.seq f119r5 (.blk 2 (.loop f119l2)))) f119r18))
def i119r19:List It:=[.u 10 (.mv (.i 0))]
def f119r19:AC:=.reg i119r19 (some [3,10])
def i119r20:List It:=[.m 76 10,.m 77 3,.u 78 (.lenL (.t 77)),.u 79 (.bin .lss (.t 76) (.t 78))]
def f119r20:AC:=.reg i119r20 (some [3,10,79])
def i119r21:List It:=[.m 82 3,.m 83 10,.u 84 (.ia 1 (.t 82) (.t 83)),.u 85 (.ld false 1 (.t 84)),.u 86 (.un .not (.t 85))]
def f119r21:AC:=.reg i119r21 (some [3,10,86])
def i119r22:List It:=[.u 2 (.mv (.b false))]
def f119r22:AC:=.reg i119r22 (some [2])
def i119r23:List It:=[.m 80 10,.u 81 (.bin .add (.t 80) (.i 1)),.m 10 81]
def f119r23:AC:=.reg i119r23 (some [3,10])
def f119l4:AC:=(.seq (.seq f119r20 (.cond (.t 79) .skip (.exit 8))) (.seq (.blk 9 (.seq f119r21 (.cond (.t 86) (.seq f119r22 .ret) .skip))) f119r23))
def i119r24:List It:=[.u 2 (.mv (.b true))]
def f119r24:AC:=.reg i119r24 (some [2])
def b119:AC:=(.seq f119r0 (.seq f119r1 (.seq f119r2 (.seq (.seq f119r3 (.blk 0 (.loop f119l3))) (.seq (.seq f119r19 (.blk 8 (.loop f119l4))) (.seq f119r24 .ret))))))
def f119:AF:=⟨1,[(2,none)],true,b119⟩
def i120r0:List It:=[.u 4 (.mv (.b false))]
def f120r0:AC:=.reg i120r0 (some [0,1])
def i120r1:List It:=[.m 6 0,.u 7 (.lenL (.t 6)),.m 8 1,.u 9 (.lenL (.t 8)),.u 10 (.bin .neq (.t 7) (.t 9))]
def f120r1:AC:=.reg i120r1 (some [0,1,10])
def i120r2:List It:=[.u 4 (.mv (.b false))]
def f120r2:AC:=.reg i120r2 (some [4])
def i120r3:List It:=[.u 5 (.mv (.i 0))]
def f120r3:AC:=.reg i120r3 (some [0,1,5])
def i120r4:List It:=[.m 11 5,.m 12 0,.u 13 (.lenL (.t 12)),.u 14 (.bin .lss (.t 11) (.t 13))]
def f120r4:AC:=.reg i120r4 (some [0,1,5,14])
def i120r5:List It:=[.m 17 0,.m 18 5,.u 19 (.ia 1 (.t 17) (.t 18)),.u 20 (.ld false 1 (.t 19)),.m 21 1,.m 22 5,.u 23 (.ia 1 (.t 21) (.t 22)),.u 24 (.ld false 1 (.t 23)),.u 25 (.bin .neq (.t 20) (.t 24))]
def f120r5:AC:=.reg i120r5 (some [0,1,5,25])
def i120r6:List It:=[.u 4 (.mv (.b false))]
def f120r6:AC:=.reg i120r6 (some [4])
def i120r7:List It:=[.m 15 5,.u 16 (.bin .add (.t 15) (.i 1)),.m 5 16]
def f120r7:AC:=.reg i120r7 (some [0,1,5])
def f120l0:AC:=(.seq (.seq f120r4 (.cond (.t 14) .skip (.exit 0))) (.seq (.blk 1 (.seq f120r5 (.cond (.t 25) (.seq f120r6 .ret) .skip))) f120r7))
def i120r8:List It:=[.u 4 (.mv (.b true))]
def f120r8:AC:=.reg i120r8 (some [4])
def b120:AC:=(.seq f120r0 (.seq (.seq f120r1 (.cond (.t 10) (.seq f120r2 .ret) .skip)) (.seq (.seq f120r3 (.blk 0 (.loop f120l0))) (.seq f120r8 .ret))))
def f120:AF:=⟨2,[(4,none)],true,b120⟩
def i121r0:List It:=[.u 2 (.mv (.c (.tl [] (some true))))]
def f121r0:AC:=.reg i121r0 (some [0])
def i121r1:List It:=[.u 3 (.mv (.c (.tl [] (some true))))]
def f121r1:AC:=.reg i121r1 (some [0,3])
def i121r2:List It:=[.m 4 3,.m 5 0,.u 6 (.app 4 64 (.t 4) (.t 5)),.m 3 6]
def f121r2:AC:=.reg i121r2 (some [3])
def i121r3:List It:=[.m 7 3,.m 2 7]
def f121r3:AC:=.reg i121r3 (some [2])
def b121:AC:=(.seq f121r0 (.seq f121r1 (.seq f121r2 (.seq f121r3 .ret))))
def f121:AF:=⟨1,[(2,none)],false,b121⟩
def i122r0:List It:=[.u 4 (.mv (.i 0))]
def f122r0:AC:=.reg i122r0 (some [0,1])
def i122r1:List It:=[.m 5 0,.u 6 (.call (.f 22) [true] [.t 5]),.u 7 (.bin .neq (.t 6) (.i 0))]
def f122r1:AC:=.reg i122r1 (some [0,1,7])
def i122r2:List It:=[.u 4 (.mv (.i 3))]
def f122r2:AC:=.reg i122r2 (some [4])
def i122r3:List It:=[.m 8 1,.u 9 (.bin .lss (.t 8) (.i 0)),.m 10 9,.g 11 (.mv (.t 1)) 10 false,.g 12 (.mv (.t 0)) 10 false,.g 13 (.lenL (.t 12)) 10 false,.g 14 (.bin .gtr (.t 11) (.t 13)) 10 false,.u 15 (.pick (.t 10) (.b true) (.t 14))]
def f122r3:AC:=.reg i122r3 (some [15])
def i122r4:List It:=[.u 4 (.mv (.i 2))]
def f122r4:AC:=.reg i122r4 (some [4])
def i122r5:List It:=[.u 4 (.mv (.i 0))]
def f122r5:AC:=.reg i122r5 (some [4])
def b122:AC:=(.seq f122r0 (.seq (.seq f122r1 (.cond (.t 7) (.seq f122r2 .ret) .skip)) (.seq (.seq f122r3 (.cond (.t 15) (.seq f122r4 .ret) .skip)) (.seq f122r5 .ret))))
def f122:AF:=⟨2,[(4,none)],true,b122⟩
def i123r0:List It:=[.u 4 (.box 1 (.t 0)),.u 6 (.box 3 (.t 2)),.u 7 (.box 1 (.t 3)),.u 8 (.mv (.i 0)),.u 9 (.mv (.i 0)),.frz 6]
def f123r0:AC:=.reg i123r0 (some [1,4,6,7])
def i123r1:List It:=[.u 10 (.alloc 1 (.d (.int .i64 0))),.o none (.st 1 (.t 10) (.i 0)) none]
def f123r1:AC:=.reg i123r1 (some [1,4,6,7,10])
def i123r2:List It:=[.u 11 (.alloc 1 (.d .nilf))]
def f123r2:AC:=.reg i123r2 (some [1,4,6,7,10,11])
def i123r3:List It:=[.u 13 (.mkf 139 [.t 7,.t 4,.t 10,.t 11]),.o none (.st 1 (.t 11) (.t 13)) none]
def f123r3:AC:=.reg i123r3 (some [1,6,10,11])
def i123r4:List It:=[.u 14 (.ld false 1 (.t 11)),.m 15 1,.u 16 (.ld true 3 (.t 6)),.u 17 (.call (.t 14) [true,true] [.t 15,.t 16]),.m 12 17,.kill 6]
def f123r4:AC:=.reg i123r4 (some [10,12])
def i123r5:List It:=[.u 18 (.ld false 1 (.t 10)),.m 19 12,.m 8 18,.m 9 19]
def f123r5:AC:=.reg i123r5 (some [8,9])
def b123:AC:=(.seq f123r0 (.seq f123r1 (.seq f123r2 (.seq f123r3 (.seq f123r4 (.seq f123r5 .ret))))))
def f123:AF:=⟨4,[(8,none),(9,none)],true,b123⟩
def b124:AC:=.skip
def f124:AF:=⟨2,[],true,b124⟩
def i125r0:List It:=[.u 2 (.box 4 (.t 0)),.u 3 (.box 3 (.t 1)),.u 4 (.mv (.b false)),.frz 2,.frz 3]
def f125r0:AC:=.reg i125r0 (some [2,3])
def i125r1:List It:=[.u 5 (.fa 0 (.t 2)),.u 6 (.ld false 1 (.t 5))]
def f125r1:AC:=.reg i125r1 (some [2,3,6])
def i125r2:List It:=[.u 8 (.bin .eql (.t 6) (.i 0)),.m 7 8]
def f125r2:AC:=.reg i125r2 (some [2,3,6,7])
def i125r3:List It:=[.u 4 (.mv (.b true)),.kill 2,.kill 3]
def f125r3:AC:=.reg i125r3 (some [4])
def i125r4:List It:=[.u 10 (.bin .eql (.t 6) (.i 2)),.m 9 10]
def f125r4:AC:=.reg i125r4 (some [2,3,6,9])
def i125r5:List It:=[.u 11 (.fa 0 (.t 3)),.u 12 (.ld false 1 (.t 11)),.u 13 (.fa 2 (.t 2)),.u 14 (.ld false 1 (.t 13)),.u 15 (.bin .eql (.t 12) (.t 14)),.m 4 15,.kill 2,.kill 3]
def f125r5:AC:=.reg i125r5 (some [4])
def i125r6:List It:=[.u 17 (.bin .eql (.t 6) (.i 1)),.m 16 17]
def f125r6:AC:=.reg i125r6 (some [2,3,16])
def i125r7:List It:=[.u 18 (.fa 1 (.t 3)),.u 19 (.ld false 1 (.t 18)),.u 20 (.fa 1 (.t 2)),.u 21 (.ld false 1 (.t 20)),.u 22 (.bin .eql (.t 19) (.t 21)),.m 23 22,.g 24 (.fa 3 (.t 2)) 23 true,.g 25 (.ld false 1 (.t 24)) 23 true,.g 26 (.fa 2 (.t 3)) 23 true,.g 27 (.ld false 1 (.t 26)) 23 true,.g 28 (.call (.f 76) [true,true] [.t 25,.t 27]) 23 true,.u 29 (.pick (.t 23) (.t 28) (.b false)),.m 4 29,.kill 2,.kill 3]
def f125r7:AC:=.reg i125r7 (some [4])
def i125r8:List It:=[.u 4 (.mv (.b false)),.kill 2,.kill 3]
def f125r8:AC:=.reg i125r8 (some [4])
def b125:AC:=(.seq f125r0 (.seq (.seq f125r1 (.blk 0 (.seq f125r2 (.cond (.t 7) (.seq f125r3 .ret) (.seq f125r4 (.cond (.t 9) (.seq f125r5 .ret) (.seq f125r6 (.cond (.t 16) (.seq f125r7 .ret) .skip)))))))) (.seq f125r8 .ret)))
def f125:AF:=⟨2,[(4,none)],true,b125⟩
def i126r0:List It:=[.u 2 (.box 4 (.t 0)),.u 3 (.mv (.b false)),.frz 2]
def f126r0:AC:=.reg i126r0 (some [1,2])
def i126r1:List It:=[.u 4 (.ld true 4 (.t 2)),.u 5 (.ld false 1 (.t 1)),.u 6 (.bin .add (.t 5) (.i 1)),.u 7 (.call (.f 80) [true,true] [.t 4,.t 6]),.m 3 7,.kill 2]
def f126r1:AC:=.reg i126r1 (some [3])
def b126:AC:=(.seq f126r0 (.seq f126r1 .ret))
def f126:AF:=⟨2,[(3,none)],true,b126⟩
def i127r0:List It:=[.u 4 (.mv (.c (.tl [] (some true))))]
def f127r0:AC:=.reg i127r0 (some [0,1])
def i127r1:List It:=[.m 5 1,.u 6 (.bin .lss (.t 5) (.i 0))]
def f127r1:AC:=.reg i127r1 (some [0,1,6])
def i127r2:List It:=[.u 7 (.stuck),.o none (.stuck) none]
def f127r2:AC:=.reg i127r2 (some [0,1])
def i127r3:List It:=[.m 8 1,.m 9 0,.u 10 (.capT (.t 9)),.m 11 0,.u 12 (.lenL (.t 11)),.u 13 (.bin .sub (.t 10) (.t 12)),.u 14 (.bin .sub (.t 8) (.t 13)),.m 1 14]
def f127r3:AC:=.reg i127r3 (some [0,1])
def i127r4:List It:=[.m 15 1,.u 16 (.bin .gtr (.t 15) (.i 0))]
def f127r4:AC:=.reg i127r4 (some [0,1,16])
def i127r5:List It:=[.m 17 0,.m 18 0,.u 19 (.capT (.t 18)),.u 20 (.slc 4 (.t 17) none (some (.t 19))),.m 21 1,.u 22 (.appz (.d (.agg [(.int .i64 0),(.int .i64 0),(.int .i64 0),(.lst [])])) 4 48 (.t 20) (.t 21)),.m 23 0,.u 24 (.lenL (.t 23)),.u 25 (.slc 4 (.t 22) none (some (.t 24))),.m 0 25]
def f127r5:AC:=.reg i127r5 (some [0])
def i127r6:List It:=[.m 26 0,.m 4 26]
def f127r6:AC:=.reg i127r6 (some [4])
def b127:AC:=(.seq f127r0 (.seq (.seq f127r1 (.cond (.t 6) f127r2 .skip)) (.seq (.seq f127r3 (.seq f127r4 (.cond (.t 16) f127r5 .skip))) (.seq f127r6 .ret))))
def f127:AF:=⟨2,[(4,none)],false,b127⟩
def i128r0:List It:=[.u 4 (.mv (.c (.tl [] (some true))))]
def f128r0:AC:=.reg i128r0 (some [0,1])
def i128r1:List It:=[.m 5 1,.u 6 (.bin .lss (.t 5) (.i 0))]
def f128r1:AC:=.reg i128r1 (some [0,1,6])
def i128r2:List It:=[.u 7 (.stuck),.o none (.stuck) none]
def f128r2:AC:=.reg i128r2 (some [0,1])
def i128r3:List It:=[.m 8 1,.m 9 0,.u 10 (.capT (.t 9)),.m 11 0,.u 12 (.lenL (.t 11)),.u 13 (.bin .sub (.t 10) (.t 12)),.u 14 (.bin .sub (.t 8) (.t 13)),.m 1 14]
def f128r3:AC:=.reg i128r3 (some [0,1])
def i128r4:List It:=[.m 15 1,.u 16 (.bin .gtr (.t 15) (.i 0))]
def f128r4:AC:=.reg i128r4 (some [0,1,16])
def i128r5:List It:=[.m 17 0,.m 18 0,.u 19 (.capT (.t 18)),.u 20 (.slc 2 (.t 17) none (some (.t 19))),.m 21 1,.u 22 (.appz (.d (.agg [(.lst []),(.int .i64 0)])) 2 32 (.t 20) (.t 21)),.m 23 0,.u 24 (.lenL (.t 23)),.u 25 (.slc 2 (.t 22) none (some (.t 24))),.m 0 25]
def f128r5:AC:=.reg i128r5 (some [0])
def i128r6:List It:=[.m 26 0,.m 4 26]
def f128r6:AC:=.reg i128r6 (some [4])
def b128:AC:=(.seq f128r0 (.seq (.seq f128r1 (.cond (.t 6) f128r2 .skip)) (.seq (.seq f128r3 (.seq f128r4 (.cond (.t 16) f128r5 .skip))) (.seq f128r6 .ret))))
def f128:AF:=⟨2,[(4,none)],false,b128⟩
def i129r0:List It:=[.u 2 (.box 4 (.t 0)),.u 3 (.box 4 (.t 1)),.u 4 (.mv (.b false)),.frz 2,.frz 3]
def f129r0:AC:=.reg i129r0 (some [2,3])
def i129r1:List It:=[.u 5 (.fa 0 (.t 2)),.u 6 (.ld false 1 (.t 5)),.u 7 (.fa 0 (.t 3)),.u 8 (.ld false 1 (.t 7)),.u 9 (.bin .eql (.t 6) (.t 8)),.m 10 9,.g 11 (.fa 1 (.t 2)) 10 true,.g 12 (.ld false 1 (.t 11)) 10 true,.g 13 (.fa 1 (.t 3)) 10 true,.g 14 (.ld false 1 (.t 13)) 10 true,.g 15 (.bin .eql (.t 12) (.t 14)) 10 true,.u 16 (.pick (.t 10) (.t 15) (.b false)),.m 17 16,.g 18 (.fa 2 (.t 2)) 17 true,.g 19 (.ld false 1 (.t 18)) 17 true,.g 20 (.fa 2 (.t 3)) 17 true,.g 21 (.ld false 1 (.t 20)) 17 true,.g 22 (.bin .eql (.t 19) (.t 21)) 17 true,.u 23 (.pick (.t 17) (.t 22) (.b false)),.m 4 23,.kill 2,.kill 3]
def f129r1:AC:=.reg i129r1 (some [4])
def b129:AC:=(.seq f129r0 (.seq f129r1 .ret))
def f129:AF:=⟨2,[(4,none)],true,b129⟩
def i130r0:List It:=[.u 3 (.box 4 (.t 1)),.u 4 (.mv (.b false)),.frz 3]
def f130r0:AC:=.reg i130r0 (some [0,3])
def i130r1:List It:=[.u 5 (.mv (.i 0))]
def f130r1:AC:=.reg i130r1 (some [0,3,5])
def i130r2:List It:=[.m 6 5,.m 7 0,.u 8 (.lenL (.t 7)),.u 9 (.bin .lss (.t 6) (.t 8))]
def f130r2:AC:=.reg i130r2 (some [0,3,5,9])
def i130r3:List It:=[.m 12 0,.m 13 5,.u 14 (.ia 4 (.t 12) (.t 13)),.u 15 (.ld true 4 (.t 14)),.u 16 (.ld true 4 (.t 3)),.u 17 (.call (.f 129) [true,true] [.t 15,.t 16])]
def f130r3:AC:=.reg i130r3 (some [0,3,5,17])
def i130r4:List It:=[.u 4 (.mv (.b true)),.kill 3]
def f130r4:AC:=.reg i130r4 (some [4])
def i130r5:List It:=[.m 10 5,.u 11 (.bin .add (.t 10) (.i 1)),.m 5 11]
def f130r5:AC:=.reg i130r5 (some [0,3,5])
def f130l0:AC:=(.seq (.seq f130r2 (.cond (.t 9) .skip (.exit 0))) (.seq (.blk 1 (.seq f130r3 (.cond (.t 17) (.seq f130r4 .ret) .skip))) f130r5))
def i130r6:List It:=[.u 4 (.mv (.b false)),.kill 3]
def f130r6:AC:=.reg i130r6 (some [4])
def b130:AC:=(.seq f130r0 (.seq (.seq f130r1 (.blk 0 (.loop f130l0))) (.seq f130r6 .ret)))
def f130:AF:=⟨2,[(4,none)],true,b130⟩
def i131r0:List It:=[.u 4 (.mv (.i 0))]
def f131r0:AC:=.reg i131r0 (some [0,1])
def i131r1:List It:=[.m 6 0,.u 7 (.lenL (.t 6)),.u 8 (.mv (.i 0))]
def f131r1:AC:=.reg i131r1 (some [0,1,7,8])
def i131r2:List It:=[.u 9 (.bin .lss (.t 8) (.t 7))]
def f131r2:AC:=.reg i131r2 (some [0,1,7,8,9])
def i131r3:List It:=[.m 10 8,.m 5 10]
def f131r3:AC:=.reg i131r3 (some [0,1,5,7,8])
def i131r4:List It:=[.m 11 1,.m 12 0,.m 13 5,.u 14 (.ia 1 (.t 12) (.t 13)),.u 15 (.ld false 1 (.t 14)),.u 16 (.call (.t 11) [true] [.t 15])]
def f131r4:AC:=.reg i131r4 (some [0,1,5,7,8,16])
def i131r5:List It:=[.m 17 5,.m 4 17]
def f131r5:AC:=.reg i131r5 (some [4])
def i131r6:List It:=[.u 18 (.bin .add (.t 8) (.i 1)),.m 8 18]
def f131r6:AC:=.reg i131r6 (some [0,1,7,8])
def f131l0:AC:=(.seq f131r2 (.seq (.cond (.t 9) .skip (.exit 0)) (.seq (.blk 1 (.seq f131r3 (.seq f131r4 (.cond (.t 16) (.seq f131r5 .ret) .skip)))) f131r6)))
def i131r7:List It:=[.u 4 (.mv (.i (-1)))]
def f131r7:AC:=.reg i131r7 (some [4])
def b131:AC:=(.seq f131r0 (.seq (.seq f131r1 (.blk 0 (.loop f131l0))) (.seq f131r7 .ret)))
def f131:AF:=⟨2,[(4,none)],false,b131⟩
def i132r0:List It:=[.u 4 (.mv (.i 0))]
def f132r0:AC:=.reg i132r0 (some [0,1])
def i132r1:List It:=[.m 6 0,.u 7 (.lenL (.t 6)),.u 8 (.mv (.i 0))]
def f132r1:AC:=.reg i132r1 (some [0,1,7,8])
def i132r2:List It:=[.u 9 (.bin .lss (.t 8) (.t 7))]
def f132r2:AC:=.reg i132r2 (some [0,1,7,8,9])
def i132r3:List It:=[.m 10 8,.m 5 10]
def f132r3:AC:=.reg i132r3 (some [0,1,5,7,8])
def i132r4:List It:=[.m 11 1,.m 12 0,.m 13 5,.u 14 (.ia 2 (.t 12) (.t 13)),.u 15 (.ld true 2 (.t 14)),.u 16 (.call (.t 11) [true] [.t 15])]
def f132r4:AC:=.reg i132r4 (some [0,1,5,7,8,16])
def i132r5:List It:=[.m 17 5,.m 4 17]
def f132r5:AC:=.reg i132r5 (some [4])
def i132r6:List It:=[.u 18 (.bin .add (.t 8) (.i 1)),.m 8 18]
def f132r6:AC:=.reg i132r6 (some [0,1,7,8])
def f132l0:AC:=(.seq f132r2 (.seq (.cond (.t 9) .skip (.exit 0)) (.seq (.blk 1 (.seq f132r3 (.seq f132r4 (.cond (.t 16) (.seq f132r5 .ret) .skip)))) f132r6)))
def i132r7:List It:=[.u 4 (.mv (.i (-1)))]
def f132r7:AC:=.reg i132r7 (some [4])
def b132:AC:=(.seq f132r0 (.seq (.seq f132r1 (.blk 0 (.loop f132l0))) (.seq f132r7 .ret)))
def f132:AF:=⟨2,[(4,none)],true,b132⟩
def i133r0:List It:=[.u 2 (.mv (.c (.tl [] (some true))))]
def f133r0:AC:=.reg i133r0 (some [0])
def i133r1:List It:=[.m 3 0,.u 4 (.nilBin .s .eql (.t 3))]
def f133r1:AC:=.reg i133r1 (some [0,4])
def i133r2:List It:=[.u 2 (.mv (.c (.tl [] (some true))))]
def f133r2:AC:=.reg i133r2 (some [2])
def i133r3:List It:=[.u 5 (.bsl 1 []),.m 6 0,.u 7 (.app 1 8 (.t 5) (.t 6)),.m 2 7]
def f133r3:AC:=.reg i133r3 (some [2])
def b133:AC:=(.seq f133r0 (.amb f133r1 (.t 4) (.seq f133r2 .ret) .skip (.seq f133r3 .ret)))
def f133:AF:=⟨1,[(2,none)],false,b133⟩
def i134r0:List It:=[.u 7 (.ld false 1 (.t 1)),.u 8 (.ld false 1 (.t 2)),.u 9 (.ia 1 (.t 8) (.i 0)),.u 10 (.ld false 1 (.t 9)),.u 11 (.bin .sub (.t 10) (.i 1)),.u 12 (.ia 2 (.t 7) (.t 11)),.u 13 (.fa 1 (.t 12)),.u 14 (.ld false 1 (.t 13)),.u 15 (.lenL (.t 14)),.u 16 (.mv (.i 0))]
def f134r0:AC:=.reg i134r0 (some [0,3,14,15,16])
def i134r1:List It:=[.u 17 (.bin .lss (.t 16) (.t 15))]
def f134r1:AC:=.reg i134r1 (some [0,3,14,15,16,17])
def i134r2:List It:=[.m 18 16,.u 19 (.ia 2 (.t 14) (.t 16)),.u 20 (.ld true 2 (.t 19)),.u 6 (.alloc 2 (.agg [(.d (.str ⟨#[]⟩)),(.tl [] (some true))])),.m 5 18,.o none (.st 2 (.t 6) (.t 20)) none,.frz 6]
def f134r2:AC:=.reg i134r2 (some [0,3,5,6,14,15,16])
def i134r3:List It:=[.m 21 0,.m 22 5,.u 23 (.ld false 1 (.t 3)),.m 24 5,.u 25 (.fa 1 (.t 6)),.u 26 (.ld false 1 (.t 25)),.u 27 (.lenL (.t 26)),.u 28 (.call (.f 105) [true,true,true] [.t 23,.t 24,.t 27]),.u 29 (.call (.t 21) [true,true] [.t 22,.t 28]),.u 30 (.un .not (.t 29)),.kill 6]
def f134r3:AC:=.reg i134r3 (some [0,3,14,15,16,30])
def i134r4:List It:=[.u 31 (.bin .add (.t 16) (.i 1)),.m 16 31]
def f134r4:AC:=.reg i134r4 (some [0,3,14,15,16])
def f134l0:AC:=(.seq f134r1 (.seq (.cond (.t 17) .skip (.exit 0)) (.seq (.blk 1 (.seq f134r2 (.seq f134r3 (.cond (.t 30) .ret .skip)))) f134r4)))
def b134:AC:=(.seq f134r0 (.blk 0 (.loop f134l0)))
def f134:AF:=⟨4,[],false,b134⟩
def i135r0:List It:=[.u 4 (.mv (.c (.tl [] (some true))))]
def f135r0:AC:=.reg i135r0 (some [0,1])
def i135r1:List It:=[.m 5 1,.u 6 (.bin .lss (.t 5) (.i 0))]
def f135r1:AC:=.reg i135r1 (some [0,1,6])
def i135r2:List It:=[.u 7 (.stuck),.o none (.stuck) none]
def f135r2:AC:=.reg i135r2 (some [0,1])
def i135r3:List It:=[.m 8 1,.m 9 0,.u 10 (.capT (.t 9)),.m 11 0,.u 12 (.lenL (.t 11)),.u 13 (.bin .sub (.t 10) (.t 12)),.u 14 (.bin .sub (.t 8) (.t 13)),.m 1 14]
def f135r3:AC:=.reg i135r3 (some [0,1])
def i135r4:List It:=[.m 15 1,.u 16 (.bin .gtr (.t 15) (.i 0))]
def f135r4:AC:=.reg i135r4 (some [0,1,16])
def i135r5:List It:=[.m 17 0,.m 18 0,.u 19 (.capT (.t 18)),.u 20 (.slc 4 (.t 17) none (some (.t 19))),.m 21 1,.u 22 (.appz (.d (.agg [(.lst []),(.int .i64 0),(.bool false),(.lst [])])) 4 64 (.t 20) (.t 21)),.m 23 0,.u 24 (.lenL (.t 23)),.u 25 (.slc 4 (.t 22) none (some (.t 24))),.m 0 25]
def f135r5:AC:=.reg i135r5 (some [0])
def i135r6:List It:=[.m 26 0,.m 4 26]
def f135r6:AC:=.reg i135r6 (some [4])
def b135:AC:=(.seq f135r0 (.seq (.seq f135r1 (.cond (.t 6) f135r2 .skip)) (.seq (.seq f135r3 (.seq f135r4 (.cond (.t 16) f135r5 .skip))) (.seq f135r6 .ret))))
def f135:AF:=⟨2,[(4,none)],false,b135⟩
def i136r0:List It:=[.u 2 (.mv (.b false))]
def f136r0:AC:=.reg i136r0 (some [0])
def i136r1:List It:=[.u 3 (.mv (.i 0))]
def f136r1:AC:=.reg i136r1 (some [0,3])
def i136r2:List It:=[.m 6 3,.m 7 0,.u 8 (.lenS (.t 7)),.u 9 (.bin .lss (.t 6) (.t 8))]
def f136r2:AC:=.reg i136r2 (some [0,3,9])
def i136r3:List It:=[.m 12 0,.m 13 3,.u 14 (.ixS (.t 12) (.t 13)),.m 4 14]
def f136r3:AC:=.reg i136r3 (some [0,3,4])
def i136r4:List It:=[.m 15 4,.u 16 (.bin .geq (.t 15) (.c (.d (.int .u8 65)))),.m 17 16,.g 18 (.mv (.t 4)) 17 true,.g 19 (.bin .leq (.t 18) (.c (.d (.int .u8 90)))) 17 true,.u 20 (.pick (.t 17) (.t 19) (.b false)),.m 5 20]
def f136r4:AC:=.reg i136r4 (some [0,3,4,5])
def i136r5:List It:=[.m 21 5,.u 22 (.un .not (.t 21)),.m 23 22,.g 24 (.mv (.t 3)) 23 true,.g 25 (.bin .eql (.t 24) (.i 0)) 23 true,.g 26 (.mv (.t 25)) 23 true,.g 27 (.mv (.t 4)) 26 false,.g 28 (.bin .geq (.t 27) (.c (.d (.int .u8 97)))) 26 false,.g 29 (.mv (.t 28)) 26 false,.g 30 (.mv (.t 4)) 29 true,.g 31 (.bin .leq (.t 30) (.c (.d (.int .u8 122)))) 29 true,.g 32 (.pick (.t 29) (.t 31) (.b false)) 26 false,.g 33 (.mv (.t 32)) 26 false,.g 34 (.mv (.t 4)) 33 false,.g 35 (.bin .geq (.t 34) (.c (.d (.int .u8 48)))) 33 false,.g 36 (.mv (.t 35)) 33 false,.g 37 (.mv (.t 4)) 36 true,.g 38 (.bin .leq (.t 37) (.c (.d (.int .u8 57)))) 36 true,.g 39 (.pick (.t 36) (.t 38) (.b false)) 33 false,.g 40 (.pick (.t 33) (.b true) (.t 39)) 26 false,.g 41 (.mv (.t 40)) 26 false,.g 42 (.mv (.t 4)) 41 false,.g 43 (.bin .eql (.t 42) (.c (.d (.int .u8 95)))) 41 false,.g 44 (.pick (.t 41) (.b true) (.t 43)) 26 false,.g 45 (.un .not (.t 44)) 26 false,.g 46 (.pick (.t 26) (.b true) (.t 45)) 23 true,.u 47 (.pick (.t 23) (.t 46) (.b false))]
def f136r5:AC:=.reg i136r5 (some [0,3,47])
def i136r6:List It:=[.u 2 (.mv (.b false))]
def f136r6:AC:=.reg i136r6 (some [2])
def i136r7:List It:=[.m 10 3,.u 11 (.bin .add (.t 10) (.i 1)),.m 3 11]
def f136r7:AC:=.reg i136r7 (some [0,3])
def f136l0:AC:=(.seq (.seq f136r2 (.cond (.t 9) .skip (.exit 0))) (.seq (.blk 1 (.seq f136r3 (.seq f136r4 (.seq f136r5 (.cond (.t 47) (.seq f136r6 .ret) .skip))))) f136r7))
def i136r8:List It:=[.m 48 0,.u 49 (.lenS (.t 48)),.u 50 (.bin .geq (.t 49) (.i 1)),.m 51 50,.g 52 (.mv (.t 0)) 51 true,.g 53 (.lenS (.t 52)) 51 true,.g 54 (.bin .leq (.t 53) (.i 32)) 51 true,.u 55 (.pick (.t 51) (.t 54) (.b false)),.m 2 55]
def f136r8:AC:=.reg i136r8 (some [2])
def b136:AC:=(.seq f136r0 (.seq (.seq f136r1 (.blk 0 (.loop f136l0))) (.seq f136r8 .ret)))
def f136:AF:=⟨1,[(2,none)],true,b136⟩
def i137r0:List It:=[.u 4 (.mv (.b false))]
def f137r0:AC:=.reg i137r0 (some [0,1])
def i137r1:List It:=[.u 5 (.mv (.i 0))]
def f137r1:AC:=.reg i137r1 (some [0,1,5])
def i137r2:List It:=[.m 6 5,.m 7 0,.u 8 (.lenL (.t 7)),.u 9 (.bin .lss (.t 6) (.t 8))]
def f137r2:AC:=.reg i137r2 (some [0,1,5,9])
def i137r3:List It:=[.m 12 0,.m 13 5,.u 14 (.ia 1 (.t 12) (.t 13)),.u 15 (.ld false 1 (.t 14)),.m 16 1,.u 17 (.bin .eql (.t 15) (.t 16))]
def f137r3:AC:=.reg i137r3 (some [0,1,5,17])
def i137r4:List It:=[.u 4 (.mv (.b true))]
def f137r4:AC:=.reg i137r4 (some [4])
def i137r5:List It:=[.m 10 5,.u 11 (.bin .add (.t 10) (.i 1)),.m 5 11]
def f137r5:AC:=.reg i137r5 (some [0,1,5])
def f137l0:AC:=(.seq (.seq f137r2 (.cond (.t 9) .skip (.exit 0))) (.seq (.blk 1 (.seq f137r3 (.cond (.t 17) (.seq f137r4 .ret) .skip))) f137r5))
def i137r6:List It:=[.u 4 (.mv (.b false))]
def f137r6:AC:=.reg i137r6 (some [4])
def b137:AC:=(.seq f137r0 (.seq (.seq f137r1 (.blk 0 (.loop f137l0))) (.seq f137r6 .ret)))
def f137:AF:=⟨2,[(4,none)],true,b137⟩
def i138r0:List It:=[.u 4 (.mv (.b false))]
def f138r0:AC:=.reg i138r0 (some [0,1])
def i138r1:List It:=[.m 5 1,.u 6 (.bin .geq (.t 5) (.i 0)),.m 7 6,.g 8 (.mv (.t 1)) 7 true,.g 9 (.mv (.t 0)) 7 true,.g 10 (.lenL (.t 9)) 7 true,.g 11 (.bin .leq (.t 8) (.t 10)) 7 true,.u 12 (.pick (.t 7) (.t 11) (.b false)),.m 4 12]
def f138r1:AC:=.reg i138r1 (some [4])
def b138:AC:=(.seq f138r0 (.seq f138r1 .ret))
def f138:AF:=⟨2,[(4,none)],true,b138⟩
def i139r0:List It:=[.u 7 (.box 3 (.t 1)),.u 8 (.mv (.i 0)),.frz 7]
def f139r0:AC:=.reg i139r0 (some [0,2,3,4,5,7])
def i139r1:List It:=[.m 13 0,.u 14 (.bin .eql (.t 13) (.i 0))]
def f139r1:AC:=.reg i139r1 (some [0,2,3,4,5,7,14])
def i139r2:List It:=[.u 15 (.fa 1 (.t 7)),.u 16 (.ld false 1 (.t 15)),.u 17 (.bin .neq (.t 16) (.i 0)),.m 18 17,.g 19 (.fa 2 (.t 7)) 18 false,.g 20 (.ld false 1 (.t 19)) 18 false,.g 21 (.lenL (.t 20)) 18 false,.g 22 (.bin .gtr (.t 21) (.i 0)) 18 false,.u 23 (.pick (.t 18) (.b true) (.t 22)),.kill 7]
def f139r2:AC:=.reg i139r2 (some [0,2,23])
def i139r3:List It:=[.u 8 (.mv (.i 10))]
def f139r3:AC:=.reg i139r3 (some [8])
def i139r4:List It:=[.u 24 (.ld false 1 (.t 2)),.m 25 0,.u 26 (.call (.t 24) [true,true] [.t 25,(.i 0)])]
def f139r4:AC:=.reg i139r4 (some [])
def i139r5:List It:=[.u 8 (.mv (.i 0))]
def f139r5:AC:=.reg i139r5 (some [8])
def i139r6:List It:=[.u 27 (.ld false 1 (.t 3)),.m 28 0,.u 29 (.bin .sub (.t 28) (.i 1)),.u 30 (.ia 2 (.t 27) (.t 29)),.u 31 (.fa 1 (.t 30)),.u 32 (.ld false 1 (.t 31)),.m 9 32]
def f139r6:AC:=.reg i139r6 (some [0,2,4,5,7,9])
def i139r7:List It:=[.u 33 (.fa 0 (.t 7)),.u 34 (.ld false 1 (.t 33)),.u 35 (.bin .neq (.t 34) (.i 0)),.m 36 35,.g 37 (.fa 1 (.t 7)) 36 false,.g 38 (.ld false 1 (.t 37)) 36 false,.g 39 (.bin .lss (.t 38) (.i 0)) 36 false,.u 40 (.pick (.t 36) (.b true) (.t 39)),.m 41 40,.g 42 (.fa 1 (.t 7)) 41 false,.g 43 (.ld false 1 (.t 42)) 41 false,.g 44 (.mv (.t 9)) 41 false,.g 45 (.lenL (.t 44)) 41 false,.g 46 (.bin .geq (.t 43) (.t 45)) 41 false,.u 47 (.pick (.t 41) (.b true) (.t 46)),.m 48 47,.g 49 (.fa 2 (.t 7)) 48 false,.g 50 (.ld false 1 (.t 49)) 48 false,.g 51 (.lenL (.t 50)) 48 false,.g 52 (.mv (.t 9)) 48 false,.g 53 (.fa 1 (.t 7)) 48 false,.g 54 (.ld false 1 (.t 53)) 48 false,.g 55 (.ia 2 (.t 52) (.t 54)) 48 false,.g 56 (.fa 1 (.t 55)) 48 false,.g 57 (.ld false 1 (.t 56)) 48 false,.g 58 (.lenL (.t 57)) 48 false,.g 59 (.bin .neq (.t 51) (.t 58)) 48 false,.u 60 (.pick (.t 48) (.b true) (.t 59))]
def f139r7:AC:=.reg i139r7 (some [0,2,4,5,7,9,60])
def i139r8:List It:=[.u 8 (.mv (.i 10)),.kill 7]
def f139r8:AC:=.reg i139r8 (some [8])
def i139r9:List It:=[.u 61 (.fa 2 (.t 7)),.u 62 (.ld false 1 (.t 61)),.u 63 (.lenL (.t 62)),.u 64 (.bin .gtr (.t 63) (.i 0))]
def f139r9:AC:=.reg i139r9 (some [0,2,4,5,7,9,64])
def i139r10:List It:=[.u 65 (.ld false 1 (.t 4)),.u 66 (.bin .eql (.t 65) (.i 65536))]
def f139r10:AC:=.reg i139r10 (some [0,2,4,5,7,9,66])
def i139r11:List It:=[.u 8 (.mv (.i 18)),.kill 7]
def f139r11:AC:=.reg i139r11 (some [8])
def i139r12:List It:=[.u 67 (.ld false 1 (.t 4)),.u 68 (.bin .add (.t 67) (.i 1)),.o none (.st 1 (.t 4) (.t 68)) none]
def f139r12:AC:=.reg i139r12 (some [0,2,5,7,9])
def i139r13:List It:=[.u 69 (.ld false 1 (.t 2)),.m 70 0,.u 71 (.fa 1 (.t 7)),.u 72 (.ld false 1 (.t 71)),.u 73 (.call (.t 69) [true,true] [.t 70,.t 72])]
def f139r13:AC:=.reg i139r13 (some [5,7,9])
def i139r14:List It:=[.u 74 (.fa 2 (.t 7)),.u 75 (.ld false 1 (.t 74)),.u 76 (.lenL (.t 75)),.u 77 (.mv (.i 0))]
def f139r14:AC:=.reg i139r14 (some [5,7,9,75,76,77])
def i139r15:List It:=[.u 78 (.bin .lss (.t 77) (.t 76))]
def f139r15:AC:=.reg i139r15 (some [5,7,9,75,76,77,78])
def i139r16:List It:=[.m 79 77,.u 80 (.ia 3 (.t 75) (.t 77)),.u 81 (.ld true 3 (.t 80)),.u 11 (.alloc 3 (.agg [(.d (.int .i64 0)),(.d (.int .i64 0)),(.tl [] (some true))])),.m 10 79,.o none (.st 3 (.t 11) (.t 81)) none,.frz 11]
def f139r16:AC:=.reg i139r16 (some [5,7,9,10,11,75,76,77])
def i139r17:List It:=[.u 82 (.ld false 1 (.t 5)),.m 83 9,.u 84 (.fa 1 (.t 7)),.u 85 (.ld false 1 (.t 84)),.u 86 (.ia 2 (.t 83) (.t 85)),.u 87 (.fa 1 (.t 86)),.u 88 (.ld false 1 (.t 87)),.m 89 10,.u 90 (.ia 1 (.t 88) (.t 89)),.u 91 (.ld false 1 (.t 90)),.u 92 (.ld true 3 (.t 11)),.u 93 (.call (.t 82) [true,true] [.t 91,.t 92]),.m 12 93,.kill 11]
def f139r17:AC:=.reg i139r17 (some [5,7,9,12,75,76,77])
def i139r18:List It:=[.m 94 12,.u 95 (.bin .neq (.t 94) (.i 0))]
def f139r18:AC:=.reg i139r18 (some [5,7,9,12,75,76,77,95])
def i139r19:List It:=[.m 96 12,.m 8 96,.kill 7]
def f139r19:AC:=.reg i139r19 (some [8])
def i139r20:List It:=[.u 97 (.bin .add (.t 77) (.i 1)),.m 77 97]
def f139r20:AC:=.reg i139r20 (some [5,7,9,75,76,77])
def f139l0:AC:=(.seq f139r15 (.seq (.cond (.t 78) .skip (.exit 0)) (.seq (.blk 1 (.seq f139r16 (.seq f139r17 (.seq f139r18 (.cond (.t 95) (.seq f139r19 .ret) .skip))))) f139r20)))
def i139r21:List It:=[.u 8 (.mv (.i 0)),.kill 7]
def f139r21:AC:=.reg i139r21 (some [8])
def b139:AC:=(.seq f139r0 (.seq (.seq f139r1 (.cond (.t 14) (.seq (.seq f139r2 (.cond (.t 23) (.seq f139r3 .ret) .skip)) (.seq f139r4 (.seq f139r5 .ret))) .skip)) (.seq f139r6 (.seq (.seq f139r7 (.cond (.t 60) (.seq f139r8 .ret) .skip)) (.seq (.seq f139r9 (.cond (.t 64) (.seq (.seq f139r10 (.cond (.t 66) (.seq f139r11 .ret) .skip)) f139r12) .skip)) (.seq f139r13 (.seq (.seq f139r14 (.blk 0 (.loop f139l0))) (.seq f139r21 .ret))))))))
def f139:AF:=⟨6,[(8,none)],false,b139⟩
def tab:Tab:=fun n=>match n with
 |3=>some f3
 |4=>some f4
 |5=>some f5
 |6=>some f6
 |9=>some f9
 |10=>some f10
 |11=>some f11
 |12=>some f12
 |13=>some f13
 |14=>some f14
 |15=>some f15
 |16=>some f16
 |17=>some f17
 |18=>some f18
 |1000288=>some f1000288
 |19=>some f19
 |20=>some f20
 |21=>some f21
 |22=>some f22
 |23=>some f23
 |24=>some f24
 |25=>some f25
 |26=>some f26
 |27=>some f27
 |28=>some f28
 |29=>some f29
 |30=>some f30
 |31=>some f31
 |32=>some f32
 |33=>some f33
 |34=>some f34
 |35=>some f35
 |36=>some f36
 |37=>some f37
 |38=>some f38
 |39=>some f39
 |40=>some f40
 |41=>some f41
 |42=>some f42
 |43=>some f43
 |44=>some f44
 |45=>some f45
 |46=>some f46
 |47=>some f47
 |48=>some f48
 |49=>some f49
 |50=>some f50
 |51=>some f51
 |52=>some f52
 |53=>some f53
 |54=>some f54
 |55=>some f55
 |56=>some f56
 |57=>some f57
 |58=>some f58
 |59=>some f59
 |60=>some f60
 |1000960=>some f1000960
 |61=>some f61
 |62=>some f62
 |63=>some f63
 |64=>some f64
 |65=>some f65
 |66=>some f66
 |67=>some f67
 |68=>some f68
 |69=>some f69
 |70=>some f70
 |71=>some f71
 |72=>some f72
 |73=>some f73
 |74=>some f74
 |75=>some f75
 |76=>some f76
 |77=>some f77
 |78=>some f78
 |79=>some f79
 |80=>some f80
 |81=>some f81
 |82=>some f82
 |1001312=>some f1001312
 |83=>some f83
 |84=>some f84
 |85=>some f85
 |86=>some f86
 |87=>some f87
 |88=>some f88
 |89=>some f89
 |90=>some f90
 |91=>some f91
 |92=>some f92
 |93=>some f93
 |94=>some f94
 |95=>some f95
 |96=>some f96
 |97=>some f97
 |98=>some f98
 |99=>some f99
 |100=>some f100
 |101=>some f101
 |102=>some f102
 |103=>some f103
 |104=>some f104
 |105=>some f105
 |106=>some f106
 |107=>some f107
 |108=>some f108
 |109=>some f109
 |110=>some f110
 |111=>some f111
 |112=>some f112
 |113=>some f113
 |114=>some f114
 |115=>some f115
 |116=>some f116
 |117=>some f117
 |118=>some f118
 |119=>some f119
 |120=>some f120
 |121=>some f121
 |122=>some f122
 |123=>some f123
 |124=>some f124
 |125=>some f125
 |126=>some f126
 |127=>some f127
 |128=>some f128
 |129=>some f129
 |130=>some f130
 |131=>some f131
 |132=>some f132
 |133=>some f133
 |134=>some f134
 |135=>some f135
 |136=>some f136
 |137=>some f137
 |138=>some f138
 |139=>some f139
 |_=>none
end Zc28
end
section
namespace Zv
open Go
open Classical in
noncomputable def lim {α:Type} (g:Nat→Option α):Option α:=if h:∃ k a,g k=some a then some h.choose_spec.choose else none
def Mono {α:Type} (g:Nat→Option α):Prop:=∀ k a,g k=some a→g (k+1)=some a
theorem Mono.le {α:Type} {g:Nat→Option α} (m:Mono g) {k l:Nat} (h:k≤l) {a:α} (hk:g k=some a):g l=some a:=by
 induction h with
 |refl=>exact hk
 |step _ ih=>exact m _ _ ih
theorem lim_some {α:Type} {g:Nat→Option α} (m:Mono g) {a:α}:lim g=some a ↔ ∃ k,g k=some a:=by
 constructor
 ·intro h
  unfold lim at h
  split at h
  ·rename_i hx
   exact⟨hx.choose,by rw[←h];exact hx.choose_spec.choose_spec⟩
  ·cases h
 ·rintro ⟨k,hk⟩
  have hx:∃ k a,g k=some a:=⟨k,a,hk⟩
  unfold lim
  rw[dif_pos hx]
  have h1:=m.le (Nat.le_max_left hx.choose k) hx.choose_spec.choose_spec
  have h2:=m.le (Nat.le_max_right hx.choose k) hk
  rw[h1] at h2
  exact h2
theorem opt_ext {α:Type} {x y:Option α} (h:∀ a,x=some a ↔ y=some a):x=y:=by
 cases x with
 |none=>cases y with
  |none=>rfl
  |some b=>exact ((h b).2 rfl)
 |some a=>exact ((h a).1 rfl).symm
def BLe (f g:Bf):Prop:=∀ e h r,f e h=some r→g e h=some r
def CLe (f g:Cf):Prop:=∀ v vs h r,f v vs h=some r→g v vs h=some r
def LLe (f g:Bf→Bf):Prop:=∀ a b,BLe a b→BLe (f a) (g b)
theorem bind_mono {α β:Type} {x y:Option α} {f g:α→Option β} {r:β} (h:x.bind f=some r) (hx:∀ a,x=some a→y=some a) (hf:∀ a,f a=some r→g a=some r) :
  y.bind g=some r:=by
 cases x with
 |none=>cases h
 |some a=>rw[hx a rfl];exact hf a h
theorem map_mono {α β:Type} {x y:Option α} {f:α→β} {r:β} (h:x.map f=some r) (hx:∀ a,x=some a→y=some a):y.map f=some r:=by
 cases x with
 |none=>cases h
 |some a=>rw[hx a rfl];exact h
theorem nxt_mono {k k':Bf} {o r:Out} (H:nxt k o=some r) (hk:∀ e h,k e h=some r→k' e h=some r):nxt k' o=some r:=by
 obtain ⟨x,e,h⟩:=o
 cases x with
 |norm=>exact hk _ _ H
 |exit i=>exact H
 |ret=>exact H
theorem opX_mono {cf cf':Cf} (hc:CLe cf cf') {e:Env} {h:Hp} {o:AOp} {r:V × Hp} (H:opX cf e h o=some r):opX cf' e h o=some r:=by
 cases o<;>first | exact H | exact hc _ _ _ _ H | exact bind_mono H (fun _ ha=>hc _ _ _ _ ha) (fun _ hq=>hq)
theorem itX_mono {cf cf':Cf} (hc:CLe cf cf') {e:Env} {h:Hp} {o:It} {r:Env × Hp} (H:itX cf e h o=some r):itX cf' e h o=some r:=by
 cases o with
 |o dst op g=>
  unfold itX at H ⊢
  refine bind_mono H (fun a ha=>ha) (fun a ha=>?_)
  split at ha
  ·rename_i hw
   rw[if_pos hw]
   exact map_mono ha (fun _ hb=>opX_mono hc hb)
  ·rename_i hw
   rw[if_neg hw]
   exact ha
 |frz t=>exact H
 |fzd t=>exact H
 |kill t=>exact H
theorem itsX_mono {cf cf':Cf} (hc:CLe cf cf'):∀ {l:List It} {e:Env} {h:Hp} {r:Env × Hp},itsX cf l e h=some r→itsX cf' l e h=some r
 | [],_,_,_,H=>H
 |i::l,e,h,r,H=>by
  unfold itsX at H ⊢
  exact bind_mono H (fun _ ha=>itX_mono hc ha) (fun _ ha=>itsX_mono hc ha)
theorem exec_mono {lp lp':Bf→Bf} {cf cf':Cf} (hl:LLe lp lp') (hc:CLe cf cf'):∀ c:AC,BLe (exec lp cf c) (exec lp' cf' c):=by
 intro c
 induction c with
 |skip=>intro e h r H;exact H
 |reg its kp=>
  intro e h r H
  unfold exec at H ⊢
  exact map_mono H (fun _ ha=>itsX_mono hc ha)
 |seq a b iha ihb=>
  intro e h r H
  unfold exec at H ⊢
  refine bind_mono H (fun _ ha=>iha _ _ _ ha) (fun o ho=>nxt_mono ho fun _ _ hq=>ihb _ _ _ hq)
 |cond x a b iha ihb=>
  intro e h r H
  unfold exec at H ⊢
  refine bind_mono H (fun _ ha=>ha) (fun t ht=>?_)
  split at ht
  ·rename_i hw;rw[if_pos hw];exact iha _ _ _ ht
  ·rename_i hw;rw[if_neg hw];exact ihb _ _ _ ht
 |blk id a iha=>
  intro e h r H
  unfold exec at H ⊢
  exact map_mono H (fun _ ha=>iha _ _ _ ha)
 |loop a iha=>intro e h r H;exact hl _ _ iha _ _ _ H
 |exit id=>intro e h r H;exact H
 |ret=>intro e h r H;exact H
 |amb p x a b r' ihp iha ihb ihr=>
  intro e h r H
  unfold exec at H ⊢
  refine bind_mono H (fun _ ha=>ihp _ _ _ ha) (fun o ho=>nxt_mono ho fun e h hq=>?_)
  have sq:∀ {p:AC},BLe (exec lp cf p) (exec lp' cf' p)→∀ o,(exec lp cf p e h).bind (nxt (exec lp cf r'))=some o→(exec lp' cf' p e h).bind (nxt (exec lp' cf' r'))=some o:=
   fun ihp o ho=>bind_mono ho (fun _ ha=>ihp _ _ _ ha) (fun q hq=>nxt_mono hq fun _ _ hz=>ihr _ _ _ hz)
  unfold ambB at hq ⊢
  split at hq
  ·refine bind_mono hq (fun _ ha=>sq iha _ ha) (fun o ho=>bind_mono ho (fun _ hb=>sq ihb _ hb) (fun _ hq=>hq))
  ·refine bind_mono hq (fun _ ha=>ha) (fun t ht=>?_)
   split at ht
   ·rename_i hw;rw[if_pos hw];exact sq iha _ ht
   ·rename_i hw;rw[if_neg hw];exact sq ihb _ ht
 |rng g b=>
  intro e h r H
  unfold exec at H ⊢
  split at H
  ·rename_i hq
   rw[if_pos hq]
   exact bind_mono H (fun _ ha=>hc _ _ _ _ ha) (fun _ ho=>ho)
  ·cases H
theorem loopN_mono {f g:Bf} (hf:BLe f g):∀ {n m:Nat},n≤m→BLe (loopN f n) (loopN g m)
 |0,_,_,_,_,_,H=>by cases H
 |n+1,0,hm,_,_,_,_=>by omega
 |n+1,m+1,hm,e,h,r,H=>by
  unfold loopN at H ⊢
  refine bind_mono H (fun _ ha=>hf _ _ _ ha) (fun o ho=>nxt_mono ho fun _ _ hq=>loopN_mono hf (by omega) _ _ _ hq)
theorem BLe.refl (f:Bf):BLe f f:=fun _ _ _ h=>h
theorem callee_mono {c c':Nat→List V→Hp→Option (V × Hp)} (h:∀ f vs x r,c f vs x=some r→c' f vs x=some r):CLe (callee c) (callee c'):=by
 intro v vs x r H
 cases v with
 |clo f caps=>
  simp only[callee] at H ⊢
  split at H
  ·cases H
  ·rename_i hy
   rw[if_neg hy]
   exact h _ _ _ _ H
 |yld n=>exact h _ _ _ _ H
 |_=>cases H
theorem rnd_mono {T:Tab} {lp lp':Bf→Bf} {cf cf':Cf} (hl:LLe lp lp') (hc:CLe cf cf') {n:Nat} {vs:List V} {h:Hp} {r:V × Hp} (H:rnd T lp cf n vs h=some r) :
  rnd T lp' cf' n vs h=some r:=by
 unfold rnd at H ⊢
 split at H
 ·refine bind_mono H (fun _ ha=>ha) (fun fn hfn=>?_)
  split at hfn
  ·rename_i asg bdy hb
   split at hfn
   ·rename_i hn
    rw[if_pos hn]
    refine bind_mono hfn (fun _ ha=>exec_mono hl hc _ _ _ _ ha) (fun o ho=>?_)
    split at ho
    ·exact bind_mono ho (fun _ ha=>exec_mono hl hc _ _ _ _ ha) (fun _ hq=>hq)
    ·cases ho
   ·cases hfn
  ·cases hfn
 ·cases H
theorem body_mono {T:Tab} {lp lp':Bf→Bf} {cf cf':Cf} (hl:LLe lp lp') (hc:CLe cf cf') {f:Nat} {vs:List V} {h:Hp} {r:V × Hp} (H:body T lp cf f vs h=some r) :
  body T lp' cf' f vs h=some r:=by
 unfold body at H ⊢
 by_cases hy:f=YF
 ·rw[if_pos hy] at H ⊢
  split at H
  ·exact rnd_mono hl hc H
  ·cases H
 rw[if_neg hy] at H ⊢
 by_cases hr:f<RB
 case neg=>rw[if_neg hr] at H;cases H
 rw[if_pos hr] at H ⊢
 refine bind_mono H (fun _ ha=>ha) (fun fn hfn=>?_)
 split at hfn
 ·rename_i hn
  rw[if_pos hn]
  cases hp:isPr fn.body with
  |some k=>rw[hp] at hfn;exact hfn
  |none=>
   rw[hp] at hfn
   exact bind_mono hfn (fun _ ha=>exec_mono hl hc _ _ _ _ ha) (fun _ ho=>ho)
 ·cases hfn
theorem callK_mono1 (T:Tab):∀ (k f:Nat) (vs:List V) (h:Hp) (r:V × Hp),callK T k f vs h=some r→callK T (k+1) f vs h=some r
 |0,_,_,_,_,H=>by cases H
 |k+1,f,vs,h,r,H=>by
  unfold callK at H ⊢
  exact body_mono (fun _ _ hab=>loopN_mono hab (Nat.le_succ k)) (callee_mono (fun f vs x r=>callK_mono1 T k f vs x r)) H
noncomputable def loopW (f:Bf):Bf:=fun e h=>lim fun n=>loopN f n e h
noncomputable def callW (T:Tab):Nat→List V→Hp→Option (V × Hp):=fun f vs h=>lim fun k=>callK T k f vs h
noncomputable def cW (T:Tab):Cf:=callee (callW T)
noncomputable def ex (T:Tab) (c:AC):Bf:=exec loopW (cW T) c
theorem loopN_M (f:Bf) (e:Env) (h:Hp):Mono fun n=>loopN f n e h:=fun k _ H=>loopN_mono (BLe.refl f) (Nat.le_succ k) _ _ _ H
theorem callK_M (T:Tab) (f:Nat) (vs:List V) (h:Hp):Mono fun k=>callK T k f vs h:=fun k _ H=>callK_mono1 T k _ _ _ _ H
theorem loopW_some {f:Bf} {e:Env} {h:Hp} {r:Out}:loopW f e h=some r ↔ ∃ n,loopN f n e h=some r:=lim_some (loopN_M f e h)
theorem callW_some {T:Tab} {f:Nat} {vs:List V} {h:Hp} {r:V × Hp}:callW T f vs h=some r ↔ ∃ k,callK T k f vs h=some r:=lim_some (callK_M T f vs h)
theorem loopW_eq (f:Bf) (e:Env) (h:Hp):loopW f e h=(f e h).bind (nxt (loopW f)):=by
 refine opt_ext fun a=>?_
 rw[loopW_some]
 constructor
 ·rintro ⟨n,hn⟩
  cases n with
  |zero=>cases hn
  |succ n=>
   unfold loopN at hn
   exact bind_mono hn (fun _ ha=>ha) (fun o ho=>nxt_mono ho fun _ _ hq=>loopW_some.2 ⟨n,hq⟩)
 ·intro H
  cases hf:f e h with
  |none=>rw[hf] at H;cases H
  |some o=>
   obtain ⟨x,e',h'⟩:=o
   rw[hf] at H
   simp only[Option.bind_some] at H
   cases x with
   |norm=>
    obtain ⟨n,hn⟩:=loopW_some.1 H
    exact⟨n+1,by unfold loopN;rw[hf];exact hn⟩
   |exit i=>exact⟨1,by unfold loopN;rw[hf];exact H⟩
   |ret=>exact⟨1,by unfold loopN;rw[hf];exact H⟩
theorem cf_compact (T:Tab) {v:V} {vs:List V} {h:Hp} {r:V × Hp} (H:cW T v vs h=some r):∃ k0,∀ k,k0≤k→callee (callK T k) v vs h=some r:=by
 unfold cW at H
 cases v with
 |clo f caps=>
  simp only[callee] at H ⊢
  split at H
  ·cases H
  ·rename_i hy
   obtain ⟨k,hk⟩:=callW_some.1 H
   exact⟨k,fun l hl=>by rw[if_neg hy];exact (callK_M T _ _ _).le hl hk⟩
 |yld n=>
  obtain ⟨k,hk⟩:=callW_some.1 H
  exact⟨k,fun l hl=>(callK_M T _ _ _).le hl hk⟩
 |_=>cases H
theorem opX_compact (T:Tab) {e:Env} {h:Hp} {o:AOp} {r:V × Hp} (H:opX (cW T) e h o=some r):∃ k0,∀ k,k0≤k→opX (callee (callK T k)) e h o=some r:=by
 cases o<;>first | exact⟨0,fun _ _=>H⟩ | skip
 ·exact cf_compact T H
 case callk k f nm xs=>
  simp only[opX] at H ⊢
  cases hc:cW T (e.ev f) (normArgs nm (xs.map e.ev)) h with
  |none=>rw[hc] at H;cases H
  |some q=>
   rw[hc] at H
   obtain ⟨k0,hk⟩:=cf_compact T hc
   exact⟨k0,fun k hle=>by rw[hk k hle];exact H⟩
 case callz k f nm xs=>
  simp only[opX] at H ⊢
  cases hc:cW T (e.ev f) (normArgs nm (xs.map e.ev)) h with
  |none=>rw[hc] at H;cases H
  |some q=>
   rw[hc] at H
   obtain ⟨k0,hk⟩:=cf_compact T hc
   exact⟨k0,fun k hle=>by rw[hk k hle];exact H⟩
 all_goals
  rename_i f nm xs
  simp only[opX] at H ⊢
  cases hc:cW T (e.ev f) (normArgs nm (xs.map e.ev)) h with
  |none=>rw[hc] at H;cases H
  |some q=>
   rw[hc] at H
   obtain ⟨k0,hk⟩:=cf_compact T hc
   exact⟨k0,fun k hle=>by rw[hk k hle];exact H⟩
theorem itX_compact (T:Tab) {e:Env} {h:Hp} {o:It} {r:Env × Hp} (H:itX (cW T) e h o=some r):∃ k0,∀ k,k0≤k→itX (callee (callK T k)) e h o=some r:=by
 cases o with
 |o dst op g=>
  simp only[itX] at H
  cases hw:want e g with
  |none=>rw[hw] at H;cases H
  |some w=>
   rw[hw] at H
   simp only[Option.bind_some] at H
   by_cases hx:w=true
   ·rw[if_pos hx] at H
    cases ho:opX (cW T) e h op with
    |none=>rw[ho] at H;cases H
    |some q=>
     rw[ho] at H
     obtain ⟨k0,hk⟩:=opX_compact T ho
     refine ⟨k0,fun k hle=>?_⟩
     simp only[itX]
     rw[hw]
     simp only[Option.bind_some]
     rw[if_pos hx,hk k hle]
     exact H
   ·rw[if_neg hx] at H
    refine ⟨0,fun k _=>?_⟩
    simp only[itX]
    rw[hw]
    simp only[Option.bind_some]
    rw[if_neg hx]
    exact H
 |frz t=>exact⟨0,fun _ _=>H⟩
 |fzd t=>exact⟨0,fun _ _=>H⟩
 |kill t=>exact⟨0,fun _ _=>H⟩
theorem itsX_compact (T:Tab):∀ {l:List It} {e:Env} {h:Hp} {r:Env × Hp},itsX (cW T) l e h=some r→∃ k0,∀ k,k0≤k→itsX (callee (callK T k)) l e h=some r
 | [],_,_,_,H=>⟨0,fun _ _=>H⟩
 |i::l,e,h,r,H=>by
  unfold itsX at H
  cases hi:itX (cW T) e h i with
  |none=>rw[hi] at H;cases H
  |some s=>
   rw[hi] at H
   obtain ⟨k1,h1⟩:=itX_compact T hi
   obtain ⟨k2,h2⟩:=itsX_compact T H
   refine ⟨max k1 k2,fun k hk=>?_⟩
   unfold itsX
   rw[h1 k (by omega)]
   exact h2 k (by omega)
theorem exec_compact (T:Tab):∀ (c:AC) {e:Env} {h:Hp} {r:Out},ex T c e h=some r→∃ k0,∀ k,k0≤k→exec (fun b=>loopN b k) (callee (callK T k)) c e h=some r:=by
 intro c
 induction c with
 |skip=>intro e h r H;exact⟨0,fun _ _=>H⟩
 |reg its kp=>
  intro e h r H
  unfold ex exec at H
  cases hi:itsX (cW T) its e h with
  |none=>rw[hi] at H;cases H
  |some s=>
   rw[hi] at H
   obtain ⟨k0,hk⟩:=itsX_compact T hi
   exact⟨k0,fun k hle=>by unfold exec;rw[hk k hle];exact H⟩
 |seq a b iha ihb=>
  intro e h r H
  unfold ex exec at H
  cases ha:exec loopW (cW T) a e h with
  |none=>rw[ha] at H;cases H
  |some o=>
   rw[ha] at H
   obtain ⟨k1,h1⟩:=iha ha
   simp only[Option.bind_some] at H
   obtain ⟨x,e',h'⟩:=o
   cases x with
   |norm=>
    obtain ⟨k2,h2⟩:=ihb (show ex T b e' h'=some r from H)
    exact⟨max k1 k2,fun k hk=>by unfold exec;rw[h1 k (by omega)];exact h2 k (by omega)⟩
   |exit i=>exact⟨k1,fun k hk=>by unfold exec;rw[h1 k hk];exact H⟩
   |ret=>exact⟨k1,fun k hk=>by unfold exec;rw[h1 k hk];exact H⟩
 |cond x a b iha ihb=>
  intro e h r H
  unfold ex exec at H
  cases hc:condB (e.ev x) with
  |none=>rw[hc] at H;cases H
  |some t=>
   rw[hc] at H
   simp only[Option.bind_some] at H
   by_cases ht:t=true
   ·rw[if_pos ht] at H
    obtain ⟨k0,hk⟩:=iha H
    exact⟨k0,fun k hle=>by unfold exec;rw[hc];simp only[Option.bind_some];rw[if_pos ht];exact hk k hle⟩
   ·rw[if_neg ht] at H
    obtain ⟨k0,hk⟩:=ihb H
    exact⟨k0,fun k hle=>by unfold exec;rw[hc];simp only[Option.bind_some];rw[if_neg ht];exact hk k hle⟩
 |blk id a iha=>
  intro e h r H
  unfold ex exec at H
  cases ha:exec loopW (cW T) a e h with
  |none=>rw[ha] at H;cases H
  |some o=>
   rw[ha] at H
   obtain ⟨k0,hk⟩:=iha ha
   exact⟨k0,fun k hle=>by unfold exec;rw[hk k hle];exact H⟩
 |loop a iha=>
  intro e h r H
  unfold ex exec at H
  obtain ⟨n,hn⟩:=loopW_some.1 H
  have key:∀ n e h,loopN (exec loopW (cW T) a) n e h=some r→∃ k0,∀ k,k0≤k→∀ m,n≤m→loopN (exec (fun b=>loopN b k) (callee (callK T k)) a) m e h=some r:=by
   intro n
   induction n with
   |zero=>intro e h hn;cases hn
   |succ n ih=>
    intro e h hn
    unfold loopN at hn
    cases ha:exec loopW (cW T) a e h with
    |none=>rw[ha] at hn;cases hn
    |some o=>
     rw[ha] at hn
     obtain ⟨k1,h1⟩:=iha ha
     simp only[Option.bind_some] at hn
     obtain ⟨x,e',h'⟩:=o
     cases x with
     |norm=>
      obtain ⟨k2,h2⟩:=ih _ _ hn
      refine ⟨max k1 k2,fun k hk m hm=>?_⟩
      obtain ⟨m,rfl⟩:∃ q,m=q+1:=⟨m - 1,by omega⟩
      unfold loopN
      rw[h1 k (by omega)]
      exact h2 k (by omega) m (by omega)
     |exit i=>
      refine ⟨k1,fun k hk m hm=>?_⟩
      obtain ⟨m,rfl⟩:∃ q,m=q+1:=⟨m - 1,by omega⟩
      unfold loopN
      rw[h1 k hk]
      exact hn
     |ret=>
      refine ⟨k1,fun k hk m hm=>?_⟩
      obtain ⟨m,rfl⟩:∃ q,m=q+1:=⟨m - 1,by omega⟩
      unfold loopN
      rw[h1 k hk]
      exact hn
  obtain ⟨k0,hk⟩:=key n e h hn
  exact⟨max k0 n,fun k hle=>by unfold exec;exact hk k (by omega) k (by omega)⟩
 |exit id=>intro e h r H;exact⟨0,fun _ _=>H⟩
 |ret=>intro e h r H;exact⟨0,fun _ _=>H⟩
 |amb pp x a b r' ihp iha ihb ihr=>
  intro e h r H
  have key:∀ (e:Env) (h:Hp),ambB x (exec loopW (cW T) a) (exec loopW (cW T) b) (exec loopW (cW T) r') e h=some r→∃ k0,∀ k,k0≤k→ambB x (exec (fun b=>loopN b k) (callee (callK T k)) a) (exec (fun b=>loopN b k) (callee (callK T k)) b) (exec (fun b=>loopN b k) (callee (callK T k)) r') e h=some r:=by
   intro e h H
   have sq:∀ {p:AC},(∀ {e:Env} {h:Hp} {r:Out},ex T p e h=some r→∃ k0,∀ k,k0≤k→exec (fun b=>loopN b k) (callee (callK T k)) p e h=some r)→∀ {o:Out},(exec loopW (cW T) p e h).bind (nxt (exec loopW (cW T) r'))=some o→∃ k0,∀ k,k0≤k→(exec (fun b=>loopN b k) (callee (callK T k)) p e h).bind (nxt (exec (fun b=>loopN b k) (callee (callK T k)) r'))=some o:=by
    intro p ihp o ho
    cases ha:exec loopW (cW T) p e h with
    |none=>rw[ha] at ho;cases ho
    |some q=>
     rw[ha] at ho
     obtain ⟨k1,h1⟩:=ihp ha
     simp only[Option.bind_some] at ho
     obtain ⟨y,e',h'⟩:=q
     cases y with
     |norm=>
      obtain ⟨k2,h2⟩:=ihr (show ex T r' e' h'=some o from ho)
      exact⟨max k1 k2,fun k hk=>by rw[h1 k (by omega)];exact h2 k (by omega)⟩
     |exit i=>exact⟨k1,fun k hk=>by rw[h1 k hk];exact ho⟩
     |ret=>exact⟨k1,fun k hk=>by rw[h1 k hk];exact ho⟩
   unfold ambB at H
   split at H
   ·rename_i hu
    simp only[Option.bind_eq_some_iff] at H
    obtain ⟨o,ho,q,hq,H⟩:=H
    obtain ⟨k1,h1⟩:=sq iha (Option.bind_eq_some_iff.2 ho)
    obtain ⟨k2,h2⟩:=sq ihb (Option.bind_eq_some_iff.2 hq)
    refine ⟨max k1 k2,fun k hk=>?_⟩
    unfold ambB
    rw[hu]
    simp only
    rw[h1 k (by omega)]
    simp only[Option.bind_some]
    rw[h2 k (by omega)]
    exact H
   ·rename_i v hv
    cases hc:condB (e.ev x) with
    |none=>rw[hc] at H;cases H
    |some t=>
     rw[hc] at H
     simp only[Option.bind_some] at H
     by_cases ht:t=true
     ·rw[if_pos ht] at H
      obtain ⟨k0,hk⟩:=sq iha H
      refine ⟨k0,fun k hle=>?_⟩
      unfold ambB
      split
      ·rename_i hu;exact absurd hu hv
      ·rw[hc];simp only[Option.bind_some];rw[if_pos ht];exact hk k hle
     ·rw[if_neg ht] at H
      obtain ⟨k0,hk⟩:=sq ihb H
      refine ⟨k0,fun k hle=>?_⟩
      unfold ambB
      split
      ·rename_i hu;exact absurd hu hv
      ·rw[hc];simp only[Option.bind_some];rw[if_neg ht];exact hk k hle
  unfold ex exec at H
  cases ha:exec loopW (cW T) pp e h with
  |none=>rw[ha] at H;cases H
  |some o=>
   rw[ha] at H
   obtain ⟨k1,h1⟩:=ihp ha
   simp only[Option.bind_some] at H
   obtain ⟨y,e',h'⟩:=o
   cases y with
   |norm=>
    obtain ⟨k2,h2⟩:=key e' h' H
    exact⟨max k1 k2,fun k hk=>by unfold exec;rw[h1 k (by omega)];exact h2 k (by omega)⟩
   |exit i=>exact⟨k1,fun k hk=>by unfold exec;rw[h1 k hk];exact H⟩
   |ret=>exact⟨k1,fun k hk=>by unfold exec;rw[h1 k hk];exact H⟩
 |rng g b=>
  intro e h r H
  unfold ex exec at H
  split at H
  case isFalse=>cases H
  rename_i hq
  cases hc:cW T (e.ev g) [.yld h.next] (h.alloc (.lp b e none)) with
  |none=>rw[hc] at H;cases H
  |some q=>
   rw[hc] at H
   obtain ⟨k0,hk⟩:=cf_compact T hc
   exact⟨k0,fun k hle=>by unfold exec;rw[if_pos hq,hk k hle];exact H⟩
theorem rnd_compact (T:Tab) {n:Nat} {vs:List V} {h:Hp} {r:V × Hp} (H:rnd T loopW (cW T) n vs h=some r):∃ k0,∀ k,k0≤k→rnd T (fun b=>loopN b k) (callee (callK T k)) n vs h=some r:=by
 unfold rnd at H
 split at H
 case h_2=>cases H
 rename_i b e hg
 cases hT:T (RB+b) with
 |none=>rw[hT] at H;cases H
 |some fn=>
  rw[hT] at H
  simp only[Option.bind_some] at H
  split at H
  case h_2=>cases H
  rename_i asg bdy hb
  split at H
  case isFalse=>cases H
  rename_i hn
  cases ha:exec loopW (cW T) asg (binds (fn.res.map (·.1)) vs e) h with
  |none=>rw[ha] at H;cases H
  |some o=>
   rw[ha] at H
   obtain ⟨k1,h1⟩:=exec_compact T asg ha
   simp only[Option.bind_some] at H
   split at H
   case h_2=>cases H
   rename_i b' e' hx hg'
   cases hq:exec loopW (cW T) bdy o.2.1 (o.2.2.set n (.lp b' e' (some .norm))) with
   |none=>rw[hq] at H;cases H
   |some q=>
    rw[hq] at H
    obtain ⟨k2,h2⟩:=exec_compact T bdy hq
    refine ⟨max k1 k2,fun k hk=>?_⟩
    unfold rnd
    rw[hg]
    simp only
    rw[hT]
    simp only[Option.bind_some]
    rw[hb]
    simp only
    rw[if_pos hn,h1 k (by omega)]
    simp only[Option.bind_some]
    rw[hx,hg']
    simp only
    rw[h2 k (by omega)]
    exact H
theorem LLe_loopW (k:Nat):LLe (fun b=>loopN b k) loopW:=by
 intro a b hab e h r H
 exact loopW_some.2 ⟨k,loopN_mono hab (Nat.le_refl k) _ _ _ H⟩
theorem callW_eq (T:Tab) (f:Nat) (vs:List V) (h:Hp):callW T f vs h=body T loopW (cW T) f vs h:=by
 refine opt_ext fun r=>?_
 rw[callW_some]
 constructor
 ·rintro ⟨k,hk⟩
  cases k with
  |zero=>cases hk
  |succ k=>
   unfold callK at hk
   exact body_mono (LLe_loopW k) (callee_mono fun f vs x r hr=>callW_some.2 ⟨k,hr⟩) hk
 ·intro H
  unfold body at H
  by_cases hy:f=YF
  ·rw[if_pos hy] at H
   split at H
   case h_2=>cases H
   obtain ⟨k0,hk⟩:=rnd_compact T H
   refine ⟨k0+1,?_⟩
   unfold callK body
   rw[if_pos hy]
   exact hk k0 (Nat.le_refl _)
  rw[if_neg hy] at H
  by_cases hr:f<RB
  case neg=>rw[if_neg hr] at H;cases H
  rw[if_pos hr] at H
  cases hT:T f with
  |none=>rw[hT] at H;cases H
  |some fn=>
   rw[hT] at H
   simp only[Option.bind_some] at H
   by_cases hn:vs.length=fn.np
   ·rw[if_pos hn] at H
    cases hp:isPr fn.body with
    |some k=>
     rw[hp] at H
     refine ⟨1,?_⟩
     unfold callK body
     rw[if_neg hy,if_pos hr,hT]
     simp only[Option.bind_some]
     rw[if_pos hn,hp]
     exact H
    |none=>
    rw[hp] at H
    simp only at H
    cases he:exec loopW (cW T) fn.body (args 0 vs) h with
    |none=>rw[he] at H;cases H
    |some o=>
     rw[he] at H
     obtain ⟨k0,hk⟩:=exec_compact T fn.body he
     refine ⟨k0+1,?_⟩
     unfold callK body
     rw[if_neg hy,if_pos hr,hT]
     simp only[Option.bind_some]
     rw[if_pos hn,hp]
     simp only
     rw[hk k0 (Nat.le_refl _)]
     exact H
   ·rw[if_neg hn] at H
    cases H
theorem callW_of (T:Tab) (k:Nat) {f:Nat} {vs:List V} {h:Hp} {r:V × Hp} (H:callK T k f vs h=some r):callW T f vs h=some r:=callW_some.2 ⟨k,H⟩
end Zv
end
section
namespace Zv
open Go
structure Pl where
 b:Nat
 o:Nat
 es:Nat
 sz:Nat
 deriving Inhabited
structure G where
 φ:Nat→Option Obj
 μ:Nat→Nat→Pl
 N:Nat
 B:Nat→Nat
 /-- blocks that stay as they are, and are not looked at -/
 F:Nat→Option Obj
 /-- the code of the rounds: number, parameters, assignments, body, number of variables -/
 C:Nat→Array Tmp→Code→Code→Nat→Prop
def cellφ (φ:Nat→Option Obj) (b p:Nat):Option Value:=
 match φ b with
 |some (.cells c _ _)=>c[p]?
 |_=>none
def At (φ:Nat→Option Obj) (b p:Nat) (vs:List Value):Prop:=∀ j v,vs[j]? = some v→cellφ φ b (p+j)=some v
def leaf:Value→Prop
 | .agg _=>False
 | .tuple _=>False
 |_=>True
mutual
inductive RepD (φ:Nat→Option Obj):D→Value→Prop
 |bool (b:Bool):RepD φ (.bool b) (.bool b)
 |int (k:IntKind) (n:Int):RepD φ (.int k n) (.int k n)
 |str (s:ByteArray):RepD φ (.str s) (.string s)
 |nilp:RepD φ .nilp (.pointer none)
 |nilf:RepD φ .nilf .nilFunc
 |nilm:RepD φ .nilm (.map none)
 |lst (l:List D) (es cap:Nat) (a:Option Addr) (vs:List Value) (hes:∀ x,x ∈ l→x.cells.length=es) (hc:l.length≤cap)
   (hr:RepDs φ (l.flatMap D.cells) vs) (ha:l=[]∨∃ b p,a=some ⟨b,p,none⟩∧At φ b p vs):RepD φ (.lst l) (.slice a l.length cap)
 |agg (l:List D) (vs:List Value) (hr:RepDs φ l vs):RepD φ (.agg l) (.agg vs.toArray)
inductive RepDs (φ:Nat→Option Obj):List D→List Value→Prop
 |nil:RepDs φ [] []
 |cons (x:D) (l:List D) (v:Value) (vs:List Value) (h:RepD φ x v) (hs:RepDs φ l vs) (hf:leaf v):RepDs φ (x::l) (v::vs)
end
mutual
inductive Rep (g:G):V→Value→Prop
 |d (x:D) (v:Value) (h:RepD g.φ x v):Rep g (.d x) v
 |tl (l:List V) (nl:Option Bool) (es:Nat) (a:Option Addr) (vs:List Value) (hes:∀ x,x ∈ l→x.cells.length=es)
   (hr:Reps g (l.flatMap V.cells) vs) (ha:l=[]∨∃ b p,a=some ⟨b,p,none⟩∧At g.φ b p vs)
   (hn:∀ q,nl=some q→(q=true ↔ a=none)) (hf:∀ v,v ∈ vs→leaf v):Rep g (.tl l nl) (.slice a l.length l.length)
 |own (n es tot off len cap:Nat) (a:Addr) (he:(g.μ n tot).es=es) (hN:n<g.N) (hB:tot≤g.B n)
   (ha:cap=0∨a=⟨(g.μ n tot).b,(g.μ n tot).o+off*(g.μ n tot).es,none⟩) (hl:len≤cap) (ht:off+len≤tot) (hc:tot≤off+cap)
   (hs:(g.μ n tot).o+(off+cap)*(g.μ n tot).es≤(g.μ n tot).sz):Rep g (.own n es tot off len) (.slice (some a) len cap)
 |ptr (n tot i off:Nat) (hN:n<g.N) (hB:tot≤g.B n) :
   Rep g (.ptr n tot i off) (.pointer (some ⟨(g.μ n tot).b,(g.μ n tot).o+i*(g.μ n tot).es+off,none⟩))
 |fp (x:D) (off b p:Nat) (vs:List Value) (hr:RepDs g.φ x.cells vs) (ha:At g.φ b p vs):Rep g (.fp x off) (.pointer (some ⟨b,p+off,none⟩))
 |clo (f:Nat) (caps:List V) (vs:List Value) (hr:Reps g caps vs):Rep g (.clo f caps) (.func (.func f) #[] vs.toArray)
 |agg (l:List V) (vs:List Value) (hr:Reps g l vs) (hf:∀ v,v ∈ vs→leaf v):Rep g (.agg l) (.agg vs.toArray)
 |tup (l:List V) (vs:List Value) (hr:Reps g l vs):Rep g (.tup l) (.tuple vs.toArray)
 |map (n:Nat) (hN:n<g.N):Rep g (.map n) (.map (some (g.μ n 0).b))
 |yld (n:Nat) (hN:n<g.N):Rep g (.yld n) (.func (.yield (g.μ n 0).b) #[] #[])
 |ub (b:Bool):Rep g .ub (.bool b)
 |undef (v:Value):Rep g .undef v
inductive Reps (g:G):List V→List Value→Prop
 |nil:Reps g [] []
 |cons (x:V) (l:List V) (v:Value) (vs:List Value) (h:Rep g x v) (hs:Reps g l vs):Reps g (x::l) (v::vs)
end
structure Le (g g':G):Prop where
 φ:∀ b o,g.φ b=some o→g'.φ b=some o
 N:g.N≤g'.N
 B:∀ n,n<g.N→g.B n≤g'.B n
 μ:∀ n t,n<g.N→t≤g.B n→g'.μ n t=g.μ n t
 F:g'.F=g.F
 C:g'.C=g.C
theorem Le.refl (g:G):Le g g:=⟨fun _ _ h=>h,Nat.le_refl _,fun _ _=>Nat.le_refl _,fun _ _ _ _=>rfl,rfl,rfl⟩
theorem Le.trans {a b c:G} (h:Le a b) (k:Le b c):Le a c:=
 ⟨fun _ _ x=>k.φ _ _ (h.φ _ _ x),Nat.le_trans h.N k.N,fun n hn=>Nat.le_trans (h.B n hn) (k.B n (Nat.lt_of_lt_of_le hn h.N)),
  fun n t hn ht=>(k.μ n t (Nat.lt_of_lt_of_le hn h.N) (Nat.le_trans ht (h.B n hn))).trans (h.μ n t hn ht),k.F.trans h.F,k.C.trans h.C⟩
theorem cellφ_mono {φ φ':Nat→Option Obj} (h:∀ b o,φ b=some o→φ' b=some o) {b p:Nat} {v:Value} (hc:cellφ φ b p=some v):cellφ φ' b p=some v:=by
 unfold cellφ at hc ⊢
 cases hb:φ b with
 |none=>rw[hb] at hc;cases hc
 |some o=>rw[hb] at hc;rw[h _ _ hb];exact hc
theorem At.mono {φ φ':Nat→Option Obj} (h:∀ b o,φ b=some o→φ' b=some o) {b p:Nat} {vs:List Value} (ha:At φ b p vs):At φ' b p vs:=
 fun j v hj=>cellφ_mono h (ha j v hj)
mutual
theorem RepD.mono {φ φ':Nat→Option Obj} (h:∀ b o,φ b=some o→φ' b=some o):∀ {x:D} {v:Value},RepD φ x v→RepD φ' x v
 |_,_,.bool b=>.bool b
 |_,_,.int k n=>.int k n
 |_,_,.str s=>.str s
 |_,_,.nilp=>.nilp
 |_,_,.nilf=>.nilf
 |_,_,.nilm=>.nilm
 |_,_,.lst l es cap a vs hes hc hr ha=>.lst l es cap a vs hes hc (RepDs.mono h hr) (ha.imp id fun ⟨b,p,e,hat⟩=>⟨b,p,e,hat.mono h⟩)
 |_,_,.agg l vs hr=>.agg l vs (RepDs.mono h hr)
theorem RepDs.mono {φ φ':Nat→Option Obj} (h:∀ b o,φ b=some o→φ' b=some o):∀ {x:List D} {v:List Value},RepDs φ x v→RepDs φ' x v
 |_,_,.nil=>.nil
 |_,_,.cons x l v vs hx hs hf=>.cons x l v vs (RepD.mono h hx) (RepDs.mono h hs) hf
end
mutual
theorem Rep.mono {g g':G} (h:Le g g'):∀ {x:V} {v:Value},Rep g x v→Rep g' x v
 |_,_,.d x v hx=>.d x v (hx.mono h.φ)
 |_,_,.tl l nl es a vs hes hr ha hn hf=>.tl l nl es a vs hes (Reps.mono h hr) (ha.imp id fun ⟨b,p,e,hat⟩=>⟨b,p,e,hat.mono h.φ⟩) hn hf
 |_,_,.own n es tot off len cap a he hN hB ha hl ht hc hs=>.own n es tot off len cap a (by rw[h.μ n tot hN hB];exact he) (Nat.lt_of_lt_of_le hN h.N) (Nat.le_trans hB (h.B n hN)) (by rw[h.μ n tot hN hB];exact ha) hl ht hc (by rw[h.μ n tot hN hB];exact hs)
 |_,_,.ptr n tot i off hN hB=>by rw[←h.μ n tot hN hB];exact .ptr n tot i off (Nat.lt_of_lt_of_le hN h.N) (Nat.le_trans hB (h.B n hN))
 |_,_,.fp x off b p vs hr ha=>.fp x off b p vs (hr.mono h.φ) (ha.mono h.φ)
 |_,_,.clo f caps vs hr=>.clo f caps vs (Reps.mono h hr)
 |_,_,.agg l vs hr hf=>.agg l vs (Reps.mono h hr) hf
 |_,_,.tup l vs hr=>.tup l vs (Reps.mono h hr)
 |_,_,.map n hN=>by rw[←h.μ n 0 hN (Nat.zero_le _)];exact .map n (Nat.lt_of_lt_of_le hN h.N)
 |_,_,.yld n hN=>by rw[←h.μ n 0 hN (Nat.zero_le _)];exact .yld n (Nat.lt_of_lt_of_le hN h.N)
 |_,_,.ub b=>.ub b
 |_,_,.undef v=>.undef v
theorem Reps.mono {g g':G} (h:Le g g'):∀ {x:List V} {v:List Value},Reps g x v→Reps g' x v
 |_,_,.nil=>.nil
 |_,_,.cons x l v vs hx hs=>.cons x l v vs (Rep.mono h hx) (Reps.mono h hs)
end
theorem RepDs.length {φ:Nat→Option Obj}:∀ {l:List D} {vs:List Value},RepDs φ l vs→vs.length=l.length
 |_,_,.nil=>rfl
 |_,_,.cons _ _ _ _ _ hs _=>by simp[RepDs.length hs]
theorem Reps.length {g:G}:∀ {l:List V} {vs:List Value},Reps g l vs→vs.length=l.length
 |_,_,.nil=>rfl
 |_,_,.cons _ _ _ _ _ hs=>by simp[Reps.length hs]
theorem RepDs.app {φ:Nat→Option Obj}:∀ {l:List D} {vs:List Value} {l':List D} {vs':List Value},RepDs φ l vs→RepDs φ l' vs'→RepDs φ (l++l') (vs++vs')
 |_,_,_,_,.nil,k=>k
 |_,_,_,_,.cons x l v vs hx hs hf,k=>.cons x _ v _ hx (RepDs.app hs k) hf
theorem Reps.app {g:G}:∀ {l:List V} {vs:List Value} {l':List V} {vs':List Value},Reps g l vs→Reps g l' vs'→Reps g (l++l') (vs++vs')
 |_,_,_,_,.nil,k=>k
 |_,_,_,_,.cons x l v vs hx hs,k=>.cons x _ v _ hx (Reps.app hs k)
theorem RepDs.split {φ:Nat→Option Obj}:∀ {l l':List D} {vs:List Value},RepDs φ (l++l') vs→RepDs φ l (vs.take l.length)∧RepDs φ l' (vs.drop l.length)
 | [],_,_,h=>⟨.nil,h⟩
 |x::l,l',_,.cons _ _ v vs hx hs hf=>⟨.cons x l v _ hx (RepDs.split hs).1 hf,(RepDs.split hs).2⟩
theorem Reps.split {g:G}:∀ {l l':List V} {vs:List Value},Reps g (l++l') vs→Reps g l (vs.take l.length)∧Reps g l' (vs.drop l.length)
 | [],_,_,h=>⟨.nil,h⟩
 |x::l,l',_,.cons _ _ v vs hx hs=>⟨.cons x l v _ hx (Reps.split hs).1,(Reps.split hs).2⟩
theorem RepDs.drop {φ:Nat→Option Obj}:∀ {l:List D} {vs:List Value} (n:Nat),RepDs φ l vs→RepDs φ (l.drop n) (vs.drop n)
 |_,_,0,h=>h
 |_,_,_+1,.nil=>.nil
 |_,_,n+1,.cons _ _ _ _ _ hs _=>hs.drop n
theorem Reps.drop {g:G}:∀ {l:List V} {vs:List Value} (n:Nat),Reps g l vs→Reps g (l.drop n) (vs.drop n)
 |_,_,0,h=>h
 |_,_,_+1,.nil=>.nil
 |_,_,n+1,.cons _ _ _ _ _ hs=>hs.drop n
theorem RepDs.take {φ:Nat→Option Obj}:∀ {l:List D} {vs:List Value} (n:Nat),RepDs φ l vs→RepDs φ (l.take n) (vs.take n)
 |_,_,0,_=>.nil
 |_,_,_+1,.nil=>.nil
 |_,_,n+1,.cons x _ v _ h hs hf=>.cons x _ v _ h (hs.take n) hf
theorem Reps.take {g:G}:∀ {l:List V} {vs:List Value} (n:Nat),Reps g l vs→Reps g (l.take n) (vs.take n)
 |_,_,0,_=>.nil
 |_,_,_+1,.nil=>.nil
 |_,_,n+1,.cons x _ v _ h hs=>.cons x _ v _ h (hs.take n)
theorem RepDs.get {φ:Nat→Option Obj}:∀ {l:List D} {vs:List Value} {i:Nat} {x:D},RepDs φ l vs→l[i]? = some x→∃ v,vs[i]? = some v∧RepD φ x v
 |_,_,_,_,.nil,h=>by simp at h
 |_,_,0,_,.cons x _ v _ hx _ _,h=>by simp at h;subst h;exact⟨v,rfl,hx⟩
 |_,_,i+1,_,.cons _ _ _ _ _ hs _,h=>by simp at h;simpa using RepDs.get hs h
theorem Reps.get {g:G}:∀ {l:List V} {vs:List Value} {i:Nat} {x:V},Reps g l vs→l[i]? = some x→∃ v,vs[i]? = some v∧Rep g x v
 |_,_,_,_,.nil,h=>by simp at h
 |_,_,0,_,.cons x _ v _ hx _,h=>by simp at h;subst h;exact⟨v,rfl,hx⟩
 |_,_,i+1,_,.cons _ _ _ _ _ hs,h=>by simp at h;simpa using Reps.get hs h
theorem Reps.of_map_d {g:G}:∀ {l:List D} {vs:List Value},RepDs g.φ l vs→Reps g (l.map .d) vs
 |_,_,.nil=>.nil
 |_,_,.cons x l v vs hx hs _=>.cons (.d x) _ v vs (.d x v hx) (Reps.of_map_d hs)
theorem Reps.to_map_d {g:G}:∀ {l:List D} {vs:List Value},Reps g (l.map .d) vs→(∀ v,v ∈ vs→leaf v)→RepDs g.φ l vs
 | [],_,.nil,_=>.nil
 |_::_,_,.cons _ _ v vs (.d x _ hx) hs,hf=>.cons x _ v vs hx (Reps.to_map_d hs fun u hu=>hf u (List.mem_cons_of_mem _ hu)) (hf v (List.mem_cons_self))
theorem RepDs.leaf {φ:Nat→Option Obj}:∀ {l:List D} {vs:List Value},RepDs φ l vs→∀ v,v ∈ vs→Zv.leaf v
 |_,_,.nil,_,h=>by simp at h
 |_,_,.cons _ _ _ _ _ hs hf,v,h=>by
  rcases List.mem_cons.1 h with rfl | h
  ·exact hf
  ·exact RepDs.leaf hs v h
theorem RepD.cells {φ:Nat→Option Obj} {x:D} {v:Value} (h:RepD φ x v):RepDs φ x.cells v.cells.toList:=by
 cases h with
 |agg l vs hr=>simpa [D.cells,Value.cells] using hr
 |bool b=>exact .cons _ _ _ _ (.bool b) .nil trivial
 |int k n=>exact .cons _ _ _ _ (.int k n) .nil trivial
 |str s=>exact .cons _ _ _ _ (.str s) .nil trivial
 |nilp=>exact .cons _ _ _ _ .nilp .nil trivial
 |nilf=>exact .cons _ _ _ _ .nilf .nil trivial
 |nilm=>exact .cons _ _ _ _ .nilm .nil trivial
 |lst l es cap a vs hes hc hr ha=>exact .cons _ _ _ _ (.lst l es cap a vs hes hc hr ha) .nil trivial
theorem Rep.cells {g:G} {x:V} {v:Value} (hu:stor x=true) (h:Rep g x v):Reps g x.cells v.cells.toList∧∀ u,u ∈ v.cells.toList→leaf u:=by
 have one:∀ u:Value,leaf u→∀ q,q ∈ [u]→leaf q:=fun u hu q hq=>by simp at hq;subst hq;exact hu
 cases h with
 |d x v hx=>exact⟨Reps.of_map_d hx.cells,hx.cells.leaf⟩
 |agg l vs hr hf=>exact⟨by simpa [V.cells,Value.cells] using hr,by simpa [Value.cells] using hf⟩
 |tl l nl es a vs hes hr ha hn hf=>exact⟨.cons _ _ _ _ (.tl l nl es a vs hes hr ha hn hf) .nil,one _ trivial⟩
 |own n es tot off len cap a he hN hB ha hl ht hc hs=>exact⟨.cons _ _ _ _ (.own n es tot off len cap a he hN hB ha hl ht hc hs) .nil,one _ trivial⟩
 |ptr n tot i off hN hB=>exact⟨.cons _ _ _ _ (.ptr n tot i off hN hB) .nil,one _ trivial⟩
 |fp x off b p vs hr ha=>exact⟨.cons _ _ _ _ (.fp x off b p vs hr ha) .nil,one _ trivial⟩
 |clo f caps vs hr=>exact⟨.cons _ _ _ _ (.clo f caps vs hr) .nil,one _ trivial⟩
 |tup l vs hr=>cases hu
 |map n hN=>exact⟨.cons _ _ _ _ (.map n hN) .nil,one _ trivial⟩
 |yld n hN=>exact⟨.cons _ _ _ _ (.yld n hN) .nil,one _ trivial⟩
 |ub b=>exact⟨.cons _ _ _ _ (.ub b) .nil,one _ trivial⟩
 |undef v=>cases hu
theorem toDs_cons {x:V} {l:List V} {ys:List D} (h:toDs (x::l)=some ys):∃ y r,toD x=some y∧toDs l=some r∧ys=y::r:=by
 simp only[toDs] at h
 cases h1:toD x with
 |none=>rw[h1] at h;simp at h
 |some a=>
  cases h2:toDs l with
  |none=>rw[h1,h2] at h;simp at h
  |some b=>rw[h1,h2] at h;simp at h;exact⟨a,b,rfl,rfl,h.symm⟩
theorem toDs_mk {x:V} {l:List V} {y:D} {r:List D} (h:toD x=some y) (k:toDs l=some r):toDs (x::l)=some (y::r):=by
 simp only[toDs,h,k]
theorem toDs_length:∀ {l:List V} {ys:List D},toDs l=some ys→l.length=ys.length
 | [],ys,h=>by simp[toDs] at h;subst h;rfl
 |x::l,ys,h=>by obtain ⟨y,r,_,h2,rfl⟩:=toDs_cons h;simp[toDs_length h2]
theorem toDs_app:∀ {l k:List V} {ys zs:List D},toDs l=some ys→toDs k=some zs→toDs (l++k)=some (ys++zs)
 | [],k,ys,zs,h,h'=>by simp[toDs] at h;subst h;exact h'
 |x::l,k,ys,zs,h,h'=>by obtain ⟨y,r,h1,h2,rfl⟩:=toDs_cons h;exact toDs_mk h1 (toDs_app h2 h')
theorem toDs_map_d:∀ (l:List D),toDs (l.map .d)=some l
 | []=>rfl
 |x::l=>toDs_mk rfl (toDs_map_d l)
theorem toD_cells {x:V} {y:D} (h:toD x=some y):toDs x.cells=some y.cells:=by
 cases x with
 |d z=>simp[toD] at h;subst h;exact toDs_map_d _
 |tl l nl=>
  have h':=h
  simp only[toD,Option.map_eq_some_iff] at h'
  obtain ⟨ds,hds,rfl⟩:=h'
  exact toDs_mk h rfl
 |agg l=>
  simp only[toD,Option.map_eq_some_iff] at h
  obtain ⟨ds,hds,rfl⟩:=h
  exact hds
 |_=>simp[toD] at h
theorem toDs_flat:∀ {l:List V} {ys:List D},toDs l=some ys→toDs (l.flatMap V.cells)=some (ys.flatMap D.cells)
 | [],ys,h=>by simp[toDs] at h;subst h;rfl
 |x::l,ys,h=>by
  obtain ⟨y,r,h1,h2,rfl⟩:=toDs_cons h
  simpa using toDs_app (toD_cells h1) (toDs_flat h2)
theorem toD_len {x:V} {y:D} (h:toD x=some y):y.cells.length=x.cells.length:=(toDs_length (toD_cells h)).symm
theorem toDs_es:∀ {l:List V} {ys:List D} {es:Nat},toDs l=some ys→(∀ x,x ∈ l→x.cells.length=es)→∀ y,y ∈ ys→y.cells.length=es
 | [],ys,es,h,_,y,hy=>by simp[toDs] at h;subst h;simp at hy
 |x::l,ys,es,h,hes,y,hy=>by
  obtain ⟨z,r,h1,h2,rfl⟩:=toDs_cons h
  rcases List.mem_cons.1 hy with rfl | hy
  ·rw[toD_len h1];exact hes x (by simp)
  ·exact toDs_es h2 (fun q hq=>hes q (by simp[hq])) y hy
mutual
theorem Rep.toD {g:G}:∀ {x:V} {v:Value} {y:D},Rep g x v→toD x=some y→RepD g.φ y v
 |_,_,_,.d x v hx,h=>by simp[Zv.toD] at h;subst h;exact hx
 |_,_,_,.tl l nl es a vs hes hr ha hn hf,h=>by
  simp only[Zv.toD,Option.map_eq_some_iff] at h
  obtain ⟨ds,hds,rfl⟩:=h
  rw[toDs_length hds]
  exact .lst ds es ds.length a vs (toDs_es hds hes) (Nat.le_refl _) (Reps.toDs hr (toDs_flat hds) hf) (ha.imp (fun e=>by subst e;simp[Zv.toDs] at hds;exact hds) id)
 |_,_,_,.agg l vs hr hf,h=>by
  simp only[Zv.toD,Option.map_eq_some_iff] at h
  obtain ⟨ds,hds,rfl⟩:=h
  exact .agg ds vs (Reps.toDs hr hds hf)
 |_,_,_,.own ..,h=>by simp[Zv.toD] at h
 |_,_,_,.ptr ..,h=>by simp[Zv.toD] at h
 |_,_,_,.fp ..,h=>by simp[Zv.toD] at h
 |_,_,_,.clo ..,h=>by simp[Zv.toD] at h
 |_,_,_,.tup ..,h=>by simp[Zv.toD] at h
 |_,_,_,.map ..,h=>by simp[Zv.toD] at h
 |_,_,_,.yld ..,h=>by simp[Zv.toD] at h
 |_,_,_,.ub ..,h=>by simp[Zv.toD] at h
 |_,_,_,.undef ..,h=>by simp[Zv.toD] at h
theorem Reps.toDs {g:G}:∀ {x:List V} {v:List Value} {y:List D},Reps g x v→toDs x=some y→(∀ u,u ∈ v→Zv.leaf u)→RepDs g.φ y v
 |_,_,_,.nil,h,_=>by simp[Zv.toDs] at h;subst h;exact .nil
 |_,_,_,.cons x l v vs hx hs,h,hf=>by
  simp only[Zv.toDs] at h
  cases h1:Zv.toD x with
  |none=>rw[h1] at h;simp at h
  |some a=>
   cases h2:Zv.toDs l with
   |none=>rw[h1,h2] at h;simp at h
   |some b=>
    rw[h1,h2] at h
    simp at h
    subst h
    exact .cons a b v vs (Rep.toD hx h1) (Reps.toDs hs h2 fun u hu=>hf u (List.mem_cons_of_mem _ hu)) (hf v (List.mem_cons_self))
end
theorem Rep.norm {g:G} {x:V} {v:Value} (h:Rep g x v):Rep g (Zv.norm x) v:=by
 unfold Zv.norm
 split
 ·rename_i y hy;exact .d y v (h.toD hy)
 ·exact h
theorem norm_len (x:V):(norm x).cells.length=x.cells.length:=by
 unfold norm
 split
 ·rename_i y hy
  show (y.cells.map V.d).length=_
  rw[List.length_map,toD_len hy]
 ·rfl
theorem asD_toDs:∀ {l:List V} {ds:List D},asD l=some ds→toDs l=some ds
 | [],ds,h=>by simp[asD] at h;subst h;rfl
 | .d x::l,ds,h=>by
  simp only[asD,Option.map_eq_some_iff] at h
  obtain ⟨r,hr,rfl⟩:=h
  exact toDs_mk rfl (asD_toDs hr)
theorem Rep.mkAgg {g:G} {l:List V} {vs:List Value} (h:Reps g l vs) (hf:∀ u,u ∈ vs→leaf u):Rep g (Zv.mkAgg l) (.agg vs.toArray):=by
 unfold Zv.mkAgg
 split
 ·rename_i ds hds;exact .d _ _ (.agg ds vs (h.toDs (asD_toDs hds) hf))
 ·exact .agg l vs h hf
theorem stor_norm {x:V} (h:stor x=true):stor (norm x)=true:=by
 unfold norm
 split
 ·rfl
 ·exact h
structure Fx (w w':World):Prop where
 os:w'.os=w.os
 tape:w'.tape=w.tape
 output:w'.output=w.output
 size:w.heap.size≤w'.heap.size
theorem Fx.refl (w:World):Fx w w:=⟨rfl,rfl,rfl,Nat.le_refl _⟩
theorem Fx.trans {a b c:World} (h:Fx a b) (k:Fx b c):Fx a c:=⟨k.os.trans h.os,k.tape.trans h.tape,k.output.trans h.output,Nat.le_trans h.size k.size⟩
def Ob.tot:Ob→Nat
 | .arr _ els=>els.length
 | .mp _=>0
 | .lp _ _ _=>0
def blk (g:G) (n:Nat) (o:Ob):Nat:=(g.μ n o.tot).b
inductive RepKvs (g:G):List (D × V)→List MapEntry→Prop
 |nil:RepKvs g [] []
 |cons (k:D) (x:V) (l:List (D × V)) (e:MapEntry) (es:List MapEntry) (hk:RepD g.φ k e.key) (hx:Rep g x e.val) (hs:RepKvs g l es):RepKvs g ((k,x)::l) (e::es)
def LpSt:Option Ex→LoopState→Option Code→Prop
 |none,s,p=>s=.ready∧p=none
 |some .norm,s,p=>s=.busy∧p=none
 |some (.exit i),s,p=>s=.done∧p=some (.exit i)
 |some .ret,s,p=>s=.done∧p=some .ret
def ObRep (g:G) (w:World) (n:Nat):Ob→Prop
 | .arr es els=>∃ c ty vs,w.heap[(g.μ n els.length).b]? = some (.cells c ty (0,0))∧c.size=(g.μ n els.length).sz∧((g.μ n els.length).es=es∧(g.μ n els.length).o+els.length*es≤(g.μ n els.length).sz) ∧
   (∀ x,x ∈ els→x.cells.length=es)∧Reps g (els.flatMap V.cells) vs∧(∀ u,u ∈ vs→leaf u)∧(∀ j v,vs[j]? = some v→c[(g.μ n els.length).o+j]? = some v)
 | .mp kvs=>∃ es clock,w.heap[(g.μ n 0).b]? = some (.map es clock)∧RepKvs g kvs es.toList
 | .lp b e s=>∃ r:Loop,w.heap[(g.μ n 0).b]? = some (.loop r)∧(∀ t,Rep g (Env.get e t) (r.tmps.getD t undef))∧g.C b r.params r.assign r.body r.tmps.size∧LpSt s r.state r.pending
structure Rel (g:G) (h:Hp) (w:World):Prop where
 nx:h.next=g.N
 fr:∀ b o,g.φ b=some o→w.heap[b]? = some o
 nd:(h.objs.map (·.1)).Nodup
 ob:∀ n o,h.get n=some o→n<g.N∧g.B n=o.tot∧ObRep g w n o
 sep:∀ n m o p,h.get n=some o→h.get m=some p→n≠m→blk g n o≠blk g m p
 out:∀ n o,h.get n=some o→g.φ (blk g n o)=none
 kp:∀ b o,g.F b=some o→w.heap[b]? = some o∧g.φ b=none
 kpo:∀ n o,h.get n=some o→g.F (blk g n o)=none
theorem RepKvs.mono {g g':G} (h:Le g g'):∀ {l:List (D × V)} {es:List MapEntry},RepKvs g l es→RepKvs g' l es
 |_,_,.nil=>.nil
 |_,_,.cons k x l e es hk hx hs=>.cons k x l e es (hk.mono h.φ) (hx.mono h) (RepKvs.mono h hs)
theorem ObRep.mono {g g':G} {w w':World} {n:Nat} {o:Ob} (hle:Le g g') (hn:n<g.N) (hB:o.tot≤g.B n) (hb:w'.heap[blk g n o]? = w.heap[blk g n o]?) (h:ObRep g w n o):ObRep g' w' n o:=by
 cases o with
 |arr es els=>
  obtain ⟨c,ty,vs,h1,h2,h3,h4,h5,h6,h7⟩:=h
  have e:=hle.μ n els.length hn hB
  simp only[ObRep]
  rw[e]
  exact⟨c,ty,vs,hb.trans h1,h2,h3,h4,h5.mono hle,h6,h7⟩
 |mp kvs=>
  obtain ⟨es,cl,h1,h2⟩:=h
  have e:=hle.μ n 0 hn (Nat.zero_le _)
  simp only[ObRep]
  rw[e]
  exact⟨es,cl,hb.trans h1,h2.mono hle⟩
 |lp b ev s=>
  obtain ⟨r,h1,h2,h3,h4⟩:=h
  have e:=hle.μ n 0 hn (Nat.zero_le _)
  simp only[ObRep]
  rw[e]
  exact⟨r,hb.trans h1,fun t=>(h2 t).mono hle,by rw[hle.C];exact h3,h4⟩
theorem blk_mono {g g':G} {n:Nat} {o:Ob} (hle:Le g g') (hn:n<g.N) (hB:o.tot≤g.B n):blk g' n o=blk g n o:=by
 unfold blk;rw[hle.μ n _ hn hB]
theorem look_mem:∀ {l:List (Nat × Ob)} {n:Nat} {o:Ob},look l n=some o→(n,o) ∈ l
 | (m,q)::l,n,o,h=>by
  unfold look at h
  split at h
  ·rename_i e;subst e;simp at h;subst h;simp
  ·exact List.mem_cons_of_mem _ (look_mem h)
theorem look_of_mem:∀ {l:List (Nat × Ob)} {n:Nat} {o:Ob},(l.map (·.1)).Nodup→(n,o) ∈ l→look l n=some o
 | (m,q)::l,n,o,hd,h=>by
  unfold look
  rw[List.map_cons,List.nodup_cons] at hd
  rcases List.mem_cons.1 h with e | h'
  ·cases e;simp
  ·rw[if_neg (fun e=>hd.1 (by subst e;exact List.mem_map.2 ⟨(n,o),h',rfl⟩))]
   exact look_of_mem hd.2 h'
theorem look_none:∀ {l:List (Nat × Ob)} {n:Nat},n ∉ l.map (·.1)→look l n=none
 | [],_,_=>rfl
 | (m,q)::l,n,h=>by
  simp at h
  unfold look
  rw[if_neg h.1]
  exact look_none (by simpa using h.2)
theorem look_upd:∀ {l:List (Nat × Ob)} {n:Nat} {o q:Ob} (m:Nat),look l n=some q→look (upd l n o) m=if m=n then some o else look l m
 | (k,x)::l,n,o,q,m,h=>by
  unfold look at h
  by_cases e:n=k
  ·subst e
   simp only[upd,if_true,look]
   by_cases e2:m=n
   ·simp[e2]
   ·simp[e2]
  ·rw[if_neg e] at h
   simp only[upd,if_neg e,look]
   by_cases e2:m=k
   ·subst e2
    rw[if_pos rfl,if_neg (fun h=>e h.symm),if_pos rfl]
   ·rw[if_neg e2,if_neg e2]
    exact look_upd m h
theorem upd_keys:∀ (l:List (Nat × Ob)) (n:Nat) (o:Ob),(upd l n o).map (·.1)=l.map (·.1)
 | [],_,_=>rfl
 | (k,x)::l,n,o=>by
  unfold upd
  split
  ·simp
  ·simp[upd_keys l n o]
theorem del_keys:∀ (l:List (Nat × Ob)) (n:Nat),((del l n).map (·.1)).Sublist (l.map (·.1))
 | [],_=>.slnil
 | (k,x)::l,n=>by
  unfold del
  split
  ·exact List.sublist_cons_self _ _
  ·exact (del_keys l n).cons_cons _
theorem look_del:∀ {l:List (Nat × Ob)} {n:Nat} (m:Nat),(l.map (·.1)).Nodup→look (del l n) m=if m=n then none else look l m
 | [],n,m,_=>by simp[del,look]
 | (k,x)::l,n,m,hd=>by
  rw[List.map_cons,List.nodup_cons] at hd
  unfold del
  by_cases e:n=k
  ·subst e
   rw[if_pos rfl]
   by_cases e2:m=n
   ·subst e2;rw[if_pos rfl];exact look_none hd.1
   ·rw[if_neg e2];simp only[look];rw[if_neg e2]
  ·rw[if_neg e]
   simp only[look]
   by_cases e2:m=k
   ·subst e2;rw[if_pos rfl,if_neg (fun h=>e h.symm),if_pos rfl]
   ·rw[if_neg e2,if_neg e2];exact look_del m hd.2
end Zv
end
section
namespace Zv
open Go
section
variable {P:Program} {g:G} {w:World}
theorem str_beq (a b:ByteArray):(a.toList == b.toList)=decide (a=b):=by
 rw[ByteArray.toList_eq,ByteArray.toList_eq]
 by_cases h:a=b
 ·subst h;simp
 ·have:¬ a.data.toList=b.data.toList:=fun e=>h (WideShapes.bytes_inj e)
  rw[decide_eq_false h]
  exact beq_eq_false_iff_ne.2 this
theorem ba_beq (a b:ByteArray):(a == b)=decide (a=b):=by
 obtain ⟨x⟩:=a
 obtain ⟨y⟩:=b
 have e:((⟨x⟩:ByteArray) == ⟨y⟩)=(x == y):=rfl
 rw[e,Bool.eq_iff_iff]
 simp
theorem Rep.dI {x:D} {v:Value} (h:Rep g (.d x) v):RepD g.φ x v:=by cases h;assumption
theorem Rep.intI {k:IntKind} {n:Int} {v:Value} (h:Rep g (.d (.int k n)) v):v=.int k n:=by cases h.dI;rfl
theorem Rep.boolI {b:Bool} {v:Value} (h:Rep g (.d (.bool b)) v):v=.bool b:=by cases h.dI;rfl
theorem Rep.strI {s:ByteArray} {v:Value} (h:Rep g (.d (.str s)) v):v=.string s:=by cases h.dI;rfl
def Gives (P:Program) (g:G) (w:World) (s:Sem Value) (x:V):Prop:=∃ v,s.run P w=.ok v w∧Rep g x v
theorem intBin_ok {op:BinOp} {k:IntKind} {a b:Int} {z:V} (t:TypeId) (h:intBin op k a b=some z):Gives P g w (binOp op t (.int k a) (.int k b)) z:=by
 cases op
 case add=>cases h;exact⟨.int k (k.wrap (a+b)),by simp[binOp,Op.intArith],.d _ _ (.int _ _)⟩
 case sub=>cases h;exact⟨.int k (k.wrap (a - b)),by simp[binOp,Op.intArith],.d _ _ (.int _ _)⟩
 case mul=>cases h;exact⟨.int k (k.wrap (a*b)),by simp[binOp,Op.intArith],.d _ _ (.int _ _)⟩
 case quo=>
  simp only[intBin] at h
  by_cases hb:b=0
  ·rw[if_pos hb] at h;cases h
  ·rw[if_neg hb] at h;cases h;exact⟨.int k (k.wrap (a.tdiv b)),by simp[binOp,Op.intDiv,hb],.d _ _ (.int _ _)⟩
 case rem=>
  simp only[intBin] at h
  by_cases hb:b=0
  ·rw[if_pos hb] at h;cases h
  ·rw[if_neg hb] at h;cases h;exact⟨.int k (a.tmod b),by simp[binOp,Op.intDiv,hb],.d _ _ (.int _ _)⟩
 case eql=>cases h;exact⟨.bool (a == b),by simp[binOp,Op.intCmp],.d _ _ (.bool _)⟩
 case neq=>cases h;exact⟨.bool (a != b),by simp[binOp,Op.intCmp],.d _ _ (.bool _)⟩
 case lss=>cases h;exact⟨.bool (decide (a<b)),by simp[binOp,Op.intCmp],.d _ _ (.bool _)⟩
 case leq=>cases h;exact⟨.bool (decide (a≤b)),by simp[binOp,Op.intCmp],.d _ _ (.bool _)⟩
 case gtr=>cases h;exact⟨.bool (decide (a > b)),by simp[binOp,Op.intCmp],.d _ _ (.bool _)⟩
 case geq=>cases h;exact⟨.bool (decide (a ≥ b)),by simp[binOp,Op.intCmp],.d _ _ (.bool _)⟩
 all_goals cases h
theorem strBin_ok {op:BinOp} {a b:ByteArray} {z:V} (t:TypeId) (h:strBin op a b=some z):Gives P g w (binOp op t (.string a) (.string b)) z:=by
 cases op
 case add=>
  simp only[strBin] at h
  by_cases hb:a.size+b.size≤2 ^ 62
  ·rw[if_pos hb] at h
   cases h
   refine ⟨.string (a++b),?_,.d _ _ (.str _)⟩
   have h2:a.size+b.size≤4611686018427387904:=by simpa using hb
   have:¬ ((a.size+b.size:Nat):Int) > IntKind.i64.max:=by
    have e:IntKind.i64.max=9223372036854775807:=rfl
    rw[e];omega
   simp only[binOp,Op.stringOp,if_neg this]
   rfl
  ·rw[if_neg hb] at h;cases h
 case eql=>cases h;exact⟨.bool (decide (a=b)),by simp[binOp,Op.stringOp,str_beq],.d _ _ (.bool _)⟩
 case neq=>cases h;exact⟨.bool (!decide (a=b)),by simp[binOp,Op.stringOp,str_beq],.d _ _ (.bool _)⟩
 case lss=>cases h;exact⟨.bool (Op.bytesLess a.toList b.toList),by simp[binOp,Op.stringOp],.d _ _ (.bool _)⟩
 all_goals cases h
theorem bin_ok {op:BinOp} {x y z:V} {a b:Value} (t:TypeId) (h:bin op x y=some z) (ha:Rep g x a) (hb:Rep g y b):Gives P g w (binOp op t a b) z:=by
 unfold bin at h
 split at h
 ·cases ha with | d _ _ ha=>cases hb with | d _ _ hb=>
  cases ha;cases hb
  split at h
  ·rename_i e;subst e;exact intBin_ok t h
  ·cases h
 ·cases ha with | d _ _ ha=>cases hb with | d _ _ hb=>
  cases ha;cases hb
  exact strBin_ok t h
 ·cases h
theorem eqIn_bool {t:TypeId} (ht:P.underlying t=some .bool) (d:Nat) (p q:Bool):(Op.equalIn (d+1) t (.bool p) (.bool q)).run P w=.ok (p == q) w:=by
 simp[Op.equalIn,run_underlying ht]
theorem eq_bool {t:TypeId} (ht:P.underlying t=some .bool) (p q:Bool):(Op.equal t (.bool p) (.bool q)).run P w=.ok (p == q) w:=eqIn_bool ht 9999 p q
theorem binB_ok {op:BinOp} {x y z:V} {a b:Value} {t:TypeId} (ht:P.underlying t=some .bool) (h:binB op x y=some z) (ha:Rep g x a) (hb:Rep g y b):Gives P g w (binOp op t a b) z:=by
 unfold binB at h
 split at h
 ·rename_i p q
  cases ha with | d _ _ ha=>cases hb with | d _ _ hb=>
  cases ha;cases hb
  cases op
  case eql=>cases h;exact⟨.bool (p == q),by simp only[binOp,Sem.run_bind,eq_bool ht,Result.andThen_ok,Sem.run_pure],.d _ _ (.bool _)⟩
  case neq=>cases h;exact⟨.bool (!(p == q)),by simp only[binOp,Sem.run_bind,eq_bool ht,Result.andThen_ok,Sem.run_pure],.d _ _ (.bool _)⟩
  all_goals cases h
 ·cases h
def nkOk (P:Program) (k:NK) (t:TypeId):Bool:=
 match k,P.underlying t with
 | .p,some (.pointer _)=>true
 | .f,some (.func ..)=>true
 | .m,some (.map ..)=>true
 | .s,some (.slice _)=>true
 |_,_=>false
def nilOf:NK→Value
 | .p=>.pointer none
 | .f=>.nilFunc
 | .m=>.map none
 | .s=>.slice none 0 0
theorem eqIn_pp {t e:TypeId} (ht:P.underlying t=some (.pointer e)) (d:Nat):(Op.equalIn (d+1) t (.pointer none) (.pointer none)).run P w=.ok true w:=by
 simp[Op.equalIn,run_underlying ht]
theorem eqIn_p {t e:TypeId} (ht:P.underlying t=some (.pointer e)) (d:Nat) (a:Addr) :
  (Op.equalIn (d+1) t (.pointer (some a)) (.pointer none)).run P w=.ok false w∧(Op.equalIn (d+1) t (.pointer none) (.pointer (some a))).run P w=.ok false w:=by
 simp[Op.equalIn,run_underlying ht]
theorem eqIn_ff {t:TypeId} {a b:Array TypeId} {c:Bool} (ht:P.underlying t=some (.func a b c)) (d:Nat):(Op.equalIn (d+1) t .nilFunc .nilFunc).run P w=.ok true w:=by
 simp[Op.equalIn,run_underlying ht]
theorem eqIn_f {t:TypeId} {a b:Array TypeId} {c:Bool} (ht:P.underlying t=some (.func a b c)) (d:Nat) (f:Go.Fn) (x y:Array Value) :
  (Op.equalIn (d+1) t (.func f x y) .nilFunc).run P w=.ok false w∧(Op.equalIn (d+1) t .nilFunc (.func f x y)).run P w=.ok false w:=by
 simp[Op.equalIn,run_underlying ht]
theorem eqIn_m {t a b:TypeId} (ht:P.underlying t=some (.map a b)) (d:Nat) (r:Option Nat) :
  (Op.equalIn (d+1) t (.map r) (.map none)).run P w=.ok r.isNone w∧(Op.equalIn (d+1) t (.map none) (.map r)).run P w=.ok r.isNone w:=by
 cases r<;>simp[Op.equalIn,run_underlying ht]
theorem eqIn_s {t e:TypeId} (ht:P.underlying t=some (.slice e)) (d:Nat) (a:Option Addr) (l c:Nat) :
  (Op.equalIn (d+1) t (.slice a l c) (.slice none 0 0)).run P w=.ok a.isNone w∧(Op.equalIn (d+1) t (.slice none 0 0) (.slice a l c)).run P w=.ok a.isNone w:=by
 cases a<;>simp[Op.equalIn,run_underlying ht]
theorem isNil_eqIn {k:NK} {x:V} {a:Value} {b:Bool} {t:TypeId} (d:Nat) (hk:nkOk P k t=true) (h:isNil k x=some b) (ha:Rep g x a) :
  (Op.equalIn (d+1) t a (nilOf k)).run P w=.ok b w∧(Op.equalIn (d+1) t (nilOf k) a).run P w=.ok b w:=by
 cases k with
 |p=>
  have ht:∃ e,P.underlying t=some (.pointer e):=by
   simp only[nkOk] at hk;split at hk<;>simp_all
  obtain ⟨e,ht⟩:=ht
  cases x<;>simp only[isNil] at h<;>first | cases h | skip
  ·rename_i y
   cases y<;>simp only[isNil] at h<;>first | cases h | skip
   cases ha.dI
   exact⟨eqIn_pp ht d,eqIn_pp ht d⟩
  ·cases ha;exact eqIn_p ht d _
  ·cases ha;exact eqIn_p ht d _
 |f=>
  have ht:∃ a b c,P.underlying t=some (.func a b c):=by
   simp only[nkOk] at hk;split at hk<;>simp_all
  obtain ⟨_,_,_,ht⟩:=ht
  cases x<;>simp only[isNil] at h<;>first | cases h | skip
  ·rename_i y
   cases y<;>simp only[isNil] at h<;>first | cases h | skip
   cases ha.dI
   exact⟨eqIn_ff ht d,eqIn_ff ht d⟩
  ·cases ha;exact eqIn_f ht d _ _ _
  ·cases ha;exact eqIn_f ht d _ _ _
 |m=>
  have ht:∃ a b,P.underlying t=some (.map a b):=by
   simp only[nkOk] at hk;split at hk<;>simp_all
  obtain ⟨_,_,ht⟩:=ht
  cases x<;>simp only[isNil] at h<;>first | cases h | skip
  ·rename_i y
   cases y<;>simp only[isNil] at h<;>first | cases h | skip
   cases ha.dI
   exact eqIn_m ht d none
  ·cases ha;exact eqIn_m ht d (some _)
 |s=>
  have ht:∃ e,P.underlying t=some (.slice e):=by
   simp only[nkOk] at hk;split at hk<;>simp_all
  obtain ⟨e,ht⟩:=ht
  have key:∃ q l c,a=.slice q l c∧q.isNone=b:=by
   cases x with
   |d y=>
    cases y with
    |lst l=>
     cases l with
     |nil=>cases h
     |cons y l=>
      cases h
      have hd:=ha.dI
      clear ha
      cases hd with | lst _ es cap a vs hes hc hr hz=>
      rcases hz with hz | ⟨b',p,rfl,_⟩
      ·cases hz
      ·exact⟨_,_,_,rfl,rfl⟩
    |_=>cases h
   |tl l nl=>
    cases ha with | tl _ _ es a vs hes hr ha hn hf=>
    cases l with
    |nil=>
     have hq:=hn b h
     refine ⟨_,_,_,rfl,?_⟩
     cases a with
     |none=>exact (hq.2 rfl).symm
     |some a=>cases b with
      |false=>rfl
      |true=>exact absurd (hq.1 rfl) (by simp)
    |cons y l=>
     cases h
     rcases ha with ha | ⟨b',p,rfl,_⟩
     ·cases ha
     ·exact⟨_,_,_,rfl,rfl⟩
   |own n es tot off len=>cases h;cases ha;exact⟨_,_,_,rfl,rfl⟩
   |_=>cases h
  obtain ⟨q,l,c,rfl,rfl⟩:=key
  exact eqIn_s ht d q l c
theorem ub_eqIn {k:NK} {x:V} {z:V} {a:Value} {t:TypeId} (d:Nat) (hk:nkOk P k t=true) (h:ubOf k x=some z) (ha:Rep g x a) :
  z=.ub∧∃ b,(Op.equalIn (d+1) t a (nilOf k)).run P w=.ok b w∧(Op.equalIn (d+1) t (nilOf k) a).run P w=.ok b w:=by
 have key:∃ q l c,k=.s∧z=.ub∧a=.slice q l c:=by
  unfold ubOf at h
  split at h
  ·cases h
   have hd:=ha.dI
   cases hd with | lst _ es cap a vs hes hc hr hz=>exact⟨_,_,_,rfl,rfl,rfl⟩
  ·cases h
   cases ha with | tl _ _ es a vs hes hr ha hn hf=>exact⟨_,_,_,rfl,rfl,rfl⟩
  ·cases h
 obtain ⟨q,l,c,rfl,rfl,rfl⟩:=key
 have ht:∃ e,P.underlying t=some (.slice e):=by
  simp only[nkOk] at hk;split at hk<;>simp_all
 obtain ⟨e,ht⟩:=ht
 obtain ⟨e1,e2⟩:=eqIn_s (w:=w) ht d q l c
 exact⟨rfl,_,e1,e2⟩
theorem nilBin_ok {k:NK} {op:BinOp} {x z:V} {a:Value} {t:TypeId} (hk:nkOk P k t=true) (h:nilBin k op x=some z) (ha:Rep g x a) :
  Gives P g w (binOp op t a (nilOf k)) z∧Gives P g w (binOp op t (nilOf k) a) z:=by
 have hx:∃ b,((Op.equalIn (9999+1) t a (nilOf k)).run P w=.ok b w∧(Op.equalIn (9999+1) t (nilOf k) a).run P w=.ok b w)∧((op=.eql∧Rep g z (.bool b))∨(op=.neq∧Rep g z (.bool (!b)))):=by
  unfold nilBin at h
  split at h
  ·rename_i b hb;cases h;exact⟨b,isNil_eqIn (w:=w) 9999 hk hb ha,.inl ⟨rfl,.d _ _ (.bool _)⟩⟩
  ·rename_i b hb;cases h;exact⟨b,isNil_eqIn (w:=w) 9999 hk hb ha,.inr ⟨rfl,.d _ _ (.bool _)⟩⟩
  ·obtain ⟨rfl,b,e⟩:=ub_eqIn (w:=w) 9999 hk h ha
   exact⟨b,e,.inl ⟨rfl,.ub _⟩⟩
  ·obtain ⟨rfl,b,e⟩:=ub_eqIn (w:=w) 9999 hk h ha
   exact⟨b,e,.inr ⟨rfl,.ub _⟩⟩
  ·cases h
 obtain ⟨b,⟨e1,e2⟩,hz⟩:=hx
 have e1':(Op.equal t a (nilOf k)).run P w=.ok b w:=e1
 have e2':(Op.equal t (nilOf k) a).run P w=.ok b w:=e2
 have b1:binOp .eql t a (nilOf k)=(do pure (.bool (←Op.equal t a (nilOf k))))∧binOp .neq t a (nilOf k)=(do pure (.bool (!(←Op.equal t a (nilOf k))))):=by
  cases k<;>cases a<;>exact⟨rfl,rfl⟩
 have b2:binOp .eql t (nilOf k) a=(do pure (.bool (←Op.equal t (nilOf k) a)))∧binOp .neq t (nilOf k) a=(do pure (.bool (!(←Op.equal t (nilOf k) a)))):=by
  cases k<;>cases a<;>exact⟨rfl,rfl⟩
 rcases hz with ⟨rfl,hz⟩ | ⟨rfl,hz⟩
 ·exact⟨⟨.bool b,by rw[b1.1];simp only[Sem.run_bind,e1',Result.andThen_ok,Sem.run_pure],hz⟩,⟨.bool b,by rw[b2.1];simp only[Sem.run_bind,e2',Result.andThen_ok,Sem.run_pure],hz⟩⟩
 ·exact⟨⟨.bool (!b),by rw[b1.2];simp only[Sem.run_bind,e1',Result.andThen_ok,Sem.run_pure],hz⟩,⟨.bool (!b),by rw[b2.2];simp only[Sem.run_bind,e2',Result.andThen_ok,Sem.run_pure],hz⟩⟩
theorem un_ok {op:UnOp} {x z:V} {a:Value} (h:un op x=some z) (ha:Rep g x a):Gives P g w (Op.unary op a) z:=by
 unfold un at h
 split at h
 ·rename_i b
  obtain rfl:=ha.boolI
  cases op
  case not=>cases h;exact⟨.bool (!b),rfl,.d _ _ (.bool _)⟩
  all_goals cases h
 ·rename_i k n
  obtain rfl:=ha.intI
  cases op
  case neg=>cases h;exact⟨.int k (k.wrap (0 - n)),rfl,.d _ _ (.int _ _)⟩
  all_goals cases h
 ·cases h
theorem conv_ok {k:IntKind} {x z:V} {a:Value} {s t:TypeId} (hs:(P.underlying s).isSome=true) (ht:P.underlying t=some (.int k)) (h:conv k x=some z) (ha:Rep g x a) :
  Gives P g w (convert s t a) z:=by
 unfold conv at h
 split at h
 ·rename_i q n
  obtain rfl:=ha.intI
  cases h
  obtain ⟨d,hd⟩:=Option.isSome_iff_exists.mp hs
  exact⟨.int k (k.wrap n),by simp[convert,run_underlying hd,run_underlying ht,Conv.intToInt],.d _ _ (.int _ _)⟩
 ·cases h
theorem pick_ok {x y z u:V} {c a b:Value} (h:pick x y z=some u) (hc:Rep g x c) (ha:Rep g y a) (hb:Rep g z b) :
  Gives P g w (do pure (if ←asBool c then a else b)) u:=by
 unfold pick at h
 split at h
 ·rename_i q
  obtain rfl:=hc.boolI
  cases h
  cases q
  ·exact⟨b,rfl,hb⟩
  ·exact⟨a,rfl,ha⟩
 ·cases h
theorem ixOf_ok {x:V} {n:Nat} {a:Value} (h:ixOf x=some n) (ha:Rep g x a):∃ k:IntKind,a=.int k (n:Int):=by
 unfold ixOf at h
 split at h
 ·rename_i k i
  by_cases hi:0≤i
  ·rw[if_pos hi] at h
   cases h
   exact⟨k,by rw[ha.intI,Int.toNat_of_nonneg hi]⟩
  ·rw[if_neg hi] at h;cases h
 ·cases h
theorem lenS_ok {x z:V} {a:Value} {t ty:TypeId} (ht:P.underlying t=some .string) (h:lenS x=some z) (ha:Rep g x a):Gives P g w (Builtin.len_ #[t] ty #[a]) z:=by
 unfold lenS at h
 split at h
 ·rename_i s
  obtain rfl:=ha.strI
  cases h
  exact⟨.int .i64 s.size,by simp[Builtin.len_,run_underlying ht,goInt],.d _ _ (.int _ _)⟩
 ·cases h
theorem capT_ok {x z:V} {a:Value} {t e ty:TypeId} (ht:P.underlying t=some (.slice e)) (h:capT x=some z) (ha:Rep g x a):Gives P g w (Builtin.cap_ #[t] ty #[a]) z:=by
 unfold capT at h
 split at h
 ·rename_i l nl
  cases ha with | tl _ _ es a vs hes hr ha hn hf=>
  cases h
  exact⟨.int .i64 l.length,by simp[Builtin.cap_,run_underlying ht,goInt],.d _ _ (.int _ _)⟩
 ·cases h
theorem lenL_ok {x z:V} {a:Value} {t e ty:TypeId} (ht:P.underlying t=some (.slice e)) (h:lenL x=some z) (ha:Rep g x a):Gives P g w (Builtin.len_ #[t] ty #[a]) z:=by
 unfold lenL at h
 split at h
 ·rename_i l
  cases ha.dI with | lst _ es cap a vs hes hc hr ha=>
  cases h
  exact⟨.int .i64 l.length,by simp[Builtin.len_,run_underlying ht,goInt],.d _ _ (.int _ _)⟩
 ·rename_i l nl
  cases ha with | tl _ _ es a vs hes hr ha hn hf=>
  cases h
  exact⟨.int .i64 l.length,by simp[Builtin.len_,run_underlying ht,goInt],.d _ _ (.int _ _)⟩
 ·rename_i n es tot off len
  cases ha
  cases h
  exact⟨.int .i64 len,by simp[Builtin.len_,run_underlying ht,goInt],.d _ _ (.int _ _)⟩
 ·cases h
theorem ext_ok {i:Nat} {x z:V} {a:Value} (h:ext i x=some z) (ha:Rep g x a):Gives P g w (Instr.extract a i) z:=by
 unfold ext at h
 split at h
 ·cases ha with | tup l vs hr=>
  obtain ⟨v,hv,hz⟩:=hr.get h
  exact⟨v,by simp[Instr.extract,hv],hz⟩
 ·cases h
end
end Zv
end
