/-
  What each part of the code does, as an equation.
-/
import Derived.Test.YtlncinhieeopmaaTabK
import Derived.Test.YtlncinhieeopmaaZvWp
namespace Zc55k
open Go Zv Zs
variable (T : Tab) (e : Env) (h : Hp) (Q : Out → Prop)
theorem xf3r0 : wp T f3r0 e h Q = wpI (cW T) i3r0 e h (regQ (some [0, 1]) Q) := wq_reg ..
theorem xf3r1 : wp T f3r1 e h Q = wpI (cW T) i3r1 e h (regQ (some [1, 5]) Q) := wq_reg ..
theorem xf3r2 : wp T f3r2 e h Q = wpI (cW T) i3r2 e h (regQ (some [1, 5, 6, 7]) Q) := wq_reg ..
theorem xf3r3 : wp T f3r3 e h Q = wpI (cW T) i3r3 e h (regQ (some [1, 5, 6, 39]) Q) := wq_reg ..
theorem xf3r4 : wp T f3r4 e h Q = wpI (cW T) i3r4 e h (regQ (some [4]) Q) := wq_reg ..
theorem xf3r5 : wp T f3r5 e h Q = wpI (cW T) i3r5 e h (regQ (some [1, 5, 6, 8, 9]) Q) := wq_reg ..
theorem xf3r6 : wp T f3r6 e h Q = wpI (cW T) i3r6 e h (regQ (some [1, 5, 6, 8, 9, 10]) Q) := wq_reg ..
theorem xf3r7 : wp T f3r7 e h Q = wpI (cW T) i3r7 e h (regQ (some [1, 5, 6, 8, 9, 10, 51]) Q) := wq_reg ..
theorem xf3r8 : wp T f3r8 e h Q = wpI (cW T) i3r8 e h (regQ (some [1, 5, 6, 8, 9, 10]) Q) := wq_reg ..
theorem xf3r9 : wp T f3r9 e h Q = wpI (cW T) i3r9 e h (regQ (some [1, 5, 6, 8, 9, 10]) Q) := wq_reg ..
theorem xf3l0 : wp T f3l0 e h Q = wp T (.seq (.seq f3r7 (.cond (.t 51) .skip (.exit 0))) (.seq (.blk 1 f3r8) f3r9)) e h Q := rfl
theorem xf3r10 : wp T f3r10 e h Q = wpI (cW T) i3r10 e h (regQ (some [1, 5, 6, 8, 66]) Q) := wq_reg ..
theorem xf3r11 : wp T f3r11 e h Q = wpI (cW T) i3r11 e h (regQ (some [4]) Q) := wq_reg ..
theorem xf3r12 : wp T f3r12 e h Q = wpI (cW T) i3r12 e h (regQ (some [1, 5, 6, 11]) Q) := wq_reg ..
theorem xf3r13 : wp T f3r13 e h Q = wpI (cW T) i3r13 e h (regQ (some [1, 5, 6, 11, 12, 13]) Q) := wq_reg ..
theorem xf3r14 : wp T f3r14 e h Q = wpI (cW T) i3r14 e h (regQ (some [5, 6, 11, 12, 13, 14]) Q) := wq_reg ..
theorem xf3r15 : wp T f3r15 e h Q = wpI (cW T) i3r15 e h (regQ (some [5, 6, 11, 12, 13, 14, 16]) Q) := wq_reg ..
theorem xf3r16 : wp T f3r16 e h Q = wpI (cW T) i3r16 e h (regQ (some [5, 6, 11, 12, 13, 14, 16, 18]) Q) := wq_reg ..
theorem xf3r17 : wp T f3r17 e h Q = wpI (cW T) i3r17 e h (regQ (some [5, 6, 11, 12, 13, 14, 16, 18, 20]) Q) := wq_reg ..
theorem xf3r18 : wp T f3r18 e h Q = wpI (cW T) i3r18 e h (regQ (some [5, 6, 11, 12, 13, 16, 18, 20, 21]) Q) := wq_reg ..
theorem xf3r19 : wp T f3r19 e h Q = wpI (cW T) i3r19 e h (regQ (some [5, 12, 13, 16, 18, 20, 21, 23]) Q) := wq_reg ..
theorem xf3r20 : wp T f3r20 e h Q = wpI (cW T) i3r20 e h (regQ (some [4]) Q) := wq_reg ..
theorem xb3 : wp T b3 e h Q = wp T (.seq f3r0 (.seq f3r1 (.seq f3r2 (.seq (.seq f3r3 (.cond (.t 39) (.seq f3r4 .ret) .skip)) (.seq f3r5 (.seq (.seq f3r6 (.blk 0 (.loop f3l0))) (.seq (.seq f3r10 (.cond (.t 66) (.seq f3r11 .ret) .skip)) (.seq f3r12 (.seq f3r13 (.seq f3r14 (.seq f3r15 (.seq f3r16 (.seq f3r17 (.seq f3r18 (.seq f3r19 (.seq f3r20 .ret)))))))))))))))) e h Q := rfl
theorem e3 : (type_of% @f3.eq_1) ∧ (type_of% @xb3) ∧ (type_of% @xf3r0) ∧ (type_of% @xf3r1) ∧ (type_of% @xf3r2) ∧ (type_of% @xf3r3) ∧ (type_of% @xf3r4) ∧ (type_of% @xf3r5) ∧ (type_of% @xf3r6) ∧ (type_of% @xf3r7) ∧ (type_of% @xf3r8) ∧ (type_of% @xf3r9) ∧ (type_of% @xf3l0) ∧ (type_of% @xf3r10) ∧ (type_of% @xf3r11) ∧ (type_of% @xf3r12) ∧ (type_of% @xf3r13) ∧ (type_of% @xf3r14) ∧ (type_of% @xf3r15) ∧ (type_of% @xf3r16) ∧ (type_of% @xf3r17) ∧ (type_of% @xf3r18) ∧ (type_of% @xf3r19) ∧ (type_of% @xf3r20) ∧ (type_of% @i3r0.eq_1) ∧ (type_of% @i3r1.eq_1) ∧ (type_of% @i3r2.eq_1) ∧ (type_of% @i3r3.eq_1) ∧ (type_of% @i3r4.eq_1) ∧ (type_of% @i3r5.eq_1) ∧ (type_of% @i3r6.eq_1) ∧ (type_of% @i3r7.eq_1) ∧ (type_of% @i3r8.eq_1) ∧ (type_of% @i3r9.eq_1) ∧ (type_of% @i3r10.eq_1) ∧ (type_of% @i3r11.eq_1) ∧ (type_of% @i3r12.eq_1) ∧ (type_of% @i3r13.eq_1) ∧ (type_of% @i3r14.eq_1) ∧ (type_of% @i3r15.eq_1) ∧ (type_of% @i3r16.eq_1) ∧ (type_of% @i3r17.eq_1) ∧ (type_of% @i3r18.eq_1) ∧ (type_of% @i3r19.eq_1) ∧ (type_of% @i3r20.eq_1) := ⟨@f3.eq_1, @xb3, @xf3r0, @xf3r1, @xf3r2, @xf3r3, @xf3r4, @xf3r5, @xf3r6, @xf3r7, @xf3r8, @xf3r9, @xf3l0, @xf3r10, @xf3r11, @xf3r12, @xf3r13, @xf3r14, @xf3r15, @xf3r16, @xf3r17, @xf3r18, @xf3r19, @xf3r20, @i3r0.eq_1, @i3r1.eq_1, @i3r2.eq_1, @i3r3.eq_1, @i3r4.eq_1, @i3r5.eq_1, @i3r6.eq_1, @i3r7.eq_1, @i3r8.eq_1, @i3r9.eq_1, @i3r10.eq_1, @i3r11.eq_1, @i3r12.eq_1, @i3r13.eq_1, @i3r14.eq_1, @i3r15.eq_1, @i3r16.eq_1, @i3r17.eq_1, @i3r18.eq_1, @i3r19.eq_1, @i3r20.eq_1⟩
theorem xf6r0 : wp T f6r0 e h Q = wpI (cW T) i6r0 e h (regQ (some [0, 1]) Q) := wq_reg ..
theorem xf6r1 : wp T f6r1 e h Q = wpI (cW T) i6r1 e h (regQ (some [0, 1, 24]) Q) := wq_reg ..
theorem xf6r2 : wp T f6r2 e h Q = wpI (cW T) i6r2 e h (regQ (some [4]) Q) := wq_reg ..
theorem xf6r3 : wp T f6r3 e h Q = wpI (cW T) i6r3 e h (regQ (some [0, 1, 5, 6]) Q) := wq_reg ..
theorem xf6r4 : wp T f6r4 e h Q = wpI (cW T) i6r4 e h (regQ (some [0, 1, 5, 35]) Q) := wq_reg ..
theorem xf6r5 : wp T f6r5 e h Q = wpI (cW T) i6r5 e h (regQ (some [4]) Q) := wq_reg ..
theorem xf6r6 : wp T f6r6 e h Q = wpI (cW T) i6r6 e h (regQ (some [0, 1, 5, 7]) Q) := wq_reg ..
theorem xf6r7 : wp T f6r7 e h Q = wpI (cW T) i6r7 e h (regQ (some [0, 1, 5, 7, 8, 9]) Q) := wq_reg ..
theorem xf6r8 : wp T f6r8 e h Q = wpI (cW T) i6r8 e h (regQ (some [0, 1, 5, 7, 8, 45]) Q) := wq_reg ..
theorem xf6r9 : wp T f6r9 e h Q = wpI (cW T) i6r9 e h (regQ (some [4]) Q) := wq_reg ..
theorem xf6r10 : wp T f6r10 e h Q = wpI (cW T) i6r10 e h (regQ (some [0, 5, 7, 8, 10]) Q) := wq_reg ..
theorem xf6r11 : wp T f6r11 e h Q = wpI (cW T) i6r11 e h (regQ (some [0, 5, 8, 10]) Q) := wq_reg ..
theorem xf6r12 : wp T f6r12 e h Q = wpI (cW T) i6r12 e h (regQ (some [0, 5, 8, 10, 12, 13]) Q) := wq_reg ..
theorem xf6r13 : wp T f6r13 e h Q = wpI (cW T) i6r13 e h (regQ (some [0, 5, 8, 10, 12, 75]) Q) := wq_reg ..
theorem xf6r14 : wp T f6r14 e h Q = wpI (cW T) i6r14 e h (regQ (some [4]) Q) := wq_reg ..
theorem xf6r15 : wp T f6r15 e h Q = wpI (cW T) i6r15 e h (regQ (some [0, 5, 8]) Q) := wq_reg ..
theorem xf6r16 : wp T f6r16 e h Q = wpI (cW T) i6r16 e h (regQ (some [0, 15, 16]) Q) := wq_reg ..
theorem xf6r17 : wp T f6r17 e h Q = wpI (cW T) i6r17 e h (regQ (some [4]) Q) := wq_reg ..
theorem xb6 : wp T b6 e h Q = wp T (.seq f6r0 (.seq (.seq f6r1 (.cond (.t 24) (.seq f6r2 .ret) .skip)) (.seq f6r3 (.seq (.seq f6r4 (.cond (.t 35) (.seq f6r5 .ret) .skip)) (.seq f6r6 (.seq f6r7 (.seq (.seq f6r8 (.cond (.t 45) (.seq f6r9 .ret) .skip)) (.seq f6r10 (.seq f6r11 (.seq f6r12 (.seq (.seq f6r13 (.cond (.t 75) (.seq f6r14 .ret) .skip)) (.seq f6r15 (.seq f6r16 (.seq f6r17 .ret)))))))))))))) e h Q := rfl
theorem e6 : (type_of% @f6.eq_1) ∧ (type_of% @xb6) ∧ (type_of% @xf6r0) ∧ (type_of% @xf6r1) ∧ (type_of% @xf6r2) ∧ (type_of% @xf6r3) ∧ (type_of% @xf6r4) ∧ (type_of% @xf6r5) ∧ (type_of% @xf6r6) ∧ (type_of% @xf6r7) ∧ (type_of% @xf6r8) ∧ (type_of% @xf6r9) ∧ (type_of% @xf6r10) ∧ (type_of% @xf6r11) ∧ (type_of% @xf6r12) ∧ (type_of% @xf6r13) ∧ (type_of% @xf6r14) ∧ (type_of% @xf6r15) ∧ (type_of% @xf6r16) ∧ (type_of% @xf6r17) ∧ (type_of% @i6r0.eq_1) ∧ (type_of% @i6r1.eq_1) ∧ (type_of% @i6r2.eq_1) ∧ (type_of% @i6r3.eq_1) ∧ (type_of% @i6r4.eq_1) ∧ (type_of% @i6r5.eq_1) ∧ (type_of% @i6r6.eq_1) ∧ (type_of% @i6r7.eq_1) ∧ (type_of% @i6r8.eq_1) ∧ (type_of% @i6r9.eq_1) ∧ (type_of% @i6r10.eq_1) ∧ (type_of% @i6r11.eq_1) ∧ (type_of% @i6r12.eq_1) ∧ (type_of% @i6r13.eq_1) ∧ (type_of% @i6r14.eq_1) ∧ (type_of% @i6r15.eq_1) ∧ (type_of% @i6r16.eq_1) ∧ (type_of% @i6r17.eq_1) := ⟨@f6.eq_1, @xb6, @xf6r0, @xf6r1, @xf6r2, @xf6r3, @xf6r4, @xf6r5, @xf6r6, @xf6r7, @xf6r8, @xf6r9, @xf6r10, @xf6r11, @xf6r12, @xf6r13, @xf6r14, @xf6r15, @xf6r16, @xf6r17, @i6r0.eq_1, @i6r1.eq_1, @i6r2.eq_1, @i6r3.eq_1, @i6r4.eq_1, @i6r5.eq_1, @i6r6.eq_1, @i6r7.eq_1, @i6r8.eq_1, @i6r9.eq_1, @i6r10.eq_1, @i6r11.eq_1, @i6r12.eq_1, @i6r13.eq_1, @i6r14.eq_1, @i6r15.eq_1, @i6r16.eq_1, @i6r17.eq_1⟩
theorem xf9r0 : wp T f9r0 e h Q = wpI (cW T) i9r0 e h (regQ (some [0, 3]) Q) := wq_reg ..
theorem xf9r1 : wp T f9r1 e h Q = wpI (cW T) i9r1 e h (regQ (some [0, 3, 5]) Q) := wq_reg ..
theorem xf9r2 : wp T f9r2 e h Q = wpI (cW T) i9r2 e h (regQ (some [0, 5, 6]) Q) := wq_reg ..
theorem xf9r3 : wp T f9r3 e h Q = wpI (cW T) i9r3 e h (regQ (some [0, 5, 6, 8]) Q) := wq_reg ..
theorem xf9r4 : wp T f9r4 e h Q = wpI (cW T) i9r4 e h (regQ (some [0, 5, 6, 8, 10, 11]) Q) := wq_reg ..
theorem xf9r5 : wp T f9r5 e h Q = wpI (cW T) i9r5 e h (regQ (some [0, 5, 6, 8, 10, 11, 12, 13]) Q) := wq_reg ..
theorem xf9r6 : wp T f9r6 e h Q = wpI (cW T) i9r6 e h (regQ (some [4]) Q) := wq_reg ..
theorem xb9 : wp T b9 e h Q = wp T (.seq f9r0 (.seq f9r1 (.seq f9r2 (.seq f9r3 (.seq f9r4 (.seq f9r5 (.seq f9r6 .ret))))))) e h Q := rfl
theorem e9 : (type_of% @f9.eq_1) ∧ (type_of% @xb9) ∧ (type_of% @xf9r0) ∧ (type_of% @xf9r1) ∧ (type_of% @xf9r2) ∧ (type_of% @xf9r3) ∧ (type_of% @xf9r4) ∧ (type_of% @xf9r5) ∧ (type_of% @xf9r6) ∧ (type_of% @i9r0.eq_1) ∧ (type_of% @i9r1.eq_1) ∧ (type_of% @i9r2.eq_1) ∧ (type_of% @i9r3.eq_1) ∧ (type_of% @i9r4.eq_1) ∧ (type_of% @i9r5.eq_1) ∧ (type_of% @i9r6.eq_1) := ⟨@f9.eq_1, @xb9, @xf9r0, @xf9r1, @xf9r2, @xf9r3, @xf9r4, @xf9r5, @xf9r6, @i9r0.eq_1, @i9r1.eq_1, @i9r2.eq_1, @i9r3.eq_1, @i9r4.eq_1, @i9r5.eq_1, @i9r6.eq_1⟩
theorem xf10r0 : wp T f10r0 e h Q = wpI (cW T) i10r0 e h (regQ (some [0]) Q) := wq_reg ..
theorem xf10r1 : wp T f10r1 e h Q = wpI (cW T) i10r1 e h (regQ (some [0, 11]) Q) := wq_reg ..
theorem xf10r2 : wp T f10r2 e h Q = wpI (cW T) i10r2 e h (regQ (some [2, 3]) Q) := wq_reg ..
theorem xf10r3 : wp T f10r3 e h Q = wpI (cW T) i10r3 e h (regQ (some [4]) Q) := wq_reg ..
theorem xf10r4 : wp T f10r4 e h Q = wpI (cW T) i10r4 e h (regQ (some [4, 21, 22]) Q) := wq_reg ..
theorem xf10r5 : wp T f10r5 e h Q = wpI (cW T) i10r5 e h (regQ (some [4, 21, 22, 23]) Q) := wq_reg ..
theorem xf10r6 : wp T f10r6 e h Q = wpI (cW T) i10r6 e h (regQ (some [4, 5, 21, 22]) Q) := wq_reg ..
theorem xf10r7 : wp T f10r7 e h Q = wpI (cW T) i10r7 e h (regQ (some [4, 21, 22]) Q) := wq_reg ..
theorem xf10r8 : wp T f10r8 e h Q = wpI (cW T) i10r8 e h (regQ (some [4, 21, 22]) Q) := wq_reg ..
theorem xf10l0 : wp T f10l0 e h Q = wp T (.seq f10r5 (.seq (.cond (.t 23) .skip (.exit 0)) (.seq (.blk 1 (.seq f10r6 f10r7)) f10r8))) e h Q := rfl
theorem xf10r9 : wp T f10r9 e h Q = wpI (cW T) i10r9 e h (regQ (some [2, 3]) Q) := wq_reg ..
theorem xb10 : wp T b10 e h Q = wp T (.seq f10r0 (.seq (.seq f10r1 (.cond (.t 11) (.seq f10r2 .ret) .skip)) (.seq f10r3 (.seq (.seq f10r4 (.blk 0 (.loop f10l0))) (.seq f10r9 .ret))))) e h Q := rfl
theorem e10 : (type_of% @f10.eq_1) ∧ (type_of% @xb10) ∧ (type_of% @xf10r0) ∧ (type_of% @xf10r1) ∧ (type_of% @xf10r2) ∧ (type_of% @xf10r3) ∧ (type_of% @xf10r4) ∧ (type_of% @xf10r5) ∧ (type_of% @xf10r6) ∧ (type_of% @xf10r7) ∧ (type_of% @xf10r8) ∧ (type_of% @xf10l0) ∧ (type_of% @xf10r9) ∧ (type_of% @i10r0.eq_1) ∧ (type_of% @i10r1.eq_1) ∧ (type_of% @i10r2.eq_1) ∧ (type_of% @i10r3.eq_1) ∧ (type_of% @i10r4.eq_1) ∧ (type_of% @i10r5.eq_1) ∧ (type_of% @i10r6.eq_1) ∧ (type_of% @i10r7.eq_1) ∧ (type_of% @i10r8.eq_1) ∧ (type_of% @i10r9.eq_1) := ⟨@f10.eq_1, @xb10, @xf10r0, @xf10r1, @xf10r2, @xf10r3, @xf10r4, @xf10r5, @xf10r6, @xf10r7, @xf10r8, @xf10l0, @xf10r9, @i10r0.eq_1, @i10r1.eq_1, @i10r2.eq_1, @i10r3.eq_1, @i10r4.eq_1, @i10r5.eq_1, @i10r6.eq_1, @i10r7.eq_1, @i10r8.eq_1, @i10r9.eq_1⟩
theorem xf11r0 : wp T f11r0 e h Q = wpI (cW T) i11r0 e h (regQ (some [0, 1, 2]) Q) := wq_reg ..
theorem xf11r1 : wp T f11r1 e h Q = wpI (cW T) i11r1 e h (regQ (some [0, 1, 2, 11]) Q) := wq_reg ..
theorem xf11r2 : wp T f11r2 e h Q = wpI (cW T) i11r2 e h (regQ (some [6, 7]) Q) := wq_reg ..
theorem xf11r3 : wp T f11r3 e h Q = wpI (cW T) i11r3 e h (regQ (some [0, 1, 2, 14]) Q) := wq_reg ..
theorem xf11r4 : wp T f11r4 e h Q = wpI (cW T) i11r4 e h (regQ (some [6, 7]) Q) := wq_reg ..
theorem xf11r5 : wp T f11r5 e h Q = wpI (cW T) i11r5 e h (regQ (some [0, 1, 2, 17]) Q) := wq_reg ..
theorem xf11r6 : wp T f11r6 e h Q = wpI (cW T) i11r6 e h (regQ (some [6, 7]) Q) := wq_reg ..
theorem xf11r7 : wp T f11r7 e h Q = wpI (cW T) i11r7 e h (regQ (some [0, 1, 2, 8]) Q) := wq_reg ..
theorem xf11r8 : wp T f11r8 e h Q = wpI (cW T) i11r8 e h (regQ (some [0, 1, 2, 8, 25]) Q) := wq_reg ..
theorem xf11r9 : wp T f11r9 e h Q = wpI (cW T) i11r9 e h (regQ (some [6, 7]) Q) := wq_reg ..
theorem xf11r10 : wp T f11r10 e h Q = wpI (cW T) i11r10 e h (regQ (some [0, 1, 2, 31]) Q) := wq_reg ..
theorem xf11r11 : wp T f11r11 e h Q = wpI (cW T) i11r11 e h (regQ (some [6, 7]) Q) := wq_reg ..
theorem xf11r12 : wp T f11r12 e h Q = wpI (cW T) i11r12 e h (regQ (some [0, 1, 2, 9]) Q) := wq_reg ..
theorem xf11r13 : wp T f11r13 e h Q = wpI (cW T) i11r13 e h (regQ (some [0, 1, 2, 9, 10]) Q) := wq_reg ..
theorem xf11r14 : wp T f11r14 e h Q = wpI (cW T) i11r14 e h (regQ (some [0, 1, 2, 9, 10]) Q) := wq_reg ..
theorem xf11r15 : wp T f11r15 e h Q = wpI (cW T) i11r15 e h (regQ (some [1, 2, 9, 10]) Q) := wq_reg ..
theorem xf11r16 : wp T f11r16 e h Q = wpI (cW T) i11r16 e h (regQ (some [2, 9, 10]) Q) := wq_reg ..
theorem xf11r17 : wp T f11r17 e h Q = wpI (cW T) i11r17 e h (regQ (some [2, 9, 10]) Q) := wq_reg ..
theorem xf11r18 : wp T f11r18 e h Q = wpI (cW T) i11r18 e h (regQ (some [9]) Q) := wq_reg ..
theorem xf11r19 : wp T f11r19 e h Q = wpI (cW T) i11r19 e h (regQ (some [6, 7]) Q) := wq_reg ..
theorem xb11 : wp T b11 e h Q = wp T (.seq f11r0 (.seq (.blk 0 (.seq f11r1 (.cond (.t 11) (.seq f11r2 .ret) (.seq f11r3 (.cond (.t 14) (.seq f11r4 .ret) (.seq f11r5 (.cond (.t 17) (.seq f11r6 .ret) .skip))))))) (.seq (.seq f11r7 (.seq f11r8 (.cond (.t 25) (.seq f11r9 .ret) .skip))) (.seq (.seq f11r10 (.cond (.t 31) (.seq f11r11 .ret) .skip)) (.seq f11r12 (.seq f11r13 (.seq f11r14 (.seq f11r15 (.seq f11r16 (.seq f11r17 (.seq f11r18 (.seq f11r19 .ret)))))))))))) e h Q := rfl
theorem e11 : (type_of% @f11.eq_1) ∧ (type_of% @xb11) ∧ (type_of% @xf11r0) ∧ (type_of% @xf11r1) ∧ (type_of% @xf11r2) ∧ (type_of% @xf11r3) ∧ (type_of% @xf11r4) ∧ (type_of% @xf11r5) ∧ (type_of% @xf11r6) ∧ (type_of% @xf11r7) ∧ (type_of% @xf11r8) ∧ (type_of% @xf11r9) ∧ (type_of% @xf11r10) ∧ (type_of% @xf11r11) ∧ (type_of% @xf11r12) ∧ (type_of% @xf11r13) ∧ (type_of% @xf11r14) ∧ (type_of% @xf11r15) ∧ (type_of% @xf11r16) ∧ (type_of% @xf11r17) ∧ (type_of% @xf11r18) ∧ (type_of% @xf11r19) ∧ (type_of% @i11r0.eq_1) ∧ (type_of% @i11r1.eq_1) ∧ (type_of% @i11r2.eq_1) ∧ (type_of% @i11r3.eq_1) ∧ (type_of% @i11r4.eq_1) ∧ (type_of% @i11r5.eq_1) ∧ (type_of% @i11r6.eq_1) ∧ (type_of% @i11r7.eq_1) ∧ (type_of% @i11r8.eq_1) ∧ (type_of% @i11r9.eq_1) ∧ (type_of% @i11r10.eq_1) ∧ (type_of% @i11r11.eq_1) ∧ (type_of% @i11r12.eq_1) ∧ (type_of% @i11r13.eq_1) ∧ (type_of% @i11r14.eq_1) ∧ (type_of% @i11r15.eq_1) ∧ (type_of% @i11r16.eq_1) ∧ (type_of% @i11r17.eq_1) ∧ (type_of% @i11r18.eq_1) ∧ (type_of% @i11r19.eq_1) := ⟨@f11.eq_1, @xb11, @xf11r0, @xf11r1, @xf11r2, @xf11r3, @xf11r4, @xf11r5, @xf11r6, @xf11r7, @xf11r8, @xf11r9, @xf11r10, @xf11r11, @xf11r12, @xf11r13, @xf11r14, @xf11r15, @xf11r16, @xf11r17, @xf11r18, @xf11r19, @i11r0.eq_1, @i11r1.eq_1, @i11r2.eq_1, @i11r3.eq_1, @i11r4.eq_1, @i11r5.eq_1, @i11r6.eq_1, @i11r7.eq_1, @i11r8.eq_1, @i11r9.eq_1, @i11r10.eq_1, @i11r11.eq_1, @i11r12.eq_1, @i11r13.eq_1, @i11r14.eq_1, @i11r15.eq_1, @i11r16.eq_1, @i11r17.eq_1, @i11r18.eq_1, @i11r19.eq_1⟩
theorem xf15r0 : wp T f15r0 e h Q = wpI (cW T) i15r0 e h (regQ (some [0]) Q) := wq_reg ..
theorem xf15r1 : wp T f15r1 e h Q = wpI (cW T) i15r1 e h (regQ (some [0, 4]) Q) := wq_reg ..
theorem xf15r2 : wp T f15r2 e h Q = wpI (cW T) i15r2 e h (regQ (some [2]) Q) := wq_reg ..
theorem xf15r3 : wp T f15r3 e h Q = wpI (cW T) i15r3 e h (regQ (some [2]) Q) := wq_reg ..
theorem xb15 : wp T b15 e h Q = wp T (.seq f15r0 (.seq (.seq f15r1 (.cond (.t 4) (.seq f15r2 .ret) .skip)) (.seq f15r3 .ret))) e h Q := rfl
theorem e15 : (type_of% @f15.eq_1) ∧ (type_of% @xb15) ∧ (type_of% @xf15r0) ∧ (type_of% @xf15r1) ∧ (type_of% @xf15r2) ∧ (type_of% @xf15r3) ∧ (type_of% @i15r0.eq_1) ∧ (type_of% @i15r1.eq_1) ∧ (type_of% @i15r2.eq_1) ∧ (type_of% @i15r3.eq_1) := ⟨@f15.eq_1, @xb15, @xf15r0, @xf15r1, @xf15r2, @xf15r3, @i15r0.eq_1, @i15r1.eq_1, @i15r2.eq_1, @i15r3.eq_1⟩
theorem xf17r0 : wp T f17r0 e h Q = wpI (cW T) i17r0 e h (regQ (some [0]) Q) := wq_reg ..
theorem xf17r1 : wp T f17r1 e h Q = wpI (cW T) i17r1 e h (regQ (some [0, 3]) Q) := wq_reg ..
theorem xf17r2 : wp T f17r2 e h Q = wpI (cW T) i17r2 e h (regQ (some [0, 3, 4]) Q) := wq_reg ..
theorem xf17r3 : wp T f17r3 e h Q = wpI (cW T) i17r3 e h (regQ (some [0, 3, 4, 8]) Q) := wq_reg ..
theorem xf17r4 : wp T f17r4 e h Q = wpI (cW T) i17r4 e h (regQ (some [0, 3, 4]) Q) := wq_reg ..
theorem xf17r5 : wp T f17r5 e h Q = wpI (cW T) i17r5 e h (regQ (some [0, 3, 4]) Q) := wq_reg ..
theorem xf17l0 : wp T f17l0 e h Q = wp T (.seq (.seq f17r3 (.cond (.t 8) .skip (.exit 0))) (.seq (.blk 1 f17r4) f17r5)) e h Q := rfl
theorem xf17r6 : wp T f17r6 e h Q = wpI (cW T) i17r6 e h (regQ (some [2]) Q) := wq_reg ..
theorem xb17 : wp T b17 e h Q = wp T (.seq f17r0 (.seq f17r1 (.seq (.seq f17r2 (.blk 0 (.loop f17l0))) (.seq f17r6 .ret)))) e h Q := rfl
theorem e17 : (type_of% @f17.eq_1) ∧ (type_of% @xb17) ∧ (type_of% @xf17r0) ∧ (type_of% @xf17r1) ∧ (type_of% @xf17r2) ∧ (type_of% @xf17r3) ∧ (type_of% @xf17r4) ∧ (type_of% @xf17r5) ∧ (type_of% @xf17l0) ∧ (type_of% @xf17r6) ∧ (type_of% @i17r0.eq_1) ∧ (type_of% @i17r1.eq_1) ∧ (type_of% @i17r2.eq_1) ∧ (type_of% @i17r3.eq_1) ∧ (type_of% @i17r4.eq_1) ∧ (type_of% @i17r5.eq_1) ∧ (type_of% @i17r6.eq_1) := ⟨@f17.eq_1, @xb17, @xf17r0, @xf17r1, @xf17r2, @xf17r3, @xf17r4, @xf17r5, @xf17l0, @xf17r6, @i17r0.eq_1, @i17r1.eq_1, @i17r2.eq_1, @i17r3.eq_1, @i17r4.eq_1, @i17r5.eq_1, @i17r6.eq_1⟩
theorem xf18r0 : wp T f18r0 e h Q = wpI (cW T) i18r0 e h (regQ (some [0, 1]) Q) := wq_reg ..
theorem xf18r1 : wp T f18r1 e h Q = wpI (cW T) i18r1 e h (regQ (some [0, 1, 7]) Q) := wq_reg ..
theorem xf18r2 : wp T f18r2 e h Q = wpI (cW T) i18r2 e h (regQ (some [0, 1, 7, 14]) Q) := wq_reg ..
theorem xf18r3 : wp T f18r3 e h Q = wpI (cW T) i18r3 e h (regQ (some [4, 5, 6]) Q) := wq_reg ..
theorem xf18r4 : wp T f18r4 e h Q = wpI (cW T) i18r4 e h (regQ (some [8]) Q) := wq_reg ..
theorem xf18r5 : wp T f18r5 e h Q = wpI (cW T) i18r5 e h (regQ (some [8, 9]) Q) := wq_reg ..
theorem xf18r6 : wp T f18r6 e h Q = wpI (cW T) i18r6 e h (regQ (some [8, 9]) Q) := wq_reg ..
theorem xf18r7 : wp T f18r7 e h Q = wpI (cW T) i18r7 e h (regQ (some [4, 5, 6]) Q) := wq_reg ..
theorem xb18 : wp T b18 e h Q = wp T (.seq f18r0 (.seq (.seq f18r1 (.seq f18r2 (.cond (.t 14) (.seq f18r3 .ret) .skip))) (.seq f18r4 (.seq f18r5 (.seq f18r6 (.seq f18r7 .ret)))))) e h Q := rfl
theorem e18 : (type_of% @f18.eq_1) ∧ (type_of% @xb18) ∧ (type_of% @xf18r0) ∧ (type_of% @xf18r1) ∧ (type_of% @xf18r2) ∧ (type_of% @xf18r3) ∧ (type_of% @xf18r4) ∧ (type_of% @xf18r5) ∧ (type_of% @xf18r6) ∧ (type_of% @xf18r7) ∧ (type_of% @i18r0.eq_1) ∧ (type_of% @i18r1.eq_1) ∧ (type_of% @i18r2.eq_1) ∧ (type_of% @i18r3.eq_1) ∧ (type_of% @i18r4.eq_1) ∧ (type_of% @i18r5.eq_1) ∧ (type_of% @i18r6.eq_1) ∧ (type_of% @i18r7.eq_1) := ⟨@f18.eq_1, @xb18, @xf18r0, @xf18r1, @xf18r2, @xf18r3, @xf18r4, @xf18r5, @xf18r6, @xf18r7, @i18r0.eq_1, @i18r1.eq_1, @i18r2.eq_1, @i18r3.eq_1, @i18r4.eq_1, @i18r5.eq_1, @i18r6.eq_1, @i18r7.eq_1⟩
theorem xf19r0 : wp T f19r0 e h Q = wpI (cW T) i19r0 e h (regQ (some [0, 1]) Q) := wq_reg ..
theorem xf19r1 : wp T f19r1 e h Q = wpI (cW T) i19r1 e h (regQ (some [0, 1, 10]) Q) := wq_reg ..
theorem xf19r2 : wp T f19r2 e h Q = wpI (cW T) i19r2 e h (regQ (some [4]) Q) := wq_reg ..
theorem xf19r3 : wp T f19r3 e h Q = wpI (cW T) i19r3 e h (regQ (some [0, 1, 5]) Q) := wq_reg ..
theorem xf19r4 : wp T f19r4 e h Q = wpI (cW T) i19r4 e h (regQ (some [0, 1, 5, 14]) Q) := wq_reg ..
theorem xf19r5 : wp T f19r5 e h Q = wpI (cW T) i19r5 e h (regQ (some [0, 1, 5, 25]) Q) := wq_reg ..
theorem xf19r6 : wp T f19r6 e h Q = wpI (cW T) i19r6 e h (regQ (some [4]) Q) := wq_reg ..
theorem xf19r7 : wp T f19r7 e h Q = wpI (cW T) i19r7 e h (regQ (some [0, 1, 5]) Q) := wq_reg ..
theorem xf19l0 : wp T f19l0 e h Q = wp T (.seq (.seq f19r4 (.cond (.t 14) .skip (.exit 0))) (.seq (.blk 1 (.seq f19r5 (.cond (.t 25) (.seq f19r6 .ret) .skip))) f19r7)) e h Q := rfl
theorem xf19r8 : wp T f19r8 e h Q = wpI (cW T) i19r8 e h (regQ (some [4]) Q) := wq_reg ..
theorem xb19 : wp T b19 e h Q = wp T (.seq f19r0 (.seq (.seq f19r1 (.cond (.t 10) (.seq f19r2 .ret) .skip)) (.seq (.seq f19r3 (.blk 0 (.loop f19l0))) (.seq f19r8 .ret)))) e h Q := rfl
theorem e19 : (type_of% @f19.eq_1) ∧ (type_of% @xb19) ∧ (type_of% @xf19r0) ∧ (type_of% @xf19r1) ∧ (type_of% @xf19r2) ∧ (type_of% @xf19r3) ∧ (type_of% @xf19r4) ∧ (type_of% @xf19r5) ∧ (type_of% @xf19r6) ∧ (type_of% @xf19r7) ∧ (type_of% @xf19l0) ∧ (type_of% @xf19r8) ∧ (type_of% @i19r0.eq_1) ∧ (type_of% @i19r1.eq_1) ∧ (type_of% @i19r2.eq_1) ∧ (type_of% @i19r3.eq_1) ∧ (type_of% @i19r4.eq_1) ∧ (type_of% @i19r5.eq_1) ∧ (type_of% @i19r6.eq_1) ∧ (type_of% @i19r7.eq_1) ∧ (type_of% @i19r8.eq_1) := ⟨@f19.eq_1, @xb19, @xf19r0, @xf19r1, @xf19r2, @xf19r3, @xf19r4, @xf19r5, @xf19r6, @xf19r7, @xf19l0, @xf19r8, @i19r0.eq_1, @i19r1.eq_1, @i19r2.eq_1, @i19r3.eq_1, @i19r4.eq_1, @i19r5.eq_1, @i19r6.eq_1, @i19r7.eq_1, @i19r8.eq_1⟩
theorem xf20r0 : wp T f20r0 e h Q = wpI (cW T) i20r0 e h (regQ (some [0]) Q) := wq_reg ..
theorem xf20r1 : wp T f20r1 e h Q = wpI (cW T) i20r1 e h (regQ (some [0, 3]) Q) := wq_reg ..
theorem xf20r2 : wp T f20r2 e h Q = wpI (cW T) i20r2 e h (regQ (some [0, 3, 4]) Q) := wq_reg ..
theorem xf20r3 : wp T f20r3 e h Q = wpI (cW T) i20r3 e h (regQ (some [0, 3, 4, 12]) Q) := wq_reg ..
theorem xf20r4 : wp T f20r4 e h Q = wpI (cW T) i20r4 e h (regQ (some [0, 3, 4]) Q) := wq_reg ..
theorem xf20r5 : wp T f20r5 e h Q = wpI (cW T) i20r5 e h (regQ (some [0, 3, 4]) Q) := wq_reg ..
theorem xf20l0 : wp T f20l0 e h Q = wp T (.seq (.seq f20r3 (.cond (.t 12) .skip (.exit 0))) (.seq (.blk 1 f20r4) f20r5)) e h Q := rfl
theorem xf20r6 : wp T f20r6 e h Q = wpI (cW T) i20r6 e h (regQ (some [2]) Q) := wq_reg ..
theorem xb20 : wp T b20 e h Q = wp T (.seq f20r0 (.seq f20r1 (.seq (.seq f20r2 (.blk 0 (.loop f20l0))) (.seq f20r6 .ret)))) e h Q := rfl
theorem e20 : (type_of% @f20.eq_1) ∧ (type_of% @xb20) ∧ (type_of% @xf20r0) ∧ (type_of% @xf20r1) ∧ (type_of% @xf20r2) ∧ (type_of% @xf20r3) ∧ (type_of% @xf20r4) ∧ (type_of% @xf20r5) ∧ (type_of% @xf20l0) ∧ (type_of% @xf20r6) ∧ (type_of% @i20r0.eq_1) ∧ (type_of% @i20r1.eq_1) ∧ (type_of% @i20r2.eq_1) ∧ (type_of% @i20r3.eq_1) ∧ (type_of% @i20r4.eq_1) ∧ (type_of% @i20r5.eq_1) ∧ (type_of% @i20r6.eq_1) := ⟨@f20.eq_1, @xb20, @xf20r0, @xf20r1, @xf20r2, @xf20r3, @xf20r4, @xf20r5, @xf20l0, @xf20r6, @i20r0.eq_1, @i20r1.eq_1, @i20r2.eq_1, @i20r3.eq_1, @i20r4.eq_1, @i20r5.eq_1, @i20r6.eq_1⟩
theorem xf21r0 : wp T f21r0 e h Q = wpI (cW T) i21r0 e h (regQ (some [0]) Q) := wq_reg ..
theorem xf21r1 : wp T f21r1 e h Q = wpI (cW T) i21r1 e h (regQ (some [0, 4]) Q) := wq_reg ..
theorem xf21r2 : wp T f21r2 e h Q = wpI (cW T) i21r2 e h (regQ (some [2]) Q) := wq_reg ..
theorem xf21r3 : wp T f21r3 e h Q = wpI (cW T) i21r3 e h (regQ (some [2]) Q) := wq_reg ..
theorem xb21 : wp T b21 e h Q = wp T (.seq f21r0 (.seq (.seq f21r1 (.cond (.t 4) (.seq f21r2 .ret) .skip)) (.seq f21r3 .ret))) e h Q := rfl
theorem e21 : (type_of% @f21.eq_1) ∧ (type_of% @xb21) ∧ (type_of% @xf21r0) ∧ (type_of% @xf21r1) ∧ (type_of% @xf21r2) ∧ (type_of% @xf21r3) ∧ (type_of% @i21r0.eq_1) ∧ (type_of% @i21r1.eq_1) ∧ (type_of% @i21r2.eq_1) ∧ (type_of% @i21r3.eq_1) := ⟨@f21.eq_1, @xb21, @xf21r0, @xf21r1, @xf21r2, @xf21r3, @i21r0.eq_1, @i21r1.eq_1, @i21r2.eq_1, @i21r3.eq_1⟩
theorem xf25r0 : wp T f25r0 e h Q = wpI (cW T) i25r0 e h (regQ (some [0, 1]) Q) := wq_reg ..
theorem xf25r1 : wp T f25r1 e h Q = wpI (cW T) i25r1 e h (regQ (some [0, 1, 9, 10, 11]) Q) := wq_reg ..
theorem xf25r2 : wp T f25r2 e h Q = wpI (cW T) i25r2 e h (regQ (some [0, 1, 9, 10, 11, 12]) Q) := wq_reg ..
theorem xf25r3 : wp T f25r3 e h Q = wpI (cW T) i25r3 e h (regQ (some [0, 1, 6, 9, 10, 11]) Q) := wq_reg ..
theorem xf25r4 : wp T f25r4 e h Q = wpI (cW T) i25r4 e h (regQ (some [0, 1, 9, 10, 11, 17]) Q) := wq_reg ..
theorem xf25r5 : wp T f25r5 e h Q = wpI (cW T) i25r5 e h (regQ (some [4]) Q) := wq_reg ..
theorem xf25r6 : wp T f25r6 e h Q = wpI (cW T) i25r6 e h (regQ (some [0, 1, 9, 10, 11]) Q) := wq_reg ..
theorem xf25l0 : wp T f25l0 e h Q = wp T (.seq f25r2 (.seq (.cond (.t 12) .skip (.exit 0)) (.seq (.blk 1 (.seq f25r3 (.seq f25r4 (.cond (.t 17) (.seq f25r5 .ret) .skip)))) f25r6))) e h Q := rfl
theorem xf25r7 : wp T f25r7 e h Q = wpI (cW T) i25r7 e h (regQ (some [0, 19, 20, 21]) Q) := wq_reg ..
theorem xf25r8 : wp T f25r8 e h Q = wpI (cW T) i25r8 e h (regQ (some [0, 19, 20, 21, 22]) Q) := wq_reg ..
theorem xf25r9 : wp T f25r9 e h Q = wpI (cW T) i25r9 e h (regQ (some [0, 8, 19, 20, 21]) Q) := wq_reg ..
theorem xf25r10 : wp T f25r10 e h Q = wpI (cW T) i25r10 e h (regQ (some [0, 19, 20, 21, 34]) Q) := wq_reg ..
theorem xf25r11 : wp T f25r11 e h Q = wpI (cW T) i25r11 e h (regQ (some [4]) Q) := wq_reg ..
theorem xf25r12 : wp T f25r12 e h Q = wpI (cW T) i25r12 e h (regQ (some [0, 19, 20, 21]) Q) := wq_reg ..
theorem xf25l1 : wp T f25l1 e h Q = wp T (.seq f25r8 (.seq (.cond (.t 22) .skip (.exit 2)) (.seq (.blk 3 (.seq f25r9 (.seq f25r10 (.cond (.t 34) (.seq f25r11 .ret) .skip)))) f25r12))) e h Q := rfl
theorem xf25r13 : wp T f25r13 e h Q = wpI (cW T) i25r13 e h (regQ (some [4]) Q) := wq_reg ..
theorem xb25 : wp T b25 e h Q = wp T (.seq f25r0 (.seq (.seq f25r1 (.blk 0 (.loop f25l0))) (.seq (.seq f25r7 (.blk 2 (.loop f25l1))) (.seq f25r13 .ret)))) e h Q := rfl
theorem e25 : (type_of% @f25.eq_1) ∧ (type_of% @xb25) ∧ (type_of% @xf25r0) ∧ (type_of% @xf25r1) ∧ (type_of% @xf25r2) ∧ (type_of% @xf25r3) ∧ (type_of% @xf25r4) ∧ (type_of% @xf25r5) ∧ (type_of% @xf25r6) ∧ (type_of% @xf25l0) ∧ (type_of% @xf25r7) ∧ (type_of% @xf25r8) ∧ (type_of% @xf25r9) ∧ (type_of% @xf25r10) ∧ (type_of% @xf25r11) ∧ (type_of% @xf25r12) ∧ (type_of% @xf25l1) ∧ (type_of% @xf25r13) ∧ (type_of% @i25r0.eq_1) ∧ (type_of% @i25r1.eq_1) ∧ (type_of% @i25r2.eq_1) ∧ (type_of% @i25r3.eq_1) ∧ (type_of% @i25r4.eq_1) ∧ (type_of% @i25r5.eq_1) ∧ (type_of% @i25r6.eq_1) ∧ (type_of% @i25r7.eq_1) ∧ (type_of% @i25r8.eq_1) ∧ (type_of% @i25r9.eq_1) ∧ (type_of% @i25r10.eq_1) ∧ (type_of% @i25r11.eq_1) ∧ (type_of% @i25r12.eq_1) ∧ (type_of% @i25r13.eq_1) := ⟨@f25.eq_1, @xb25, @xf25r0, @xf25r1, @xf25r2, @xf25r3, @xf25r4, @xf25r5, @xf25r6, @xf25l0, @xf25r7, @xf25r8, @xf25r9, @xf25r10, @xf25r11, @xf25r12, @xf25l1, @xf25r13, @i25r0.eq_1, @i25r1.eq_1, @i25r2.eq_1, @i25r3.eq_1, @i25r4.eq_1, @i25r5.eq_1, @i25r6.eq_1, @i25r7.eq_1, @i25r8.eq_1, @i25r9.eq_1, @i25r10.eq_1, @i25r11.eq_1, @i25r12.eq_1, @i25r13.eq_1⟩
theorem xf26r0 : wp T f26r0 e h Q = wpI (cW T) i26r0 e h (regQ (some [1]) Q) := wq_reg ..
theorem xf26r1 : wp T f26r1 e h Q = wpI (cW T) i26r1 e h (regQ (some [1, 4]) Q) := wq_reg ..
theorem xf26r2 : wp T f26r2 e h Q = wpI (cW T) i26r2 e h (regQ (some [1, 4, 5]) Q) := wq_reg ..
theorem xf26r3 : wp T f26r3 e h Q = wpI (cW T) i26r3 e h (regQ (some [1, 4, 5]) Q) := wq_reg ..
theorem xf26r4 : wp T f26r4 e h Q = wpI (cW T) i26r4 e h (regQ (some [2]) Q) := wq_reg ..
theorem xf26r5 : wp T f26r5 e h Q = wpI (cW T) i26r5 e h (regQ (some [1, 4, 8]) Q) := wq_reg ..
theorem xf26r6 : wp T f26r6 e h Q = wpI (cW T) i26r6 e h (regQ (some [2]) Q) := wq_reg ..
theorem xf26r7 : wp T f26r7 e h Q = wpI (cW T) i26r7 e h (regQ (some [1, 13]) Q) := wq_reg ..
theorem xf26r8 : wp T f26r8 e h Q = wpI (cW T) i26r8 e h (regQ (some [2]) Q) := wq_reg ..
theorem xf26r9 : wp T f26r9 e h Q = wpI (cW T) i26r9 e h (regQ (some [2]) Q) := wq_reg ..
theorem xb26 : wp T b26 e h Q = wp T (.seq f26r0 (.seq (.seq f26r1 (.blk 0 (.seq (.seq f26r2 (.cond (.t 5) .skip f26r3)) (.cond (.t 5) (.seq f26r4 .ret) (.seq f26r5 (.cond (.t 8) (.seq f26r6 .ret) (.seq f26r7 (.cond (.t 13) (.seq f26r8 .ret) .skip)))))))) (.seq f26r9 .ret))) e h Q := rfl
theorem e26 : (type_of% @f26.eq_1) ∧ (type_of% @xb26) ∧ (type_of% @xf26r0) ∧ (type_of% @xf26r1) ∧ (type_of% @xf26r2) ∧ (type_of% @xf26r3) ∧ (type_of% @xf26r4) ∧ (type_of% @xf26r5) ∧ (type_of% @xf26r6) ∧ (type_of% @xf26r7) ∧ (type_of% @xf26r8) ∧ (type_of% @xf26r9) ∧ (type_of% @i26r0.eq_1) ∧ (type_of% @i26r1.eq_1) ∧ (type_of% @i26r2.eq_1) ∧ (type_of% @i26r3.eq_1) ∧ (type_of% @i26r4.eq_1) ∧ (type_of% @i26r5.eq_1) ∧ (type_of% @i26r6.eq_1) ∧ (type_of% @i26r7.eq_1) ∧ (type_of% @i26r8.eq_1) ∧ (type_of% @i26r9.eq_1) := ⟨@f26.eq_1, @xb26, @xf26r0, @xf26r1, @xf26r2, @xf26r3, @xf26r4, @xf26r5, @xf26r6, @xf26r7, @xf26r8, @xf26r9, @i26r0.eq_1, @i26r1.eq_1, @i26r2.eq_1, @i26r3.eq_1, @i26r4.eq_1, @i26r5.eq_1, @i26r6.eq_1, @i26r7.eq_1, @i26r8.eq_1, @i26r9.eq_1⟩
theorem xf28r0 : wp T f28r0 e h Q = wpI (cW T) i28r0 e h (regQ (some [0, 1]) Q) := wq_reg ..
theorem xf28r1 : wp T f28r1 e h Q = wpI (cW T) i28r1 e h (regQ (some [4]) Q) := wq_reg ..
theorem xb28 : wp T b28 e h Q = wp T (.seq f28r0 (.seq f28r1 .ret)) e h Q := rfl
theorem e28 : (type_of% @f28.eq_1) ∧ (type_of% @xb28) ∧ (type_of% @xf28r0) ∧ (type_of% @xf28r1) ∧ (type_of% @i28r0.eq_1) ∧ (type_of% @i28r1.eq_1) := ⟨@f28.eq_1, @xb28, @xf28r0, @xf28r1, @i28r0.eq_1, @i28r1.eq_1⟩
theorem xf29r0 : wp T f29r0 e h Q = wpI (cW T) i29r0 e h (regQ (some [0, 1]) Q) := wq_reg ..
theorem xf29r1 : wp T f29r1 e h Q = wpI (cW T) i29r1 e h (regQ (some [0, 1, 5]) Q) := wq_reg ..
theorem xf29r2 : wp T f29r2 e h Q = wpI (cW T) i29r2 e h (regQ (some [4]) Q) := wq_reg ..
theorem xf29r3 : wp T f29r3 e h Q = wpI (cW T) i29r3 e h (regQ (some [0, 1, 8]) Q) := wq_reg ..
theorem xf29r4 : wp T f29r4 e h Q = wpI (cW T) i29r4 e h (regQ (some [4]) Q) := wq_reg ..
theorem xf29r5 : wp T f29r5 e h Q = wpI (cW T) i29r5 e h (regQ (some [20]) Q) := wq_reg ..
theorem xf29r6 : wp T f29r6 e h Q = wpI (cW T) i29r6 e h (regQ (some [4]) Q) := wq_reg ..
theorem xf29r7 : wp T f29r7 e h Q = wpI (cW T) i29r7 e h (regQ (some [4]) Q) := wq_reg ..
theorem xb29 : wp T b29 e h Q = wp T (.seq f29r0 (.seq (.blk 0 (.seq f29r1 (.cond (.t 5) (.seq f29r2 .ret) (.seq f29r3 (.cond (.t 8) (.seq f29r4 .ret) (.seq f29r5 (.cond (.t 20) (.seq f29r6 .ret) .skip))))))) (.seq f29r7 .ret))) e h Q := rfl
theorem e29 : (type_of% @f29.eq_1) ∧ (type_of% @xb29) ∧ (type_of% @xf29r0) ∧ (type_of% @xf29r1) ∧ (type_of% @xf29r2) ∧ (type_of% @xf29r3) ∧ (type_of% @xf29r4) ∧ (type_of% @xf29r5) ∧ (type_of% @xf29r6) ∧ (type_of% @xf29r7) ∧ (type_of% @i29r0.eq_1) ∧ (type_of% @i29r1.eq_1) ∧ (type_of% @i29r2.eq_1) ∧ (type_of% @i29r3.eq_1) ∧ (type_of% @i29r4.eq_1) ∧ (type_of% @i29r5.eq_1) ∧ (type_of% @i29r6.eq_1) ∧ (type_of% @i29r7.eq_1) := ⟨@f29.eq_1, @xb29, @xf29r0, @xf29r1, @xf29r2, @xf29r3, @xf29r4, @xf29r5, @xf29r6, @xf29r7, @i29r0.eq_1, @i29r1.eq_1, @i29r2.eq_1, @i29r3.eq_1, @i29r4.eq_1, @i29r5.eq_1, @i29r6.eq_1, @i29r7.eq_1⟩
theorem xf37r0 : wp T f37r0 e h Q = wpI (cW T) i37r0 e h (regQ (some [1]) Q) := wq_reg ..
theorem xf37r1 : wp T f37r1 e h Q = wpI (cW T) i37r1 e h (regQ (some [1, 4]) Q) := wq_reg ..
theorem xf37r2 : wp T f37r2 e h Q = wpI (cW T) i37r2 e h (regQ (some [1, 4, 5]) Q) := wq_reg ..
theorem xf37r3 : wp T f37r3 e h Q = wpI (cW T) i37r3 e h (regQ (some [1, 4, 5]) Q) := wq_reg ..
theorem xf37r4 : wp T f37r4 e h Q = wpI (cW T) i37r4 e h (regQ (some [2]) Q) := wq_reg ..
theorem xf37r5 : wp T f37r5 e h Q = wpI (cW T) i37r5 e h (regQ (some [1, 8]) Q) := wq_reg ..
theorem xf37r6 : wp T f37r6 e h Q = wpI (cW T) i37r6 e h (regQ (some [2]) Q) := wq_reg ..
theorem xf37r7 : wp T f37r7 e h Q = wpI (cW T) i37r7 e h (regQ (some [2]) Q) := wq_reg ..
theorem xb37 : wp T b37 e h Q = wp T (.seq f37r0 (.seq (.seq f37r1 (.blk 0 (.seq (.seq f37r2 (.cond (.t 5) .skip f37r3)) (.cond (.t 5) (.seq f37r4 .ret) (.seq f37r5 (.cond (.t 8) (.seq f37r6 .ret) .skip)))))) (.seq f37r7 .ret))) e h Q := rfl
theorem e37 : (type_of% @f37.eq_1) ∧ (type_of% @xb37) ∧ (type_of% @xf37r0) ∧ (type_of% @xf37r1) ∧ (type_of% @xf37r2) ∧ (type_of% @xf37r3) ∧ (type_of% @xf37r4) ∧ (type_of% @xf37r5) ∧ (type_of% @xf37r6) ∧ (type_of% @xf37r7) ∧ (type_of% @i37r0.eq_1) ∧ (type_of% @i37r1.eq_1) ∧ (type_of% @i37r2.eq_1) ∧ (type_of% @i37r3.eq_1) ∧ (type_of% @i37r4.eq_1) ∧ (type_of% @i37r5.eq_1) ∧ (type_of% @i37r6.eq_1) ∧ (type_of% @i37r7.eq_1) := ⟨@f37.eq_1, @xb37, @xf37r0, @xf37r1, @xf37r2, @xf37r3, @xf37r4, @xf37r5, @xf37r6, @xf37r7, @i37r0.eq_1, @i37r1.eq_1, @i37r2.eq_1, @i37r3.eq_1, @i37r4.eq_1, @i37r5.eq_1, @i37r6.eq_1, @i37r7.eq_1⟩
end Zc55k
