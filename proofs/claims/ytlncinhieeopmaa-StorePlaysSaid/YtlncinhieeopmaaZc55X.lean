/-
  What each part of the code does, as an equation.
-/
import Derived.Test.YtlncinhieeopmaaTab
import Derived.Test.YtlncinhieeopmaaZvWp
namespace Zc55
open Go Zv Zs
variable (T : Tab) (e : Env) (h : Hp) (Q : Out → Prop)
theorem xf3r0 : wp T f3r0 e h Q = wpI (cW T) i3r0 e h (regQ (some [0, 1]) Q) := wq_reg ..
theorem xf3r1 : wp T f3r1 e h Q = wpI (cW T) i3r1 e h (regQ (some [1, 5]) Q) := wq_reg ..
theorem xf3r2 : wp T f3r2 e h Q = wpI (cW T) i3r2 e h (regQ (some [1, 5, 6, 7]) Q) := wq_reg ..
theorem xf3r3 : wp T f3r3 e h Q = wpI (cW T) i3r3 e h (regQ (some [1, 5, 6, 39]) Q) := wq_reg ..
theorem xf3r4 : wp T f3r4 e h Q = wpI (cW T) i3r4 e h (regQ (some [4]) Q) := wq_reg ..
theorem xf3r5 : wp T f3r5 e h Q = wpI (cW T) i3r5 e h (regQ (some [1, 5, 6, 8, 9]) Q) := wq_reg ..
theorem xf3r6 : wp T f3r6 e h Q = wpI (cW T) i3r6 e h (regQ (some [1, 5, 6, 8, 9, 10]) Q) := wq_reg ..
theorem xf3r7 : wp T f3r7 e h Q = wpI (cW T) i3r7 e h (regQ (some [1, 5, 6, 8, 9, 10, 51]) Q) := wq_reg ..
theorem xf3r8 : wp T f3r8 e h Q = wpI (cW T) i3r8 e h (regQ (some [1, 5, 6, 8, 9, 10]) Q) := wq_reg ..
theorem xf3r9 : wp T f3r9 e h Q = wpI (cW T) i3r9 e h (regQ (some [1, 5, 6, 8, 9, 10]) Q) := wq_reg ..
theorem xf3l0 : wp T f3l0 e h Q = wp T (.seq (.seq f3r7 (.cond (.t 51) .skip (.exit 0))) (.seq (.blk 1 f3r8) f3r9)) e h Q := rfl
theorem xf3r10 : wp T f3r10 e h Q = wpI (cW T) i3r10 e h (regQ (some [1, 5, 6, 8, 66]) Q) := wq_reg ..
theorem xf3r11 : wp T f3r11 e h Q = wpI (cW T) i3r11 e h (regQ (some [4]) Q) := wq_reg ..
theorem xf3r12 : wp T f3r12 e h Q = wpI (cW T) i3r12 e h (regQ (some [1, 5, 6, 11]) Q) := wq_reg ..
theorem xf3r13 : wp T f3r13 e h Q = wpI (cW T) i3r13 e h (regQ (some [1, 5, 6, 11, 12, 13]) Q) := wq_reg ..
theorem xf3r14 : wp T f3r14 e h Q = wpI (cW T) i3r14 e h (regQ (some [5, 6, 11, 12, 13, 14]) Q) := wq_reg ..
theorem xf3r15 : wp T f3r15 e h Q = wpI (cW T) i3r15 e h (regQ (some [5, 6, 11, 12, 13, 14, 16]) Q) := wq_reg ..
theorem xf3r16 : wp T f3r16 e h Q = wpI (cW T) i3r16 e h (regQ (some [5, 6, 11, 12, 13, 14, 16, 18]) Q) := wq_reg ..
theorem xf3r17 : wp T f3r17 e h Q = wpI (cW T) i3r17 e h (regQ (some [5, 6, 11, 12, 13, 14, 16, 18, 20]) Q) := wq_reg ..
theorem xf3r18 : wp T f3r18 e h Q = wpI (cW T) i3r18 e h (regQ (some [5, 6, 11, 12, 13, 16, 18, 20, 21]) Q) := wq_reg ..
theorem xf3r19 : wp T f3r19 e h Q = wpI (cW T) i3r19 e h (regQ (some [5, 12, 13, 16, 18, 20, 21, 23]) Q) := wq_reg ..
theorem xf3r20 : wp T f3r20 e h Q = wpI (cW T) i3r20 e h (regQ (some [4]) Q) := wq_reg ..
theorem xb3 : wp T b3 e h Q = wp T (.seq f3r0 (.seq f3r1 (.seq f3r2 (.seq (.seq f3r3 (.cond (.t 39) (.seq f3r4 .ret) .skip)) (.seq f3r5 (.seq (.seq f3r6 (.blk 0 (.loop f3l0))) (.seq (.seq f3r10 (.cond (.t 66) (.seq f3r11 .ret) .skip)) (.seq f3r12 (.seq f3r13 (.seq f3r14 (.seq f3r15 (.seq f3r16 (.seq f3r17 (.seq f3r18 (.seq f3r19 (.seq f3r20 .ret)))))))))))))))) e h Q := rfl
theorem e3 : (type_of% @f3.eq_1) ∧ (type_of% @xb3) ∧ (type_of% @xf3r0) ∧ (type_of% @xf3r1) ∧ (type_of% @xf3r2) ∧ (type_of% @xf3r3) ∧ (type_of% @xf3r4) ∧ (type_of% @xf3r5) ∧ (type_of% @xf3r6) ∧ (type_of% @xf3r7) ∧ (type_of% @xf3r8) ∧ (type_of% @xf3r9) ∧ (type_of% @xf3l0) ∧ (type_of% @xf3r10) ∧ (type_of% @xf3r11) ∧ (type_of% @xf3r12) ∧ (type_of% @xf3r13) ∧ (type_of% @xf3r14) ∧ (type_of% @xf3r15) ∧ (type_of% @xf3r16) ∧ (type_of% @xf3r17) ∧ (type_of% @xf3r18) ∧ (type_of% @xf3r19) ∧ (type_of% @xf3r20) ∧ (type_of% @i3r0.eq_1) ∧ (type_of% @i3r1.eq_1) ∧ (type_of% @i3r2.eq_1) ∧ (type_of% @i3r3.eq_1) ∧ (type_of% @i3r4.eq_1) ∧ (type_of% @i3r5.eq_1) ∧ (type_of% @i3r6.eq_1) ∧ (type_of% @i3r7.eq_1) ∧ (type_of% @i3r8.eq_1) ∧ (type_of% @i3r9.eq_1) ∧ (type_of% @i3r10.eq_1) ∧ (type_of% @i3r11.eq_1) ∧ (type_of% @i3r12.eq_1) ∧ (type_of% @i3r13.eq_1) ∧ (type_of% @i3r14.eq_1) ∧ (type_of% @i3r15.eq_1) ∧ (type_of% @i3r16.eq_1) ∧ (type_of% @i3r17.eq_1) ∧ (type_of% @i3r18.eq_1) ∧ (type_of% @i3r19.eq_1) ∧ (type_of% @i3r20.eq_1) := ⟨@f3.eq_1, @xb3, @xf3r0, @xf3r1, @xf3r2, @xf3r3, @xf3r4, @xf3r5, @xf3r6, @xf3r7, @xf3r8, @xf3r9, @xf3l0, @xf3r10, @xf3r11, @xf3r12, @xf3r13, @xf3r14, @xf3r15, @xf3r16, @xf3r17, @xf3r18, @xf3r19, @xf3r20, @i3r0.eq_1, @i3r1.eq_1, @i3r2.eq_1, @i3r3.eq_1, @i3r4.eq_1, @i3r5.eq_1, @i3r6.eq_1, @i3r7.eq_1, @i3r8.eq_1, @i3r9.eq_1, @i3r10.eq_1, @i3r11.eq_1, @i3r12.eq_1, @i3r13.eq_1, @i3r14.eq_1, @i3r15.eq_1, @i3r16.eq_1, @i3r17.eq_1, @i3r18.eq_1, @i3r19.eq_1, @i3r20.eq_1⟩
theorem xf4r0 : wp T f4r0 e h Q = wpI (cW T) i4r0 e h (regQ (some [0]) Q) := wq_reg ..
theorem xf4r1 : wp T f4r1 e h Q = wpI (cW T) i4r1 e h (regQ (some [0, 21]) Q) := wq_reg ..
theorem xf4r2 : wp T f4r2 e h Q = wpI (cW T) i4r2 e h (regQ (some [2]) Q) := wq_reg ..
theorem xf4r3 : wp T f4r3 e h Q = wpI (cW T) i4r3 e h (regQ (some [0, 3, 4]) Q) := wq_reg ..
theorem xf4r4 : wp T f4r4 e h Q = wpI (cW T) i4r4 e h (regQ (some [0, 3, 32]) Q) := wq_reg ..
theorem xf4r5 : wp T f4r5 e h Q = wpI (cW T) i4r5 e h (regQ (some [2]) Q) := wq_reg ..
theorem xf4r6 : wp T f4r6 e h Q = wpI (cW T) i4r6 e h (regQ (some [0, 3, 5]) Q) := wq_reg ..
theorem xf4r7 : wp T f4r7 e h Q = wpI (cW T) i4r7 e h (regQ (some [0, 3, 5, 34]) Q) := wq_reg ..
theorem xf4r8 : wp T f4r8 e h Q = wpI (cW T) i4r8 e h (regQ (some [0, 3, 5, 6, 7]) Q) := wq_reg ..
theorem xf4r9 : wp T f4r9 e h Q = wpI (cW T) i4r9 e h (regQ (some [0, 3, 5, 49]) Q) := wq_reg ..
theorem xf4r10 : wp T f4r10 e h Q = wpI (cW T) i4r10 e h (regQ (some [2]) Q) := wq_reg ..
theorem xf4r11 : wp T f4r11 e h Q = wpI (cW T) i4r11 e h (regQ (some [0, 3, 5]) Q) := wq_reg ..
theorem xf4l0 : wp T f4l0 e h Q = wp T (.seq (.seq f4r7 (.cond (.t 34) .skip (.exit 0))) (.seq (.blk 1 (.seq f4r8 (.seq f4r9 (.cond (.t 49) (.seq f4r10 .ret) .skip)))) f4r11)) e h Q := rfl
theorem xf4r12 : wp T f4r12 e h Q = wpI (cW T) i4r12 e h (regQ (some [0, 3, 8]) Q) := wq_reg ..
theorem xf4r13 : wp T f4r13 e h Q = wpI (cW T) i4r13 e h (regQ (some [0, 3, 8, 9]) Q) := wq_reg ..
theorem xf4r14 : wp T f4r14 e h Q = wpI (cW T) i4r14 e h (regQ (some [0, 3, 8, 9, 53]) Q) := wq_reg ..
theorem xf4r15 : wp T f4r15 e h Q = wpI (cW T) i4r15 e h (regQ (some [0, 3, 8, 9, 10]) Q) := wq_reg ..
theorem xf4r16 : wp T f4r16 e h Q = wpI (cW T) i4r16 e h (regQ (some [0, 3, 8, 9, 10, 11]) Q) := wq_reg ..
theorem xf4r17 : wp T f4r17 e h Q = wpI (cW T) i4r17 e h (regQ (some [0, 3, 8, 9, 10, 11, 12]) Q) := wq_reg ..
theorem xf4r18 : wp T f4r18 e h Q = wpI (cW T) i4r18 e h (regQ (some [0, 3, 8, 9, 10, 11, 12, 65]) Q) := wq_reg ..
theorem xf4r19 : wp T f4r19 e h Q = wpI (cW T) i4r19 e h (regQ (some [0, 3, 8, 9, 10, 11, 12]) Q) := wq_reg ..
theorem xf4r20 : wp T f4r20 e h Q = wpI (cW T) i4r20 e h (regQ (some [0, 3, 8, 9, 10, 11, 12]) Q) := wq_reg ..
theorem xf4l1 : wp T f4l1 e h Q = wp T (.seq (.seq f4r18 (.cond (.t 65) .skip (.exit 4))) (.seq (.blk 5 f4r19) f4r20)) e h Q := rfl
theorem xf4r21 : wp T f4r21 e h Q = wpI (cW T) i4r21 e h (regQ (some [0, 3, 8, 9, 10, 11, 13]) Q) := wq_reg ..
theorem xf4r22 : wp T f4r22 e h Q = wpI (cW T) i4r22 e h (regQ (some [0, 3, 8, 9, 10, 11, 91]) Q) := wq_reg ..
theorem xf4r23 : wp T f4r23 e h Q = wpI (cW T) i4r23 e h (regQ (some [2]) Q) := wq_reg ..
theorem xf4r24 : wp T f4r24 e h Q = wpI (cW T) i4r24 e h (regQ (some [0, 3, 8, 9, 10, 93]) Q) := wq_reg ..
theorem xf4r25 : wp T f4r25 e h Q = wpI (cW T) i4r25 e h (regQ (some [0, 3, 8, 9]) Q) := wq_reg ..
theorem xf4r26 : wp T f4r26 e h Q = wpI (cW T) i4r26 e h (regQ (some [0, 3, 8, 9]) Q) := wq_reg ..
theorem xf4l2 : wp T f4l2 e h Q = wp T (.seq (.seq f4r14 (.cond (.t 53) .skip (.exit 2))) (.seq (.blk 3 (.seq f4r15 (.seq f4r16 (.seq (.seq f4r17 (.blk 4 (.loop f4l1))) (.seq f4r21 (.seq (.seq f4r22 (.cond (.t 91) (.seq f4r23 .ret) .skip)) (.seq f4r24 (.cond (.t 93) f4r25 .skip)))))))) f4r26)) e h Q := rfl
theorem xf4r27 : wp T f4r27 e h Q = wpI (cW T) i4r27 e h (regQ (some [3, 8, 14]) Q) := wq_reg ..
theorem xf4r28 : wp T f4r28 e h Q = wpI (cW T) i4r28 e h (regQ (some [3, 8, 14, 102]) Q) := wq_reg ..
theorem xf4r29 : wp T f4r29 e h Q = wpI (cW T) i4r29 e h (regQ (some [3, 8, 14, 15, 16]) Q) := wq_reg ..
theorem xf4r30 : wp T f4r30 e h Q = wpI (cW T) i4r30 e h (regQ (some [3, 8, 14, 119]) Q) := wq_reg ..
theorem xf4r31 : wp T f4r31 e h Q = wpI (cW T) i4r31 e h (regQ (some [2]) Q) := wq_reg ..
theorem xf4r32 : wp T f4r32 e h Q = wpI (cW T) i4r32 e h (regQ (some [3, 8, 14]) Q) := wq_reg ..
theorem xf4l3 : wp T f4l3 e h Q = wp T (.seq (.seq f4r28 (.cond (.t 102) .skip (.exit 6))) (.seq (.blk 7 (.seq f4r29 (.seq f4r30 (.cond (.t 119) (.seq f4r31 .ret) .skip)))) f4r32)) e h Q := rfl
theorem xf4r33 : wp T f4r33 e h Q = wpI (cW T) i4r33 e h (regQ (some [3, 18]) Q) := wq_reg ..
theorem xf4r34 : wp T f4r34 e h Q = wpI (cW T) i4r34 e h (regQ (some [2]) Q) := wq_reg ..
theorem xb4 : wp T b4 e h Q = wp T (.seq f4r0 (.seq (.seq f4r1 (.cond (.t 21) (.seq f4r2 .ret) .skip)) (.seq f4r3 (.seq (.seq f4r4 (.cond (.t 32) (.seq f4r5 .ret) .skip)) (.seq (.seq f4r6 (.blk 0 (.loop f4l0))) (.seq f4r12 (.seq (.seq f4r13 (.blk 2 (.loop f4l2))) (.seq (.seq f4r27 (.blk 6 (.loop f4l3))) (.seq f4r33 (.seq f4r34 .ret)))))))))) e h Q := rfl
theorem e4 : (type_of% @f4.eq_1) ∧ (type_of% @xb4) ∧ (type_of% @xf4r0) ∧ (type_of% @xf4r1) ∧ (type_of% @xf4r2) ∧ (type_of% @xf4r3) ∧ (type_of% @xf4r4) ∧ (type_of% @xf4r5) ∧ (type_of% @xf4r6) ∧ (type_of% @xf4r7) ∧ (type_of% @xf4r8) ∧ (type_of% @xf4r9) ∧ (type_of% @xf4r10) ∧ (type_of% @xf4r11) ∧ (type_of% @xf4l0) ∧ (type_of% @xf4r12) ∧ (type_of% @xf4r13) ∧ (type_of% @xf4r14) ∧ (type_of% @xf4r15) ∧ (type_of% @xf4r16) ∧ (type_of% @xf4r17) ∧ (type_of% @xf4r18) ∧ (type_of% @xf4r19) ∧ (type_of% @xf4r20) ∧ (type_of% @xf4l1) ∧ (type_of% @xf4r21) ∧ (type_of% @xf4r22) ∧ (type_of% @xf4r23) ∧ (type_of% @xf4r24) ∧ (type_of% @xf4r25) ∧ (type_of% @xf4r26) ∧ (type_of% @xf4l2) ∧ (type_of% @xf4r27) ∧ (type_of% @xf4r28) ∧ (type_of% @xf4r29) ∧ (type_of% @xf4r30) ∧ (type_of% @xf4r31) ∧ (type_of% @xf4r32) ∧ (type_of% @xf4l3) ∧ (type_of% @xf4r33) ∧ (type_of% @xf4r34) ∧ (type_of% @i4r0.eq_1) ∧ (type_of% @i4r1.eq_1) ∧ (type_of% @i4r2.eq_1) ∧ (type_of% @i4r3.eq_1) ∧ (type_of% @i4r4.eq_1) ∧ (type_of% @i4r5.eq_1) ∧ (type_of% @i4r6.eq_1) ∧ (type_of% @i4r7.eq_1) ∧ (type_of% @i4r8.eq_1) ∧ (type_of% @i4r9.eq_1) ∧ (type_of% @i4r10.eq_1) ∧ (type_of% @i4r11.eq_1) ∧ (type_of% @i4r12.eq_1) ∧ (type_of% @i4r13.eq_1) ∧ (type_of% @i4r14.eq_1) ∧ (type_of% @i4r15.eq_1) ∧ (type_of% @i4r16.eq_1) ∧ (type_of% @i4r17.eq_1) ∧ (type_of% @i4r18.eq_1) ∧ (type_of% @i4r19.eq_1) ∧ (type_of% @i4r20.eq_1) ∧ (type_of% @i4r21.eq_1) ∧ (type_of% @i4r22.eq_1) ∧ (type_of% @i4r23.eq_1) ∧ (type_of% @i4r24.eq_1) ∧ (type_of% @i4r25.eq_1) ∧ (type_of% @i4r26.eq_1) ∧ (type_of% @i4r27.eq_1) ∧ (type_of% @i4r28.eq_1) ∧ (type_of% @i4r29.eq_1) ∧ (type_of% @i4r30.eq_1) ∧ (type_of% @i4r31.eq_1) ∧ (type_of% @i4r32.eq_1) ∧ (type_of% @i4r33.eq_1) ∧ (type_of% @i4r34.eq_1) := ⟨@f4.eq_1, @xb4, @xf4r0, @xf4r1, @xf4r2, @xf4r3, @xf4r4, @xf4r5, @xf4r6, @xf4r7, @xf4r8, @xf4r9, @xf4r10, @xf4r11, @xf4l0, @xf4r12, @xf4r13, @xf4r14, @xf4r15, @xf4r16, @xf4r17, @xf4r18, @xf4r19, @xf4r20, @xf4l1, @xf4r21, @xf4r22, @xf4r23, @xf4r24, @xf4r25, @xf4r26, @xf4l2, @xf4r27, @xf4r28, @xf4r29, @xf4r30, @xf4r31, @xf4r32, @xf4l3, @xf4r33, @xf4r34, @i4r0.eq_1, @i4r1.eq_1, @i4r2.eq_1, @i4r3.eq_1, @i4r4.eq_1, @i4r5.eq_1, @i4r6.eq_1, @i4r7.eq_1, @i4r8.eq_1, @i4r9.eq_1, @i4r10.eq_1, @i4r11.eq_1, @i4r12.eq_1, @i4r13.eq_1, @i4r14.eq_1, @i4r15.eq_1, @i4r16.eq_1, @i4r17.eq_1, @i4r18.eq_1, @i4r19.eq_1, @i4r20.eq_1, @i4r21.eq_1, @i4r22.eq_1, @i4r23.eq_1, @i4r24.eq_1, @i4r25.eq_1, @i4r26.eq_1, @i4r27.eq_1, @i4r28.eq_1, @i4r29.eq_1, @i4r30.eq_1, @i4r31.eq_1, @i4r32.eq_1, @i4r33.eq_1, @i4r34.eq_1⟩
theorem xf8r0 : wp T f8r0 e h Q = wpI (cW T) i8r0 e h (regQ (some [0, 1]) Q) := wq_reg ..
theorem xf8r1 : wp T f8r1 e h Q = wpI (cW T) i8r1 e h (regQ (some [0, 1, 12]) Q) := wq_reg ..
theorem xf8r2 : wp T f8r2 e h Q = wpI (cW T) i8r2 e h (regQ (some [4]) Q) := wq_reg ..
theorem xf8r3 : wp T f8r3 e h Q = wpI (cW T) i8r3 e h (regQ (some [0, 1, 5, 6]) Q) := wq_reg ..
theorem xf8r4 : wp T f8r4 e h Q = wpI (cW T) i8r4 e h (regQ (some [1, 5, 6, 7]) Q) := wq_reg ..
theorem xf8r5 : wp T f8r5 e h Q = wpI (cW T) i8r5 e h (regQ (some [1, 5, 7, 33]) Q) := wq_reg ..
theorem xf8r6 : wp T f8r6 e h Q = wpI (cW T) i8r6 e h (regQ (some [4]) Q) := wq_reg ..
theorem xf8r7 : wp T f8r7 e h Q = wpI (cW T) i8r7 e h (regQ (some [1, 5, 7, 9]) Q) := wq_reg ..
theorem xf8r8 : wp T f8r8 e h Q = wpI (cW T) i8r8 e h (regQ (some [1, 5, 7, 9, 37]) Q) := wq_reg ..
theorem xf8r9 : wp T f8r9 e h Q = wpI (cW T) i8r9 e h (regQ (some [1, 5, 7, 9, 67]) Q) := wq_reg ..
theorem xf8r10 : wp T f8r10 e h Q = wpI (cW T) i8r10 e h (regQ (some [4]) Q) := wq_reg ..
theorem xf8r11 : wp T f8r11 e h Q = wpI (cW T) i8r11 e h (regQ (some [1, 5, 7, 9]) Q) := wq_reg ..
theorem xf8l0 : wp T f8l0 e h Q = wp T (.seq (.seq f8r8 (.cond (.t 37) .skip (.exit 0))) (.seq (.blk 1 (.seq f8r9 (.cond (.t 67) (.seq f8r10 .ret) .skip))) f8r11)) e h Q := rfl
theorem xf8r12 : wp T f8r12 e h Q = wpI (cW T) i8r12 e h (regQ (some [4]) Q) := wq_reg ..
theorem xb8 : wp T b8 e h Q = wp T (.seq f8r0 (.seq (.seq f8r1 (.cond (.t 12) (.seq f8r2 .ret) .skip)) (.seq f8r3 (.seq f8r4 (.seq (.seq f8r5 (.cond (.t 33) (.seq f8r6 .ret) .skip)) (.seq (.seq f8r7 (.blk 0 (.loop f8l0))) (.seq f8r12 .ret))))))) e h Q := rfl
theorem e8 : (type_of% @f8.eq_1) ∧ (type_of% @xb8) ∧ (type_of% @xf8r0) ∧ (type_of% @xf8r1) ∧ (type_of% @xf8r2) ∧ (type_of% @xf8r3) ∧ (type_of% @xf8r4) ∧ (type_of% @xf8r5) ∧ (type_of% @xf8r6) ∧ (type_of% @xf8r7) ∧ (type_of% @xf8r8) ∧ (type_of% @xf8r9) ∧ (type_of% @xf8r10) ∧ (type_of% @xf8r11) ∧ (type_of% @xf8l0) ∧ (type_of% @xf8r12) ∧ (type_of% @i8r0.eq_1) ∧ (type_of% @i8r1.eq_1) ∧ (type_of% @i8r2.eq_1) ∧ (type_of% @i8r3.eq_1) ∧ (type_of% @i8r4.eq_1) ∧ (type_of% @i8r5.eq_1) ∧ (type_of% @i8r6.eq_1) ∧ (type_of% @i8r7.eq_1) ∧ (type_of% @i8r8.eq_1) ∧ (type_of% @i8r9.eq_1) ∧ (type_of% @i8r10.eq_1) ∧ (type_of% @i8r11.eq_1) ∧ (type_of% @i8r12.eq_1) := ⟨@f8.eq_1, @xb8, @xf8r0, @xf8r1, @xf8r2, @xf8r3, @xf8r4, @xf8r5, @xf8r6, @xf8r7, @xf8r8, @xf8r9, @xf8r10, @xf8r11, @xf8l0, @xf8r12, @i8r0.eq_1, @i8r1.eq_1, @i8r2.eq_1, @i8r3.eq_1, @i8r4.eq_1, @i8r5.eq_1, @i8r6.eq_1, @i8r7.eq_1, @i8r8.eq_1, @i8r9.eq_1, @i8r10.eq_1, @i8r11.eq_1, @i8r12.eq_1⟩
theorem xf9r0 : wp T f9r0 e h Q = wpI (cW T) i9r0 e h (regQ (some [0, 3]) Q) := wq_reg ..
theorem xf9r1 : wp T f9r1 e h Q = wpI (cW T) i9r1 e h (regQ (some [0, 3, 5]) Q) := wq_reg ..
theorem xf9r2 : wp T f9r2 e h Q = wpI (cW T) i9r2 e h (regQ (some [0, 5, 6]) Q) := wq_reg ..
theorem xf9r3 : wp T f9r3 e h Q = wpI (cW T) i9r3 e h (regQ (some [0, 5, 6, 8]) Q) := wq_reg ..
theorem xf9r4 : wp T f9r4 e h Q = wpI (cW T) i9r4 e h (regQ (some [0, 5, 6, 8, 10, 11]) Q) := wq_reg ..
theorem xf9r5 : wp T f9r5 e h Q = wpI (cW T) i9r5 e h (regQ (some [0, 5, 6, 8, 10, 11, 12, 13]) Q) := wq_reg ..
theorem xf9r6 : wp T f9r6 e h Q = wpI (cW T) i9r6 e h (regQ (some [4]) Q) := wq_reg ..
theorem xb9 : wp T b9 e h Q = wp T (.seq f9r0 (.seq f9r1 (.seq f9r2 (.seq f9r3 (.seq f9r4 (.seq f9r5 (.seq f9r6 .ret))))))) e h Q := rfl
theorem e9 : (type_of% @f9.eq_1) ∧ (type_of% @xb9) ∧ (type_of% @xf9r0) ∧ (type_of% @xf9r1) ∧ (type_of% @xf9r2) ∧ (type_of% @xf9r3) ∧ (type_of% @xf9r4) ∧ (type_of% @xf9r5) ∧ (type_of% @xf9r6) ∧ (type_of% @i9r0.eq_1) ∧ (type_of% @i9r1.eq_1) ∧ (type_of% @i9r2.eq_1) ∧ (type_of% @i9r3.eq_1) ∧ (type_of% @i9r4.eq_1) ∧ (type_of% @i9r5.eq_1) ∧ (type_of% @i9r6.eq_1) := ⟨@f9.eq_1, @xb9, @xf9r0, @xf9r1, @xf9r2, @xf9r3, @xf9r4, @xf9r5, @xf9r6, @i9r0.eq_1, @i9r1.eq_1, @i9r2.eq_1, @i9r3.eq_1, @i9r4.eq_1, @i9r5.eq_1, @i9r6.eq_1⟩
theorem xf10r0 : wp T f10r0 e h Q = wpI (cW T) i10r0 e h (regQ (some [0]) Q) := wq_reg ..
theorem xf10r1 : wp T f10r1 e h Q = wpI (cW T) i10r1 e h (regQ (some [0, 11]) Q) := wq_reg ..
theorem xf10r2 : wp T f10r2 e h Q = wpI (cW T) i10r2 e h (regQ (some [2, 3]) Q) := wq_reg ..
theorem xf10r3 : wp T f10r3 e h Q = wpI (cW T) i10r3 e h (regQ (some [4]) Q) := wq_reg ..
theorem xf10r4 : wp T f10r4 e h Q = wpI (cW T) i10r4 e h (regQ (some [4, 21, 22]) Q) := wq_reg ..
theorem xf10r5 : wp T f10r5 e h Q = wpI (cW T) i10r5 e h (regQ (some [4, 21, 22, 23]) Q) := wq_reg ..
theorem xf10r6 : wp T f10r6 e h Q = wpI (cW T) i10r6 e h (regQ (some [4, 5, 21, 22]) Q) := wq_reg ..
theorem xf10r7 : wp T f10r7 e h Q = wpI (cW T) i10r7 e h (regQ (some [4, 21, 22]) Q) := wq_reg ..
theorem xf10r8 : wp T f10r8 e h Q = wpI (cW T) i10r8 e h (regQ (some [4, 21, 22]) Q) := wq_reg ..
theorem xf10l0 : wp T f10l0 e h Q = wp T (.seq f10r5 (.seq (.cond (.t 23) .skip (.exit 0)) (.seq (.blk 1 (.seq f10r6 f10r7)) f10r8))) e h Q := rfl
theorem xf10r9 : wp T f10r9 e h Q = wpI (cW T) i10r9 e h (regQ (some [2, 3]) Q) := wq_reg ..
theorem xb10 : wp T b10 e h Q = wp T (.seq f10r0 (.seq (.seq f10r1 (.cond (.t 11) (.seq f10r2 .ret) .skip)) (.seq f10r3 (.seq (.seq f10r4 (.blk 0 (.loop f10l0))) (.seq f10r9 .ret))))) e h Q := rfl
theorem e10 : (type_of% @f10.eq_1) ∧ (type_of% @xb10) ∧ (type_of% @xf10r0) ∧ (type_of% @xf10r1) ∧ (type_of% @xf10r2) ∧ (type_of% @xf10r3) ∧ (type_of% @xf10r4) ∧ (type_of% @xf10r5) ∧ (type_of% @xf10r6) ∧ (type_of% @xf10r7) ∧ (type_of% @xf10r8) ∧ (type_of% @xf10l0) ∧ (type_of% @xf10r9) ∧ (type_of% @i10r0.eq_1) ∧ (type_of% @i10r1.eq_1) ∧ (type_of% @i10r2.eq_1) ∧ (type_of% @i10r3.eq_1) ∧ (type_of% @i10r4.eq_1) ∧ (type_of% @i10r5.eq_1) ∧ (type_of% @i10r6.eq_1) ∧ (type_of% @i10r7.eq_1) ∧ (type_of% @i10r8.eq_1) ∧ (type_of% @i10r9.eq_1) := ⟨@f10.eq_1, @xb10, @xf10r0, @xf10r1, @xf10r2, @xf10r3, @xf10r4, @xf10r5, @xf10r6, @xf10r7, @xf10r8, @xf10l0, @xf10r9, @i10r0.eq_1, @i10r1.eq_1, @i10r2.eq_1, @i10r3.eq_1, @i10r4.eq_1, @i10r5.eq_1, @i10r6.eq_1, @i10r7.eq_1, @i10r8.eq_1, @i10r9.eq_1⟩
theorem xf11r0 : wp T f11r0 e h Q = wpI (cW T) i11r0 e h (regQ (some [0, 1, 2]) Q) := wq_reg ..
theorem xf11r1 : wp T f11r1 e h Q = wpI (cW T) i11r1 e h (regQ (some [0, 1, 2, 11]) Q) := wq_reg ..
theorem xf11r2 : wp T f11r2 e h Q = wpI (cW T) i11r2 e h (regQ (some [6, 7]) Q) := wq_reg ..
theorem xf11r3 : wp T f11r3 e h Q = wpI (cW T) i11r3 e h (regQ (some [0, 1, 2, 14]) Q) := wq_reg ..
theorem xf11r4 : wp T f11r4 e h Q = wpI (cW T) i11r4 e h (regQ (some [6, 7]) Q) := wq_reg ..
theorem xf11r5 : wp T f11r5 e h Q = wpI (cW T) i11r5 e h (regQ (some [0, 1, 2, 17]) Q) := wq_reg ..
theorem xf11r6 : wp T f11r6 e h Q = wpI (cW T) i11r6 e h (regQ (some [6, 7]) Q) := wq_reg ..
theorem xf11r7 : wp T f11r7 e h Q = wpI (cW T) i11r7 e h (regQ (some [0, 1, 2, 8]) Q) := wq_reg ..
theorem xf11r8 : wp T f11r8 e h Q = wpI (cW T) i11r8 e h (regQ (some [0, 1, 2, 8, 25]) Q) := wq_reg ..
theorem xf11r9 : wp T f11r9 e h Q = wpI (cW T) i11r9 e h (regQ (some [6, 7]) Q) := wq_reg ..
theorem xf11r10 : wp T f11r10 e h Q = wpI (cW T) i11r10 e h (regQ (some [0, 1, 2, 31]) Q) := wq_reg ..
theorem xf11r11 : wp T f11r11 e h Q = wpI (cW T) i11r11 e h (regQ (some [6, 7]) Q) := wq_reg ..
theorem xf11r12 : wp T f11r12 e h Q = wpI (cW T) i11r12 e h (regQ (some [0, 1, 2, 9]) Q) := wq_reg ..
theorem xf11r13 : wp T f11r13 e h Q = wpI (cW T) i11r13 e h (regQ (some [0, 1, 2, 9, 10]) Q) := wq_reg ..
theorem xf11r14 : wp T f11r14 e h Q = wpI (cW T) i11r14 e h (regQ (some [0, 1, 2, 9, 10]) Q) := wq_reg ..
theorem xf11r15 : wp T f11r15 e h Q = wpI (cW T) i11r15 e h (regQ (some [1, 2, 9, 10]) Q) := wq_reg ..
theorem xf11r16 : wp T f11r16 e h Q = wpI (cW T) i11r16 e h (regQ (some [2, 9, 10]) Q) := wq_reg ..
theorem xf11r17 : wp T f11r17 e h Q = wpI (cW T) i11r17 e h (regQ (some [2, 9, 10]) Q) := wq_reg ..
theorem xf11r18 : wp T f11r18 e h Q = wpI (cW T) i11r18 e h (regQ (some [9]) Q) := wq_reg ..
theorem xf11r19 : wp T f11r19 e h Q = wpI (cW T) i11r19 e h (regQ (some [6, 7]) Q) := wq_reg ..
theorem xb11 : wp T b11 e h Q = wp T (.seq f11r0 (.seq (.blk 0 (.seq f11r1 (.cond (.t 11) (.seq f11r2 .ret) (.seq f11r3 (.cond (.t 14) (.seq f11r4 .ret) (.seq f11r5 (.cond (.t 17) (.seq f11r6 .ret) .skip))))))) (.seq (.seq f11r7 (.seq f11r8 (.cond (.t 25) (.seq f11r9 .ret) .skip))) (.seq (.seq f11r10 (.cond (.t 31) (.seq f11r11 .ret) .skip)) (.seq f11r12 (.seq f11r13 (.seq f11r14 (.seq f11r15 (.seq f11r16 (.seq f11r17 (.seq f11r18 (.seq f11r19 .ret)))))))))))) e h Q := rfl
theorem e11 : (type_of% @f11.eq_1) ∧ (type_of% @xb11) ∧ (type_of% @xf11r0) ∧ (type_of% @xf11r1) ∧ (type_of% @xf11r2) ∧ (type_of% @xf11r3) ∧ (type_of% @xf11r4) ∧ (type_of% @xf11r5) ∧ (type_of% @xf11r6) ∧ (type_of% @xf11r7) ∧ (type_of% @xf11r8) ∧ (type_of% @xf11r9) ∧ (type_of% @xf11r10) ∧ (type_of% @xf11r11) ∧ (type_of% @xf11r12) ∧ (type_of% @xf11r13) ∧ (type_of% @xf11r14) ∧ (type_of% @xf11r15) ∧ (type_of% @xf11r16) ∧ (type_of% @xf11r17) ∧ (type_of% @xf11r18) ∧ (type_of% @xf11r19) ∧ (type_of% @i11r0.eq_1) ∧ (type_of% @i11r1.eq_1) ∧ (type_of% @i11r2.eq_1) ∧ (type_of% @i11r3.eq_1) ∧ (type_of% @i11r4.eq_1) ∧ (type_of% @i11r5.eq_1) ∧ (type_of% @i11r6.eq_1) ∧ (type_of% @i11r7.eq_1) ∧ (type_of% @i11r8.eq_1) ∧ (type_of% @i11r9.eq_1) ∧ (type_of% @i11r10.eq_1) ∧ (type_of% @i11r11.eq_1) ∧ (type_of% @i11r12.eq_1) ∧ (type_of% @i11r13.eq_1) ∧ (type_of% @i11r14.eq_1) ∧ (type_of% @i11r15.eq_1) ∧ (type_of% @i11r16.eq_1) ∧ (type_of% @i11r17.eq_1) ∧ (type_of% @i11r18.eq_1) ∧ (type_of% @i11r19.eq_1) := ⟨@f11.eq_1, @xb11, @xf11r0, @xf11r1, @xf11r2, @xf11r3, @xf11r4, @xf11r5, @xf11r6, @xf11r7, @xf11r8, @xf11r9, @xf11r10, @xf11r11, @xf11r12, @xf11r13, @xf11r14, @xf11r15, @xf11r16, @xf11r17, @xf11r18, @xf11r19, @i11r0.eq_1, @i11r1.eq_1, @i11r2.eq_1, @i11r3.eq_1, @i11r4.eq_1, @i11r5.eq_1, @i11r6.eq_1, @i11r7.eq_1, @i11r8.eq_1, @i11r9.eq_1, @i11r10.eq_1, @i11r11.eq_1, @i11r12.eq_1, @i11r13.eq_1, @i11r14.eq_1, @i11r15.eq_1, @i11r16.eq_1, @i11r17.eq_1, @i11r18.eq_1, @i11r19.eq_1⟩
theorem xf12r0 : wp T f12r0 e h Q = wpI (cW T) i12r0 e h (regQ (some [1, 2]) Q) := wq_reg ..
theorem xf12r1 : wp T f12r1 e h Q = wpI (cW T) i12r1 e h (regQ (some [1, 2, 12]) Q) := wq_reg ..
theorem xf12r2 : wp T f12r2 e h Q = wpI (cW T) i12r2 e h (regQ (some [4, 5]) Q) := wq_reg ..
theorem xf12r3 : wp T f12r3 e h Q = wpI (cW T) i12r3 e h (regQ (some [1, 2, 13, 14, 15]) Q) := wq_reg ..
theorem xf12r4 : wp T f12r4 e h Q = wpI (cW T) i12r4 e h (regQ (some [1, 2, 13, 14, 15, 16]) Q) := wq_reg ..
theorem xf12r5 : wp T f12r5 e h Q = wpI (cW T) i12r5 e h (regQ (some [1, 2, 7, 13, 14, 15]) Q) := wq_reg ..
theorem xf12r6 : wp T f12r6 e h Q = wpI (cW T) i12r6 e h (regQ (some [1, 2, 13, 14, 15, 21]) Q) := wq_reg ..
theorem xf12r7 : wp T f12r7 e h Q = wpI (cW T) i12r7 e h (regQ (some [4, 5]) Q) := wq_reg ..
theorem xf12r8 : wp T f12r8 e h Q = wpI (cW T) i12r8 e h (regQ (some [1, 2, 13, 14, 15]) Q) := wq_reg ..
theorem xf12l0 : wp T f12l0 e h Q = wp T (.seq f12r4 (.seq (.cond (.t 16) .skip (.exit 0)) (.seq (.blk 1 (.seq f12r5 (.seq f12r6 (.cond (.t 21) (.seq f12r7 .ret) .skip)))) f12r8))) e h Q := rfl
theorem xf12r9 : wp T f12r9 e h Q = wpI (cW T) i12r9 e h (regQ (some [1, 2, 8]) Q) := wq_reg ..
theorem xf12r10 : wp T f12r10 e h Q = wpI (cW T) i12r10 e h (regQ (some [1, 2, 8, 9]) Q) := wq_reg ..
theorem xf12r11 : wp T f12r11 e h Q = wpI (cW T) i12r11 e h (regQ (some [1, 2, 8, 9, 10]) Q) := wq_reg ..
theorem xf12r12 : wp T f12r12 e h Q = wpI (cW T) i12r12 e h (regQ (some [1, 2, 9, 10]) Q) := wq_reg ..
theorem xf12r13 : wp T f12r13 e h Q = wpI (cW T) i12r13 e h (regQ (some [2, 9, 33]) Q) := wq_reg ..
theorem xf12r14 : wp T f12r14 e h Q = wpI (cW T) i12r14 e h (regQ (some [4, 5]) Q) := wq_reg ..
theorem xf12r15 : wp T f12r15 e h Q = wpI (cW T) i12r15 e h (regQ (some [9, 45]) Q) := wq_reg ..
theorem xf12r16 : wp T f12r16 e h Q = wpI (cW T) i12r16 e h (regQ (some [4, 5]) Q) := wq_reg ..
theorem xf12r17 : wp T f12r17 e h Q = wpI (cW T) i12r17 e h (regQ (some [4, 5]) Q) := wq_reg ..
theorem xb12 : wp T b12 e h Q = wp T (.seq f12r0 (.seq (.seq f12r1 (.cond (.t 12) (.seq f12r2 .ret) .skip)) (.seq (.seq f12r3 (.blk 0 (.loop f12l0))) (.seq f12r9 (.seq f12r10 (.seq f12r11 (.seq f12r12 (.seq (.seq f12r13 (.cond (.t 33) (.seq f12r14 .ret) .skip)) (.seq (.seq f12r15 (.cond (.t 45) (.seq f12r16 .ret) .skip)) (.seq f12r17 .ret)))))))))) e h Q := rfl
theorem e12 : (type_of% @f12.eq_1) ∧ (type_of% @xb12) ∧ (type_of% @xf12r0) ∧ (type_of% @xf12r1) ∧ (type_of% @xf12r2) ∧ (type_of% @xf12r3) ∧ (type_of% @xf12r4) ∧ (type_of% @xf12r5) ∧ (type_of% @xf12r6) ∧ (type_of% @xf12r7) ∧ (type_of% @xf12r8) ∧ (type_of% @xf12l0) ∧ (type_of% @xf12r9) ∧ (type_of% @xf12r10) ∧ (type_of% @xf12r11) ∧ (type_of% @xf12r12) ∧ (type_of% @xf12r13) ∧ (type_of% @xf12r14) ∧ (type_of% @xf12r15) ∧ (type_of% @xf12r16) ∧ (type_of% @xf12r17) ∧ (type_of% @i12r0.eq_1) ∧ (type_of% @i12r1.eq_1) ∧ (type_of% @i12r2.eq_1) ∧ (type_of% @i12r3.eq_1) ∧ (type_of% @i12r4.eq_1) ∧ (type_of% @i12r5.eq_1) ∧ (type_of% @i12r6.eq_1) ∧ (type_of% @i12r7.eq_1) ∧ (type_of% @i12r8.eq_1) ∧ (type_of% @i12r9.eq_1) ∧ (type_of% @i12r10.eq_1) ∧ (type_of% @i12r11.eq_1) ∧ (type_of% @i12r12.eq_1) ∧ (type_of% @i12r13.eq_1) ∧ (type_of% @i12r14.eq_1) ∧ (type_of% @i12r15.eq_1) ∧ (type_of% @i12r16.eq_1) ∧ (type_of% @i12r17.eq_1) := ⟨@f12.eq_1, @xb12, @xf12r0, @xf12r1, @xf12r2, @xf12r3, @xf12r4, @xf12r5, @xf12r6, @xf12r7, @xf12r8, @xf12l0, @xf12r9, @xf12r10, @xf12r11, @xf12r12, @xf12r13, @xf12r14, @xf12r15, @xf12r16, @xf12r17, @i12r0.eq_1, @i12r1.eq_1, @i12r2.eq_1, @i12r3.eq_1, @i12r4.eq_1, @i12r5.eq_1, @i12r6.eq_1, @i12r7.eq_1, @i12r8.eq_1, @i12r9.eq_1, @i12r10.eq_1, @i12r11.eq_1, @i12r12.eq_1, @i12r13.eq_1, @i12r14.eq_1, @i12r15.eq_1, @i12r16.eq_1, @i12r17.eq_1⟩
theorem xf13r0 : wp T f13r0 e h Q = wpI (cW T) i13r0 e h (regQ (some [0, 1]) Q) := wq_reg ..
theorem xf13r1 : wp T f13r1 e h Q = wpI (cW T) i13r1 e h (regQ (some [0, 1, 5]) Q) := wq_reg ..
theorem xf13r2 : wp T f13r2 e h Q = wpI (cW T) i13r2 e h (regQ (some [0, 1, 5, 11]) Q) := wq_reg ..
theorem xf13r3 : wp T f13r3 e h Q = wpI (cW T) i13r3 e h (regQ (some [4]) Q) := wq_reg ..
theorem xf13r4 : wp T f13r4 e h Q = wpI (cW T) i13r4 e h (regQ (some [0, 1, 6]) Q) := wq_reg ..
theorem xf13r5 : wp T f13r5 e h Q = wpI (cW T) i13r5 e h (regQ (some [0, 1]) Q) := wq_reg ..
theorem xf13r6 : wp T f13r6 e h Q = wpI (cW T) i13r6 e h (regQ (some [0]) Q) := wq_reg ..
theorem xf13r7 : wp T f13r7 e h Q = wpI (cW T) i13r7 e h (regQ (some []) Q) := wq_reg ..
theorem xf13r8 : wp T f13r8 e h Q = wpI (cW T) i13r8 e h (regQ (some [4]) Q) := wq_reg ..
theorem xb13 : wp T b13 e h Q = wp T (.seq f13r0 (.seq (.seq f13r1 (.seq f13r2 (.cond (.t 11) (.seq f13r3 .ret) .skip))) (.seq f13r4 (.seq f13r5 (.seq f13r6 (.seq f13r7 (.seq f13r8 .ret))))))) e h Q := rfl
theorem e13 : (type_of% @f13.eq_1) ∧ (type_of% @xb13) ∧ (type_of% @xf13r0) ∧ (type_of% @xf13r1) ∧ (type_of% @xf13r2) ∧ (type_of% @xf13r3) ∧ (type_of% @xf13r4) ∧ (type_of% @xf13r5) ∧ (type_of% @xf13r6) ∧ (type_of% @xf13r7) ∧ (type_of% @xf13r8) ∧ (type_of% @i13r0.eq_1) ∧ (type_of% @i13r1.eq_1) ∧ (type_of% @i13r2.eq_1) ∧ (type_of% @i13r3.eq_1) ∧ (type_of% @i13r4.eq_1) ∧ (type_of% @i13r5.eq_1) ∧ (type_of% @i13r6.eq_1) ∧ (type_of% @i13r7.eq_1) ∧ (type_of% @i13r8.eq_1) := ⟨@f13.eq_1, @xb13, @xf13r0, @xf13r1, @xf13r2, @xf13r3, @xf13r4, @xf13r5, @xf13r6, @xf13r7, @xf13r8, @i13r0.eq_1, @i13r1.eq_1, @i13r2.eq_1, @i13r3.eq_1, @i13r4.eq_1, @i13r5.eq_1, @i13r6.eq_1, @i13r7.eq_1, @i13r8.eq_1⟩
theorem xf15r0 : wp T f15r0 e h Q = wpI (cW T) i15r0 e h (regQ (some [0]) Q) := wq_reg ..
theorem xf15r1 : wp T f15r1 e h Q = wpI (cW T) i15r1 e h (regQ (some [0, 4]) Q) := wq_reg ..
theorem xf15r2 : wp T f15r2 e h Q = wpI (cW T) i15r2 e h (regQ (some [2]) Q) := wq_reg ..
theorem xf15r3 : wp T f15r3 e h Q = wpI (cW T) i15r3 e h (regQ (some [2]) Q) := wq_reg ..
theorem xb15 : wp T b15 e h Q = wp T (.seq f15r0 (.seq (.seq f15r1 (.cond (.t 4) (.seq f15r2 .ret) .skip)) (.seq f15r3 .ret))) e h Q := rfl
theorem e15 : (type_of% @f15.eq_1) ∧ (type_of% @xb15) ∧ (type_of% @xf15r0) ∧ (type_of% @xf15r1) ∧ (type_of% @xf15r2) ∧ (type_of% @xf15r3) ∧ (type_of% @i15r0.eq_1) ∧ (type_of% @i15r1.eq_1) ∧ (type_of% @i15r2.eq_1) ∧ (type_of% @i15r3.eq_1) := ⟨@f15.eq_1, @xb15, @xf15r0, @xf15r1, @xf15r2, @xf15r3, @i15r0.eq_1, @i15r1.eq_1, @i15r2.eq_1, @i15r3.eq_1⟩
theorem xf16r0 : wp T f16r0 e h Q = wpI (cW T) i16r0 e h (regQ (some [0]) Q) := wq_reg ..
theorem xf16r1 : wp T f16r1 e h Q = wpI (cW T) i16r1 e h (regQ (some [0, 3]) Q) := wq_reg ..
theorem xf16r2 : wp T f16r2 e h Q = wpI (cW T) i16r2 e h (regQ (some [0, 3, 11]) Q) := wq_reg ..
theorem xf16r3 : wp T f16r3 e h Q = wpI (cW T) i16r3 e h (regQ (some [0, 3, 20]) Q) := wq_reg ..
theorem xf16r4 : wp T f16r4 e h Q = wpI (cW T) i16r4 e h (regQ (some [2]) Q) := wq_reg ..
theorem xf16r5 : wp T f16r5 e h Q = wpI (cW T) i16r5 e h (regQ (some [0, 3]) Q) := wq_reg ..
theorem xf16l0 : wp T f16l0 e h Q = wp T (.seq (.seq f16r2 (.cond (.t 11) .skip (.exit 0))) (.seq (.blk 1 (.seq f16r3 (.cond (.t 20) (.seq f16r4 .ret) .skip))) f16r5)) e h Q := rfl
theorem xf16r6 : wp T f16r6 e h Q = wpI (cW T) i16r6 e h (regQ (some [2]) Q) := wq_reg ..
theorem xb16 : wp T b16 e h Q = wp T (.seq f16r0 (.seq (.seq f16r1 (.blk 0 (.loop f16l0))) (.seq f16r6 .ret))) e h Q := rfl
theorem e16 : (type_of% @f16.eq_1) ∧ (type_of% @xb16) ∧ (type_of% @xf16r0) ∧ (type_of% @xf16r1) ∧ (type_of% @xf16r2) ∧ (type_of% @xf16r3) ∧ (type_of% @xf16r4) ∧ (type_of% @xf16r5) ∧ (type_of% @xf16l0) ∧ (type_of% @xf16r6) ∧ (type_of% @i16r0.eq_1) ∧ (type_of% @i16r1.eq_1) ∧ (type_of% @i16r2.eq_1) ∧ (type_of% @i16r3.eq_1) ∧ (type_of% @i16r4.eq_1) ∧ (type_of% @i16r5.eq_1) ∧ (type_of% @i16r6.eq_1) := ⟨@f16.eq_1, @xb16, @xf16r0, @xf16r1, @xf16r2, @xf16r3, @xf16r4, @xf16r5, @xf16l0, @xf16r6, @i16r0.eq_1, @i16r1.eq_1, @i16r2.eq_1, @i16r3.eq_1, @i16r4.eq_1, @i16r5.eq_1, @i16r6.eq_1⟩
theorem xf17r0 : wp T f17r0 e h Q = wpI (cW T) i17r0 e h (regQ (some [0]) Q) := wq_reg ..
theorem xf17r1 : wp T f17r1 e h Q = wpI (cW T) i17r1 e h (regQ (some [0, 3]) Q) := wq_reg ..
theorem xf17r2 : wp T f17r2 e h Q = wpI (cW T) i17r2 e h (regQ (some [0, 3, 4]) Q) := wq_reg ..
theorem xf17r3 : wp T f17r3 e h Q = wpI (cW T) i17r3 e h (regQ (some [0, 3, 4, 8]) Q) := wq_reg ..
theorem xf17r4 : wp T f17r4 e h Q = wpI (cW T) i17r4 e h (regQ (some [0, 3, 4]) Q) := wq_reg ..
theorem xf17r5 : wp T f17r5 e h Q = wpI (cW T) i17r5 e h (regQ (some [0, 3, 4]) Q) := wq_reg ..
theorem xf17l0 : wp T f17l0 e h Q = wp T (.seq (.seq f17r3 (.cond (.t 8) .skip (.exit 0))) (.seq (.blk 1 f17r4) f17r5)) e h Q := rfl
theorem xf17r6 : wp T f17r6 e h Q = wpI (cW T) i17r6 e h (regQ (some [2]) Q) := wq_reg ..
theorem xb17 : wp T b17 e h Q = wp T (.seq f17r0 (.seq f17r1 (.seq (.seq f17r2 (.blk 0 (.loop f17l0))) (.seq f17r6 .ret)))) e h Q := rfl
theorem e17 : (type_of% @f17.eq_1) ∧ (type_of% @xb17) ∧ (type_of% @xf17r0) ∧ (type_of% @xf17r1) ∧ (type_of% @xf17r2) ∧ (type_of% @xf17r3) ∧ (type_of% @xf17r4) ∧ (type_of% @xf17r5) ∧ (type_of% @xf17l0) ∧ (type_of% @xf17r6) ∧ (type_of% @i17r0.eq_1) ∧ (type_of% @i17r1.eq_1) ∧ (type_of% @i17r2.eq_1) ∧ (type_of% @i17r3.eq_1) ∧ (type_of% @i17r4.eq_1) ∧ (type_of% @i17r5.eq_1) ∧ (type_of% @i17r6.eq_1) := ⟨@f17.eq_1, @xb17, @xf17r0, @xf17r1, @xf17r2, @xf17r3, @xf17r4, @xf17r5, @xf17l0, @xf17r6, @i17r0.eq_1, @i17r1.eq_1, @i17r2.eq_1, @i17r3.eq_1, @i17r4.eq_1, @i17r5.eq_1, @i17r6.eq_1⟩
theorem xf18r0 : wp T f18r0 e h Q = wpI (cW T) i18r0 e h (regQ (some [0, 1]) Q) := wq_reg ..
theorem xf18r1 : wp T f18r1 e h Q = wpI (cW T) i18r1 e h (regQ (some [0, 1, 7]) Q) := wq_reg ..
theorem xf18r2 : wp T f18r2 e h Q = wpI (cW T) i18r2 e h (regQ (some [0, 1, 7, 14]) Q) := wq_reg ..
theorem xf18r3 : wp T f18r3 e h Q = wpI (cW T) i18r3 e h (regQ (some [4, 5, 6]) Q) := wq_reg ..
theorem xf18r4 : wp T f18r4 e h Q = wpI (cW T) i18r4 e h (regQ (some [8]) Q) := wq_reg ..
theorem xf18r5 : wp T f18r5 e h Q = wpI (cW T) i18r5 e h (regQ (some [8, 9]) Q) := wq_reg ..
theorem xf18r6 : wp T f18r6 e h Q = wpI (cW T) i18r6 e h (regQ (some [8, 9]) Q) := wq_reg ..
theorem xf18r7 : wp T f18r7 e h Q = wpI (cW T) i18r7 e h (regQ (some [4, 5, 6]) Q) := wq_reg ..
theorem xb18 : wp T b18 e h Q = wp T (.seq f18r0 (.seq (.seq f18r1 (.seq f18r2 (.cond (.t 14) (.seq f18r3 .ret) .skip))) (.seq f18r4 (.seq f18r5 (.seq f18r6 (.seq f18r7 .ret)))))) e h Q := rfl
theorem e18 : (type_of% @f18.eq_1) ∧ (type_of% @xb18) ∧ (type_of% @xf18r0) ∧ (type_of% @xf18r1) ∧ (type_of% @xf18r2) ∧ (type_of% @xf18r3) ∧ (type_of% @xf18r4) ∧ (type_of% @xf18r5) ∧ (type_of% @xf18r6) ∧ (type_of% @xf18r7) ∧ (type_of% @i18r0.eq_1) ∧ (type_of% @i18r1.eq_1) ∧ (type_of% @i18r2.eq_1) ∧ (type_of% @i18r3.eq_1) ∧ (type_of% @i18r4.eq_1) ∧ (type_of% @i18r5.eq_1) ∧ (type_of% @i18r6.eq_1) ∧ (type_of% @i18r7.eq_1) := ⟨@f18.eq_1, @xb18, @xf18r0, @xf18r1, @xf18r2, @xf18r3, @xf18r4, @xf18r5, @xf18r6, @xf18r7, @i18r0.eq_1, @i18r1.eq_1, @i18r2.eq_1, @i18r3.eq_1, @i18r4.eq_1, @i18r5.eq_1, @i18r6.eq_1, @i18r7.eq_1⟩
theorem xf19r0 : wp T f19r0 e h Q = wpI (cW T) i19r0 e h (regQ (some [0, 1]) Q) := wq_reg ..
theorem xf19r1 : wp T f19r1 e h Q = wpI (cW T) i19r1 e h (regQ (some [0, 1, 10]) Q) := wq_reg ..
theorem xf19r2 : wp T f19r2 e h Q = wpI (cW T) i19r2 e h (regQ (some [4]) Q) := wq_reg ..
theorem xf19r3 : wp T f19r3 e h Q = wpI (cW T) i19r3 e h (regQ (some [0, 1, 5]) Q) := wq_reg ..
theorem xf19r4 : wp T f19r4 e h Q = wpI (cW T) i19r4 e h (regQ (some [0, 1, 5, 14]) Q) := wq_reg ..
theorem xf19r5 : wp T f19r5 e h Q = wpI (cW T) i19r5 e h (regQ (some [0, 1, 5, 25]) Q) := wq_reg ..
theorem xf19r6 : wp T f19r6 e h Q = wpI (cW T) i19r6 e h (regQ (some [4]) Q) := wq_reg ..
theorem xf19r7 : wp T f19r7 e h Q = wpI (cW T) i19r7 e h (regQ (some [0, 1, 5]) Q) := wq_reg ..
theorem xf19l0 : wp T f19l0 e h Q = wp T (.seq (.seq f19r4 (.cond (.t 14) .skip (.exit 0))) (.seq (.blk 1 (.seq f19r5 (.cond (.t 25) (.seq f19r6 .ret) .skip))) f19r7)) e h Q := rfl
theorem xf19r8 : wp T f19r8 e h Q = wpI (cW T) i19r8 e h (regQ (some [4]) Q) := wq_reg ..
theorem xb19 : wp T b19 e h Q = wp T (.seq f19r0 (.seq (.seq f19r1 (.cond (.t 10) (.seq f19r2 .ret) .skip)) (.seq (.seq f19r3 (.blk 0 (.loop f19l0))) (.seq f19r8 .ret)))) e h Q := rfl
theorem e19 : (type_of% @f19.eq_1) ∧ (type_of% @xb19) ∧ (type_of% @xf19r0) ∧ (type_of% @xf19r1) ∧ (type_of% @xf19r2) ∧ (type_of% @xf19r3) ∧ (type_of% @xf19r4) ∧ (type_of% @xf19r5) ∧ (type_of% @xf19r6) ∧ (type_of% @xf19r7) ∧ (type_of% @xf19l0) ∧ (type_of% @xf19r8) ∧ (type_of% @i19r0.eq_1) ∧ (type_of% @i19r1.eq_1) ∧ (type_of% @i19r2.eq_1) ∧ (type_of% @i19r3.eq_1) ∧ (type_of% @i19r4.eq_1) ∧ (type_of% @i19r5.eq_1) ∧ (type_of% @i19r6.eq_1) ∧ (type_of% @i19r7.eq_1) ∧ (type_of% @i19r8.eq_1) := ⟨@f19.eq_1, @xb19, @xf19r0, @xf19r1, @xf19r2, @xf19r3, @xf19r4, @xf19r5, @xf19r6, @xf19r7, @xf19l0, @xf19r8, @i19r0.eq_1, @i19r1.eq_1, @i19r2.eq_1, @i19r3.eq_1, @i19r4.eq_1, @i19r5.eq_1, @i19r6.eq_1, @i19r7.eq_1, @i19r8.eq_1⟩
theorem xf20r0 : wp T f20r0 e h Q = wpI (cW T) i20r0 e h (regQ (some [0]) Q) := wq_reg ..
theorem xf20r1 : wp T f20r1 e h Q = wpI (cW T) i20r1 e h (regQ (some [0, 3]) Q) := wq_reg ..
theorem xf20r2 : wp T f20r2 e h Q = wpI (cW T) i20r2 e h (regQ (some [0, 3, 4]) Q) := wq_reg ..
theorem xf20r3 : wp T f20r3 e h Q = wpI (cW T) i20r3 e h (regQ (some [0, 3, 4, 12]) Q) := wq_reg ..
theorem xf20r4 : wp T f20r4 e h Q = wpI (cW T) i20r4 e h (regQ (some [0, 3, 4]) Q) := wq_reg ..
theorem xf20r5 : wp T f20r5 e h Q = wpI (cW T) i20r5 e h (regQ (some [0, 3, 4]) Q) := wq_reg ..
theorem xf20l0 : wp T f20l0 e h Q = wp T (.seq (.seq f20r3 (.cond (.t 12) .skip (.exit 0))) (.seq (.blk 1 f20r4) f20r5)) e h Q := rfl
theorem xf20r6 : wp T f20r6 e h Q = wpI (cW T) i20r6 e h (regQ (some [2]) Q) := wq_reg ..
theorem xb20 : wp T b20 e h Q = wp T (.seq f20r0 (.seq f20r1 (.seq (.seq f20r2 (.blk 0 (.loop f20l0))) (.seq f20r6 .ret)))) e h Q := rfl
theorem e20 : (type_of% @f20.eq_1) ∧ (type_of% @xb20) ∧ (type_of% @xf20r0) ∧ (type_of% @xf20r1) ∧ (type_of% @xf20r2) ∧ (type_of% @xf20r3) ∧ (type_of% @xf20r4) ∧ (type_of% @xf20r5) ∧ (type_of% @xf20l0) ∧ (type_of% @xf20r6) ∧ (type_of% @i20r0.eq_1) ∧ (type_of% @i20r1.eq_1) ∧ (type_of% @i20r2.eq_1) ∧ (type_of% @i20r3.eq_1) ∧ (type_of% @i20r4.eq_1) ∧ (type_of% @i20r5.eq_1) ∧ (type_of% @i20r6.eq_1) := ⟨@f20.eq_1, @xb20, @xf20r0, @xf20r1, @xf20r2, @xf20r3, @xf20r4, @xf20r5, @xf20l0, @xf20r6, @i20r0.eq_1, @i20r1.eq_1, @i20r2.eq_1, @i20r3.eq_1, @i20r4.eq_1, @i20r5.eq_1, @i20r6.eq_1⟩
theorem xf21r0 : wp T f21r0 e h Q = wpI (cW T) i21r0 e h (regQ (some [0]) Q) := wq_reg ..
theorem xf21r1 : wp T f21r1 e h Q = wpI (cW T) i21r1 e h (regQ (some [0, 4]) Q) := wq_reg ..
theorem xf21r2 : wp T f21r2 e h Q = wpI (cW T) i21r2 e h (regQ (some [2]) Q) := wq_reg ..
theorem xf21r3 : wp T f21r3 e h Q = wpI (cW T) i21r3 e h (regQ (some [2]) Q) := wq_reg ..
theorem xb21 : wp T b21 e h Q = wp T (.seq f21r0 (.seq (.seq f21r1 (.cond (.t 4) (.seq f21r2 .ret) .skip)) (.seq f21r3 .ret))) e h Q := rfl
theorem e21 : (type_of% @f21.eq_1) ∧ (type_of% @xb21) ∧ (type_of% @xf21r0) ∧ (type_of% @xf21r1) ∧ (type_of% @xf21r2) ∧ (type_of% @xf21r3) ∧ (type_of% @i21r0.eq_1) ∧ (type_of% @i21r1.eq_1) ∧ (type_of% @i21r2.eq_1) ∧ (type_of% @i21r3.eq_1) := ⟨@f21.eq_1, @xb21, @xf21r0, @xf21r1, @xf21r2, @xf21r3, @i21r0.eq_1, @i21r1.eq_1, @i21r2.eq_1, @i21r3.eq_1⟩
theorem xf22r0 : wp T f22r0 e h Q = wpI (cW T) i22r0 e h (regQ (some [0]) Q) := wq_reg ..
theorem xf22r1 : wp T f22r1 e h Q = wpI (cW T) i22r1 e h (regQ (some [0, 11]) Q) := wq_reg ..
theorem xf22r2 : wp T f22r2 e h Q = wpI (cW T) i22r2 e h (regQ (some [2, 3]) Q) := wq_reg ..
theorem xf22r3 : wp T f22r3 e h Q = wpI (cW T) i22r3 e h (regQ (some [0, 4]) Q) := wq_reg ..
theorem xf22r4 : wp T f22r4 e h Q = wpI (cW T) i22r4 e h (regQ (some [0, 4, 5]) Q) := wq_reg ..
theorem xf22r5 : wp T f22r5 e h Q = wpI (cW T) i22r5 e h (regQ (some [0, 4, 5, 18]) Q) := wq_reg ..
theorem xf22r6 : wp T f22r6 e h Q = wpI (cW T) i22r6 e h (regQ (some [0, 4, 5]) Q) := wq_reg ..
theorem xf22r7 : wp T f22r7 e h Q = wpI (cW T) i22r7 e h (regQ (some [0, 4, 5]) Q) := wq_reg ..
theorem xf22l0 : wp T f22l0 e h Q = wp T (.seq (.seq f22r5 (.cond (.t 18) .skip (.exit 0))) (.seq (.blk 1 f22r6) f22r7)) e h Q := rfl
theorem xf22r8 : wp T f22r8 e h Q = wpI (cW T) i22r8 e h (regQ (some [2, 3]) Q) := wq_reg ..
theorem xb22 : wp T b22 e h Q = wp T (.seq f22r0 (.seq (.seq f22r1 (.cond (.t 11) (.seq f22r2 .ret) .skip)) (.seq f22r3 (.seq (.seq f22r4 (.blk 0 (.loop f22l0))) (.seq f22r8 .ret))))) e h Q := rfl
theorem e22 : (type_of% @f22.eq_1) ∧ (type_of% @xb22) ∧ (type_of% @xf22r0) ∧ (type_of% @xf22r1) ∧ (type_of% @xf22r2) ∧ (type_of% @xf22r3) ∧ (type_of% @xf22r4) ∧ (type_of% @xf22r5) ∧ (type_of% @xf22r6) ∧ (type_of% @xf22r7) ∧ (type_of% @xf22l0) ∧ (type_of% @xf22r8) ∧ (type_of% @i22r0.eq_1) ∧ (type_of% @i22r1.eq_1) ∧ (type_of% @i22r2.eq_1) ∧ (type_of% @i22r3.eq_1) ∧ (type_of% @i22r4.eq_1) ∧ (type_of% @i22r5.eq_1) ∧ (type_of% @i22r6.eq_1) ∧ (type_of% @i22r7.eq_1) ∧ (type_of% @i22r8.eq_1) := ⟨@f22.eq_1, @xb22, @xf22r0, @xf22r1, @xf22r2, @xf22r3, @xf22r4, @xf22r5, @xf22r6, @xf22r7, @xf22l0, @xf22r8, @i22r0.eq_1, @i22r1.eq_1, @i22r2.eq_1, @i22r3.eq_1, @i22r4.eq_1, @i22r5.eq_1, @i22r6.eq_1, @i22r7.eq_1, @i22r8.eq_1⟩
theorem xf23r0 : wp T f23r0 e h Q = wpI (cW T) i23r0 e h (regQ (some [0, 1, 5]) Q) := wq_reg ..
theorem xf23r1 : wp T f23r1 e h Q = wpI (cW T) i23r1 e h (regQ (some [0, 1, 5, 23]) Q) := wq_reg ..
theorem xf23r2 : wp T f23r2 e h Q = wpI (cW T) i23r2 e h (regQ (some [0, 1, 5, 23, 24]) Q) := wq_reg ..
theorem xf23r3 : wp T f23r3 e h Q = wpI (cW T) i23r3 e h (regQ (some [1, 5, 7, 8]) Q) := wq_reg ..
theorem xf23r4 : wp T f23r4 e h Q = wpI (cW T) i23r4 e h (regQ (some [7, 8, 9, 10]) Q) := wq_reg ..
theorem xf23r5 : wp T f23r5 e h Q = wpI (cW T) i23r5 e h (regQ (some [6]) Q) := wq_reg ..
theorem xf23r6 : wp T f23r6 e h Q = wpI (cW T) i23r6 e h (regQ (some [0, 1, 5, 23, 53]) Q) := wq_reg ..
theorem xf23r7 : wp T f23r7 e h Q = wpI (cW T) i23r7 e h (regQ (some [6]) Q) := wq_reg ..
theorem xf23r8 : wp T f23r8 e h Q = wpI (cW T) i23r8 e h (regQ (some [0, 1, 5, 23, 64]) Q) := wq_reg ..
theorem xf23r9 : wp T f23r9 e h Q = wpI (cW T) i23r9 e h (regQ (some [1, 5, 11, 12, 13]) Q) := wq_reg ..
theorem xf23r10 : wp T f23r10 e h Q = wpI (cW T) i23r10 e h (regQ (some [11, 12, 13, 14, 15, 16]) Q) := wq_reg ..
theorem xf23r11 : wp T f23r11 e h Q = wpI (cW T) i23r11 e h (regQ (some [6]) Q) := wq_reg ..
theorem xf23r12 : wp T f23r12 e h Q = wpI (cW T) i23r12 e h (regQ (some [0, 1, 5, 96]) Q) := wq_reg ..
theorem xf23r13 : wp T f23r13 e h Q = wpI (cW T) i23r13 e h (regQ (some [0, 1, 5, 17]) Q) := wq_reg ..
theorem xf23r14 : wp T f23r14 e h Q = wpI (cW T) i23r14 e h (regQ (some [0, 1, 5, 17, 102]) Q) := wq_reg ..
theorem xf23r15 : wp T f23r15 e h Q = wpI (cW T) i23r15 e h (regQ (some [0, 1, 5, 17]) Q) := wq_reg ..
theorem xf23r16 : wp T f23r16 e h Q = wpI (cW T) i23r16 e h (regQ (some [6]) Q) := wq_reg ..
theorem xf23r17 : wp T f23r17 e h Q = wpI (cW T) i23r17 e h (regQ (some [1, 5, 18, 19]) Q) := wq_reg ..
theorem xf23r18 : wp T f23r18 e h Q = wpI (cW T) i23r18 e h (regQ (some [18, 19, 20, 21]) Q) := wq_reg ..
theorem xf23r19 : wp T f23r19 e h Q = wpI (cW T) i23r19 e h (regQ (some [6]) Q) := wq_reg ..
theorem xb23 : wp T b23 e h Q = wp T (.seq f23r0 (.seq (.seq f23r1 (.blk 0 (.seq f23r2 (.cond (.t 24) (.seq f23r3 (.seq f23r4 (.seq f23r5 .ret))) (.seq f23r6 (.cond (.t 53) (.seq f23r7 .ret) (.seq f23r8 (.cond (.t 64) (.seq f23r9 (.seq f23r10 (.seq f23r11 .ret))) (.seq f23r12 (.cond (.t 96) (.seq f23r13 (.seq (.seq f23r14 (.cond (.t 102) f23r15 .skip)) (.seq f23r16 .ret))) .skip)))))))))) (.seq f23r17 (.seq f23r18 (.seq f23r19 .ret))))) e h Q := rfl
theorem e23 : (type_of% @f23.eq_1) ∧ (type_of% @xb23) ∧ (type_of% @xf23r0) ∧ (type_of% @xf23r1) ∧ (type_of% @xf23r2) ∧ (type_of% @xf23r3) ∧ (type_of% @xf23r4) ∧ (type_of% @xf23r5) ∧ (type_of% @xf23r6) ∧ (type_of% @xf23r7) ∧ (type_of% @xf23r8) ∧ (type_of% @xf23r9) ∧ (type_of% @xf23r10) ∧ (type_of% @xf23r11) ∧ (type_of% @xf23r12) ∧ (type_of% @xf23r13) ∧ (type_of% @xf23r14) ∧ (type_of% @xf23r15) ∧ (type_of% @xf23r16) ∧ (type_of% @xf23r17) ∧ (type_of% @xf23r18) ∧ (type_of% @xf23r19) ∧ (type_of% @i23r0.eq_1) ∧ (type_of% @i23r1.eq_1) ∧ (type_of% @i23r2.eq_1) ∧ (type_of% @i23r3.eq_1) ∧ (type_of% @i23r4.eq_1) ∧ (type_of% @i23r5.eq_1) ∧ (type_of% @i23r6.eq_1) ∧ (type_of% @i23r7.eq_1) ∧ (type_of% @i23r8.eq_1) ∧ (type_of% @i23r9.eq_1) ∧ (type_of% @i23r10.eq_1) ∧ (type_of% @i23r11.eq_1) ∧ (type_of% @i23r12.eq_1) ∧ (type_of% @i23r13.eq_1) ∧ (type_of% @i23r14.eq_1) ∧ (type_of% @i23r15.eq_1) ∧ (type_of% @i23r16.eq_1) ∧ (type_of% @i23r17.eq_1) ∧ (type_of% @i23r18.eq_1) ∧ (type_of% @i23r19.eq_1) := ⟨@f23.eq_1, @xb23, @xf23r0, @xf23r1, @xf23r2, @xf23r3, @xf23r4, @xf23r5, @xf23r6, @xf23r7, @xf23r8, @xf23r9, @xf23r10, @xf23r11, @xf23r12, @xf23r13, @xf23r14, @xf23r15, @xf23r16, @xf23r17, @xf23r18, @xf23r19, @i23r0.eq_1, @i23r1.eq_1, @i23r2.eq_1, @i23r3.eq_1, @i23r4.eq_1, @i23r5.eq_1, @i23r6.eq_1, @i23r7.eq_1, @i23r8.eq_1, @i23r9.eq_1, @i23r10.eq_1, @i23r11.eq_1, @i23r12.eq_1, @i23r13.eq_1, @i23r14.eq_1, @i23r15.eq_1, @i23r16.eq_1, @i23r17.eq_1, @i23r18.eq_1, @i23r19.eq_1⟩
theorem xf24r0 : wp T f24r0 e h Q = wpI (cW T) i24r0 e h (regQ (some [0, 1, 2, 7]) Q) := wq_reg ..
theorem xf24r1 : wp T f24r1 e h Q = wpI (cW T) i24r1 e h (regQ (some [0, 1, 2, 7, 9]) Q) := wq_reg ..
theorem xf24r2 : wp T f24r2 e h Q = wpI (cW T) i24r2 e h (regQ (some [0, 1, 2, 7, 9, 16]) Q) := wq_reg ..
theorem xf24r3 : wp T f24r3 e h Q = wpI (cW T) i24r3 e h (regQ (some [8]) Q) := wq_reg ..
theorem xf24r4 : wp T f24r4 e h Q = wpI (cW T) i24r4 e h (regQ (some [0, 2, 7, 10]) Q) := wq_reg ..
theorem xf24r5 : wp T f24r5 e h Q = wpI (cW T) i24r5 e h (regQ (some [0, 2, 7, 10, 34]) Q) := wq_reg ..
theorem xf24r6 : wp T f24r6 e h Q = wpI (cW T) i24r6 e h (regQ (some [8]) Q) := wq_reg ..
theorem xf24r7 : wp T f24r7 e h Q = wpI (cW T) i24r7 e h (regQ (some [2, 7, 10, 11]) Q) := wq_reg ..
theorem xf24r8 : wp T f24r8 e h Q = wpI (cW T) i24r8 e h (regQ (some [2, 7, 10, 11, 40]) Q) := wq_reg ..
theorem xf24r9 : wp T f24r9 e h Q = wpI (cW T) i24r9 e h (regQ (some [8]) Q) := wq_reg ..
theorem xf24r10 : wp T f24r10 e h Q = wpI (cW T) i24r10 e h (regQ (some []) Q) := wq_reg ..
theorem xf24r11 : wp T f24r11 e h Q = wpI (cW T) i24r11 e h (regQ (some [8]) Q) := wq_reg ..
theorem xb24 : wp T b24 e h Q = wp T (.seq f24r0 (.seq (.seq f24r1 (.seq f24r2 (.cond (.t 16) (.seq f24r3 .ret) .skip))) (.seq f24r4 (.seq (.seq f24r5 (.cond (.t 34) (.seq f24r6 .ret) .skip)) (.seq (.seq f24r7 (.seq f24r8 (.cond (.t 40) (.seq f24r9 .ret) .skip))) (.seq f24r10 (.seq f24r11 .ret))))))) e h Q := rfl
theorem e24 : (type_of% @f24.eq_1) ∧ (type_of% @xb24) ∧ (type_of% @xf24r0) ∧ (type_of% @xf24r1) ∧ (type_of% @xf24r2) ∧ (type_of% @xf24r3) ∧ (type_of% @xf24r4) ∧ (type_of% @xf24r5) ∧ (type_of% @xf24r6) ∧ (type_of% @xf24r7) ∧ (type_of% @xf24r8) ∧ (type_of% @xf24r9) ∧ (type_of% @xf24r10) ∧ (type_of% @xf24r11) ∧ (type_of% @i24r0.eq_1) ∧ (type_of% @i24r1.eq_1) ∧ (type_of% @i24r2.eq_1) ∧ (type_of% @i24r3.eq_1) ∧ (type_of% @i24r4.eq_1) ∧ (type_of% @i24r5.eq_1) ∧ (type_of% @i24r6.eq_1) ∧ (type_of% @i24r7.eq_1) ∧ (type_of% @i24r8.eq_1) ∧ (type_of% @i24r9.eq_1) ∧ (type_of% @i24r10.eq_1) ∧ (type_of% @i24r11.eq_1) := ⟨@f24.eq_1, @xb24, @xf24r0, @xf24r1, @xf24r2, @xf24r3, @xf24r4, @xf24r5, @xf24r6, @xf24r7, @xf24r8, @xf24r9, @xf24r10, @xf24r11, @i24r0.eq_1, @i24r1.eq_1, @i24r2.eq_1, @i24r3.eq_1, @i24r4.eq_1, @i24r5.eq_1, @i24r6.eq_1, @i24r7.eq_1, @i24r8.eq_1, @i24r9.eq_1, @i24r10.eq_1, @i24r11.eq_1⟩
theorem xf25r0 : wp T f25r0 e h Q = wpI (cW T) i25r0 e h (regQ (some [0, 1]) Q) := wq_reg ..
theorem xf25r1 : wp T f25r1 e h Q = wpI (cW T) i25r1 e h (regQ (some [0, 1, 9, 10, 11]) Q) := wq_reg ..
theorem xf25r2 : wp T f25r2 e h Q = wpI (cW T) i25r2 e h (regQ (some [0, 1, 9, 10, 11, 12]) Q) := wq_reg ..
theorem xf25r3 : wp T f25r3 e h Q = wpI (cW T) i25r3 e h (regQ (some [0, 1, 6, 9, 10, 11]) Q) := wq_reg ..
theorem xf25r4 : wp T f25r4 e h Q = wpI (cW T) i25r4 e h (regQ (some [0, 1, 9, 10, 11, 17]) Q) := wq_reg ..
theorem xf25r5 : wp T f25r5 e h Q = wpI (cW T) i25r5 e h (regQ (some [4]) Q) := wq_reg ..
theorem xf25r6 : wp T f25r6 e h Q = wpI (cW T) i25r6 e h (regQ (some [0, 1, 9, 10, 11]) Q) := wq_reg ..
theorem xf25l0 : wp T f25l0 e h Q = wp T (.seq f25r2 (.seq (.cond (.t 12) .skip (.exit 0)) (.seq (.blk 1 (.seq f25r3 (.seq f25r4 (.cond (.t 17) (.seq f25r5 .ret) .skip)))) f25r6))) e h Q := rfl
theorem xf25r7 : wp T f25r7 e h Q = wpI (cW T) i25r7 e h (regQ (some [0, 19, 20, 21]) Q) := wq_reg ..
theorem xf25r8 : wp T f25r8 e h Q = wpI (cW T) i25r8 e h (regQ (some [0, 19, 20, 21, 22]) Q) := wq_reg ..
theorem xf25r9 : wp T f25r9 e h Q = wpI (cW T) i25r9 e h (regQ (some [0, 8, 19, 20, 21]) Q) := wq_reg ..
theorem xf25r10 : wp T f25r10 e h Q = wpI (cW T) i25r10 e h (regQ (some [0, 19, 20, 21, 34]) Q) := wq_reg ..
theorem xf25r11 : wp T f25r11 e h Q = wpI (cW T) i25r11 e h (regQ (some [4]) Q) := wq_reg ..
theorem xf25r12 : wp T f25r12 e h Q = wpI (cW T) i25r12 e h (regQ (some [0, 19, 20, 21]) Q) := wq_reg ..
theorem xf25l1 : wp T f25l1 e h Q = wp T (.seq f25r8 (.seq (.cond (.t 22) .skip (.exit 2)) (.seq (.blk 3 (.seq f25r9 (.seq f25r10 (.cond (.t 34) (.seq f25r11 .ret) .skip)))) f25r12))) e h Q := rfl
theorem xf25r13 : wp T f25r13 e h Q = wpI (cW T) i25r13 e h (regQ (some [4]) Q) := wq_reg ..
theorem xb25 : wp T b25 e h Q = wp T (.seq f25r0 (.seq (.seq f25r1 (.blk 0 (.loop f25l0))) (.seq (.seq f25r7 (.blk 2 (.loop f25l1))) (.seq f25r13 .ret)))) e h Q := rfl
theorem e25 : (type_of% @f25.eq_1) ∧ (type_of% @xb25) ∧ (type_of% @xf25r0) ∧ (type_of% @xf25r1) ∧ (type_of% @xf25r2) ∧ (type_of% @xf25r3) ∧ (type_of% @xf25r4) ∧ (type_of% @xf25r5) ∧ (type_of% @xf25r6) ∧ (type_of% @xf25l0) ∧ (type_of% @xf25r7) ∧ (type_of% @xf25r8) ∧ (type_of% @xf25r9) ∧ (type_of% @xf25r10) ∧ (type_of% @xf25r11) ∧ (type_of% @xf25r12) ∧ (type_of% @xf25l1) ∧ (type_of% @xf25r13) ∧ (type_of% @i25r0.eq_1) ∧ (type_of% @i25r1.eq_1) ∧ (type_of% @i25r2.eq_1) ∧ (type_of% @i25r3.eq_1) ∧ (type_of% @i25r4.eq_1) ∧ (type_of% @i25r5.eq_1) ∧ (type_of% @i25r6.eq_1) ∧ (type_of% @i25r7.eq_1) ∧ (type_of% @i25r8.eq_1) ∧ (type_of% @i25r9.eq_1) ∧ (type_of% @i25r10.eq_1) ∧ (type_of% @i25r11.eq_1) ∧ (type_of% @i25r12.eq_1) ∧ (type_of% @i25r13.eq_1) := ⟨@f25.eq_1, @xb25, @xf25r0, @xf25r1, @xf25r2, @xf25r3, @xf25r4, @xf25r5, @xf25r6, @xf25l0, @xf25r7, @xf25r8, @xf25r9, @xf25r10, @xf25r11, @xf25r12, @xf25l1, @xf25r13, @i25r0.eq_1, @i25r1.eq_1, @i25r2.eq_1, @i25r3.eq_1, @i25r4.eq_1, @i25r5.eq_1, @i25r6.eq_1, @i25r7.eq_1, @i25r8.eq_1, @i25r9.eq_1, @i25r10.eq_1, @i25r11.eq_1, @i25r12.eq_1, @i25r13.eq_1⟩
theorem xf26r0 : wp T f26r0 e h Q = wpI (cW T) i26r0 e h (regQ (some [1]) Q) := wq_reg ..
theorem xf26r1 : wp T f26r1 e h Q = wpI (cW T) i26r1 e h (regQ (some [1, 4]) Q) := wq_reg ..
theorem xf26r2 : wp T f26r2 e h Q = wpI (cW T) i26r2 e h (regQ (some [1, 4, 5]) Q) := wq_reg ..
theorem xf26r3 : wp T f26r3 e h Q = wpI (cW T) i26r3 e h (regQ (some [1, 4, 5]) Q) := wq_reg ..
theorem xf26r4 : wp T f26r4 e h Q = wpI (cW T) i26r4 e h (regQ (some [2]) Q) := wq_reg ..
theorem xf26r5 : wp T f26r5 e h Q = wpI (cW T) i26r5 e h (regQ (some [1, 4, 8]) Q) := wq_reg ..
theorem xf26r6 : wp T f26r6 e h Q = wpI (cW T) i26r6 e h (regQ (some [2]) Q) := wq_reg ..
theorem xf26r7 : wp T f26r7 e h Q = wpI (cW T) i26r7 e h (regQ (some [1, 13]) Q) := wq_reg ..
theorem xf26r8 : wp T f26r8 e h Q = wpI (cW T) i26r8 e h (regQ (some [2]) Q) := wq_reg ..
theorem xf26r9 : wp T f26r9 e h Q = wpI (cW T) i26r9 e h (regQ (some [2]) Q) := wq_reg ..
theorem xb26 : wp T b26 e h Q = wp T (.seq f26r0 (.seq (.seq f26r1 (.blk 0 (.seq (.seq f26r2 (.cond (.t 5) .skip f26r3)) (.cond (.t 5) (.seq f26r4 .ret) (.seq f26r5 (.cond (.t 8) (.seq f26r6 .ret) (.seq f26r7 (.cond (.t 13) (.seq f26r8 .ret) .skip)))))))) (.seq f26r9 .ret))) e h Q := rfl
theorem e26 : (type_of% @f26.eq_1) ∧ (type_of% @xb26) ∧ (type_of% @xf26r0) ∧ (type_of% @xf26r1) ∧ (type_of% @xf26r2) ∧ (type_of% @xf26r3) ∧ (type_of% @xf26r4) ∧ (type_of% @xf26r5) ∧ (type_of% @xf26r6) ∧ (type_of% @xf26r7) ∧ (type_of% @xf26r8) ∧ (type_of% @xf26r9) ∧ (type_of% @i26r0.eq_1) ∧ (type_of% @i26r1.eq_1) ∧ (type_of% @i26r2.eq_1) ∧ (type_of% @i26r3.eq_1) ∧ (type_of% @i26r4.eq_1) ∧ (type_of% @i26r5.eq_1) ∧ (type_of% @i26r6.eq_1) ∧ (type_of% @i26r7.eq_1) ∧ (type_of% @i26r8.eq_1) ∧ (type_of% @i26r9.eq_1) := ⟨@f26.eq_1, @xb26, @xf26r0, @xf26r1, @xf26r2, @xf26r3, @xf26r4, @xf26r5, @xf26r6, @xf26r7, @xf26r8, @xf26r9, @i26r0.eq_1, @i26r1.eq_1, @i26r2.eq_1, @i26r3.eq_1, @i26r4.eq_1, @i26r5.eq_1, @i26r6.eq_1, @i26r7.eq_1, @i26r8.eq_1, @i26r9.eq_1⟩
theorem xf27r0 : wp T f27r0 e h Q = wpI (cW T) i27r0 e h (regQ (some [0, 1, 2, 3, 4]) Q) := wq_reg ..
theorem xf27r1 : wp T f27r1 e h Q = wpI (cW T) i27r1 e h (regQ (some [1, 2, 3, 4, 9, 10, 11]) Q) := wq_reg ..
theorem xf27r2 : wp T f27r2 e h Q = wpI (cW T) i27r2 e h (regQ (some [1, 2, 3, 4, 9, 10, 11, 12]) Q) := wq_reg ..
theorem xf27r3 : wp T f27r3 e h Q = wpI (cW T) i27r3 e h (regQ (some [1, 2, 3, 4, 8, 9, 10, 11]) Q) := wq_reg ..
theorem xf27r4 : wp T f27r4 e h Q = wpI (cW T) i27r4 e h (regQ (some [1, 2, 3, 4, 8, 9, 10, 11, 17]) Q) := wq_reg ..
theorem xf27r5 : wp T f27r5 e h Q = wpI (cW T) i27r5 e h (regQ (some [1, 2, 3, 4, 8, 9, 10, 11, 22]) Q) := wq_reg ..
theorem xf27r6 : wp T f27r6 e h Q = wpI (cW T) i27r6 e h (regQ (some [6]) Q) := wq_reg ..
theorem xf27r7 : wp T f27r7 e h Q = wpI (cW T) i27r7 e h (regQ (some [1, 2, 3, 4, 8, 9, 10, 11, 27]) Q) := wq_reg ..
theorem xf27r8 : wp T f27r8 e h Q = wpI (cW T) i27r8 e h (regQ (some [1, 2, 3, 4, 8, 9, 10, 11]) Q) := wq_reg ..
theorem xf27r9 : wp T f27r9 e h Q = wpI (cW T) i27r9 e h (regQ (some [1, 2, 3, 4, 8, 9, 10, 11]) Q) := wq_reg ..
theorem xf27r10 : wp T f27r10 e h Q = wpI (cW T) i27r10 e h (regQ (some [1, 2, 3, 4, 9, 10, 11, 45]) Q) := wq_reg ..
theorem xf27r11 : wp T f27r11 e h Q = wpI (cW T) i27r11 e h (regQ (some [6]) Q) := wq_reg ..
theorem xf27r12 : wp T f27r12 e h Q = wpI (cW T) i27r12 e h (regQ (some [1, 2, 3, 4, 9, 10, 11]) Q) := wq_reg ..
theorem xf27l0 : wp T f27l0 e h Q = wp T (.seq f27r2 (.seq (.cond (.t 12) .skip (.exit 0)) (.seq (.blk 1 (.seq f27r3 (.seq (.seq f27r4 (.cond (.t 17) (.exit 1) .skip)) (.seq (.seq f27r5 (.cond (.t 22) (.seq f27r6 .ret) .skip)) (.seq (.seq f27r7 (.cond (.t 27) (.exit 1) .skip)) (.seq f27r8 (.seq f27r9 (.seq f27r10 (.cond (.t 45) (.seq f27r11 .ret) .skip))))))))) f27r12))) e h Q := rfl
theorem xf27r13 : wp T f27r13 e h Q = wpI (cW T) i27r13 e h (regQ (some [6]) Q) := wq_reg ..
theorem xb27 : wp T b27 e h Q = wp T (.seq f27r0 (.seq (.seq f27r1 (.blk 0 (.loop f27l0))) (.seq f27r13 .ret))) e h Q := rfl
theorem e27 : (type_of% @f27.eq_1) ∧ (type_of% @xb27) ∧ (type_of% @xf27r0) ∧ (type_of% @xf27r1) ∧ (type_of% @xf27r2) ∧ (type_of% @xf27r3) ∧ (type_of% @xf27r4) ∧ (type_of% @xf27r5) ∧ (type_of% @xf27r6) ∧ (type_of% @xf27r7) ∧ (type_of% @xf27r8) ∧ (type_of% @xf27r9) ∧ (type_of% @xf27r10) ∧ (type_of% @xf27r11) ∧ (type_of% @xf27r12) ∧ (type_of% @xf27l0) ∧ (type_of% @xf27r13) ∧ (type_of% @i27r0.eq_1) ∧ (type_of% @i27r1.eq_1) ∧ (type_of% @i27r2.eq_1) ∧ (type_of% @i27r3.eq_1) ∧ (type_of% @i27r4.eq_1) ∧ (type_of% @i27r5.eq_1) ∧ (type_of% @i27r6.eq_1) ∧ (type_of% @i27r7.eq_1) ∧ (type_of% @i27r8.eq_1) ∧ (type_of% @i27r9.eq_1) ∧ (type_of% @i27r10.eq_1) ∧ (type_of% @i27r11.eq_1) ∧ (type_of% @i27r12.eq_1) ∧ (type_of% @i27r13.eq_1) := ⟨@f27.eq_1, @xb27, @xf27r0, @xf27r1, @xf27r2, @xf27r3, @xf27r4, @xf27r5, @xf27r6, @xf27r7, @xf27r8, @xf27r9, @xf27r10, @xf27r11, @xf27r12, @xf27l0, @xf27r13, @i27r0.eq_1, @i27r1.eq_1, @i27r2.eq_1, @i27r3.eq_1, @i27r4.eq_1, @i27r5.eq_1, @i27r6.eq_1, @i27r7.eq_1, @i27r8.eq_1, @i27r9.eq_1, @i27r10.eq_1, @i27r11.eq_1, @i27r12.eq_1, @i27r13.eq_1⟩
theorem xf28r0 : wp T f28r0 e h Q = wpI (cW T) i28r0 e h (regQ (some [0, 1]) Q) := wq_reg ..
theorem xf28r1 : wp T f28r1 e h Q = wpI (cW T) i28r1 e h (regQ (some [4]) Q) := wq_reg ..
theorem xb28 : wp T b28 e h Q = wp T (.seq f28r0 (.seq f28r1 .ret)) e h Q := rfl
theorem e28 : (type_of% @f28.eq_1) ∧ (type_of% @xb28) ∧ (type_of% @xf28r0) ∧ (type_of% @xf28r1) ∧ (type_of% @i28r0.eq_1) ∧ (type_of% @i28r1.eq_1) := ⟨@f28.eq_1, @xb28, @xf28r0, @xf28r1, @i28r0.eq_1, @i28r1.eq_1⟩
theorem xf29r0 : wp T f29r0 e h Q = wpI (cW T) i29r0 e h (regQ (some [0, 1]) Q) := wq_reg ..
theorem xf29r1 : wp T f29r1 e h Q = wpI (cW T) i29r1 e h (regQ (some [0, 1, 5]) Q) := wq_reg ..
theorem xf29r2 : wp T f29r2 e h Q = wpI (cW T) i29r2 e h (regQ (some [4]) Q) := wq_reg ..
theorem xf29r3 : wp T f29r3 e h Q = wpI (cW T) i29r3 e h (regQ (some [0, 1, 8]) Q) := wq_reg ..
theorem xf29r4 : wp T f29r4 e h Q = wpI (cW T) i29r4 e h (regQ (some [4]) Q) := wq_reg ..
theorem xf29r5 : wp T f29r5 e h Q = wpI (cW T) i29r5 e h (regQ (some [20]) Q) := wq_reg ..
theorem xf29r6 : wp T f29r6 e h Q = wpI (cW T) i29r6 e h (regQ (some [4]) Q) := wq_reg ..
theorem xf29r7 : wp T f29r7 e h Q = wpI (cW T) i29r7 e h (regQ (some [4]) Q) := wq_reg ..
theorem xb29 : wp T b29 e h Q = wp T (.seq f29r0 (.seq (.blk 0 (.seq f29r1 (.cond (.t 5) (.seq f29r2 .ret) (.seq f29r3 (.cond (.t 8) (.seq f29r4 .ret) (.seq f29r5 (.cond (.t 20) (.seq f29r6 .ret) .skip))))))) (.seq f29r7 .ret))) e h Q := rfl
theorem e29 : (type_of% @f29.eq_1) ∧ (type_of% @xb29) ∧ (type_of% @xf29r0) ∧ (type_of% @xf29r1) ∧ (type_of% @xf29r2) ∧ (type_of% @xf29r3) ∧ (type_of% @xf29r4) ∧ (type_of% @xf29r5) ∧ (type_of% @xf29r6) ∧ (type_of% @xf29r7) ∧ (type_of% @i29r0.eq_1) ∧ (type_of% @i29r1.eq_1) ∧ (type_of% @i29r2.eq_1) ∧ (type_of% @i29r3.eq_1) ∧ (type_of% @i29r4.eq_1) ∧ (type_of% @i29r5.eq_1) ∧ (type_of% @i29r6.eq_1) ∧ (type_of% @i29r7.eq_1) := ⟨@f29.eq_1, @xb29, @xf29r0, @xf29r1, @xf29r2, @xf29r3, @xf29r4, @xf29r5, @xf29r6, @xf29r7, @i29r0.eq_1, @i29r1.eq_1, @i29r2.eq_1, @i29r3.eq_1, @i29r4.eq_1, @i29r5.eq_1, @i29r6.eq_1, @i29r7.eq_1⟩
theorem xf30r0 : wp T f30r0 e h Q = wpI (cW T) i30r0 e h (regQ (some [0, 1, 2]) Q) := wq_reg ..
theorem xf30r1 : wp T f30r1 e h Q = wpI (cW T) i30r1 e h (regQ (some [0, 1, 2, 11]) Q) := wq_reg ..
theorem xf30r2 : wp T f30r2 e h Q = wpI (cW T) i30r2 e h (regQ (some [6, 7]) Q) := wq_reg ..
theorem xf30r3 : wp T f30r3 e h Q = wpI (cW T) i30r3 e h (regQ (some [0, 1, 2, 14]) Q) := wq_reg ..
theorem xf30r4 : wp T f30r4 e h Q = wpI (cW T) i30r4 e h (regQ (some [6, 7]) Q) := wq_reg ..
theorem xf30r5 : wp T f30r5 e h Q = wpI (cW T) i30r5 e h (regQ (some [0, 1, 2, 8]) Q) := wq_reg ..
theorem xf30r6 : wp T f30r6 e h Q = wpI (cW T) i30r6 e h (regQ (some [0, 1, 2, 8, 19]) Q) := wq_reg ..
theorem xf30r7 : wp T f30r7 e h Q = wpI (cW T) i30r7 e h (regQ (some [6, 7]) Q) := wq_reg ..
theorem xf30r8 : wp T f30r8 e h Q = wpI (cW T) i30r8 e h (regQ (some [0, 1, 2, 26]) Q) := wq_reg ..
theorem xf30r9 : wp T f30r9 e h Q = wpI (cW T) i30r9 e h (regQ (some [6, 7]) Q) := wq_reg ..
theorem xf30r10 : wp T f30r10 e h Q = wpI (cW T) i30r10 e h (regQ (some [0, 1, 2, 9]) Q) := wq_reg ..
theorem xf30r11 : wp T f30r11 e h Q = wpI (cW T) i30r11 e h (regQ (some [0, 1, 2, 9]) Q) := wq_reg ..
theorem xf30r12 : wp T f30r12 e h Q = wpI (cW T) i30r12 e h (regQ (some [9]) Q) := wq_reg ..
theorem xf30r13 : wp T f30r13 e h Q = wpI (cW T) i30r13 e h (regQ (some [6, 7]) Q) := wq_reg ..
theorem xb30 : wp T b30 e h Q = wp T (.seq f30r0 (.seq (.seq f30r1 (.cond (.t 11) (.seq f30r2 .ret) .skip)) (.seq (.seq f30r3 (.cond (.t 14) (.seq f30r4 .ret) .skip)) (.seq (.seq f30r5 (.seq f30r6 (.cond (.t 19) (.seq f30r7 .ret) .skip))) (.seq (.seq f30r8 (.cond (.t 26) (.seq f30r9 .ret) .skip)) (.seq f30r10 (.seq f30r11 (.seq f30r12 (.seq f30r13 .ret))))))))) e h Q := rfl
theorem e30 : (type_of% @f30.eq_1) ∧ (type_of% @xb30) ∧ (type_of% @xf30r0) ∧ (type_of% @xf30r1) ∧ (type_of% @xf30r2) ∧ (type_of% @xf30r3) ∧ (type_of% @xf30r4) ∧ (type_of% @xf30r5) ∧ (type_of% @xf30r6) ∧ (type_of% @xf30r7) ∧ (type_of% @xf30r8) ∧ (type_of% @xf30r9) ∧ (type_of% @xf30r10) ∧ (type_of% @xf30r11) ∧ (type_of% @xf30r12) ∧ (type_of% @xf30r13) ∧ (type_of% @i30r0.eq_1) ∧ (type_of% @i30r1.eq_1) ∧ (type_of% @i30r2.eq_1) ∧ (type_of% @i30r3.eq_1) ∧ (type_of% @i30r4.eq_1) ∧ (type_of% @i30r5.eq_1) ∧ (type_of% @i30r6.eq_1) ∧ (type_of% @i30r7.eq_1) ∧ (type_of% @i30r8.eq_1) ∧ (type_of% @i30r9.eq_1) ∧ (type_of% @i30r10.eq_1) ∧ (type_of% @i30r11.eq_1) ∧ (type_of% @i30r12.eq_1) ∧ (type_of% @i30r13.eq_1) := ⟨@f30.eq_1, @xb30, @xf30r0, @xf30r1, @xf30r2, @xf30r3, @xf30r4, @xf30r5, @xf30r6, @xf30r7, @xf30r8, @xf30r9, @xf30r10, @xf30r11, @xf30r12, @xf30r13, @i30r0.eq_1, @i30r1.eq_1, @i30r2.eq_1, @i30r3.eq_1, @i30r4.eq_1, @i30r5.eq_1, @i30r6.eq_1, @i30r7.eq_1, @i30r8.eq_1, @i30r9.eq_1, @i30r10.eq_1, @i30r11.eq_1, @i30r12.eq_1, @i30r13.eq_1⟩
theorem xf31r0 : wp T f31r0 e h Q = wpI (cW T) i31r0 e h (regQ (some [0, 1]) Q) := wq_reg ..
theorem xf31r1 : wp T f31r1 e h Q = wpI (cW T) i31r1 e h (regQ (some [0, 1, 5]) Q) := wq_reg ..
theorem xf31r2 : wp T f31r2 e h Q = wpI (cW T) i31r2 e h (regQ (some [0, 1, 5, 10]) Q) := wq_reg ..
theorem xf31r3 : wp T f31r3 e h Q = wpI (cW T) i31r3 e h (regQ (some [4]) Q) := wq_reg ..
theorem xf31r4 : wp T f31r4 e h Q = wpI (cW T) i31r4 e h (regQ (some [0, 1]) Q) := wq_reg ..
theorem xf31r5 : wp T f31r5 e h Q = wpI (cW T) i31r5 e h (regQ (some []) Q) := wq_reg ..
theorem xf31r6 : wp T f31r6 e h Q = wpI (cW T) i31r6 e h (regQ (some [4]) Q) := wq_reg ..
theorem xb31 : wp T b31 e h Q = wp T (.seq f31r0 (.seq (.seq f31r1 (.seq f31r2 (.cond (.t 10) (.seq f31r3 .ret) .skip))) (.seq f31r4 (.seq f31r5 (.seq f31r6 .ret))))) e h Q := rfl
theorem e31 : (type_of% @f31.eq_1) ∧ (type_of% @xb31) ∧ (type_of% @xf31r0) ∧ (type_of% @xf31r1) ∧ (type_of% @xf31r2) ∧ (type_of% @xf31r3) ∧ (type_of% @xf31r4) ∧ (type_of% @xf31r5) ∧ (type_of% @xf31r6) ∧ (type_of% @i31r0.eq_1) ∧ (type_of% @i31r1.eq_1) ∧ (type_of% @i31r2.eq_1) ∧ (type_of% @i31r3.eq_1) ∧ (type_of% @i31r4.eq_1) ∧ (type_of% @i31r5.eq_1) ∧ (type_of% @i31r6.eq_1) := ⟨@f31.eq_1, @xb31, @xf31r0, @xf31r1, @xf31r2, @xf31r3, @xf31r4, @xf31r5, @xf31r6, @i31r0.eq_1, @i31r1.eq_1, @i31r2.eq_1, @i31r3.eq_1, @i31r4.eq_1, @i31r5.eq_1, @i31r6.eq_1⟩
theorem xf32r0 : wp T f32r0 e h Q = wpI (cW T) i32r0 e h (regQ (some [0, 1]) Q) := wq_reg ..
theorem xf32r1 : wp T f32r1 e h Q = wpI (cW T) i32r1 e h (regQ (some [0, 1, 7]) Q) := wq_reg ..
theorem xf32r2 : wp T f32r2 e h Q = wpI (cW T) i32r2 e h (regQ (some [0, 1, 7, 12]) Q) := wq_reg ..
theorem xf32r3 : wp T f32r3 e h Q = wpI (cW T) i32r3 e h (regQ (some [4, 5, 6]) Q) := wq_reg ..
theorem xf32r4 : wp T f32r4 e h Q = wpI (cW T) i32r4 e h (regQ (some [4, 5, 6]) Q) := wq_reg ..
theorem xb32 : wp T b32 e h Q = wp T (.seq f32r0 (.seq (.seq f32r1 (.seq f32r2 (.cond (.t 12) (.seq f32r3 .ret) .skip))) (.seq f32r4 .ret))) e h Q := rfl
theorem e32 : (type_of% @f32.eq_1) ∧ (type_of% @xb32) ∧ (type_of% @xf32r0) ∧ (type_of% @xf32r1) ∧ (type_of% @xf32r2) ∧ (type_of% @xf32r3) ∧ (type_of% @xf32r4) ∧ (type_of% @i32r0.eq_1) ∧ (type_of% @i32r1.eq_1) ∧ (type_of% @i32r2.eq_1) ∧ (type_of% @i32r3.eq_1) ∧ (type_of% @i32r4.eq_1) := ⟨@f32.eq_1, @xb32, @xf32r0, @xf32r1, @xf32r2, @xf32r3, @xf32r4, @i32r0.eq_1, @i32r1.eq_1, @i32r2.eq_1, @i32r3.eq_1, @i32r4.eq_1⟩
theorem xf33r0 : wp T f33r0 e h Q = wpI (cW T) i33r0 e h (regQ (some [0, 1, 2, 7]) Q) := wq_reg ..
theorem xf33r1 : wp T f33r1 e h Q = wpI (cW T) i33r1 e h (regQ (some [0, 1, 2, 7, 9]) Q) := wq_reg ..
theorem xf33r2 : wp T f33r2 e h Q = wpI (cW T) i33r2 e h (regQ (some [0, 1, 2, 7, 9, 17]) Q) := wq_reg ..
theorem xf33r3 : wp T f33r3 e h Q = wpI (cW T) i33r3 e h (regQ (some [8]) Q) := wq_reg ..
theorem xf33r4 : wp T f33r4 e h Q = wpI (cW T) i33r4 e h (regQ (some [0, 1, 2, 7, 10]) Q) := wq_reg ..
theorem xf33r5 : wp T f33r5 e h Q = wpI (cW T) i33r5 e h (regQ (some [0, 1, 2, 7, 10, 34]) Q) := wq_reg ..
theorem xf33r6 : wp T f33r6 e h Q = wpI (cW T) i33r6 e h (regQ (some [8]) Q) := wq_reg ..
theorem xf33r7 : wp T f33r7 e h Q = wpI (cW T) i33r7 e h (regQ (some [0, 1, 2, 7, 10, 11]) Q) := wq_reg ..
theorem xf33r8 : wp T f33r8 e h Q = wpI (cW T) i33r8 e h (regQ (some [0, 1, 2, 7, 10, 11, 40]) Q) := wq_reg ..
theorem xf33r9 : wp T f33r9 e h Q = wpI (cW T) i33r9 e h (regQ (some [8]) Q) := wq_reg ..
theorem xf33r10 : wp T f33r10 e h Q = wpI (cW T) i33r10 e h (regQ (some [0, 1, 2, 7, 12]) Q) := wq_reg ..
theorem xf33r11 : wp T f33r11 e h Q = wpI (cW T) i33r11 e h (regQ (some [0, 1, 12]) Q) := wq_reg ..
theorem xf33r12 : wp T f33r12 e h Q = wpI (cW T) i33r12 e h (regQ (some []) Q) := wq_reg ..
theorem xf33r13 : wp T f33r13 e h Q = wpI (cW T) i33r13 e h (regQ (some [8]) Q) := wq_reg ..
theorem xb33 : wp T b33 e h Q = wp T (.seq f33r0 (.seq (.seq f33r1 (.seq f33r2 (.cond (.t 17) (.seq f33r3 .ret) .skip))) (.seq f33r4 (.seq (.seq f33r5 (.cond (.t 34) (.seq f33r6 .ret) .skip)) (.seq (.seq f33r7 (.seq f33r8 (.cond (.t 40) (.seq f33r9 .ret) .skip))) (.seq f33r10 (.seq f33r11 (.seq f33r12 (.seq f33r13 .ret))))))))) e h Q := rfl
theorem e33 : (type_of% @f33.eq_1) ∧ (type_of% @xb33) ∧ (type_of% @xf33r0) ∧ (type_of% @xf33r1) ∧ (type_of% @xf33r2) ∧ (type_of% @xf33r3) ∧ (type_of% @xf33r4) ∧ (type_of% @xf33r5) ∧ (type_of% @xf33r6) ∧ (type_of% @xf33r7) ∧ (type_of% @xf33r8) ∧ (type_of% @xf33r9) ∧ (type_of% @xf33r10) ∧ (type_of% @xf33r11) ∧ (type_of% @xf33r12) ∧ (type_of% @xf33r13) ∧ (type_of% @i33r0.eq_1) ∧ (type_of% @i33r1.eq_1) ∧ (type_of% @i33r2.eq_1) ∧ (type_of% @i33r3.eq_1) ∧ (type_of% @i33r4.eq_1) ∧ (type_of% @i33r5.eq_1) ∧ (type_of% @i33r6.eq_1) ∧ (type_of% @i33r7.eq_1) ∧ (type_of% @i33r8.eq_1) ∧ (type_of% @i33r9.eq_1) ∧ (type_of% @i33r10.eq_1) ∧ (type_of% @i33r11.eq_1) ∧ (type_of% @i33r12.eq_1) ∧ (type_of% @i33r13.eq_1) := ⟨@f33.eq_1, @xb33, @xf33r0, @xf33r1, @xf33r2, @xf33r3, @xf33r4, @xf33r5, @xf33r6, @xf33r7, @xf33r8, @xf33r9, @xf33r10, @xf33r11, @xf33r12, @xf33r13, @i33r0.eq_1, @i33r1.eq_1, @i33r2.eq_1, @i33r3.eq_1, @i33r4.eq_1, @i33r5.eq_1, @i33r6.eq_1, @i33r7.eq_1, @i33r8.eq_1, @i33r9.eq_1, @i33r10.eq_1, @i33r11.eq_1, @i33r12.eq_1, @i33r13.eq_1⟩
theorem xf34r0 : wp T f34r0 e h Q = wpI (cW T) i34r0 e h (regQ (some [0, 1]) Q) := wq_reg ..
theorem xf34r1 : wp T f34r1 e h Q = wpI (cW T) i34r1 e h (regQ (some [0, 1, 6]) Q) := wq_reg ..
theorem xf34r2 : wp T f34r2 e h Q = wpI (cW T) i34r2 e h (regQ (some [0, 1, 6, 16]) Q) := wq_reg ..
theorem xf34r3 : wp T f34r3 e h Q = wpI (cW T) i34r3 e h (regQ (some [0, 1, 6, 24]) Q) := wq_reg ..
theorem xf34r4 : wp T f34r4 e h Q = wpI (cW T) i34r4 e h (regQ (some [4, 5]) Q) := wq_reg ..
theorem xf34r5 : wp T f34r5 e h Q = wpI (cW T) i34r5 e h (regQ (some [0, 1, 6]) Q) := wq_reg ..
theorem xf34l0 : wp T f34l0 e h Q = wp T (.seq (.seq f34r2 (.cond (.t 16) .skip (.exit 0))) (.seq (.blk 1 (.seq f34r3 (.cond (.t 24) (.seq f34r4 .ret) .skip))) f34r5)) e h Q := rfl
theorem xf34r6 : wp T f34r6 e h Q = wpI (cW T) i34r6 e h (regQ (some [0, 1, 7]) Q) := wq_reg ..
theorem xf34r7 : wp T f34r7 e h Q = wpI (cW T) i34r7 e h (regQ (some [0, 7, 8]) Q) := wq_reg ..
theorem xf34r8 : wp T f34r8 e h Q = wpI (cW T) i34r8 e h (regQ (some [0, 7, 8, 9]) Q) := wq_reg ..
theorem xf34r9 : wp T f34r9 e h Q = wpI (cW T) i34r9 e h (regQ (some [0, 7, 8, 9, 10]) Q) := wq_reg ..
theorem xf34r10 : wp T f34r10 e h Q = wpI (cW T) i34r10 e h (regQ (some [0, 7, 8, 9, 10, 37]) Q) := wq_reg ..
theorem xf34r11 : wp T f34r11 e h Q = wpI (cW T) i34r11 e h (regQ (some [0, 7, 8, 9, 10, 11]) Q) := wq_reg ..
theorem xf34r12 : wp T f34r12 e h Q = wpI (cW T) i34r12 e h (regQ (some [0, 7, 8, 9, 10, 11, 46]) Q) := wq_reg ..
theorem xf34r13 : wp T f34r13 e h Q = wpI (cW T) i34r13 e h (regQ (some [0, 7, 8, 9, 10, 11, 51]) Q) := wq_reg ..
theorem xf34r14 : wp T f34r14 e h Q = wpI (cW T) i34r14 e h (regQ (some [4, 5]) Q) := wq_reg ..
theorem xf34r15 : wp T f34r15 e h Q = wpI (cW T) i34r15 e h (regQ (some [0, 7, 8, 9, 10, 11, 57]) Q) := wq_reg ..
theorem xf34r16 : wp T f34r16 e h Q = wpI (cW T) i34r16 e h (regQ (some [0, 7, 8, 9, 10, 11]) Q) := wq_reg ..
theorem xf34r17 : wp T f34r17 e h Q = wpI (cW T) i34r17 e h (regQ (some [0, 7, 8, 9, 10, 11]) Q) := wq_reg ..
theorem xf34r18 : wp T f34r18 e h Q = wpI (cW T) i34r18 e h (regQ (some [0, 7, 8, 9, 10]) Q) := wq_reg ..
theorem xf34r19 : wp T f34r19 e h Q = wpI (cW T) i34r19 e h (regQ (some [0, 7, 8, 9, 10]) Q) := wq_reg ..
theorem xf34l1 : wp T f34l1 e h Q = wp T (.seq (.seq f34r10 (.cond (.t 37) .skip (.exit 2))) (.seq (.blk 3 (.seq f34r11 (.seq (.seq f34r12 (.cond (.t 46) (.exit 3) .skip)) (.seq (.seq f34r13 (.cond (.t 51) (.seq f34r14 .ret) .skip)) (.seq f34r15 (.cond (.t 57) (.seq f34r16 (.seq f34r17 f34r18)) .skip)))))) f34r19)) e h Q := rfl
theorem xf34r20 : wp T f34r20 e h Q = wpI (cW T) i34r20 e h (regQ (some [0, 7, 9, 12]) Q) := wq_reg ..
theorem xf34r21 : wp T f34r21 e h Q = wpI (cW T) i34r21 e h (regQ (some [0, 7, 9, 12, 81]) Q) := wq_reg ..
theorem xf34r22 : wp T f34r22 e h Q = wpI (cW T) i34r22 e h (regQ (some [0, 7, 9, 12, 98]) Q) := wq_reg ..
theorem xf34r23 : wp T f34r23 e h Q = wpI (cW T) i34r23 e h (regQ (some [4, 5]) Q) := wq_reg ..
theorem xf34r24 : wp T f34r24 e h Q = wpI (cW T) i34r24 e h (regQ (some [0, 7, 9, 12]) Q) := wq_reg ..
theorem xf34l2 : wp T f34l2 e h Q = wp T (.seq (.seq f34r21 (.cond (.t 81) .skip (.exit 4))) (.seq (.blk 5 (.seq f34r22 (.cond (.t 98) (.seq f34r23 .ret) .skip))) f34r24)) e h Q := rfl
theorem xf34r25 : wp T f34r25 e h Q = wpI (cW T) i34r25 e h (regQ (some [4, 5]) Q) := wq_reg ..
theorem xb34 : wp T b34 e h Q = wp T (.seq f34r0 (.seq (.seq f34r1 (.blk 0 (.loop f34l0))) (.seq f34r6 (.seq f34r7 (.seq f34r8 (.seq (.seq f34r9 (.blk 2 (.loop f34l1))) (.seq (.seq f34r20 (.blk 4 (.loop f34l2))) (.seq f34r25 .ret)))))))) e h Q := rfl
theorem e34 : (type_of% @f34.eq_1) ∧ (type_of% @xb34) ∧ (type_of% @xf34r0) ∧ (type_of% @xf34r1) ∧ (type_of% @xf34r2) ∧ (type_of% @xf34r3) ∧ (type_of% @xf34r4) ∧ (type_of% @xf34r5) ∧ (type_of% @xf34l0) ∧ (type_of% @xf34r6) ∧ (type_of% @xf34r7) ∧ (type_of% @xf34r8) ∧ (type_of% @xf34r9) ∧ (type_of% @xf34r10) ∧ (type_of% @xf34r11) ∧ (type_of% @xf34r12) ∧ (type_of% @xf34r13) ∧ (type_of% @xf34r14) ∧ (type_of% @xf34r15) ∧ (type_of% @xf34r16) ∧ (type_of% @xf34r17) ∧ (type_of% @xf34r18) ∧ (type_of% @xf34r19) ∧ (type_of% @xf34l1) ∧ (type_of% @xf34r20) ∧ (type_of% @xf34r21) ∧ (type_of% @xf34r22) ∧ (type_of% @xf34r23) ∧ (type_of% @xf34r24) ∧ (type_of% @xf34l2) ∧ (type_of% @xf34r25) ∧ (type_of% @i34r0.eq_1) ∧ (type_of% @i34r1.eq_1) ∧ (type_of% @i34r2.eq_1) ∧ (type_of% @i34r3.eq_1) ∧ (type_of% @i34r4.eq_1) ∧ (type_of% @i34r5.eq_1) ∧ (type_of% @i34r6.eq_1) ∧ (type_of% @i34r7.eq_1) ∧ (type_of% @i34r8.eq_1) ∧ (type_of% @i34r9.eq_1) ∧ (type_of% @i34r10.eq_1) ∧ (type_of% @i34r11.eq_1) ∧ (type_of% @i34r12.eq_1) ∧ (type_of% @i34r13.eq_1) ∧ (type_of% @i34r14.eq_1) ∧ (type_of% @i34r15.eq_1) ∧ (type_of% @i34r16.eq_1) ∧ (type_of% @i34r17.eq_1) ∧ (type_of% @i34r18.eq_1) ∧ (type_of% @i34r19.eq_1) ∧ (type_of% @i34r20.eq_1) ∧ (type_of% @i34r21.eq_1) ∧ (type_of% @i34r22.eq_1) ∧ (type_of% @i34r23.eq_1) ∧ (type_of% @i34r24.eq_1) ∧ (type_of% @i34r25.eq_1) := ⟨@f34.eq_1, @xb34, @xf34r0, @xf34r1, @xf34r2, @xf34r3, @xf34r4, @xf34r5, @xf34l0, @xf34r6, @xf34r7, @xf34r8, @xf34r9, @xf34r10, @xf34r11, @xf34r12, @xf34r13, @xf34r14, @xf34r15, @xf34r16, @xf34r17, @xf34r18, @xf34r19, @xf34l1, @xf34r20, @xf34r21, @xf34r22, @xf34r23, @xf34r24, @xf34l2, @xf34r25, @i34r0.eq_1, @i34r1.eq_1, @i34r2.eq_1, @i34r3.eq_1, @i34r4.eq_1, @i34r5.eq_1, @i34r6.eq_1, @i34r7.eq_1, @i34r8.eq_1, @i34r9.eq_1, @i34r10.eq_1, @i34r11.eq_1, @i34r12.eq_1, @i34r13.eq_1, @i34r14.eq_1, @i34r15.eq_1, @i34r16.eq_1, @i34r17.eq_1, @i34r18.eq_1, @i34r19.eq_1, @i34r20.eq_1, @i34r21.eq_1, @i34r22.eq_1, @i34r23.eq_1, @i34r24.eq_1, @i34r25.eq_1⟩
theorem xf35r0 : wp T f35r0 e h Q = wpI (cW T) i35r0 e h (regQ (some [0, 1]) Q) := wq_reg ..
theorem xf35r1 : wp T f35r1 e h Q = wpI (cW T) i35r1 e h (regQ (some [0, 1, 5]) Q) := wq_reg ..
theorem xf35r2 : wp T f35r2 e h Q = wpI (cW T) i35r2 e h (regQ (some [0, 1, 5, 10]) Q) := wq_reg ..
theorem xf35r3 : wp T f35r3 e h Q = wpI (cW T) i35r3 e h (regQ (some [0, 1, 5, 18]) Q) := wq_reg ..
theorem xf35r4 : wp T f35r4 e h Q = wpI (cW T) i35r4 e h (regQ (some [4]) Q) := wq_reg ..
theorem xf35r5 : wp T f35r5 e h Q = wpI (cW T) i35r5 e h (regQ (some [0, 1, 5]) Q) := wq_reg ..
theorem xf35l0 : wp T f35l0 e h Q = wp T (.seq (.seq f35r2 (.cond (.t 10) .skip (.exit 0))) (.seq (.blk 1 (.seq f35r3 (.cond (.t 18) (.seq f35r4 .ret) .skip))) f35r5)) e h Q := rfl
theorem xf35r6 : wp T f35r6 e h Q = wpI (cW T) i35r6 e h (regQ (some [0, 1, 6]) Q) := wq_reg ..
theorem xf35r7 : wp T f35r7 e h Q = wpI (cW T) i35r7 e h (regQ (some [0, 1, 6, 22]) Q) := wq_reg ..
theorem xf35r8 : wp T f35r8 e h Q = wpI (cW T) i35r8 e h (regQ (some [0, 1, 6, 40]) Q) := wq_reg ..
theorem xf35r9 : wp T f35r9 e h Q = wpI (cW T) i35r9 e h (regQ (some [4]) Q) := wq_reg ..
theorem xf35r10 : wp T f35r10 e h Q = wpI (cW T) i35r10 e h (regQ (some [0, 1, 6]) Q) := wq_reg ..
theorem xf35l1 : wp T f35l1 e h Q = wp T (.seq (.seq f35r7 (.cond (.t 22) .skip (.exit 2))) (.seq (.blk 3 (.seq f35r8 (.cond (.t 40) (.seq f35r9 .ret) .skip))) f35r10)) e h Q := rfl
theorem xf35r11 : wp T f35r11 e h Q = wpI (cW T) i35r11 e h (regQ (some [4]) Q) := wq_reg ..
theorem xb35 : wp T b35 e h Q = wp T (.seq f35r0 (.seq (.seq f35r1 (.blk 0 (.loop f35l0))) (.seq (.seq f35r6 (.blk 2 (.loop f35l1))) (.seq f35r11 .ret)))) e h Q := rfl
theorem e35 : (type_of% @f35.eq_1) ∧ (type_of% @xb35) ∧ (type_of% @xf35r0) ∧ (type_of% @xf35r1) ∧ (type_of% @xf35r2) ∧ (type_of% @xf35r3) ∧ (type_of% @xf35r4) ∧ (type_of% @xf35r5) ∧ (type_of% @xf35l0) ∧ (type_of% @xf35r6) ∧ (type_of% @xf35r7) ∧ (type_of% @xf35r8) ∧ (type_of% @xf35r9) ∧ (type_of% @xf35r10) ∧ (type_of% @xf35l1) ∧ (type_of% @xf35r11) ∧ (type_of% @i35r0.eq_1) ∧ (type_of% @i35r1.eq_1) ∧ (type_of% @i35r2.eq_1) ∧ (type_of% @i35r3.eq_1) ∧ (type_of% @i35r4.eq_1) ∧ (type_of% @i35r5.eq_1) ∧ (type_of% @i35r6.eq_1) ∧ (type_of% @i35r7.eq_1) ∧ (type_of% @i35r8.eq_1) ∧ (type_of% @i35r9.eq_1) ∧ (type_of% @i35r10.eq_1) ∧ (type_of% @i35r11.eq_1) := ⟨@f35.eq_1, @xb35, @xf35r0, @xf35r1, @xf35r2, @xf35r3, @xf35r4, @xf35r5, @xf35l0, @xf35r6, @xf35r7, @xf35r8, @xf35r9, @xf35r10, @xf35l1, @xf35r11, @i35r0.eq_1, @i35r1.eq_1, @i35r2.eq_1, @i35r3.eq_1, @i35r4.eq_1, @i35r5.eq_1, @i35r6.eq_1, @i35r7.eq_1, @i35r8.eq_1, @i35r9.eq_1, @i35r10.eq_1, @i35r11.eq_1⟩
theorem xf36r0 : wp T f36r0 e h Q = wpI (cW T) i36r0 e h (regQ (some [0, 1]) Q) := wq_reg ..
theorem xf36r1 : wp T f36r1 e h Q = wpI (cW T) i36r1 e h (regQ (some [0, 1, 15]) Q) := wq_reg ..
theorem xf36r2 : wp T f36r2 e h Q = wpI (cW T) i36r2 e h (regQ (some [4]) Q) := wq_reg ..
theorem xf36r3 : wp T f36r3 e h Q = wpI (cW T) i36r3 e h (regQ (some [24]) Q) := wq_reg ..
theorem xf36r4 : wp T f36r4 e h Q = wpI (cW T) i36r4 e h (regQ (some [4]) Q) := wq_reg ..
theorem xf36r5 : wp T f36r5 e h Q = wpI (cW T) i36r5 e h (regQ (some [4]) Q) := wq_reg ..
theorem xb36 : wp T b36 e h Q = wp T (.seq f36r0 (.seq (.seq f36r1 (.cond (.t 15) (.seq f36r2 .ret) .skip)) (.seq (.seq f36r3 (.cond (.t 24) (.seq f36r4 .ret) .skip)) (.seq f36r5 .ret)))) e h Q := rfl
theorem e36 : (type_of% @f36.eq_1) ∧ (type_of% @xb36) ∧ (type_of% @xf36r0) ∧ (type_of% @xf36r1) ∧ (type_of% @xf36r2) ∧ (type_of% @xf36r3) ∧ (type_of% @xf36r4) ∧ (type_of% @xf36r5) ∧ (type_of% @i36r0.eq_1) ∧ (type_of% @i36r1.eq_1) ∧ (type_of% @i36r2.eq_1) ∧ (type_of% @i36r3.eq_1) ∧ (type_of% @i36r4.eq_1) ∧ (type_of% @i36r5.eq_1) := ⟨@f36.eq_1, @xb36, @xf36r0, @xf36r1, @xf36r2, @xf36r3, @xf36r4, @xf36r5, @i36r0.eq_1, @i36r1.eq_1, @i36r2.eq_1, @i36r3.eq_1, @i36r4.eq_1, @i36r5.eq_1⟩
theorem xf37r0 : wp T f37r0 e h Q = wpI (cW T) i37r0 e h (regQ (some [1]) Q) := wq_reg ..
theorem xf37r1 : wp T f37r1 e h Q = wpI (cW T) i37r1 e h (regQ (some [1, 4]) Q) := wq_reg ..
theorem xf37r2 : wp T f37r2 e h Q = wpI (cW T) i37r2 e h (regQ (some [1, 4, 5]) Q) := wq_reg ..
theorem xf37r3 : wp T f37r3 e h Q = wpI (cW T) i37r3 e h (regQ (some [1, 4, 5]) Q) := wq_reg ..
theorem xf37r4 : wp T f37r4 e h Q = wpI (cW T) i37r4 e h (regQ (some [2]) Q) := wq_reg ..
theorem xf37r5 : wp T f37r5 e h Q = wpI (cW T) i37r5 e h (regQ (some [1, 8]) Q) := wq_reg ..
theorem xf37r6 : wp T f37r6 e h Q = wpI (cW T) i37r6 e h (regQ (some [2]) Q) := wq_reg ..
theorem xf37r7 : wp T f37r7 e h Q = wpI (cW T) i37r7 e h (regQ (some [2]) Q) := wq_reg ..
theorem xb37 : wp T b37 e h Q = wp T (.seq f37r0 (.seq (.seq f37r1 (.blk 0 (.seq (.seq f37r2 (.cond (.t 5) .skip f37r3)) (.cond (.t 5) (.seq f37r4 .ret) (.seq f37r5 (.cond (.t 8) (.seq f37r6 .ret) .skip)))))) (.seq f37r7 .ret))) e h Q := rfl
theorem e37 : (type_of% @f37.eq_1) ∧ (type_of% @xb37) ∧ (type_of% @xf37r0) ∧ (type_of% @xf37r1) ∧ (type_of% @xf37r2) ∧ (type_of% @xf37r3) ∧ (type_of% @xf37r4) ∧ (type_of% @xf37r5) ∧ (type_of% @xf37r6) ∧ (type_of% @xf37r7) ∧ (type_of% @i37r0.eq_1) ∧ (type_of% @i37r1.eq_1) ∧ (type_of% @i37r2.eq_1) ∧ (type_of% @i37r3.eq_1) ∧ (type_of% @i37r4.eq_1) ∧ (type_of% @i37r5.eq_1) ∧ (type_of% @i37r6.eq_1) ∧ (type_of% @i37r7.eq_1) := ⟨@f37.eq_1, @xb37, @xf37r0, @xf37r1, @xf37r2, @xf37r3, @xf37r4, @xf37r5, @xf37r6, @xf37r7, @i37r0.eq_1, @i37r1.eq_1, @i37r2.eq_1, @i37r3.eq_1, @i37r4.eq_1, @i37r5.eq_1, @i37r6.eq_1, @i37r7.eq_1⟩
theorem xf38r0 : wp T f38r0 e h Q = wpI (cW T) i38r0 e h (regQ (some [0, 1]) Q) := wq_reg ..
theorem xf38r1 : wp T f38r1 e h Q = wpI (cW T) i38r1 e h (regQ (some [4]) Q) := wq_reg ..
theorem xb38 : wp T b38 e h Q = wp T (.seq f38r0 (.seq f38r1 .ret)) e h Q := rfl
theorem e38 : (type_of% @f38.eq_1) ∧ (type_of% @xb38) ∧ (type_of% @xf38r0) ∧ (type_of% @xf38r1) ∧ (type_of% @i38r0.eq_1) ∧ (type_of% @i38r1.eq_1) := ⟨@f38.eq_1, @xb38, @xf38r0, @xf38r1, @i38r0.eq_1, @i38r1.eq_1⟩
end Zc55
