/-
  What each part of the code does, as an equation.
-/
import Derived.Test.YtfijkolejdkpdaaTab
import Derived.Test.YtfijkolejdkpdaaZvWp
namespace Zc18
open Go Zv Zs
variable (T : Tab) (e : Env) (h : Hp) (Q : Out → Prop)
theorem xf3r0 : wp T f3r0 e h Q = wpI (cW T) i3r0 e h (regQ (some [0, 1]) Q) := wq_reg ..
theorem xf3r1 : wp T f3r1 e h Q = wpI (cW T) i3r1 e h (regQ (some [0, 1, 13]) Q) := wq_reg ..
theorem xf3r2 : wp T f3r2 e h Q = wpI (cW T) i3r2 e h (regQ (some [4]) Q) := wq_reg ..
theorem xf3r3 : wp T f3r3 e h Q = wpI (cW T) i3r3 e h (regQ (some [0, 1, 16]) Q) := wq_reg ..
theorem xf3r4 : wp T f3r4 e h Q = wpI (cW T) i3r4 e h (regQ (some [4]) Q) := wq_reg ..
theorem xf3r5 : wp T f3r5 e h Q = wpI (cW T) i3r5 e h (regQ (some [0, 1, 5, 6]) Q) := wq_reg ..
theorem xf3r6 : wp T f3r6 e h Q = wpI (cW T) i3r6 e h (regQ (some [0, 1, 5, 6, 27]) Q) := wq_reg ..
theorem xf3r7 : wp T f3r7 e h Q = wpI (cW T) i3r7 e h (regQ (some [4]) Q) := wq_reg ..
theorem xf3r8 : wp T f3r8 e h Q = wpI (cW T) i3r8 e h (regQ (some [0, 1, 5, 6, 7]) Q) := wq_reg ..
theorem xf3r9 : wp T f3r9 e h Q = wpI (cW T) i3r9 e h (regQ (some [0, 1, 5, 6, 7, 31]) Q) := wq_reg ..
theorem xf3r10 : wp T f3r10 e h Q = wpI (cW T) i3r10 e h (regQ (some [0, 1, 5, 6, 7, 42]) Q) := wq_reg ..
theorem xf3r11 : wp T f3r11 e h Q = wpI (cW T) i3r11 e h (regQ (some [4]) Q) := wq_reg ..
theorem xf3r12 : wp T f3r12 e h Q = wpI (cW T) i3r12 e h (regQ (some [0, 1, 5, 6, 7]) Q) := wq_reg ..
theorem xf3l0 : wp T f3l0 e h Q = wp T (.seq (.seq f3r9 (.cond (.t 31) .skip (.exit 0))) (.seq (.blk 1 (.seq f3r10 (.cond (.t 42) (.seq f3r11 .ret) .skip))) f3r12)) e h Q := rfl
theorem xf3r13 : wp T f3r13 e h Q = wpI (cW T) i3r13 e h (regQ (some [0, 1, 8, 9]) Q) := wq_reg ..
theorem xf3r14 : wp T f3r14 e h Q = wpI (cW T) i3r14 e h (regQ (some [8, 9, 10, 11]) Q) := wq_reg ..
theorem xf3r15 : wp T f3r15 e h Q = wpI (cW T) i3r15 e h (regQ (some [4]) Q) := wq_reg ..
theorem xb3 : wp T b3 e h Q = wp T (.seq f3r0 (.seq (.seq f3r1 (.cond (.t 13) (.seq f3r2 .ret) .skip)) (.seq (.seq f3r3 (.cond (.t 16) (.seq f3r4 .ret) .skip)) (.seq f3r5 (.seq (.seq f3r6 (.cond (.t 27) (.seq f3r7 .ret) .skip)) (.seq (.seq f3r8 (.blk 0 (.loop f3l0))) (.seq f3r13 (.seq f3r14 (.seq f3r15 .ret))))))))) e h Q := rfl
theorem e3 : (type_of% @f3.eq_1) ∧ (type_of% @xb3) ∧ (type_of% @xf3r0) ∧ (type_of% @xf3r1) ∧ (type_of% @xf3r2) ∧ (type_of% @xf3r3) ∧ (type_of% @xf3r4) ∧ (type_of% @xf3r5) ∧ (type_of% @xf3r6) ∧ (type_of% @xf3r7) ∧ (type_of% @xf3r8) ∧ (type_of% @xf3r9) ∧ (type_of% @xf3r10) ∧ (type_of% @xf3r11) ∧ (type_of% @xf3r12) ∧ (type_of% @xf3l0) ∧ (type_of% @xf3r13) ∧ (type_of% @xf3r14) ∧ (type_of% @xf3r15) ∧ (type_of% @i3r0.eq_1) ∧ (type_of% @i3r1.eq_1) ∧ (type_of% @i3r2.eq_1) ∧ (type_of% @i3r3.eq_1) ∧ (type_of% @i3r4.eq_1) ∧ (type_of% @i3r5.eq_1) ∧ (type_of% @i3r6.eq_1) ∧ (type_of% @i3r7.eq_1) ∧ (type_of% @i3r8.eq_1) ∧ (type_of% @i3r9.eq_1) ∧ (type_of% @i3r10.eq_1) ∧ (type_of% @i3r11.eq_1) ∧ (type_of% @i3r12.eq_1) ∧ (type_of% @i3r13.eq_1) ∧ (type_of% @i3r14.eq_1) ∧ (type_of% @i3r15.eq_1) := ⟨@f3.eq_1, @xb3, @xf3r0, @xf3r1, @xf3r2, @xf3r3, @xf3r4, @xf3r5, @xf3r6, @xf3r7, @xf3r8, @xf3r9, @xf3r10, @xf3r11, @xf3r12, @xf3l0, @xf3r13, @xf3r14, @xf3r15, @i3r0.eq_1, @i3r1.eq_1, @i3r2.eq_1, @i3r3.eq_1, @i3r4.eq_1, @i3r5.eq_1, @i3r6.eq_1, @i3r7.eq_1, @i3r8.eq_1, @i3r9.eq_1, @i3r10.eq_1, @i3r11.eq_1, @i3r12.eq_1, @i3r13.eq_1, @i3r14.eq_1, @i3r15.eq_1⟩
theorem xf4r0 : wp T f4r0 e h Q = wpI (cW T) i4r0 e h (regQ (some [0, 1, 2]) Q) := wq_reg ..
theorem xf4r1 : wp T f4r1 e h Q = wpI (cW T) i4r1 e h (regQ (some [0, 1, 2, 12]) Q) := wq_reg ..
theorem xf4r2 : wp T f4r2 e h Q = wpI (cW T) i4r2 e h (regQ (some [6]) Q) := wq_reg ..
theorem xf4r3 : wp T f4r3 e h Q = wpI (cW T) i4r3 e h (regQ (some [0, 1, 2, 15]) Q) := wq_reg ..
theorem xf4r4 : wp T f4r4 e h Q = wpI (cW T) i4r4 e h (regQ (some [6]) Q) := wq_reg ..
theorem xf4r5 : wp T f4r5 e h Q = wpI (cW T) i4r5 e h (regQ (some [0, 1, 2, 7, 8]) Q) := wq_reg ..
theorem xf4r6 : wp T f4r6 e h Q = wpI (cW T) i4r6 e h (regQ (some [7, 8, 9, 10]) Q) := wq_reg ..
theorem xf4r7 : wp T f4r7 e h Q = wpI (cW T) i4r7 e h (regQ (some [6]) Q) := wq_reg ..
theorem xb4 : wp T b4 e h Q = wp T (.seq f4r0 (.seq (.seq f4r1 (.cond (.t 12) (.seq f4r2 .ret) .skip)) (.seq (.seq f4r3 (.cond (.t 15) (.seq f4r4 .ret) .skip)) (.seq f4r5 (.seq f4r6 (.seq f4r7 .ret)))))) e h Q := rfl
theorem e4 : (type_of% @f4.eq_1) ∧ (type_of% @xb4) ∧ (type_of% @xf4r0) ∧ (type_of% @xf4r1) ∧ (type_of% @xf4r2) ∧ (type_of% @xf4r3) ∧ (type_of% @xf4r4) ∧ (type_of% @xf4r5) ∧ (type_of% @xf4r6) ∧ (type_of% @xf4r7) ∧ (type_of% @i4r0.eq_1) ∧ (type_of% @i4r1.eq_1) ∧ (type_of% @i4r2.eq_1) ∧ (type_of% @i4r3.eq_1) ∧ (type_of% @i4r4.eq_1) ∧ (type_of% @i4r5.eq_1) ∧ (type_of% @i4r6.eq_1) ∧ (type_of% @i4r7.eq_1) := ⟨@f4.eq_1, @xb4, @xf4r0, @xf4r1, @xf4r2, @xf4r3, @xf4r4, @xf4r5, @xf4r6, @xf4r7, @i4r0.eq_1, @i4r1.eq_1, @i4r2.eq_1, @i4r3.eq_1, @i4r4.eq_1, @i4r5.eq_1, @i4r6.eq_1, @i4r7.eq_1⟩
theorem xf5r0 : wp T f5r0 e h Q = wpI (cW T) i5r0 e h (regQ (some [1]) Q) := wq_reg ..
theorem xf5r1 : wp T f5r1 e h Q = wpI (cW T) i5r1 e h (regQ (some [1, 14]) Q) := wq_reg ..
theorem xf5r2 : wp T f5r2 e h Q = wpI (cW T) i5r2 e h (regQ (some [2]) Q) := wq_reg ..
theorem xf5r3 : wp T f5r3 e h Q = wpI (cW T) i5r3 e h (regQ (some [1, 18]) Q) := wq_reg ..
theorem xf5r4 : wp T f5r4 e h Q = wpI (cW T) i5r4 e h (regQ (some [2]) Q) := wq_reg ..
theorem xf5r5 : wp T f5r5 e h Q = wpI (cW T) i5r5 e h (regQ (some [1, 3, 4]) Q) := wq_reg ..
theorem xf5r6 : wp T f5r6 e h Q = wpI (cW T) i5r6 e h (regQ (some [1, 3, 4, 5, 6]) Q) := wq_reg ..
theorem xf5r7 : wp T f5r7 e h Q = wpI (cW T) i5r7 e h (regQ (some [1, 3, 5, 44]) Q) := wq_reg ..
theorem xf5r8 : wp T f5r8 e h Q = wpI (cW T) i5r8 e h (regQ (some [2]) Q) := wq_reg ..
theorem xf5r9 : wp T f5r9 e h Q = wpI (cW T) i5r9 e h (regQ (some [1, 3, 5, 7, 8]) Q) := wq_reg ..
theorem xf5r10 : wp T f5r10 e h Q = wpI (cW T) i5r10 e h (regQ (some [1, 3, 5, 7, 63]) Q) := wq_reg ..
theorem xf5r11 : wp T f5r11 e h Q = wpI (cW T) i5r11 e h (regQ (some [2]) Q) := wq_reg ..
theorem xf5r12 : wp T f5r12 e h Q = wpI (cW T) i5r12 e h (regQ (some [1, 3, 5, 7, 9]) Q) := wq_reg ..
theorem xf5r13 : wp T f5r13 e h Q = wpI (cW T) i5r13 e h (regQ (some [1, 3, 5, 7, 9, 67]) Q) := wq_reg ..
theorem xf5r14 : wp T f5r14 e h Q = wpI (cW T) i5r14 e h (regQ (some [1, 3, 5, 7, 9, 97]) Q) := wq_reg ..
theorem xf5r15 : wp T f5r15 e h Q = wpI (cW T) i5r15 e h (regQ (some [2]) Q) := wq_reg ..
theorem xf5r16 : wp T f5r16 e h Q = wpI (cW T) i5r16 e h (regQ (some [1, 3, 5, 7, 9]) Q) := wq_reg ..
theorem xf5l0 : wp T f5l0 e h Q = wp T (.seq (.seq f5r13 (.cond (.t 67) .skip (.exit 0))) (.seq (.blk 1 (.seq f5r14 (.cond (.t 97) (.seq f5r15 .ret) .skip))) f5r16)) e h Q := rfl
theorem xf5r17 : wp T f5r17 e h Q = wpI (cW T) i5r17 e h (regQ (some [10, 11]) Q) := wq_reg ..
theorem xf5r18 : wp T f5r18 e h Q = wpI (cW T) i5r18 e h (regQ (some [10, 11, 12]) Q) := wq_reg ..
theorem xf5r19 : wp T f5r19 e h Q = wpI (cW T) i5r19 e h (regQ (some [10, 11, 12, 111]) Q) := wq_reg ..
theorem xf5r20 : wp T f5r20 e h Q = wpI (cW T) i5r20 e h (regQ (some [10, 11, 12, 119]) Q) := wq_reg ..
theorem xf5r21 : wp T f5r21 e h Q = wpI (cW T) i5r21 e h (regQ (some [2]) Q) := wq_reg ..
theorem xf5r22 : wp T f5r22 e h Q = wpI (cW T) i5r22 e h (regQ (some [10, 11, 12]) Q) := wq_reg ..
theorem xf5l1 : wp T f5l1 e h Q = wp T (.seq (.seq f5r19 (.cond (.t 111) .skip (.exit 2))) (.seq (.blk 3 (.seq f5r20 (.cond (.t 119) (.seq f5r21 .ret) .skip))) f5r22)) e h Q := rfl
theorem xf5r23 : wp T f5r23 e h Q = wpI (cW T) i5r23 e h (regQ (some [2]) Q) := wq_reg ..
theorem xb5 : wp T b5 e h Q = wp T (.seq f5r0 (.seq (.seq f5r1 (.cond (.t 14) (.seq f5r2 .ret) .skip)) (.seq (.seq f5r3 (.cond (.t 18) (.seq f5r4 .ret) .skip)) (.seq f5r5 (.seq f5r6 (.seq (.seq f5r7 (.cond (.t 44) (.seq f5r8 .ret) .skip)) (.seq f5r9 (.seq (.seq f5r10 (.cond (.t 63) (.seq f5r11 .ret) .skip)) (.seq (.seq f5r12 (.blk 0 (.loop f5l0))) (.seq f5r17 (.seq (.seq f5r18 (.blk 2 (.loop f5l1))) (.seq f5r23 .ret)))))))))))) e h Q := rfl
theorem e5 : (type_of% @f5.eq_1) ∧ (type_of% @xb5) ∧ (type_of% @xf5r0) ∧ (type_of% @xf5r1) ∧ (type_of% @xf5r2) ∧ (type_of% @xf5r3) ∧ (type_of% @xf5r4) ∧ (type_of% @xf5r5) ∧ (type_of% @xf5r6) ∧ (type_of% @xf5r7) ∧ (type_of% @xf5r8) ∧ (type_of% @xf5r9) ∧ (type_of% @xf5r10) ∧ (type_of% @xf5r11) ∧ (type_of% @xf5r12) ∧ (type_of% @xf5r13) ∧ (type_of% @xf5r14) ∧ (type_of% @xf5r15) ∧ (type_of% @xf5r16) ∧ (type_of% @xf5l0) ∧ (type_of% @xf5r17) ∧ (type_of% @xf5r18) ∧ (type_of% @xf5r19) ∧ (type_of% @xf5r20) ∧ (type_of% @xf5r21) ∧ (type_of% @xf5r22) ∧ (type_of% @xf5l1) ∧ (type_of% @xf5r23) ∧ (type_of% @i5r0.eq_1) ∧ (type_of% @i5r1.eq_1) ∧ (type_of% @i5r2.eq_1) ∧ (type_of% @i5r3.eq_1) ∧ (type_of% @i5r4.eq_1) ∧ (type_of% @i5r5.eq_1) ∧ (type_of% @i5r6.eq_1) ∧ (type_of% @i5r7.eq_1) ∧ (type_of% @i5r8.eq_1) ∧ (type_of% @i5r9.eq_1) ∧ (type_of% @i5r10.eq_1) ∧ (type_of% @i5r11.eq_1) ∧ (type_of% @i5r12.eq_1) ∧ (type_of% @i5r13.eq_1) ∧ (type_of% @i5r14.eq_1) ∧ (type_of% @i5r15.eq_1) ∧ (type_of% @i5r16.eq_1) ∧ (type_of% @i5r17.eq_1) ∧ (type_of% @i5r18.eq_1) ∧ (type_of% @i5r19.eq_1) ∧ (type_of% @i5r20.eq_1) ∧ (type_of% @i5r21.eq_1) ∧ (type_of% @i5r22.eq_1) ∧ (type_of% @i5r23.eq_1) := ⟨@f5.eq_1, @xb5, @xf5r0, @xf5r1, @xf5r2, @xf5r3, @xf5r4, @xf5r5, @xf5r6, @xf5r7, @xf5r8, @xf5r9, @xf5r10, @xf5r11, @xf5r12, @xf5r13, @xf5r14, @xf5r15, @xf5r16, @xf5l0, @xf5r17, @xf5r18, @xf5r19, @xf5r20, @xf5r21, @xf5r22, @xf5l1, @xf5r23, @i5r0.eq_1, @i5r1.eq_1, @i5r2.eq_1, @i5r3.eq_1, @i5r4.eq_1, @i5r5.eq_1, @i5r6.eq_1, @i5r7.eq_1, @i5r8.eq_1, @i5r9.eq_1, @i5r10.eq_1, @i5r11.eq_1, @i5r12.eq_1, @i5r13.eq_1, @i5r14.eq_1, @i5r15.eq_1, @i5r16.eq_1, @i5r17.eq_1, @i5r18.eq_1, @i5r19.eq_1, @i5r20.eq_1, @i5r21.eq_1, @i5r22.eq_1, @i5r23.eq_1⟩
theorem xf6r0 : wp T f6r0 e h Q = wpI (cW T) i6r0 e h (regQ (some [0, 1, 5]) Q) := wq_reg ..
theorem xf6r1 : wp T f6r1 e h Q = wpI (cW T) i6r1 e h (regQ (some [0, 1, 5, 8]) Q) := wq_reg ..
theorem xf6r2 : wp T f6r2 e h Q = wpI (cW T) i6r2 e h (regQ (some [6]) Q) := wq_reg ..
theorem xf6r3 : wp T f6r3 e h Q = wpI (cW T) i6r3 e h (regQ (some [0, 1, 5, 11]) Q) := wq_reg ..
theorem xf6r4 : wp T f6r4 e h Q = wpI (cW T) i6r4 e h (regQ (some [6]) Q) := wq_reg ..
theorem xf6r5 : wp T f6r5 e h Q = wpI (cW T) i6r5 e h (regQ (some [6]) Q) := wq_reg ..
theorem xb6 : wp T b6 e h Q = wp T (.seq f6r0 (.seq (.seq f6r1 (.cond (.t 8) (.seq f6r2 .ret) .skip)) (.seq (.seq f6r3 (.cond (.t 11) (.seq f6r4 .ret) .skip)) (.seq f6r5 .ret)))) e h Q := rfl
theorem e6 : (type_of% @f6.eq_1) ∧ (type_of% @xb6) ∧ (type_of% @xf6r0) ∧ (type_of% @xf6r1) ∧ (type_of% @xf6r2) ∧ (type_of% @xf6r3) ∧ (type_of% @xf6r4) ∧ (type_of% @xf6r5) ∧ (type_of% @i6r0.eq_1) ∧ (type_of% @i6r1.eq_1) ∧ (type_of% @i6r2.eq_1) ∧ (type_of% @i6r3.eq_1) ∧ (type_of% @i6r4.eq_1) ∧ (type_of% @i6r5.eq_1) := ⟨@f6.eq_1, @xb6, @xf6r0, @xf6r1, @xf6r2, @xf6r3, @xf6r4, @xf6r5, @i6r0.eq_1, @i6r1.eq_1, @i6r2.eq_1, @i6r3.eq_1, @i6r4.eq_1, @i6r5.eq_1⟩
theorem xf9r0 : wp T f9r0 e h Q = wpI (cW T) i9r0 e h (regQ (some []) Q) := wq_reg ..
theorem xf9r1 : wp T f9r1 e h Q = wpI (cW T) i9r1 e h (regQ (some [1]) Q) := wq_reg ..
theorem xf9r2 : wp T f9r2 e h Q = wpI (cW T) i9r2 e h (regQ (some [1, 2, 3]) Q) := wq_reg ..
theorem xf9r3 : wp T f9r3 e h Q = wpI (cW T) i9r3 e h (regQ (some [1, 2, 3, 4, 5]) Q) := wq_reg ..
theorem xf9r4 : wp T f9r4 e h Q = wpI (cW T) i9r4 e h (regQ (some [1, 2, 3, 4, 5, 7]) Q) := wq_reg ..
theorem xf9r5 : wp T f9r5 e h Q = wpI (cW T) i9r5 e h (regQ (some [0]) Q) := wq_reg ..
theorem xb9 : wp T b9 e h Q = wp T (.seq f9r0 (.seq f9r1 (.seq f9r2 (.seq f9r3 (.seq f9r4 (.seq f9r5 .ret)))))) e h Q := rfl
theorem e9 : (type_of% @f9.eq_1) ∧ (type_of% @xb9) ∧ (type_of% @xf9r0) ∧ (type_of% @xf9r1) ∧ (type_of% @xf9r2) ∧ (type_of% @xf9r3) ∧ (type_of% @xf9r4) ∧ (type_of% @xf9r5) ∧ (type_of% @i9r0.eq_1) ∧ (type_of% @i9r1.eq_1) ∧ (type_of% @i9r2.eq_1) ∧ (type_of% @i9r3.eq_1) ∧ (type_of% @i9r4.eq_1) ∧ (type_of% @i9r5.eq_1) := ⟨@f9.eq_1, @xb9, @xf9r0, @xf9r1, @xf9r2, @xf9r3, @xf9r4, @xf9r5, @i9r0.eq_1, @i9r1.eq_1, @i9r2.eq_1, @i9r3.eq_1, @i9r4.eq_1, @i9r5.eq_1⟩
theorem xf10r0 : wp T f10r0 e h Q = wpI (cW T) i10r0 e h (regQ (some [0]) Q) := wq_reg ..
theorem xf10r1 : wp T f10r1 e h Q = wpI (cW T) i10r1 e h (regQ (some [0, 3]) Q) := wq_reg ..
theorem xf10r2 : wp T f10r2 e h Q = wpI (cW T) i10r2 e h (regQ (some [0, 3, 8]) Q) := wq_reg ..
theorem xf10r3 : wp T f10r3 e h Q = wpI (cW T) i10r3 e h (regQ (some [0, 3, 26]) Q) := wq_reg ..
theorem xf10r4 : wp T f10r4 e h Q = wpI (cW T) i10r4 e h (regQ (some [2]) Q) := wq_reg ..
theorem xf10r5 : wp T f10r5 e h Q = wpI (cW T) i10r5 e h (regQ (some [0, 3, 4]) Q) := wq_reg ..
theorem xf10r6 : wp T f10r6 e h Q = wpI (cW T) i10r6 e h (regQ (some [0, 3, 4, 34]) Q) := wq_reg ..
theorem xf10r7 : wp T f10r7 e h Q = wpI (cW T) i10r7 e h (regQ (some [0, 3, 4, 60]) Q) := wq_reg ..
theorem xf10r8 : wp T f10r8 e h Q = wpI (cW T) i10r8 e h (regQ (some [2]) Q) := wq_reg ..
theorem xf10r9 : wp T f10r9 e h Q = wpI (cW T) i10r9 e h (regQ (some [0, 3, 4]) Q) := wq_reg ..
theorem xf10l0 : wp T f10l0 e h Q = wp T (.seq (.seq f10r6 (.cond (.t 34) .skip (.exit 2))) (.seq (.blk 3 (.seq f10r7 (.cond (.t 60) (.seq f10r8 .ret) .skip))) f10r9)) e h Q := rfl
theorem xf10r10 : wp T f10r10 e h Q = wpI (cW T) i10r10 e h (regQ (some [0, 3]) Q) := wq_reg ..
theorem xf10l1 : wp T f10l1 e h Q = wp T (.seq (.seq f10r2 (.cond (.t 8) .skip (.exit 0))) (.seq (.blk 1 (.seq (.seq f10r3 (.cond (.t 26) (.seq f10r4 .ret) .skip)) (.seq f10r5 (.blk 2 (.loop f10l0))))) f10r10)) e h Q := rfl
theorem xf10r11 : wp T f10r11 e h Q = wpI (cW T) i10r11 e h (regQ (some [2]) Q) := wq_reg ..
theorem xb10 : wp T b10 e h Q = wp T (.seq f10r0 (.seq (.seq f10r1 (.blk 0 (.loop f10l1))) (.seq f10r11 .ret))) e h Q := rfl
theorem e10 : (type_of% @f10.eq_1) ∧ (type_of% @xb10) ∧ (type_of% @xf10r0) ∧ (type_of% @xf10r1) ∧ (type_of% @xf10r2) ∧ (type_of% @xf10r3) ∧ (type_of% @xf10r4) ∧ (type_of% @xf10r5) ∧ (type_of% @xf10r6) ∧ (type_of% @xf10r7) ∧ (type_of% @xf10r8) ∧ (type_of% @xf10r9) ∧ (type_of% @xf10l0) ∧ (type_of% @xf10r10) ∧ (type_of% @xf10l1) ∧ (type_of% @xf10r11) ∧ (type_of% @i10r0.eq_1) ∧ (type_of% @i10r1.eq_1) ∧ (type_of% @i10r2.eq_1) ∧ (type_of% @i10r3.eq_1) ∧ (type_of% @i10r4.eq_1) ∧ (type_of% @i10r5.eq_1) ∧ (type_of% @i10r6.eq_1) ∧ (type_of% @i10r7.eq_1) ∧ (type_of% @i10r8.eq_1) ∧ (type_of% @i10r9.eq_1) ∧ (type_of% @i10r10.eq_1) ∧ (type_of% @i10r11.eq_1) := ⟨@f10.eq_1, @xb10, @xf10r0, @xf10r1, @xf10r2, @xf10r3, @xf10r4, @xf10r5, @xf10r6, @xf10r7, @xf10r8, @xf10r9, @xf10l0, @xf10r10, @xf10l1, @xf10r11, @i10r0.eq_1, @i10r1.eq_1, @i10r2.eq_1, @i10r3.eq_1, @i10r4.eq_1, @i10r5.eq_1, @i10r6.eq_1, @i10r7.eq_1, @i10r8.eq_1, @i10r9.eq_1, @i10r10.eq_1, @i10r11.eq_1⟩
theorem xf11r0 : wp T f11r0 e h Q = wpI (cW T) i11r0 e h (regQ (some [0, 1]) Q) := wq_reg ..
theorem xf11r1 : wp T f11r1 e h Q = wpI (cW T) i11r1 e h (regQ (some [0, 1, 17]) Q) := wq_reg ..
theorem xf11r2 : wp T f11r2 e h Q = wpI (cW T) i11r2 e h (regQ (some [4]) Q) := wq_reg ..
theorem xf11r3 : wp T f11r3 e h Q = wpI (cW T) i11r3 e h (regQ (some [0, 1, 5]) Q) := wq_reg ..
theorem xf11r4 : wp T f11r4 e h Q = wpI (cW T) i11r4 e h (regQ (some [0, 5, 20, 21, 22]) Q) := wq_reg ..
theorem xf11r5 : wp T f11r5 e h Q = wpI (cW T) i11r5 e h (regQ (some [0, 5, 20, 21, 22, 23]) Q) := wq_reg ..
theorem xf11r6 : wp T f11r6 e h Q = wpI (cW T) i11r6 e h (regQ (some [0, 5, 7, 20, 21, 22]) Q) := wq_reg ..
theorem xf11r7 : wp T f11r7 e h Q = wpI (cW T) i11r7 e h (regQ (some [0, 5, 7, 20, 21, 22, 32, 33]) Q) := wq_reg ..
theorem xf11r8 : wp T f11r8 e h Q = wpI (cW T) i11r8 e h (regQ (some [0, 5, 7, 20, 21, 22, 32, 33, 34]) Q) := wq_reg ..
theorem xf11r9 : wp T f11r9 e h Q = wpI (cW T) i11r9 e h (regQ (some [0, 5, 7, 8, 20, 21, 22, 32, 33]) Q) := wq_reg ..
theorem xf11r10 : wp T f11r10 e h Q = wpI (cW T) i11r10 e h (regQ (some [0, 5, 7, 20, 21, 22, 32, 33]) Q) := wq_reg ..
theorem xf11r11 : wp T f11r11 e h Q = wpI (cW T) i11r11 e h (regQ (some [0, 5, 7, 20, 21, 22, 32, 33]) Q) := wq_reg ..
theorem xf11l0 : wp T f11l0 e h Q = wp T (.seq f11r8 (.seq (.cond (.t 34) .skip (.exit 2)) (.seq (.blk 3 (.seq f11r9 f11r10)) f11r11))) e h Q := rfl
theorem xf11r12 : wp T f11r12 e h Q = wpI (cW T) i11r12 e h (regQ (some [0, 5, 20, 21, 22]) Q) := wq_reg ..
theorem xf11l1 : wp T f11l1 e h Q = wp T (.seq f11r5 (.seq (.cond (.t 23) .skip (.exit 0)) (.seq (.blk 1 (.seq f11r6 (.seq f11r7 (.blk 2 (.loop f11l0))))) f11r12))) e h Q := rfl
theorem xf11r13 : wp T f11r13 e h Q = wpI (cW T) i11r13 e h (regQ (some [4]) Q) := wq_reg ..
theorem xb11 : wp T b11 e h Q = wp T (.seq f11r0 (.seq (.seq f11r1 (.cond (.t 17) (.seq f11r2 .ret) .skip)) (.seq f11r3 (.seq (.seq f11r4 (.blk 0 (.loop f11l1))) (.seq f11r13 .ret))))) e h Q := rfl
theorem e11 : (type_of% @f11.eq_1) ∧ (type_of% @xb11) ∧ (type_of% @xf11r0) ∧ (type_of% @xf11r1) ∧ (type_of% @xf11r2) ∧ (type_of% @xf11r3) ∧ (type_of% @xf11r4) ∧ (type_of% @xf11r5) ∧ (type_of% @xf11r6) ∧ (type_of% @xf11r7) ∧ (type_of% @xf11r8) ∧ (type_of% @xf11r9) ∧ (type_of% @xf11r10) ∧ (type_of% @xf11r11) ∧ (type_of% @xf11l0) ∧ (type_of% @xf11r12) ∧ (type_of% @xf11l1) ∧ (type_of% @xf11r13) ∧ (type_of% @i11r0.eq_1) ∧ (type_of% @i11r1.eq_1) ∧ (type_of% @i11r2.eq_1) ∧ (type_of% @i11r3.eq_1) ∧ (type_of% @i11r4.eq_1) ∧ (type_of% @i11r5.eq_1) ∧ (type_of% @i11r6.eq_1) ∧ (type_of% @i11r7.eq_1) ∧ (type_of% @i11r8.eq_1) ∧ (type_of% @i11r9.eq_1) ∧ (type_of% @i11r10.eq_1) ∧ (type_of% @i11r11.eq_1) ∧ (type_of% @i11r12.eq_1) ∧ (type_of% @i11r13.eq_1) := ⟨@f11.eq_1, @xb11, @xf11r0, @xf11r1, @xf11r2, @xf11r3, @xf11r4, @xf11r5, @xf11r6, @xf11r7, @xf11r8, @xf11r9, @xf11r10, @xf11r11, @xf11l0, @xf11r12, @xf11l1, @xf11r13, @i11r0.eq_1, @i11r1.eq_1, @i11r2.eq_1, @i11r3.eq_1, @i11r4.eq_1, @i11r5.eq_1, @i11r6.eq_1, @i11r7.eq_1, @i11r8.eq_1, @i11r9.eq_1, @i11r10.eq_1, @i11r11.eq_1, @i11r12.eq_1, @i11r13.eq_1⟩
theorem xf12r0 : wp T f12r0 e h Q = wpI (cW T) i12r0 e h (regQ (some [0, 1]) Q) := wq_reg ..
theorem xf12r1 : wp T f12r1 e h Q = wpI (cW T) i12r1 e h (regQ (some [0, 1, 17]) Q) := wq_reg ..
theorem xf12r2 : wp T f12r2 e h Q = wpI (cW T) i12r2 e h (regQ (some [4]) Q) := wq_reg ..
theorem xf12r3 : wp T f12r3 e h Q = wpI (cW T) i12r3 e h (regQ (some [0, 5]) Q) := wq_reg ..
theorem xf12r4 : wp T f12r4 e h Q = wpI (cW T) i12r4 e h (regQ (some [0, 5, 6]) Q) := wq_reg ..
theorem xf12r5 : wp T f12r5 e h Q = wpI (cW T) i12r5 e h (regQ (some [0, 5, 6, 7]) Q) := wq_reg ..
theorem xf12r6 : wp T f12r6 e h Q = wpI (cW T) i12r6 e h (regQ (some [0, 5, 6, 7, 24]) Q) := wq_reg ..
theorem xf12r7 : wp T f12r7 e h Q = wpI (cW T) i12r7 e h (regQ (some [0, 5, 6, 7, 8]) Q) := wq_reg ..
theorem xf12r8 : wp T f12r8 e h Q = wpI (cW T) i12r8 e h (regQ (some [0, 5, 6, 7, 8, 38]) Q) := wq_reg ..
theorem xf12r9 : wp T f12r9 e h Q = wpI (cW T) i12r9 e h (regQ (some [0, 5, 6, 7, 8]) Q) := wq_reg ..
theorem xf12r10 : wp T f12r10 e h Q = wpI (cW T) i12r10 e h (regQ (some [0, 5, 6, 7, 8]) Q) := wq_reg ..
theorem xf12l0 : wp T f12l0 e h Q = wp T (.seq (.seq f12r8 (.cond (.t 38) .skip (.exit 2))) (.seq (.blk 3 f12r9) f12r10)) e h Q := rfl
theorem xf12r11 : wp T f12r11 e h Q = wpI (cW T) i12r11 e h (regQ (some [0, 5, 6, 7]) Q) := wq_reg ..
theorem xf12l1 : wp T f12l1 e h Q = wp T (.seq (.seq f12r6 (.cond (.t 24) .skip (.exit 0))) (.seq (.blk 1 (.seq f12r7 (.blk 2 (.loop f12l0)))) f12r11)) e h Q := rfl
theorem xf12r12 : wp T f12r12 e h Q = wpI (cW T) i12r12 e h (regQ (some [4]) Q) := wq_reg ..
theorem xb12 : wp T b12 e h Q = wp T (.seq f12r0 (.seq (.seq f12r1 (.cond (.t 17) (.seq f12r2 .ret) .skip)) (.seq f12r3 (.seq f12r4 (.seq (.seq f12r5 (.blk 0 (.loop f12l1))) (.seq f12r12 .ret)))))) e h Q := rfl
theorem e12 : (type_of% @f12.eq_1) ∧ (type_of% @xb12) ∧ (type_of% @xf12r0) ∧ (type_of% @xf12r1) ∧ (type_of% @xf12r2) ∧ (type_of% @xf12r3) ∧ (type_of% @xf12r4) ∧ (type_of% @xf12r5) ∧ (type_of% @xf12r6) ∧ (type_of% @xf12r7) ∧ (type_of% @xf12r8) ∧ (type_of% @xf12r9) ∧ (type_of% @xf12r10) ∧ (type_of% @xf12l0) ∧ (type_of% @xf12r11) ∧ (type_of% @xf12l1) ∧ (type_of% @xf12r12) ∧ (type_of% @i12r0.eq_1) ∧ (type_of% @i12r1.eq_1) ∧ (type_of% @i12r2.eq_1) ∧ (type_of% @i12r3.eq_1) ∧ (type_of% @i12r4.eq_1) ∧ (type_of% @i12r5.eq_1) ∧ (type_of% @i12r6.eq_1) ∧ (type_of% @i12r7.eq_1) ∧ (type_of% @i12r8.eq_1) ∧ (type_of% @i12r9.eq_1) ∧ (type_of% @i12r10.eq_1) ∧ (type_of% @i12r11.eq_1) ∧ (type_of% @i12r12.eq_1) := ⟨@f12.eq_1, @xb12, @xf12r0, @xf12r1, @xf12r2, @xf12r3, @xf12r4, @xf12r5, @xf12r6, @xf12r7, @xf12r8, @xf12r9, @xf12r10, @xf12l0, @xf12r11, @xf12l1, @xf12r12, @i12r0.eq_1, @i12r1.eq_1, @i12r2.eq_1, @i12r3.eq_1, @i12r4.eq_1, @i12r5.eq_1, @i12r6.eq_1, @i12r7.eq_1, @i12r8.eq_1, @i12r9.eq_1, @i12r10.eq_1, @i12r11.eq_1, @i12r12.eq_1⟩
theorem xf13r0 : wp T f13r0 e h Q = wpI (cW T) i13r0 e h (regQ (some [0, 1]) Q) := wq_reg ..
theorem xf13r1 : wp T f13r1 e h Q = wpI (cW T) i13r1 e h (regQ (some [0, 1, 11]) Q) := wq_reg ..
theorem xf13r2 : wp T f13r2 e h Q = wpI (cW T) i13r2 e h (regQ (some [4, 5]) Q) := wq_reg ..
theorem xf13r3 : wp T f13r3 e h Q = wpI (cW T) i13r3 e h (regQ (some [0, 1, 15]) Q) := wq_reg ..
theorem xf13r4 : wp T f13r4 e h Q = wpI (cW T) i13r4 e h (regQ (some [4, 5]) Q) := wq_reg ..
theorem xf13r5 : wp T f13r5 e h Q = wpI (cW T) i13r5 e h (regQ (some [0, 1, 6]) Q) := wq_reg ..
theorem xf13r6 : wp T f13r6 e h Q = wpI (cW T) i13r6 e h (regQ (some [0, 6, 18, 19, 20]) Q) := wq_reg ..
theorem xf13r7 : wp T f13r7 e h Q = wpI (cW T) i13r7 e h (regQ (some [0, 6, 18, 19, 20, 21]) Q) := wq_reg ..
theorem xf13r8 : wp T f13r8 e h Q = wpI (cW T) i13r8 e h (regQ (some [0, 6, 8, 18, 19, 20]) Q) := wq_reg ..
theorem xf13r9 : wp T f13r9 e h Q = wpI (cW T) i13r9 e h (regQ (some [0, 6, 18, 19, 20]) Q) := wq_reg ..
theorem xf13r10 : wp T f13r10 e h Q = wpI (cW T) i13r10 e h (regQ (some [0, 6, 18, 19, 20]) Q) := wq_reg ..
theorem xf13l0 : wp T f13l0 e h Q = wp T (.seq f13r7 (.seq (.cond (.t 21) .skip (.exit 0)) (.seq (.blk 1 (.seq f13r8 f13r9)) f13r10))) e h Q := rfl
theorem xf13r11 : wp T f13r11 e h Q = wpI (cW T) i13r11 e h (regQ (some [4, 5]) Q) := wq_reg ..
theorem xb13 : wp T b13 e h Q = wp T (.seq f13r0 (.seq (.seq f13r1 (.cond (.t 11) (.seq f13r2 .ret) .skip)) (.seq (.seq f13r3 (.cond (.t 15) (.seq f13r4 .ret) .skip)) (.seq f13r5 (.seq (.seq f13r6 (.blk 0 (.loop f13l0))) (.seq f13r11 .ret)))))) e h Q := rfl
theorem e13 : (type_of% @f13.eq_1) ∧ (type_of% @xb13) ∧ (type_of% @xf13r0) ∧ (type_of% @xf13r1) ∧ (type_of% @xf13r2) ∧ (type_of% @xf13r3) ∧ (type_of% @xf13r4) ∧ (type_of% @xf13r5) ∧ (type_of% @xf13r6) ∧ (type_of% @xf13r7) ∧ (type_of% @xf13r8) ∧ (type_of% @xf13r9) ∧ (type_of% @xf13r10) ∧ (type_of% @xf13l0) ∧ (type_of% @xf13r11) ∧ (type_of% @i13r0.eq_1) ∧ (type_of% @i13r1.eq_1) ∧ (type_of% @i13r2.eq_1) ∧ (type_of% @i13r3.eq_1) ∧ (type_of% @i13r4.eq_1) ∧ (type_of% @i13r5.eq_1) ∧ (type_of% @i13r6.eq_1) ∧ (type_of% @i13r7.eq_1) ∧ (type_of% @i13r8.eq_1) ∧ (type_of% @i13r9.eq_1) ∧ (type_of% @i13r10.eq_1) ∧ (type_of% @i13r11.eq_1) := ⟨@f13.eq_1, @xb13, @xf13r0, @xf13r1, @xf13r2, @xf13r3, @xf13r4, @xf13r5, @xf13r6, @xf13r7, @xf13r8, @xf13r9, @xf13r10, @xf13l0, @xf13r11, @i13r0.eq_1, @i13r1.eq_1, @i13r2.eq_1, @i13r3.eq_1, @i13r4.eq_1, @i13r5.eq_1, @i13r6.eq_1, @i13r7.eq_1, @i13r8.eq_1, @i13r9.eq_1, @i13r10.eq_1, @i13r11.eq_1⟩
theorem xf14r0 : wp T f14r0 e h Q = wpI (cW T) i14r0 e h (regQ (some [0, 1]) Q) := wq_reg ..
theorem xf14r1 : wp T f14r1 e h Q = wpI (cW T) i14r1 e h (regQ (some [0, 1, 11]) Q) := wq_reg ..
theorem xf14r2 : wp T f14r2 e h Q = wpI (cW T) i14r2 e h (regQ (some [4, 5]) Q) := wq_reg ..
theorem xf14r3 : wp T f14r3 e h Q = wpI (cW T) i14r3 e h (regQ (some [0, 1, 15]) Q) := wq_reg ..
theorem xf14r4 : wp T f14r4 e h Q = wpI (cW T) i14r4 e h (regQ (some [4, 5]) Q) := wq_reg ..
theorem xf14r5 : wp T f14r5 e h Q = wpI (cW T) i14r5 e h (regQ (some [0, 6]) Q) := wq_reg ..
theorem xf14r6 : wp T f14r6 e h Q = wpI (cW T) i14r6 e h (regQ (some [0, 6, 7]) Q) := wq_reg ..
theorem xf14r7 : wp T f14r7 e h Q = wpI (cW T) i14r7 e h (regQ (some [0, 6, 7, 8]) Q) := wq_reg ..
theorem xf14r8 : wp T f14r8 e h Q = wpI (cW T) i14r8 e h (regQ (some [0, 6, 7, 8, 22]) Q) := wq_reg ..
theorem xf14r9 : wp T f14r9 e h Q = wpI (cW T) i14r9 e h (regQ (some [0, 6, 7, 8, 26]) Q) := wq_reg ..
theorem xf14r10 : wp T f14r10 e h Q = wpI (cW T) i14r10 e h (regQ (some [0, 6, 7, 8]) Q) := wq_reg ..
theorem xf14r11 : wp T f14r11 e h Q = wpI (cW T) i14r11 e h (regQ (some [0, 6, 7, 8]) Q) := wq_reg ..
theorem xf14r12 : wp T f14r12 e h Q = wpI (cW T) i14r12 e h (regQ (some [0, 6, 7, 8]) Q) := wq_reg ..
theorem xf14l0 : wp T f14l0 e h Q = wp T (.seq (.seq f14r8 (.cond (.t 22) .skip (.exit 0))) (.seq (.blk 1 (.seq (.seq f14r9 (.cond (.t 26) f14r10 .skip)) f14r11)) f14r12)) e h Q := rfl
theorem xf14r13 : wp T f14r13 e h Q = wpI (cW T) i14r13 e h (regQ (some [4, 5]) Q) := wq_reg ..
theorem xb14 : wp T b14 e h Q = wp T (.seq f14r0 (.seq (.seq f14r1 (.cond (.t 11) (.seq f14r2 .ret) .skip)) (.seq (.seq f14r3 (.cond (.t 15) (.seq f14r4 .ret) .skip)) (.seq f14r5 (.seq f14r6 (.seq (.seq f14r7 (.blk 0 (.loop f14l0))) (.seq f14r13 .ret))))))) e h Q := rfl
theorem e14 : (type_of% @f14.eq_1) ∧ (type_of% @xb14) ∧ (type_of% @xf14r0) ∧ (type_of% @xf14r1) ∧ (type_of% @xf14r2) ∧ (type_of% @xf14r3) ∧ (type_of% @xf14r4) ∧ (type_of% @xf14r5) ∧ (type_of% @xf14r6) ∧ (type_of% @xf14r7) ∧ (type_of% @xf14r8) ∧ (type_of% @xf14r9) ∧ (type_of% @xf14r10) ∧ (type_of% @xf14r11) ∧ (type_of% @xf14r12) ∧ (type_of% @xf14l0) ∧ (type_of% @xf14r13) ∧ (type_of% @i14r0.eq_1) ∧ (type_of% @i14r1.eq_1) ∧ (type_of% @i14r2.eq_1) ∧ (type_of% @i14r3.eq_1) ∧ (type_of% @i14r4.eq_1) ∧ (type_of% @i14r5.eq_1) ∧ (type_of% @i14r6.eq_1) ∧ (type_of% @i14r7.eq_1) ∧ (type_of% @i14r8.eq_1) ∧ (type_of% @i14r9.eq_1) ∧ (type_of% @i14r10.eq_1) ∧ (type_of% @i14r11.eq_1) ∧ (type_of% @i14r12.eq_1) ∧ (type_of% @i14r13.eq_1) := ⟨@f14.eq_1, @xb14, @xf14r0, @xf14r1, @xf14r2, @xf14r3, @xf14r4, @xf14r5, @xf14r6, @xf14r7, @xf14r8, @xf14r9, @xf14r10, @xf14r11, @xf14r12, @xf14l0, @xf14r13, @i14r0.eq_1, @i14r1.eq_1, @i14r2.eq_1, @i14r3.eq_1, @i14r4.eq_1, @i14r5.eq_1, @i14r6.eq_1, @i14r7.eq_1, @i14r8.eq_1, @i14r9.eq_1, @i14r10.eq_1, @i14r11.eq_1, @i14r12.eq_1, @i14r13.eq_1⟩
theorem xf15r0 : wp T f15r0 e h Q = wpI (cW T) i15r0 e h (regQ (some [0, 1, 2]) Q) := wq_reg ..
theorem xf15r1 : wp T f15r1 e h Q = wpI (cW T) i15r1 e h (regQ (some [0, 1, 2, 15]) Q) := wq_reg ..
theorem xf15r2 : wp T f15r2 e h Q = wpI (cW T) i15r2 e h (regQ (some [6, 7]) Q) := wq_reg ..
theorem xf15r3 : wp T f15r3 e h Q = wpI (cW T) i15r3 e h (regQ (some [0, 1, 2, 25]) Q) := wq_reg ..
theorem xf15r4 : wp T f15r4 e h Q = wpI (cW T) i15r4 e h (regQ (some [6, 7]) Q) := wq_reg ..
theorem xf15r5 : wp T f15r5 e h Q = wpI (cW T) i15r5 e h (regQ (some [0, 2, 8]) Q) := wq_reg ..
theorem xf15r6 : wp T f15r6 e h Q = wpI (cW T) i15r6 e h (regQ (some [0, 2, 8, 9]) Q) := wq_reg ..
theorem xf15r7 : wp T f15r7 e h Q = wpI (cW T) i15r7 e h (regQ (some [8, 9, 31, 32, 33]) Q) := wq_reg ..
theorem xf15r8 : wp T f15r8 e h Q = wpI (cW T) i15r8 e h (regQ (some [8, 9, 31, 32, 33, 34]) Q) := wq_reg ..
theorem xf15r9 : wp T f15r9 e h Q = wpI (cW T) i15r9 e h (regQ (some [8, 9, 11, 31, 32, 33]) Q) := wq_reg ..
theorem xf15r10 : wp T f15r10 e h Q = wpI (cW T) i15r10 e h (regQ (some [8, 9, 12, 31, 32, 33]) Q) := wq_reg ..
theorem xf15r11 : wp T f15r11 e h Q = wpI (cW T) i15r11 e h (regQ (some [8, 9, 12, 31, 32, 33, 41]) Q) := wq_reg ..
theorem xf15r12 : wp T f15r12 e h Q = wpI (cW T) i15r12 e h (regQ (some [6, 7]) Q) := wq_reg ..
theorem xf15r13 : wp T f15r13 e h Q = wpI (cW T) i15r13 e h (regQ (some [8, 9, 31, 32, 33]) Q) := wq_reg ..
theorem xf15r14 : wp T f15r14 e h Q = wpI (cW T) i15r14 e h (regQ (some [8, 9, 31, 32, 33]) Q) := wq_reg ..
theorem xf15l0 : wp T f15l0 e h Q = wp T (.seq f15r8 (.seq (.cond (.t 34) .skip (.exit 0)) (.seq (.blk 1 (.seq f15r9 (.seq f15r10 (.seq (.seq f15r11 (.cond (.t 41) (.seq f15r12 .ret) .skip)) f15r13)))) f15r14))) e h Q := rfl
theorem xf15r15 : wp T f15r15 e h Q = wpI (cW T) i15r15 e h (regQ (some [6, 7]) Q) := wq_reg ..
theorem xb15 : wp T b15 e h Q = wp T (.seq f15r0 (.seq (.seq f15r1 (.cond (.t 15) (.seq f15r2 .ret) .skip)) (.seq (.seq f15r3 (.cond (.t 25) (.seq f15r4 .ret) .skip)) (.seq f15r5 (.seq f15r6 (.seq (.seq f15r7 (.blk 0 (.loop f15l0))) (.seq f15r15 .ret))))))) e h Q := rfl
theorem e15 : (type_of% @f15.eq_1) ∧ (type_of% @xb15) ∧ (type_of% @xf15r0) ∧ (type_of% @xf15r1) ∧ (type_of% @xf15r2) ∧ (type_of% @xf15r3) ∧ (type_of% @xf15r4) ∧ (type_of% @xf15r5) ∧ (type_of% @xf15r6) ∧ (type_of% @xf15r7) ∧ (type_of% @xf15r8) ∧ (type_of% @xf15r9) ∧ (type_of% @xf15r10) ∧ (type_of% @xf15r11) ∧ (type_of% @xf15r12) ∧ (type_of% @xf15r13) ∧ (type_of% @xf15r14) ∧ (type_of% @xf15l0) ∧ (type_of% @xf15r15) ∧ (type_of% @i15r0.eq_1) ∧ (type_of% @i15r1.eq_1) ∧ (type_of% @i15r2.eq_1) ∧ (type_of% @i15r3.eq_1) ∧ (type_of% @i15r4.eq_1) ∧ (type_of% @i15r5.eq_1) ∧ (type_of% @i15r6.eq_1) ∧ (type_of% @i15r7.eq_1) ∧ (type_of% @i15r8.eq_1) ∧ (type_of% @i15r9.eq_1) ∧ (type_of% @i15r10.eq_1) ∧ (type_of% @i15r11.eq_1) ∧ (type_of% @i15r12.eq_1) ∧ (type_of% @i15r13.eq_1) ∧ (type_of% @i15r14.eq_1) ∧ (type_of% @i15r15.eq_1) := ⟨@f15.eq_1, @xb15, @xf15r0, @xf15r1, @xf15r2, @xf15r3, @xf15r4, @xf15r5, @xf15r6, @xf15r7, @xf15r8, @xf15r9, @xf15r10, @xf15r11, @xf15r12, @xf15r13, @xf15r14, @xf15l0, @xf15r15, @i15r0.eq_1, @i15r1.eq_1, @i15r2.eq_1, @i15r3.eq_1, @i15r4.eq_1, @i15r5.eq_1, @i15r6.eq_1, @i15r7.eq_1, @i15r8.eq_1, @i15r9.eq_1, @i15r10.eq_1, @i15r11.eq_1, @i15r12.eq_1, @i15r13.eq_1, @i15r14.eq_1, @i15r15.eq_1⟩
theorem xf16r0 : wp T f16r0 e h Q = wpI (cW T) i16r0 e h (regQ (some [0, 1, 2]) Q) := wq_reg ..
theorem xf16r1 : wp T f16r1 e h Q = wpI (cW T) i16r1 e h (regQ (some [0, 1, 2, 14]) Q) := wq_reg ..
theorem xf16r2 : wp T f16r2 e h Q = wpI (cW T) i16r2 e h (regQ (some [6, 7]) Q) := wq_reg ..
theorem xf16r3 : wp T f16r3 e h Q = wpI (cW T) i16r3 e h (regQ (some [0, 1, 2, 24]) Q) := wq_reg ..
theorem xf16r4 : wp T f16r4 e h Q = wpI (cW T) i16r4 e h (regQ (some [6, 7]) Q) := wq_reg ..
theorem xf16r5 : wp T f16r5 e h Q = wpI (cW T) i16r5 e h (regQ (some [0, 1, 8]) Q) := wq_reg ..
theorem xf16r6 : wp T f16r6 e h Q = wpI (cW T) i16r6 e h (regQ (some [0, 1, 8, 9]) Q) := wq_reg ..
theorem xf16r7 : wp T f16r7 e h Q = wpI (cW T) i16r7 e h (regQ (some [0, 1, 8, 9, 10]) Q) := wq_reg ..
theorem xf16r8 : wp T f16r8 e h Q = wpI (cW T) i16r8 e h (regQ (some [0, 1, 8, 9, 10, 31]) Q) := wq_reg ..
theorem xf16r9 : wp T f16r9 e h Q = wpI (cW T) i16r9 e h (regQ (some [0, 1, 8, 9, 10, 11]) Q) := wq_reg ..
theorem xf16r10 : wp T f16r10 e h Q = wpI (cW T) i16r10 e h (regQ (some [0, 1, 8, 9, 10, 11, 42]) Q) := wq_reg ..
theorem xf16r11 : wp T f16r11 e h Q = wpI (cW T) i16r11 e h (regQ (some [6, 7]) Q) := wq_reg ..
theorem xf16r12 : wp T f16r12 e h Q = wpI (cW T) i16r12 e h (regQ (some [0, 1, 8, 9, 10]) Q) := wq_reg ..
theorem xf16r13 : wp T f16r13 e h Q = wpI (cW T) i16r13 e h (regQ (some [0, 1, 8, 9, 10]) Q) := wq_reg ..
theorem xf16l0 : wp T f16l0 e h Q = wp T (.seq (.seq f16r8 (.cond (.t 31) .skip (.exit 0))) (.seq (.blk 1 (.seq f16r9 (.seq (.seq f16r10 (.cond (.t 42) (.seq f16r11 .ret) .skip)) f16r12))) f16r13)) e h Q := rfl
theorem xf16r14 : wp T f16r14 e h Q = wpI (cW T) i16r14 e h (regQ (some [6, 7]) Q) := wq_reg ..
theorem xb16 : wp T b16 e h Q = wp T (.seq f16r0 (.seq (.seq f16r1 (.cond (.t 14) (.seq f16r2 .ret) .skip)) (.seq (.seq f16r3 (.cond (.t 24) (.seq f16r4 .ret) .skip)) (.seq f16r5 (.seq f16r6 (.seq (.seq f16r7 (.blk 0 (.loop f16l0))) (.seq f16r14 .ret))))))) e h Q := rfl
theorem e16 : (type_of% @f16.eq_1) ∧ (type_of% @xb16) ∧ (type_of% @xf16r0) ∧ (type_of% @xf16r1) ∧ (type_of% @xf16r2) ∧ (type_of% @xf16r3) ∧ (type_of% @xf16r4) ∧ (type_of% @xf16r5) ∧ (type_of% @xf16r6) ∧ (type_of% @xf16r7) ∧ (type_of% @xf16r8) ∧ (type_of% @xf16r9) ∧ (type_of% @xf16r10) ∧ (type_of% @xf16r11) ∧ (type_of% @xf16r12) ∧ (type_of% @xf16r13) ∧ (type_of% @xf16l0) ∧ (type_of% @xf16r14) ∧ (type_of% @i16r0.eq_1) ∧ (type_of% @i16r1.eq_1) ∧ (type_of% @i16r2.eq_1) ∧ (type_of% @i16r3.eq_1) ∧ (type_of% @i16r4.eq_1) ∧ (type_of% @i16r5.eq_1) ∧ (type_of% @i16r6.eq_1) ∧ (type_of% @i16r7.eq_1) ∧ (type_of% @i16r8.eq_1) ∧ (type_of% @i16r9.eq_1) ∧ (type_of% @i16r10.eq_1) ∧ (type_of% @i16r11.eq_1) ∧ (type_of% @i16r12.eq_1) ∧ (type_of% @i16r13.eq_1) ∧ (type_of% @i16r14.eq_1) := ⟨@f16.eq_1, @xb16, @xf16r0, @xf16r1, @xf16r2, @xf16r3, @xf16r4, @xf16r5, @xf16r6, @xf16r7, @xf16r8, @xf16r9, @xf16r10, @xf16r11, @xf16r12, @xf16r13, @xf16l0, @xf16r14, @i16r0.eq_1, @i16r1.eq_1, @i16r2.eq_1, @i16r3.eq_1, @i16r4.eq_1, @i16r5.eq_1, @i16r6.eq_1, @i16r7.eq_1, @i16r8.eq_1, @i16r9.eq_1, @i16r10.eq_1, @i16r11.eq_1, @i16r12.eq_1, @i16r13.eq_1, @i16r14.eq_1⟩
theorem xf17r0 : wp T f17r0 e h Q = wpI (cW T) i17r0 e h (regQ (some [0, 1]) Q) := wq_reg ..
theorem xf17r1 : wp T f17r1 e h Q = wpI (cW T) i17r1 e h (regQ (some [0, 1, 10]) Q) := wq_reg ..
theorem xf17r2 : wp T f17r2 e h Q = wpI (cW T) i17r2 e h (regQ (some [4]) Q) := wq_reg ..
theorem xf17r3 : wp T f17r3 e h Q = wpI (cW T) i17r3 e h (regQ (some [0, 1, 5]) Q) := wq_reg ..
theorem xf17r4 : wp T f17r4 e h Q = wpI (cW T) i17r4 e h (regQ (some [0, 1, 5, 14]) Q) := wq_reg ..
theorem xf17r5 : wp T f17r5 e h Q = wpI (cW T) i17r5 e h (regQ (some [0, 1, 5, 25]) Q) := wq_reg ..
theorem xf17r6 : wp T f17r6 e h Q = wpI (cW T) i17r6 e h (regQ (some [4]) Q) := wq_reg ..
theorem xf17r7 : wp T f17r7 e h Q = wpI (cW T) i17r7 e h (regQ (some [0, 1, 5]) Q) := wq_reg ..
theorem xf17l0 : wp T f17l0 e h Q = wp T (.seq (.seq f17r4 (.cond (.t 14) .skip (.exit 0))) (.seq (.blk 1 (.seq f17r5 (.cond (.t 25) (.seq f17r6 .ret) .skip))) f17r7)) e h Q := rfl
theorem xf17r8 : wp T f17r8 e h Q = wpI (cW T) i17r8 e h (regQ (some [4]) Q) := wq_reg ..
theorem xb17 : wp T b17 e h Q = wp T (.seq f17r0 (.seq (.seq f17r1 (.cond (.t 10) (.seq f17r2 .ret) .skip)) (.seq (.seq f17r3 (.blk 0 (.loop f17l0))) (.seq f17r8 .ret)))) e h Q := rfl
theorem e17 : (type_of% @f17.eq_1) ∧ (type_of% @xb17) ∧ (type_of% @xf17r0) ∧ (type_of% @xf17r1) ∧ (type_of% @xf17r2) ∧ (type_of% @xf17r3) ∧ (type_of% @xf17r4) ∧ (type_of% @xf17r5) ∧ (type_of% @xf17r6) ∧ (type_of% @xf17r7) ∧ (type_of% @xf17l0) ∧ (type_of% @xf17r8) ∧ (type_of% @i17r0.eq_1) ∧ (type_of% @i17r1.eq_1) ∧ (type_of% @i17r2.eq_1) ∧ (type_of% @i17r3.eq_1) ∧ (type_of% @i17r4.eq_1) ∧ (type_of% @i17r5.eq_1) ∧ (type_of% @i17r6.eq_1) ∧ (type_of% @i17r7.eq_1) ∧ (type_of% @i17r8.eq_1) := ⟨@f17.eq_1, @xb17, @xf17r0, @xf17r1, @xf17r2, @xf17r3, @xf17r4, @xf17r5, @xf17r6, @xf17r7, @xf17l0, @xf17r8, @i17r0.eq_1, @i17r1.eq_1, @i17r2.eq_1, @i17r3.eq_1, @i17r4.eq_1, @i17r5.eq_1, @i17r6.eq_1, @i17r7.eq_1, @i17r8.eq_1⟩
theorem xf18r0 : wp T f18r0 e h Q = wpI (cW T) i18r0 e h (regQ (some [0, 1, 5]) Q) := wq_reg ..
theorem xf18r1 : wp T f18r1 e h Q = wpI (cW T) i18r1 e h (regQ (some [6]) Q) := wq_reg ..
theorem xb18 : wp T b18 e h Q = wp T (.seq f18r0 (.seq f18r1 .ret)) e h Q := rfl
theorem e18 : (type_of% @f18.eq_1) ∧ (type_of% @xb18) ∧ (type_of% @xf18r0) ∧ (type_of% @xf18r1) ∧ (type_of% @i18r0.eq_1) ∧ (type_of% @i18r1.eq_1) := ⟨@f18.eq_1, @xb18, @xf18r0, @xf18r1, @i18r0.eq_1, @i18r1.eq_1⟩
theorem xf19r0 : wp T f19r0 e h Q = wpI (cW T) i19r0 e h (regQ (some [0, 1, 5]) Q) := wq_reg ..
theorem xf19r1 : wp T f19r1 e h Q = wpI (cW T) i19r1 e h (regQ (some [5, 7]) Q) := wq_reg ..
theorem xf19r2 : wp T f19r2 e h Q = wpI (cW T) i19r2 e h (regQ (some [5, 7, 8]) Q) := wq_reg ..
theorem xf19r3 : wp T f19r3 e h Q = wpI (cW T) i19r3 e h (regQ (some [5, 7, 8, 15]) Q) := wq_reg ..
theorem xf19r4 : wp T f19r4 e h Q = wpI (cW T) i19r4 e h (regQ (some [5, 7, 8, 23]) Q) := wq_reg ..
theorem xf19r5 : wp T f19r5 e h Q = wpI (cW T) i19r5 e h (regQ (some [6]) Q) := wq_reg ..
theorem xf19r6 : wp T f19r6 e h Q = wpI (cW T) i19r6 e h (regQ (some [5, 7, 8]) Q) := wq_reg ..
theorem xf19l0 : wp T f19l0 e h Q = wp T (.seq (.seq f19r3 (.cond (.t 15) .skip (.exit 0))) (.seq (.blk 1 (.seq f19r4 (.cond (.t 23) (.seq f19r5 .ret) .skip))) f19r6)) e h Q := rfl
theorem xf19r7 : wp T f19r7 e h Q = wpI (cW T) i19r7 e h (regQ (some [6]) Q) := wq_reg ..
theorem xb19 : wp T b19 e h Q = wp T (.seq f19r0 (.seq f19r1 (.seq (.seq f19r2 (.blk 0 (.loop f19l0))) (.seq f19r7 .ret)))) e h Q := rfl
theorem e19 : (type_of% @f19.eq_1) ∧ (type_of% @xb19) ∧ (type_of% @xf19r0) ∧ (type_of% @xf19r1) ∧ (type_of% @xf19r2) ∧ (type_of% @xf19r3) ∧ (type_of% @xf19r4) ∧ (type_of% @xf19r5) ∧ (type_of% @xf19r6) ∧ (type_of% @xf19l0) ∧ (type_of% @xf19r7) ∧ (type_of% @i19r0.eq_1) ∧ (type_of% @i19r1.eq_1) ∧ (type_of% @i19r2.eq_1) ∧ (type_of% @i19r3.eq_1) ∧ (type_of% @i19r4.eq_1) ∧ (type_of% @i19r5.eq_1) ∧ (type_of% @i19r6.eq_1) ∧ (type_of% @i19r7.eq_1) := ⟨@f19.eq_1, @xb19, @xf19r0, @xf19r1, @xf19r2, @xf19r3, @xf19r4, @xf19r5, @xf19r6, @xf19l0, @xf19r7, @i19r0.eq_1, @i19r1.eq_1, @i19r2.eq_1, @i19r3.eq_1, @i19r4.eq_1, @i19r5.eq_1, @i19r6.eq_1, @i19r7.eq_1⟩
theorem xf20r0 : wp T f20r0 e h Q = wpI (cW T) i20r0 e h (regQ (some [1]) Q) := wq_reg ..
theorem xf20r1 : wp T f20r1 e h Q = wpI (cW T) i20r1 e h (regQ (some [1, 8]) Q) := wq_reg ..
theorem xf20r2 : wp T f20r2 e h Q = wpI (cW T) i20r2 e h (regQ (some [2]) Q) := wq_reg ..
theorem xf20r3 : wp T f20r3 e h Q = wpI (cW T) i20r3 e h (regQ (some [1, 11]) Q) := wq_reg ..
theorem xf20r4 : wp T f20r4 e h Q = wpI (cW T) i20r4 e h (regQ (some [2]) Q) := wq_reg ..
theorem xf20r5 : wp T f20r5 e h Q = wpI (cW T) i20r5 e h (regQ (some [1, 13]) Q) := wq_reg ..
theorem xf20r6 : wp T f20r6 e h Q = wpI (cW T) i20r6 e h (regQ (some [2]) Q) := wq_reg ..
theorem xf20r7 : wp T f20r7 e h Q = wpI (cW T) i20r7 e h (regQ (some [1, 14, 15, 16]) Q) := wq_reg ..
theorem xf20r8 : wp T f20r8 e h Q = wpI (cW T) i20r8 e h (regQ (some [1, 14, 15, 16, 17]) Q) := wq_reg ..
theorem xf20r9 : wp T f20r9 e h Q = wpI (cW T) i20r9 e h (regQ (some [1, 4, 14, 15, 16]) Q) := wq_reg ..
theorem xf20r10 : wp T f20r10 e h Q = wpI (cW T) i20r10 e h (regQ (some [1, 14, 15, 16, 21, 22, 23]) Q) := wq_reg ..
theorem xf20r11 : wp T f20r11 e h Q = wpI (cW T) i20r11 e h (regQ (some [1, 14, 15, 16, 21, 22, 23, 24]) Q) := wq_reg ..
theorem xf20r12 : wp T f20r12 e h Q = wpI (cW T) i20r12 e h (regQ (some [1, 6, 14, 15, 16, 21, 22, 23]) Q) := wq_reg ..
theorem xf20r13 : wp T f20r13 e h Q = wpI (cW T) i20r13 e h (regQ (some [1, 14, 15, 16, 21, 22, 23, 30]) Q) := wq_reg ..
theorem xf20r14 : wp T f20r14 e h Q = wpI (cW T) i20r14 e h (regQ (some [2]) Q) := wq_reg ..
theorem xf20r15 : wp T f20r15 e h Q = wpI (cW T) i20r15 e h (regQ (some [1, 14, 15, 16, 21, 22, 23]) Q) := wq_reg ..
theorem xf20l0 : wp T f20l0 e h Q = wp T (.seq f20r11 (.seq (.cond (.t 24) .skip (.exit 2)) (.seq (.blk 3 (.seq f20r12 (.seq f20r13 (.cond (.t 30) (.seq f20r14 .ret) .skip)))) f20r15))) e h Q := rfl
theorem xf20r16 : wp T f20r16 e h Q = wpI (cW T) i20r16 e h (regQ (some [1, 14, 15, 16]) Q) := wq_reg ..
theorem xf20l1 : wp T f20l1 e h Q = wp T (.seq f20r8 (.seq (.cond (.t 17) .skip (.exit 0)) (.seq (.blk 1 (.seq f20r9 (.seq f20r10 (.blk 2 (.loop f20l0))))) f20r16))) e h Q := rfl
theorem xf20r17 : wp T f20r17 e h Q = wpI (cW T) i20r17 e h (regQ (some [35]) Q) := wq_reg ..
theorem xf20r18 : wp T f20r18 e h Q = wpI (cW T) i20r18 e h (regQ (some [2]) Q) := wq_reg ..
theorem xf20r19 : wp T f20r19 e h Q = wpI (cW T) i20r19 e h (regQ (some [2]) Q) := wq_reg ..
theorem xb20 : wp T b20 e h Q = wp T (.seq f20r0 (.seq (.seq f20r1 (.cond (.t 8) (.seq f20r2 .ret) .skip)) (.seq (.seq f20r3 (.cond (.t 11) (.seq f20r4 .ret) .skip)) (.seq (.seq f20r5 (.cond (.t 13) (.seq f20r6 .ret) .skip)) (.seq (.seq f20r7 (.blk 0 (.loop f20l1))) (.seq (.seq f20r17 (.cond (.t 35) (.seq f20r18 .ret) .skip)) (.seq f20r19 .ret))))))) e h Q := rfl
theorem e20 : (type_of% @f20.eq_1) ∧ (type_of% @xb20) ∧ (type_of% @xf20r0) ∧ (type_of% @xf20r1) ∧ (type_of% @xf20r2) ∧ (type_of% @xf20r3) ∧ (type_of% @xf20r4) ∧ (type_of% @xf20r5) ∧ (type_of% @xf20r6) ∧ (type_of% @xf20r7) ∧ (type_of% @xf20r8) ∧ (type_of% @xf20r9) ∧ (type_of% @xf20r10) ∧ (type_of% @xf20r11) ∧ (type_of% @xf20r12) ∧ (type_of% @xf20r13) ∧ (type_of% @xf20r14) ∧ (type_of% @xf20r15) ∧ (type_of% @xf20l0) ∧ (type_of% @xf20r16) ∧ (type_of% @xf20l1) ∧ (type_of% @xf20r17) ∧ (type_of% @xf20r18) ∧ (type_of% @xf20r19) ∧ (type_of% @i20r0.eq_1) ∧ (type_of% @i20r1.eq_1) ∧ (type_of% @i20r2.eq_1) ∧ (type_of% @i20r3.eq_1) ∧ (type_of% @i20r4.eq_1) ∧ (type_of% @i20r5.eq_1) ∧ (type_of% @i20r6.eq_1) ∧ (type_of% @i20r7.eq_1) ∧ (type_of% @i20r8.eq_1) ∧ (type_of% @i20r9.eq_1) ∧ (type_of% @i20r10.eq_1) ∧ (type_of% @i20r11.eq_1) ∧ (type_of% @i20r12.eq_1) ∧ (type_of% @i20r13.eq_1) ∧ (type_of% @i20r14.eq_1) ∧ (type_of% @i20r15.eq_1) ∧ (type_of% @i20r16.eq_1) ∧ (type_of% @i20r17.eq_1) ∧ (type_of% @i20r18.eq_1) ∧ (type_of% @i20r19.eq_1) := ⟨@f20.eq_1, @xb20, @xf20r0, @xf20r1, @xf20r2, @xf20r3, @xf20r4, @xf20r5, @xf20r6, @xf20r7, @xf20r8, @xf20r9, @xf20r10, @xf20r11, @xf20r12, @xf20r13, @xf20r14, @xf20r15, @xf20l0, @xf20r16, @xf20l1, @xf20r17, @xf20r18, @xf20r19, @i20r0.eq_1, @i20r1.eq_1, @i20r2.eq_1, @i20r3.eq_1, @i20r4.eq_1, @i20r5.eq_1, @i20r6.eq_1, @i20r7.eq_1, @i20r8.eq_1, @i20r9.eq_1, @i20r10.eq_1, @i20r11.eq_1, @i20r12.eq_1, @i20r13.eq_1, @i20r14.eq_1, @i20r15.eq_1, @i20r16.eq_1, @i20r17.eq_1, @i20r18.eq_1, @i20r19.eq_1⟩
theorem xf21r0 : wp T f21r0 e h Q = wpI (cW T) i21r0 e h (regQ (some [0, 1]) Q) := wq_reg ..
theorem xf21r1 : wp T f21r1 e h Q = wpI (cW T) i21r1 e h (regQ (some [4]) Q) := wq_reg ..
theorem xb21 : wp T b21 e h Q = wp T (.seq f21r0 (.seq f21r1 .ret)) e h Q := rfl
theorem e21 : (type_of% @f21.eq_1) ∧ (type_of% @xb21) ∧ (type_of% @xf21r0) ∧ (type_of% @xf21r1) ∧ (type_of% @i21r0.eq_1) ∧ (type_of% @i21r1.eq_1) := ⟨@f21.eq_1, @xb21, @xf21r0, @xf21r1, @i21r0.eq_1, @i21r1.eq_1⟩
theorem xf22r0 : wp T f22r0 e h Q = wpI (cW T) i22r0 e h (regQ (some [0, 1]) Q) := wq_reg ..
theorem xf22r1 : wp T f22r1 e h Q = wpI (cW T) i22r1 e h (regQ (some [4]) Q) := wq_reg ..
theorem xb22 : wp T b22 e h Q = wp T (.seq f22r0 (.seq f22r1 .ret)) e h Q := rfl
theorem e22 : (type_of% @f22.eq_1) ∧ (type_of% @xb22) ∧ (type_of% @xf22r0) ∧ (type_of% @xf22r1) ∧ (type_of% @i22r0.eq_1) ∧ (type_of% @i22r1.eq_1) := ⟨@f22.eq_1, @xb22, @xf22r0, @xf22r1, @i22r0.eq_1, @i22r1.eq_1⟩
theorem xf23r0 : wp T f23r0 e h Q = wpI (cW T) i23r0 e h (regQ (some [1, 2]) Q) := wq_reg ..
theorem xf23r1 : wp T f23r1 e h Q = wpI (cW T) i23r1 e h (regQ (some [1, 2, 5]) Q) := wq_reg ..
theorem xf23r2 : wp T f23r2 e h Q = wpI (cW T) i23r2 e h (regQ (some [1, 2, 5, 6]) Q) := wq_reg ..
theorem xf23r3 : wp T f23r3 e h Q = wpI (cW T) i23r3 e h (regQ (some [1, 2, 5, 6, 7]) Q) := wq_reg ..
theorem xf23r4 : wp T f23r4 e h Q = wpI (cW T) i23r4 e h (regQ (some [1, 5, 7]) Q) := wq_reg ..
theorem xf23r5 : wp T f23r5 e h Q = wpI (cW T) i23r5 e h (regQ (some [5]) Q) := wq_reg ..
theorem xf23r6 : wp T f23r6 e h Q = wpI (cW T) i23r6 e h (regQ (some [4]) Q) := wq_reg ..
theorem xb23 : wp T b23 e h Q = wp T (.seq f23r0 (.seq f23r1 (.seq f23r2 (.seq f23r3 (.seq f23r4 (.seq f23r5 (.seq f23r6 .ret))))))) e h Q := rfl
theorem e23 : (type_of% @f23.eq_1) ∧ (type_of% @xb23) ∧ (type_of% @xf23r0) ∧ (type_of% @xf23r1) ∧ (type_of% @xf23r2) ∧ (type_of% @xf23r3) ∧ (type_of% @xf23r4) ∧ (type_of% @xf23r5) ∧ (type_of% @xf23r6) ∧ (type_of% @i23r0.eq_1) ∧ (type_of% @i23r1.eq_1) ∧ (type_of% @i23r2.eq_1) ∧ (type_of% @i23r3.eq_1) ∧ (type_of% @i23r4.eq_1) ∧ (type_of% @i23r5.eq_1) ∧ (type_of% @i23r6.eq_1) := ⟨@f23.eq_1, @xb23, @xf23r0, @xf23r1, @xf23r2, @xf23r3, @xf23r4, @xf23r5, @xf23r6, @i23r0.eq_1, @i23r1.eq_1, @i23r2.eq_1, @i23r3.eq_1, @i23r4.eq_1, @i23r5.eq_1, @i23r6.eq_1⟩
theorem xf24r0 : wp T f24r0 e h Q = wpI (cW T) i24r0 e h (regQ (some [0]) Q) := wq_reg ..
theorem xf24r1 : wp T f24r1 e h Q = wpI (cW T) i24r1 e h (regQ (some [0, 3]) Q) := wq_reg ..
theorem xf24r2 : wp T f24r2 e h Q = wpI (cW T) i24r2 e h (regQ (some [2]) Q) := wq_reg ..
theorem xf24r3 : wp T f24r3 e h Q = wpI (cW T) i24r3 e h (regQ (some [0, 6]) Q) := wq_reg ..
theorem xf24r4 : wp T f24r4 e h Q = wpI (cW T) i24r4 e h (regQ (some [2]) Q) := wq_reg ..
theorem xf24r5 : wp T f24r5 e h Q = wpI (cW T) i24r5 e h (regQ (some [0, 10]) Q) := wq_reg ..
theorem xf24r6 : wp T f24r6 e h Q = wpI (cW T) i24r6 e h (regQ (some [2]) Q) := wq_reg ..
theorem xf24r7 : wp T f24r7 e h Q = wpI (cW T) i24r7 e h (regQ (some [0, 13]) Q) := wq_reg ..
theorem xf24r8 : wp T f24r8 e h Q = wpI (cW T) i24r8 e h (regQ (some [2]) Q) := wq_reg ..
theorem xf24r9 : wp T f24r9 e h Q = wpI (cW T) i24r9 e h (regQ (some [17]) Q) := wq_reg ..
theorem xf24r10 : wp T f24r10 e h Q = wpI (cW T) i24r10 e h (regQ (some [2]) Q) := wq_reg ..
theorem xf24r11 : wp T f24r11 e h Q = wpI (cW T) i24r11 e h (regQ (some [2]) Q) := wq_reg ..
theorem xb24 : wp T b24 e h Q = wp T (.seq f24r0 (.seq (.blk 0 (.seq f24r1 (.cond (.t 3) (.seq f24r2 .ret) (.seq f24r3 (.cond (.t 6) (.seq f24r4 .ret) (.seq f24r5 (.cond (.t 10) (.seq f24r6 .ret) (.seq f24r7 (.cond (.t 13) (.seq f24r8 .ret) (.seq f24r9 (.cond (.t 17) (.seq f24r10 .ret) .skip))))))))))) (.seq f24r11 .ret))) e h Q := rfl
theorem e24 : (type_of% @f24.eq_1) ∧ (type_of% @xb24) ∧ (type_of% @xf24r0) ∧ (type_of% @xf24r1) ∧ (type_of% @xf24r2) ∧ (type_of% @xf24r3) ∧ (type_of% @xf24r4) ∧ (type_of% @xf24r5) ∧ (type_of% @xf24r6) ∧ (type_of% @xf24r7) ∧ (type_of% @xf24r8) ∧ (type_of% @xf24r9) ∧ (type_of% @xf24r10) ∧ (type_of% @xf24r11) ∧ (type_of% @i24r0.eq_1) ∧ (type_of% @i24r1.eq_1) ∧ (type_of% @i24r2.eq_1) ∧ (type_of% @i24r3.eq_1) ∧ (type_of% @i24r4.eq_1) ∧ (type_of% @i24r5.eq_1) ∧ (type_of% @i24r6.eq_1) ∧ (type_of% @i24r7.eq_1) ∧ (type_of% @i24r8.eq_1) ∧ (type_of% @i24r9.eq_1) ∧ (type_of% @i24r10.eq_1) ∧ (type_of% @i24r11.eq_1) := ⟨@f24.eq_1, @xb24, @xf24r0, @xf24r1, @xf24r2, @xf24r3, @xf24r4, @xf24r5, @xf24r6, @xf24r7, @xf24r8, @xf24r9, @xf24r10, @xf24r11, @i24r0.eq_1, @i24r1.eq_1, @i24r2.eq_1, @i24r3.eq_1, @i24r4.eq_1, @i24r5.eq_1, @i24r6.eq_1, @i24r7.eq_1, @i24r8.eq_1, @i24r9.eq_1, @i24r10.eq_1, @i24r11.eq_1⟩
theorem xf25r0 : wp T f25r0 e h Q = wpI (cW T) i25r0 e h (regQ (some [0, 1]) Q) := wq_reg ..
theorem xf25r1 : wp T f25r1 e h Q = wpI (cW T) i25r1 e h (regQ (some [4]) Q) := wq_reg ..
theorem xb25 : wp T b25 e h Q = wp T (.seq f25r0 (.seq f25r1 .ret)) e h Q := rfl
theorem e25 : (type_of% @f25.eq_1) ∧ (type_of% @xb25) ∧ (type_of% @xf25r0) ∧ (type_of% @xf25r1) ∧ (type_of% @i25r0.eq_1) ∧ (type_of% @i25r1.eq_1) := ⟨@f25.eq_1, @xb25, @xf25r0, @xf25r1, @i25r0.eq_1, @i25r1.eq_1⟩
theorem xf26r0 : wp T f26r0 e h Q = wpI (cW T) i26r0 e h (regQ (some [0, 1]) Q) := wq_reg ..
theorem xf26r1 : wp T f26r1 e h Q = wpI (cW T) i26r1 e h (regQ (some [4]) Q) := wq_reg ..
theorem xb26 : wp T b26 e h Q = wp T (.seq f26r0 (.seq f26r1 .ret)) e h Q := rfl
theorem e26 : (type_of% @f26.eq_1) ∧ (type_of% @xb26) ∧ (type_of% @xf26r0) ∧ (type_of% @xf26r1) ∧ (type_of% @i26r0.eq_1) ∧ (type_of% @i26r1.eq_1) := ⟨@f26.eq_1, @xb26, @xf26r0, @xf26r1, @i26r0.eq_1, @i26r1.eq_1⟩
theorem xf28r0 : wp T f28r0 e h Q = wpI (cW T) i28r0 e h (regQ (some [0, 3]) Q) := wq_reg ..
theorem xf28r1 : wp T f28r1 e h Q = wpI (cW T) i28r1 e h (regQ (some [0, 3, 7, 8]) Q) := wq_reg ..
theorem xf28r2 : wp T f28r2 e h Q = wpI (cW T) i28r2 e h (regQ (some [0, 3, 7, 8, 9]) Q) := wq_reg ..
theorem xf28r3 : wp T f28r3 e h Q = wpI (cW T) i28r3 e h (regQ (some [0, 3, 5, 7, 8]) Q) := wq_reg ..
theorem xf28r4 : wp T f28r4 e h Q = wpI (cW T) i28r4 e h (regQ (some [0, 3, 5, 7, 8, 16]) Q) := wq_reg ..
theorem xf28r5 : wp T f28r5 e h Q = wpI (cW T) i28r5 e h (regQ (some [4]) Q) := wq_reg ..
theorem xf28r6 : wp T f28r6 e h Q = wpI (cW T) i28r6 e h (regQ (some [0, 3, 7, 8]) Q) := wq_reg ..
theorem xf28l0 : wp T f28l0 e h Q = wp T (.seq f28r2 (.seq (.cond (.t 9) .skip (.exit 0)) (.seq (.blk 1 (.seq f28r3 (.seq f28r4 (.cond (.t 16) (.seq f28r5 .ret) .skip)))) f28r6))) e h Q := rfl
theorem xf28r7 : wp T f28r7 e h Q = wpI (cW T) i28r7 e h (regQ (some [4]) Q) := wq_reg ..
theorem xb28 : wp T b28 e h Q = wp T (.seq f28r0 (.seq (.seq f28r1 (.blk 0 (.loop f28l0))) (.seq f28r7 .ret))) e h Q := rfl
theorem e28 : (type_of% @f28.eq_1) ∧ (type_of% @xb28) ∧ (type_of% @xf28r0) ∧ (type_of% @xf28r1) ∧ (type_of% @xf28r2) ∧ (type_of% @xf28r3) ∧ (type_of% @xf28r4) ∧ (type_of% @xf28r5) ∧ (type_of% @xf28r6) ∧ (type_of% @xf28l0) ∧ (type_of% @xf28r7) ∧ (type_of% @i28r0.eq_1) ∧ (type_of% @i28r1.eq_1) ∧ (type_of% @i28r2.eq_1) ∧ (type_of% @i28r3.eq_1) ∧ (type_of% @i28r4.eq_1) ∧ (type_of% @i28r5.eq_1) ∧ (type_of% @i28r6.eq_1) ∧ (type_of% @i28r7.eq_1) := ⟨@f28.eq_1, @xb28, @xf28r0, @xf28r1, @xf28r2, @xf28r3, @xf28r4, @xf28r5, @xf28r6, @xf28l0, @xf28r7, @i28r0.eq_1, @i28r1.eq_1, @i28r2.eq_1, @i28r3.eq_1, @i28r4.eq_1, @i28r5.eq_1, @i28r6.eq_1, @i28r7.eq_1⟩
theorem xf29r0 : wp T f29r0 e h Q = wpI (cW T) i29r0 e h (regQ (some [0]) Q) := wq_reg ..
theorem xf29r1 : wp T f29r1 e h Q = wpI (cW T) i29r1 e h (regQ (some [0, 7]) Q) := wq_reg ..
theorem xf29r2 : wp T f29r2 e h Q = wpI (cW T) i29r2 e h (regQ (some [2]) Q) := wq_reg ..
theorem xf29r3 : wp T f29r3 e h Q = wpI (cW T) i29r3 e h (regQ (some [8, 9, 10]) Q) := wq_reg ..
theorem xf29r4 : wp T f29r4 e h Q = wpI (cW T) i29r4 e h (regQ (some [8, 9, 10, 11]) Q) := wq_reg ..
theorem xf29r5 : wp T f29r5 e h Q = wpI (cW T) i29r5 e h (regQ (some [4, 8, 9, 10]) Q) := wq_reg ..
theorem xf29r6 : wp T f29r6 e h Q = wpI (cW T) i29r6 e h (regQ (some [8, 9, 10, 22]) Q) := wq_reg ..
theorem xf29r7 : wp T f29r7 e h Q = wpI (cW T) i29r7 e h (regQ (some [2]) Q) := wq_reg ..
theorem xf29r8 : wp T f29r8 e h Q = wpI (cW T) i29r8 e h (regQ (some [8, 9, 10]) Q) := wq_reg ..
theorem xf29l0 : wp T f29l0 e h Q = wp T (.seq f29r4 (.seq (.cond (.t 11) .skip (.exit 0)) (.seq (.blk 1 (.seq f29r5 (.seq f29r6 (.cond (.t 22) (.seq f29r7 .ret) .skip)))) f29r8))) e h Q := rfl
theorem xf29r9 : wp T f29r9 e h Q = wpI (cW T) i29r9 e h (regQ (some [2]) Q) := wq_reg ..
theorem xb29 : wp T b29 e h Q = wp T (.seq f29r0 (.seq (.seq f29r1 (.cond (.t 7) (.seq f29r2 .ret) .skip)) (.seq (.seq f29r3 (.blk 0 (.loop f29l0))) (.seq f29r9 .ret)))) e h Q := rfl
theorem e29 : (type_of% @f29.eq_1) ∧ (type_of% @xb29) ∧ (type_of% @xf29r0) ∧ (type_of% @xf29r1) ∧ (type_of% @xf29r2) ∧ (type_of% @xf29r3) ∧ (type_of% @xf29r4) ∧ (type_of% @xf29r5) ∧ (type_of% @xf29r6) ∧ (type_of% @xf29r7) ∧ (type_of% @xf29r8) ∧ (type_of% @xf29l0) ∧ (type_of% @xf29r9) ∧ (type_of% @i29r0.eq_1) ∧ (type_of% @i29r1.eq_1) ∧ (type_of% @i29r2.eq_1) ∧ (type_of% @i29r3.eq_1) ∧ (type_of% @i29r4.eq_1) ∧ (type_of% @i29r5.eq_1) ∧ (type_of% @i29r6.eq_1) ∧ (type_of% @i29r7.eq_1) ∧ (type_of% @i29r8.eq_1) ∧ (type_of% @i29r9.eq_1) := ⟨@f29.eq_1, @xb29, @xf29r0, @xf29r1, @xf29r2, @xf29r3, @xf29r4, @xf29r5, @xf29r6, @xf29r7, @xf29r8, @xf29l0, @xf29r9, @i29r0.eq_1, @i29r1.eq_1, @i29r2.eq_1, @i29r3.eq_1, @i29r4.eq_1, @i29r5.eq_1, @i29r6.eq_1, @i29r7.eq_1, @i29r8.eq_1, @i29r9.eq_1⟩
theorem xf30r0 : wp T f30r0 e h Q = wpI (cW T) i30r0 e h (regQ (some [0]) Q) := wq_reg ..
theorem xf30r1 : wp T f30r1 e h Q = wpI (cW T) i30r1 e h (regQ (some [0, 24]) Q) := wq_reg ..
theorem xf30r2 : wp T f30r2 e h Q = wpI (cW T) i30r2 e h (regQ (some [2]) Q) := wq_reg ..
theorem xf30r3 : wp T f30r3 e h Q = wpI (cW T) i30r3 e h (regQ (some [0, 3, 4]) Q) := wq_reg ..
theorem xf30r4 : wp T f30r4 e h Q = wpI (cW T) i30r4 e h (regQ (some [0, 54]) Q) := wq_reg ..
theorem xf30r5 : wp T f30r5 e h Q = wpI (cW T) i30r5 e h (regQ (some [2]) Q) := wq_reg ..
theorem xf30r6 : wp T f30r6 e h Q = wpI (cW T) i30r6 e h (regQ (some [55, 56, 57]) Q) := wq_reg ..
theorem xf30r7 : wp T f30r7 e h Q = wpI (cW T) i30r7 e h (regQ (some [55, 56, 57, 58]) Q) := wq_reg ..
theorem xf30r8 : wp T f30r8 e h Q = wpI (cW T) i30r8 e h (regQ (some [6, 55, 56, 57]) Q) := wq_reg ..
theorem xf30r9 : wp T f30r9 e h Q = wpI (cW T) i30r9 e h (regQ (some [55, 56, 57, 75]) Q) := wq_reg ..
theorem xf30r10 : wp T f30r10 e h Q = wpI (cW T) i30r10 e h (regQ (some [2]) Q) := wq_reg ..
theorem xf30r11 : wp T f30r11 e h Q = wpI (cW T) i30r11 e h (regQ (some [55, 56, 57]) Q) := wq_reg ..
theorem xf30l0 : wp T f30l0 e h Q = wp T (.seq f30r7 (.seq (.cond (.t 58) .skip (.exit 0)) (.seq (.blk 1 (.seq f30r8 (.seq f30r9 (.cond (.t 75) (.seq f30r10 .ret) .skip)))) f30r11))) e h Q := rfl
theorem xf30r12 : wp T f30r12 e h Q = wpI (cW T) i30r12 e h (regQ (some [2]) Q) := wq_reg ..
theorem xb30 : wp T b30 e h Q = wp T (.seq f30r0 (.seq (.seq f30r1 (.cond (.t 24) (.seq f30r2 .ret) .skip)) (.seq f30r3 (.seq (.seq f30r4 (.cond (.t 54) (.seq f30r5 .ret) .skip)) (.seq (.seq f30r6 (.blk 0 (.loop f30l0))) (.seq f30r12 .ret)))))) e h Q := rfl
theorem e30 : (type_of% @f30.eq_1) ∧ (type_of% @xb30) ∧ (type_of% @xf30r0) ∧ (type_of% @xf30r1) ∧ (type_of% @xf30r2) ∧ (type_of% @xf30r3) ∧ (type_of% @xf30r4) ∧ (type_of% @xf30r5) ∧ (type_of% @xf30r6) ∧ (type_of% @xf30r7) ∧ (type_of% @xf30r8) ∧ (type_of% @xf30r9) ∧ (type_of% @xf30r10) ∧ (type_of% @xf30r11) ∧ (type_of% @xf30l0) ∧ (type_of% @xf30r12) ∧ (type_of% @i30r0.eq_1) ∧ (type_of% @i30r1.eq_1) ∧ (type_of% @i30r2.eq_1) ∧ (type_of% @i30r3.eq_1) ∧ (type_of% @i30r4.eq_1) ∧ (type_of% @i30r5.eq_1) ∧ (type_of% @i30r6.eq_1) ∧ (type_of% @i30r7.eq_1) ∧ (type_of% @i30r8.eq_1) ∧ (type_of% @i30r9.eq_1) ∧ (type_of% @i30r10.eq_1) ∧ (type_of% @i30r11.eq_1) ∧ (type_of% @i30r12.eq_1) := ⟨@f30.eq_1, @xb30, @xf30r0, @xf30r1, @xf30r2, @xf30r3, @xf30r4, @xf30r5, @xf30r6, @xf30r7, @xf30r8, @xf30r9, @xf30r10, @xf30r11, @xf30l0, @xf30r12, @i30r0.eq_1, @i30r1.eq_1, @i30r2.eq_1, @i30r3.eq_1, @i30r4.eq_1, @i30r5.eq_1, @i30r6.eq_1, @i30r7.eq_1, @i30r8.eq_1, @i30r9.eq_1, @i30r10.eq_1, @i30r11.eq_1, @i30r12.eq_1⟩
theorem xf31r0 : wp T f31r0 e h Q = wpI (cW T) i31r0 e h (regQ (some [0]) Q) := wq_reg ..
theorem xf31r1 : wp T f31r1 e h Q = wpI (cW T) i31r1 e h (regQ (some [0, 3, 4]) Q) := wq_reg ..
theorem xf31r2 : wp T f31r2 e h Q = wpI (cW T) i31r2 e h (regQ (some [3, 4, 12, 13, 14]) Q) := wq_reg ..
theorem xf31r3 : wp T f31r3 e h Q = wpI (cW T) i31r3 e h (regQ (some [3, 4, 12, 13, 14, 15]) Q) := wq_reg ..
theorem xf31r4 : wp T f31r4 e h Q = wpI (cW T) i31r4 e h (regQ (some [3, 4, 6, 12, 13, 14]) Q) := wq_reg ..
theorem xf31r5 : wp T f31r5 e h Q = wpI (cW T) i31r5 e h (regQ (some [3, 4, 6, 12, 13, 14, 21]) Q) := wq_reg ..
theorem xf31r6 : wp T f31r6 e h Q = wpI (cW T) i31r6 e h (regQ (some [2]) Q) := wq_reg ..
theorem xf31r7 : wp T f31r7 e h Q = wpI (cW T) i31r7 e h (regQ (some [3, 4, 6, 12, 13, 14]) Q) := wq_reg ..
theorem xf31r8 : wp T f31r8 e h Q = wpI (cW T) i31r8 e h (regQ (some [3, 4, 12, 13, 14, 26, 27, 28]) Q) := wq_reg ..
theorem xf31r9 : wp T f31r9 e h Q = wpI (cW T) i31r9 e h (regQ (some [3, 4, 12, 13, 14, 26, 27, 28, 29]) Q) := wq_reg ..
theorem xf31r10 : wp T f31r10 e h Q = wpI (cW T) i31r10 e h (regQ (some [3, 4, 8, 12, 13, 14, 26, 27, 28]) Q) := wq_reg ..
theorem xf31r11 : wp T f31r11 e h Q = wpI (cW T) i31r11 e h (regQ (some [3, 4, 8, 12, 13, 14, 26, 27, 28, 35]) Q) := wq_reg ..
theorem xf31r12 : wp T f31r12 e h Q = wpI (cW T) i31r12 e h (regQ (some [2]) Q) := wq_reg ..
theorem xf31r13 : wp T f31r13 e h Q = wpI (cW T) i31r13 e h (regQ (some [3, 4, 12, 13, 14, 26, 27, 28]) Q) := wq_reg ..
theorem xf31r14 : wp T f31r14 e h Q = wpI (cW T) i31r14 e h (regQ (some [3, 4, 12, 13, 14, 26, 27, 28]) Q) := wq_reg ..
theorem xf31l0 : wp T f31l0 e h Q = wp T (.seq f31r9 (.seq (.cond (.t 29) .skip (.exit 2)) (.seq (.blk 3 (.seq f31r10 (.seq (.seq f31r11 (.cond (.t 35) (.seq f31r12 .ret) .skip)) f31r13))) f31r14))) e h Q := rfl
theorem xf31r15 : wp T f31r15 e h Q = wpI (cW T) i31r15 e h (regQ (some [3, 4, 12, 13, 14]) Q) := wq_reg ..
theorem xf31l1 : wp T f31l1 e h Q = wp T (.seq f31r3 (.seq (.cond (.t 15) .skip (.exit 0)) (.seq (.blk 1 (.seq f31r4 (.seq (.seq f31r5 (.cond (.t 21) (.seq f31r6 .ret) .skip)) (.seq f31r7 (.seq f31r8 (.blk 2 (.loop f31l0))))))) f31r15))) e h Q := rfl
theorem xf31r16 : wp T f31r16 e h Q = wpI (cW T) i31r16 e h (regQ (some [2]) Q) := wq_reg ..
theorem xb31 : wp T b31 e h Q = wp T (.seq f31r0 (.seq f31r1 (.seq (.seq f31r2 (.blk 0 (.loop f31l1))) (.seq f31r16 .ret)))) e h Q := rfl
theorem e31 : (type_of% @f31.eq_1) ∧ (type_of% @xb31) ∧ (type_of% @xf31r0) ∧ (type_of% @xf31r1) ∧ (type_of% @xf31r2) ∧ (type_of% @xf31r3) ∧ (type_of% @xf31r4) ∧ (type_of% @xf31r5) ∧ (type_of% @xf31r6) ∧ (type_of% @xf31r7) ∧ (type_of% @xf31r8) ∧ (type_of% @xf31r9) ∧ (type_of% @xf31r10) ∧ (type_of% @xf31r11) ∧ (type_of% @xf31r12) ∧ (type_of% @xf31r13) ∧ (type_of% @xf31r14) ∧ (type_of% @xf31l0) ∧ (type_of% @xf31r15) ∧ (type_of% @xf31l1) ∧ (type_of% @xf31r16) ∧ (type_of% @i31r0.eq_1) ∧ (type_of% @i31r1.eq_1) ∧ (type_of% @i31r2.eq_1) ∧ (type_of% @i31r3.eq_1) ∧ (type_of% @i31r4.eq_1) ∧ (type_of% @i31r5.eq_1) ∧ (type_of% @i31r6.eq_1) ∧ (type_of% @i31r7.eq_1) ∧ (type_of% @i31r8.eq_1) ∧ (type_of% @i31r9.eq_1) ∧ (type_of% @i31r10.eq_1) ∧ (type_of% @i31r11.eq_1) ∧ (type_of% @i31r12.eq_1) ∧ (type_of% @i31r13.eq_1) ∧ (type_of% @i31r14.eq_1) ∧ (type_of% @i31r15.eq_1) ∧ (type_of% @i31r16.eq_1) := ⟨@f31.eq_1, @xb31, @xf31r0, @xf31r1, @xf31r2, @xf31r3, @xf31r4, @xf31r5, @xf31r6, @xf31r7, @xf31r8, @xf31r9, @xf31r10, @xf31r11, @xf31r12, @xf31r13, @xf31r14, @xf31l0, @xf31r15, @xf31l1, @xf31r16, @i31r0.eq_1, @i31r1.eq_1, @i31r2.eq_1, @i31r3.eq_1, @i31r4.eq_1, @i31r5.eq_1, @i31r6.eq_1, @i31r7.eq_1, @i31r8.eq_1, @i31r9.eq_1, @i31r10.eq_1, @i31r11.eq_1, @i31r12.eq_1, @i31r13.eq_1, @i31r14.eq_1, @i31r15.eq_1, @i31r16.eq_1⟩
theorem xf32r0 : wp T f32r0 e h Q = wpI (cW T) i32r0 e h (regQ (some [0, 1]) Q) := wq_reg ..
theorem xf32r1 : wp T f32r1 e h Q = wpI (cW T) i32r1 e h (regQ (some [4]) Q) := wq_reg ..
theorem xb32 : wp T b32 e h Q = wp T (.seq f32r0 (.seq f32r1 .ret)) e h Q := rfl
theorem e32 : (type_of% @f32.eq_1) ∧ (type_of% @xb32) ∧ (type_of% @xf32r0) ∧ (type_of% @xf32r1) ∧ (type_of% @i32r0.eq_1) ∧ (type_of% @i32r1.eq_1) := ⟨@f32.eq_1, @xb32, @xf32r0, @xf32r1, @i32r0.eq_1, @i32r1.eq_1⟩
theorem xf33r0 : wp T f33r0 e h Q = wpI (cW T) i33r0 e h (regQ (some [0, 1]) Q) := wq_reg ..
theorem xf33r1 : wp T f33r1 e h Q = wpI (cW T) i33r1 e h (regQ (some [3]) Q) := wq_reg ..
theorem xb33 : wp T b33 e h Q = wp T (.seq f33r0 (.seq f33r1 .ret)) e h Q := rfl
theorem e33 : (type_of% @f33.eq_1) ∧ (type_of% @xb33) ∧ (type_of% @xf33r0) ∧ (type_of% @xf33r1) ∧ (type_of% @i33r0.eq_1) ∧ (type_of% @i33r1.eq_1) := ⟨@f33.eq_1, @xb33, @xf33r0, @xf33r1, @i33r0.eq_1, @i33r1.eq_1⟩
theorem xf34r0 : wp T f34r0 e h Q = wpI (cW T) i34r0 e h (regQ (some [0, 1]) Q) := wq_reg ..
theorem xf34r1 : wp T f34r1 e h Q = wpI (cW T) i34r1 e h (regQ (some [4]) Q) := wq_reg ..
theorem xb34 : wp T b34 e h Q = wp T (.seq f34r0 (.seq f34r1 .ret)) e h Q := rfl
theorem e34 : (type_of% @f34.eq_1) ∧ (type_of% @xb34) ∧ (type_of% @xf34r0) ∧ (type_of% @xf34r1) ∧ (type_of% @i34r0.eq_1) ∧ (type_of% @i34r1.eq_1) := ⟨@f34.eq_1, @xb34, @xf34r0, @xf34r1, @i34r0.eq_1, @i34r1.eq_1⟩
theorem xf35r0 : wp T f35r0 e h Q = wpI (cW T) i35r0 e h (regQ (some [0]) Q) := wq_reg ..
theorem xf35r1 : wp T f35r1 e h Q = wpI (cW T) i35r1 e h (regQ (some [0, 3]) Q) := wq_reg ..
theorem xf35r2 : wp T f35r2 e h Q = wpI (cW T) i35r2 e h (regQ (some [0, 3]) Q) := wq_reg ..
theorem xf35r3 : wp T f35r3 e h Q = wpI (cW T) i35r3 e h (regQ (some [0, 3, 4]) Q) := wq_reg ..
theorem xf35r4 : wp T f35r4 e h Q = wpI (cW T) i35r4 e h (regQ (some [0, 3, 13]) Q) := wq_reg ..
theorem xf35r5 : wp T f35r5 e h Q = wpI (cW T) i35r5 e h (regQ (some [0, 3, 4]) Q) := wq_reg ..
theorem xf35r6 : wp T f35r6 e h Q = wpI (cW T) i35r6 e h (regQ (some [0, 3, 4, 15, 16]) Q) := wq_reg ..
theorem xf35r7 : wp T f35r7 e h Q = wpI (cW T) i35r7 e h (regQ (some [0, 3, 4, 15, 16, 17]) Q) := wq_reg ..
theorem xf35r8 : wp T f35r8 e h Q = wpI (cW T) i35r8 e h (regQ (some [0, 3, 4, 5, 15, 16]) Q) := wq_reg ..
theorem xf35r9 : wp T f35r9 e h Q = wpI (cW T) i35r9 e h (regQ (some [0, 3, 4, 5, 6, 15, 16]) Q) := wq_reg ..
theorem xf35r10 : wp T f35r10 e h Q = wpI (cW T) i35r10 e h (regQ (some [0, 3, 4, 5, 15, 16, 34]) Q) := wq_reg ..
theorem xf35r11 : wp T f35r11 e h Q = wpI (cW T) i35r11 e h (regQ (some [0, 3, 4, 15, 16]) Q) := wq_reg ..
theorem xf35r12 : wp T f35r12 e h Q = wpI (cW T) i35r12 e h (regQ (some [0, 3, 4, 15, 16]) Q) := wq_reg ..
theorem xf35l0 : wp T f35l0 e h Q = wp T (.seq f35r7 (.seq (.cond (.t 17) .skip (.exit 2)) (.seq (.blk 3 (.seq f35r8 (.seq f35r9 (.seq f35r10 (.cond (.t 34) f35r11 .skip))))) f35r12))) e h Q := rfl
theorem xf35l1 : wp T f35l1 e h Q = wp T (.seq (.seq f35r4 (.cond (.t 13) .skip (.exit 0))) (.blk 1 (.seq f35r5 (.seq f35r6 (.blk 2 (.loop f35l0)))))) e h Q := rfl
theorem xf35r13 : wp T f35r13 e h Q = wpI (cW T) i35r13 e h (regQ (some [2]) Q) := wq_reg ..
theorem xb35 : wp T b35 e h Q = wp T (.seq f35r0 (.seq f35r1 (.seq f35r2 (.seq (.seq f35r3 (.blk 0 (.loop f35l1))) (.seq f35r13 .ret))))) e h Q := rfl
theorem e35 : (type_of% @f35.eq_1) ∧ (type_of% @xb35) ∧ (type_of% @xf35r0) ∧ (type_of% @xf35r1) ∧ (type_of% @xf35r2) ∧ (type_of% @xf35r3) ∧ (type_of% @xf35r4) ∧ (type_of% @xf35r5) ∧ (type_of% @xf35r6) ∧ (type_of% @xf35r7) ∧ (type_of% @xf35r8) ∧ (type_of% @xf35r9) ∧ (type_of% @xf35r10) ∧ (type_of% @xf35r11) ∧ (type_of% @xf35r12) ∧ (type_of% @xf35l0) ∧ (type_of% @xf35l1) ∧ (type_of% @xf35r13) ∧ (type_of% @i35r0.eq_1) ∧ (type_of% @i35r1.eq_1) ∧ (type_of% @i35r2.eq_1) ∧ (type_of% @i35r3.eq_1) ∧ (type_of% @i35r4.eq_1) ∧ (type_of% @i35r5.eq_1) ∧ (type_of% @i35r6.eq_1) ∧ (type_of% @i35r7.eq_1) ∧ (type_of% @i35r8.eq_1) ∧ (type_of% @i35r9.eq_1) ∧ (type_of% @i35r10.eq_1) ∧ (type_of% @i35r11.eq_1) ∧ (type_of% @i35r12.eq_1) ∧ (type_of% @i35r13.eq_1) := ⟨@f35.eq_1, @xb35, @xf35r0, @xf35r1, @xf35r2, @xf35r3, @xf35r4, @xf35r5, @xf35r6, @xf35r7, @xf35r8, @xf35r9, @xf35r10, @xf35r11, @xf35r12, @xf35l0, @xf35l1, @xf35r13, @i35r0.eq_1, @i35r1.eq_1, @i35r2.eq_1, @i35r3.eq_1, @i35r4.eq_1, @i35r5.eq_1, @i35r6.eq_1, @i35r7.eq_1, @i35r8.eq_1, @i35r9.eq_1, @i35r10.eq_1, @i35r11.eq_1, @i35r12.eq_1, @i35r13.eq_1⟩
theorem xf36r0 : wp T f36r0 e h Q = wpI (cW T) i36r0 e h (regQ (some [0, 1]) Q) := wq_reg ..
theorem xf36r1 : wp T f36r1 e h Q = wpI (cW T) i36r1 e h (regQ (some [4]) Q) := wq_reg ..
theorem xb36 : wp T b36 e h Q = wp T (.seq f36r0 (.seq f36r1 .ret)) e h Q := rfl
theorem e36 : (type_of% @f36.eq_1) ∧ (type_of% @xb36) ∧ (type_of% @xf36r0) ∧ (type_of% @xf36r1) ∧ (type_of% @i36r0.eq_1) ∧ (type_of% @i36r1.eq_1) := ⟨@f36.eq_1, @xb36, @xf36r0, @xf36r1, @i36r0.eq_1, @i36r1.eq_1⟩
theorem xf37r0 : wp T f37r0 e h Q = wpI (cW T) i37r0 e h (regQ (some [0, 1]) Q) := wq_reg ..
theorem xf37r1 : wp T f37r1 e h Q = wpI (cW T) i37r1 e h (regQ (some [0, 1, 12]) Q) := wq_reg ..
theorem xf37r2 : wp T f37r2 e h Q = wpI (cW T) i37r2 e h (regQ (some [4]) Q) := wq_reg ..
theorem xf37r3 : wp T f37r3 e h Q = wpI (cW T) i37r3 e h (regQ (some [4]) Q) := wq_reg ..
theorem xb37 : wp T b37 e h Q = wp T (.seq f37r0 (.seq (.seq f37r1 (.cond (.t 12) (.seq f37r2 .ret) .skip)) (.seq f37r3 .ret))) e h Q := rfl
theorem e37 : (type_of% @f37.eq_1) ∧ (type_of% @xb37) ∧ (type_of% @xf37r0) ∧ (type_of% @xf37r1) ∧ (type_of% @xf37r2) ∧ (type_of% @xf37r3) ∧ (type_of% @i37r0.eq_1) ∧ (type_of% @i37r1.eq_1) ∧ (type_of% @i37r2.eq_1) ∧ (type_of% @i37r3.eq_1) := ⟨@f37.eq_1, @xb37, @xf37r0, @xf37r1, @xf37r2, @xf37r3, @i37r0.eq_1, @i37r1.eq_1, @i37r2.eq_1, @i37r3.eq_1⟩
theorem xf38r0 : wp T f38r0 e h Q = wpI (cW T) i38r0 e h (regQ (some [1]) Q) := wq_reg ..
theorem xf38r1 : wp T f38r1 e h Q = wpI (cW T) i38r1 e h (regQ (some [2]) Q) := wq_reg ..
theorem xb38 : wp T b38 e h Q = wp T (.seq f38r0 (.seq f38r1 .ret)) e h Q := rfl
theorem e38 : (type_of% @f38.eq_1) ∧ (type_of% @xb38) ∧ (type_of% @xf38r0) ∧ (type_of% @xf38r1) ∧ (type_of% @i38r0.eq_1) ∧ (type_of% @i38r1.eq_1) := ⟨@f38.eq_1, @xb38, @xf38r0, @xf38r1, @i38r0.eq_1, @i38r1.eq_1⟩
theorem xf39r0 : wp T f39r0 e h Q = wpI (cW T) i39r0 e h (regQ (some [0, 1, 2, 3, 4, 17]) Q) := wq_reg ..
theorem xf39r1 : wp T f39r1 e h Q = wpI (cW T) i39r1 e h (regQ (some [0, 2, 3, 4]) Q) := wq_reg ..
theorem xf39r2 : wp T f39r2 e h Q = wpI (cW T) i39r2 e h (regQ (some [0, 2, 4]) Q) := wq_reg ..
theorem xf39r3 : wp T f39r3 e h Q = wpI (cW T) i39r3 e h (regQ (some [4, 29, 30, 31]) Q) := wq_reg ..
theorem xf39r4 : wp T f39r4 e h Q = wpI (cW T) i39r4 e h (regQ (some [4, 29, 30, 31, 32]) Q) := wq_reg ..
theorem xf39r5 : wp T f39r5 e h Q = wpI (cW T) i39r5 e h (regQ (some [4, 7, 29, 30, 31]) Q) := wq_reg ..
theorem xf39r6 : wp T f39r6 e h Q = wpI (cW T) i39r6 e h (regQ (some [4, 29, 30, 31, 36, 37, 38]) Q) := wq_reg ..
theorem xf39r7 : wp T f39r7 e h Q = wpI (cW T) i39r7 e h (regQ (some [4, 29, 30, 31, 36, 37, 38, 39]) Q) := wq_reg ..
theorem xf39r8 : wp T f39r8 e h Q = wpI (cW T) i39r8 e h (regQ (some [4, 9, 29, 30, 31, 36, 37, 38]) Q) := wq_reg ..
theorem xf39r9 : wp T f39r9 e h Q = wpI (cW T) i39r9 e h (regQ (some [4, 29, 30, 31, 36, 37, 38]) Q) := wq_reg ..
theorem xf39r10 : wp T f39r10 e h Q = wpI (cW T) i39r10 e h (regQ (some [4, 29, 30, 31, 36, 37, 38]) Q) := wq_reg ..
theorem xf39l0 : wp T f39l0 e h Q = wp T (.seq f39r7 (.seq (.cond (.t 39) .skip (.exit 2)) (.seq (.blk 3 (.seq f39r8 f39r9)) f39r10))) e h Q := rfl
theorem xf39r11 : wp T f39r11 e h Q = wpI (cW T) i39r11 e h (regQ (some [4, 29, 30, 31]) Q) := wq_reg ..
theorem xf39l1 : wp T f39l1 e h Q = wp T (.seq f39r4 (.seq (.cond (.t 32) .skip (.exit 0)) (.seq (.blk 1 (.seq f39r5 (.seq f39r6 (.blk 2 (.loop f39l0))))) f39r11))) e h Q := rfl
theorem xb39 : wp T b39 e h Q = wp T (.seq (.seq f39r0 (.cond (.t 17) .ret .skip)) (.seq f39r1 (.seq f39r2 (.seq f39r3 (.blk 0 (.loop f39l1)))))) e h Q := rfl
theorem e39 : (type_of% @f39.eq_1) ∧ (type_of% @xb39) ∧ (type_of% @xf39r0) ∧ (type_of% @xf39r1) ∧ (type_of% @xf39r2) ∧ (type_of% @xf39r3) ∧ (type_of% @xf39r4) ∧ (type_of% @xf39r5) ∧ (type_of% @xf39r6) ∧ (type_of% @xf39r7) ∧ (type_of% @xf39r8) ∧ (type_of% @xf39r9) ∧ (type_of% @xf39r10) ∧ (type_of% @xf39l0) ∧ (type_of% @xf39r11) ∧ (type_of% @xf39l1) ∧ (type_of% @i39r0.eq_1) ∧ (type_of% @i39r1.eq_1) ∧ (type_of% @i39r2.eq_1) ∧ (type_of% @i39r3.eq_1) ∧ (type_of% @i39r4.eq_1) ∧ (type_of% @i39r5.eq_1) ∧ (type_of% @i39r6.eq_1) ∧ (type_of% @i39r7.eq_1) ∧ (type_of% @i39r8.eq_1) ∧ (type_of% @i39r9.eq_1) ∧ (type_of% @i39r10.eq_1) ∧ (type_of% @i39r11.eq_1) := ⟨@f39.eq_1, @xb39, @xf39r0, @xf39r1, @xf39r2, @xf39r3, @xf39r4, @xf39r5, @xf39r6, @xf39r7, @xf39r8, @xf39r9, @xf39r10, @xf39l0, @xf39r11, @xf39l1, @i39r0.eq_1, @i39r1.eq_1, @i39r2.eq_1, @i39r3.eq_1, @i39r4.eq_1, @i39r5.eq_1, @i39r6.eq_1, @i39r7.eq_1, @i39r8.eq_1, @i39r9.eq_1, @i39r10.eq_1, @i39r11.eq_1⟩
theorem xf40r0 : wp T f40r0 e h Q = wpI (cW T) i40r0 e h (regQ (some [0]) Q) := wq_reg ..
theorem xf40r1 : wp T f40r1 e h Q = wpI (cW T) i40r1 e h (regQ (some [0, 7]) Q) := wq_reg ..
theorem xf40r2 : wp T f40r2 e h Q = wpI (cW T) i40r2 e h (regQ (some [2]) Q) := wq_reg ..
theorem xf40r3 : wp T f40r3 e h Q = wpI (cW T) i40r3 e h (regQ (some [0, 3]) Q) := wq_reg ..
theorem xf40r4 : wp T f40r4 e h Q = wpI (cW T) i40r4 e h (regQ (some [0, 3, 11]) Q) := wq_reg ..
theorem xf40r5 : wp T f40r5 e h Q = wpI (cW T) i40r5 e h (regQ (some [0, 3, 20]) Q) := wq_reg ..
theorem xf40r6 : wp T f40r6 e h Q = wpI (cW T) i40r6 e h (regQ (some [2]) Q) := wq_reg ..
theorem xf40r7 : wp T f40r7 e h Q = wpI (cW T) i40r7 e h (regQ (some [0, 3, 4]) Q) := wq_reg ..
theorem xf40r8 : wp T f40r8 e h Q = wpI (cW T) i40r8 e h (regQ (some [0, 3, 4, 28]) Q) := wq_reg ..
theorem xf40r9 : wp T f40r9 e h Q = wpI (cW T) i40r9 e h (regQ (some [0, 3, 4, 41]) Q) := wq_reg ..
theorem xf40r10 : wp T f40r10 e h Q = wpI (cW T) i40r10 e h (regQ (some [2]) Q) := wq_reg ..
theorem xf40r11 : wp T f40r11 e h Q = wpI (cW T) i40r11 e h (regQ (some [0, 3, 4]) Q) := wq_reg ..
theorem xf40l0 : wp T f40l0 e h Q = wp T (.seq (.seq f40r8 (.cond (.t 28) .skip (.exit 2))) (.seq (.blk 3 (.seq f40r9 (.cond (.t 41) (.seq f40r10 .ret) .skip))) f40r11)) e h Q := rfl
theorem xf40r12 : wp T f40r12 e h Q = wpI (cW T) i40r12 e h (regQ (some [0, 3]) Q) := wq_reg ..
theorem xf40l1 : wp T f40l1 e h Q = wp T (.seq (.seq f40r4 (.cond (.t 11) .skip (.exit 0))) (.seq (.blk 1 (.seq (.seq f40r5 (.cond (.t 20) (.seq f40r6 .ret) .skip)) (.seq f40r7 (.blk 2 (.loop f40l0))))) f40r12)) e h Q := rfl
theorem xf40r13 : wp T f40r13 e h Q = wpI (cW T) i40r13 e h (regQ (some [2]) Q) := wq_reg ..
theorem xb40 : wp T b40 e h Q = wp T (.seq f40r0 (.seq (.seq f40r1 (.cond (.t 7) (.seq f40r2 .ret) .skip)) (.seq (.seq f40r3 (.blk 0 (.loop f40l1))) (.seq f40r13 .ret)))) e h Q := rfl
theorem e40 : (type_of% @f40.eq_1) ∧ (type_of% @xb40) ∧ (type_of% @xf40r0) ∧ (type_of% @xf40r1) ∧ (type_of% @xf40r2) ∧ (type_of% @xf40r3) ∧ (type_of% @xf40r4) ∧ (type_of% @xf40r5) ∧ (type_of% @xf40r6) ∧ (type_of% @xf40r7) ∧ (type_of% @xf40r8) ∧ (type_of% @xf40r9) ∧ (type_of% @xf40r10) ∧ (type_of% @xf40r11) ∧ (type_of% @xf40l0) ∧ (type_of% @xf40r12) ∧ (type_of% @xf40l1) ∧ (type_of% @xf40r13) ∧ (type_of% @i40r0.eq_1) ∧ (type_of% @i40r1.eq_1) ∧ (type_of% @i40r2.eq_1) ∧ (type_of% @i40r3.eq_1) ∧ (type_of% @i40r4.eq_1) ∧ (type_of% @i40r5.eq_1) ∧ (type_of% @i40r6.eq_1) ∧ (type_of% @i40r7.eq_1) ∧ (type_of% @i40r8.eq_1) ∧ (type_of% @i40r9.eq_1) ∧ (type_of% @i40r10.eq_1) ∧ (type_of% @i40r11.eq_1) ∧ (type_of% @i40r12.eq_1) ∧ (type_of% @i40r13.eq_1) := ⟨@f40.eq_1, @xb40, @xf40r0, @xf40r1, @xf40r2, @xf40r3, @xf40r4, @xf40r5, @xf40r6, @xf40r7, @xf40r8, @xf40r9, @xf40r10, @xf40r11, @xf40l0, @xf40r12, @xf40l1, @xf40r13, @i40r0.eq_1, @i40r1.eq_1, @i40r2.eq_1, @i40r3.eq_1, @i40r4.eq_1, @i40r5.eq_1, @i40r6.eq_1, @i40r7.eq_1, @i40r8.eq_1, @i40r9.eq_1, @i40r10.eq_1, @i40r11.eq_1, @i40r12.eq_1, @i40r13.eq_1⟩
theorem xf41r0 : wp T f41r0 e h Q = wpI (cW T) i41r0 e h (regQ (some [0]) Q) := wq_reg ..
theorem xf41r1 : wp T f41r1 e h Q = wpI (cW T) i41r1 e h (regQ (some [0, 24]) Q) := wq_reg ..
theorem xf41r2 : wp T f41r2 e h Q = wpI (cW T) i41r2 e h (regQ (some [2]) Q) := wq_reg ..
theorem xf41r3 : wp T f41r3 e h Q = wpI (cW T) i41r3 e h (regQ (some [0, 3, 4]) Q) := wq_reg ..
theorem xf41r4 : wp T f41r4 e h Q = wpI (cW T) i41r4 e h (regQ (some [0, 56]) Q) := wq_reg ..
theorem xf41r5 : wp T f41r5 e h Q = wpI (cW T) i41r5 e h (regQ (some [2]) Q) := wq_reg ..
theorem xf41r6 : wp T f41r6 e h Q = wpI (cW T) i41r6 e h (regQ (some [0, 5]) Q) := wq_reg ..
theorem xf41r7 : wp T f41r7 e h Q = wpI (cW T) i41r7 e h (regQ (some [0, 5, 60]) Q) := wq_reg ..
theorem xf41r8 : wp T f41r8 e h Q = wpI (cW T) i41r8 e h (regQ (some [0, 5, 78]) Q) := wq_reg ..
theorem xf41r9 : wp T f41r9 e h Q = wpI (cW T) i41r9 e h (regQ (some [2]) Q) := wq_reg ..
theorem xf41r10 : wp T f41r10 e h Q = wpI (cW T) i41r10 e h (regQ (some [0, 5, 6]) Q) := wq_reg ..
theorem xf41r11 : wp T f41r11 e h Q = wpI (cW T) i41r11 e h (regQ (some [0, 5, 6, 86]) Q) := wq_reg ..
theorem xf41r12 : wp T f41r12 e h Q = wpI (cW T) i41r12 e h (regQ (some [0, 5, 6, 99]) Q) := wq_reg ..
theorem xf41r13 : wp T f41r13 e h Q = wpI (cW T) i41r13 e h (regQ (some [2]) Q) := wq_reg ..
theorem xf41r14 : wp T f41r14 e h Q = wpI (cW T) i41r14 e h (regQ (some [0, 5, 6]) Q) := wq_reg ..
theorem xf41l0 : wp T f41l0 e h Q = wp T (.seq (.seq f41r11 (.cond (.t 86) .skip (.exit 2))) (.seq (.blk 3 (.seq f41r12 (.cond (.t 99) (.seq f41r13 .ret) .skip))) f41r14)) e h Q := rfl
theorem xf41r15 : wp T f41r15 e h Q = wpI (cW T) i41r15 e h (regQ (some [0, 5]) Q) := wq_reg ..
theorem xf41l1 : wp T f41l1 e h Q = wp T (.seq (.seq f41r7 (.cond (.t 60) .skip (.exit 0))) (.seq (.blk 1 (.seq (.seq f41r8 (.cond (.t 78) (.seq f41r9 .ret) .skip)) (.seq f41r10 (.blk 2 (.loop f41l0))))) f41r15)) e h Q := rfl
theorem xf41r16 : wp T f41r16 e h Q = wpI (cW T) i41r16 e h (regQ (some [2]) Q) := wq_reg ..
theorem xb41 : wp T b41 e h Q = wp T (.seq f41r0 (.seq (.seq f41r1 (.cond (.t 24) (.seq f41r2 .ret) .skip)) (.seq f41r3 (.seq (.seq f41r4 (.cond (.t 56) (.seq f41r5 .ret) .skip)) (.seq (.seq f41r6 (.blk 0 (.loop f41l1))) (.seq f41r16 .ret)))))) e h Q := rfl
theorem e41 : (type_of% @f41.eq_1) ∧ (type_of% @xb41) ∧ (type_of% @xf41r0) ∧ (type_of% @xf41r1) ∧ (type_of% @xf41r2) ∧ (type_of% @xf41r3) ∧ (type_of% @xf41r4) ∧ (type_of% @xf41r5) ∧ (type_of% @xf41r6) ∧ (type_of% @xf41r7) ∧ (type_of% @xf41r8) ∧ (type_of% @xf41r9) ∧ (type_of% @xf41r10) ∧ (type_of% @xf41r11) ∧ (type_of% @xf41r12) ∧ (type_of% @xf41r13) ∧ (type_of% @xf41r14) ∧ (type_of% @xf41l0) ∧ (type_of% @xf41r15) ∧ (type_of% @xf41l1) ∧ (type_of% @xf41r16) ∧ (type_of% @i41r0.eq_1) ∧ (type_of% @i41r1.eq_1) ∧ (type_of% @i41r2.eq_1) ∧ (type_of% @i41r3.eq_1) ∧ (type_of% @i41r4.eq_1) ∧ (type_of% @i41r5.eq_1) ∧ (type_of% @i41r6.eq_1) ∧ (type_of% @i41r7.eq_1) ∧ (type_of% @i41r8.eq_1) ∧ (type_of% @i41r9.eq_1) ∧ (type_of% @i41r10.eq_1) ∧ (type_of% @i41r11.eq_1) ∧ (type_of% @i41r12.eq_1) ∧ (type_of% @i41r13.eq_1) ∧ (type_of% @i41r14.eq_1) ∧ (type_of% @i41r15.eq_1) ∧ (type_of% @i41r16.eq_1) := ⟨@f41.eq_1, @xb41, @xf41r0, @xf41r1, @xf41r2, @xf41r3, @xf41r4, @xf41r5, @xf41r6, @xf41r7, @xf41r8, @xf41r9, @xf41r10, @xf41r11, @xf41r12, @xf41r13, @xf41r14, @xf41l0, @xf41r15, @xf41l1, @xf41r16, @i41r0.eq_1, @i41r1.eq_1, @i41r2.eq_1, @i41r3.eq_1, @i41r4.eq_1, @i41r5.eq_1, @i41r6.eq_1, @i41r7.eq_1, @i41r8.eq_1, @i41r9.eq_1, @i41r10.eq_1, @i41r11.eq_1, @i41r12.eq_1, @i41r13.eq_1, @i41r14.eq_1, @i41r15.eq_1, @i41r16.eq_1⟩
theorem xf42r0 : wp T f42r0 e h Q = wpI (cW T) i42r0 e h (regQ (some [0]) Q) := wq_reg ..
theorem xf42r1 : wp T f42r1 e h Q = wpI (cW T) i42r1 e h (regQ (some [0, 3, 4]) Q) := wq_reg ..
theorem xf42r2 : wp T f42r2 e h Q = wpI (cW T) i42r2 e h (regQ (some [0, 3, 4]) Q) := wq_reg ..
theorem xf42r3 : wp T f42r3 e h Q = wpI (cW T) i42r3 e h (regQ (some [0, 3, 4, 5]) Q) := wq_reg ..
theorem xf42r4 : wp T f42r4 e h Q = wpI (cW T) i42r4 e h (regQ (some [0, 3, 4, 5, 13]) Q) := wq_reg ..
theorem xf42r5 : wp T f42r5 e h Q = wpI (cW T) i42r5 e h (regQ (some [0, 3, 4, 5, 22]) Q) := wq_reg ..
theorem xf42r6 : wp T f42r6 e h Q = wpI (cW T) i42r6 e h (regQ (some [2]) Q) := wq_reg ..
theorem xf42r7 : wp T f42r7 e h Q = wpI (cW T) i42r7 e h (regQ (some [0, 3, 4, 5]) Q) := wq_reg ..
theorem xf42r8 : wp T f42r8 e h Q = wpI (cW T) i42r8 e h (regQ (some [0, 3, 4, 5, 6]) Q) := wq_reg ..
theorem xf42r9 : wp T f42r9 e h Q = wpI (cW T) i42r9 e h (regQ (some [0, 3, 4, 5, 6, 38]) Q) := wq_reg ..
theorem xf42r10 : wp T f42r10 e h Q = wpI (cW T) i42r10 e h (regQ (some [0, 3, 4, 5, 6, 51]) Q) := wq_reg ..
theorem xf42r11 : wp T f42r11 e h Q = wpI (cW T) i42r11 e h (regQ (some [2]) Q) := wq_reg ..
theorem xf42r12 : wp T f42r12 e h Q = wpI (cW T) i42r12 e h (regQ (some [0, 3, 4, 5, 6]) Q) := wq_reg ..
theorem xf42r13 : wp T f42r13 e h Q = wpI (cW T) i42r13 e h (regQ (some [0, 3, 4, 5, 6]) Q) := wq_reg ..
theorem xf42l0 : wp T f42l0 e h Q = wp T (.seq (.seq f42r9 (.cond (.t 38) .skip (.exit 2))) (.seq (.blk 3 (.seq (.seq f42r10 (.cond (.t 51) (.seq f42r11 .ret) .skip)) f42r12)) f42r13)) e h Q := rfl
theorem xf42r14 : wp T f42r14 e h Q = wpI (cW T) i42r14 e h (regQ (some [0, 3, 4, 5]) Q) := wq_reg ..
theorem xf42l1 : wp T f42l1 e h Q = wp T (.seq (.seq f42r4 (.cond (.t 13) .skip (.exit 0))) (.seq (.blk 1 (.seq (.seq f42r5 (.cond (.t 22) (.seq f42r6 .ret) .skip)) (.seq f42r7 (.seq f42r8 (.blk 2 (.loop f42l0)))))) f42r14)) e h Q := rfl
theorem xf42r15 : wp T f42r15 e h Q = wpI (cW T) i42r15 e h (regQ (some [2]) Q) := wq_reg ..
theorem xb42 : wp T b42 e h Q = wp T (.seq f42r0 (.seq f42r1 (.seq f42r2 (.seq (.seq f42r3 (.blk 0 (.loop f42l1))) (.seq f42r15 .ret))))) e h Q := rfl
theorem e42 : (type_of% @f42.eq_1) ∧ (type_of% @xb42) ∧ (type_of% @xf42r0) ∧ (type_of% @xf42r1) ∧ (type_of% @xf42r2) ∧ (type_of% @xf42r3) ∧ (type_of% @xf42r4) ∧ (type_of% @xf42r5) ∧ (type_of% @xf42r6) ∧ (type_of% @xf42r7) ∧ (type_of% @xf42r8) ∧ (type_of% @xf42r9) ∧ (type_of% @xf42r10) ∧ (type_of% @xf42r11) ∧ (type_of% @xf42r12) ∧ (type_of% @xf42r13) ∧ (type_of% @xf42l0) ∧ (type_of% @xf42r14) ∧ (type_of% @xf42l1) ∧ (type_of% @xf42r15) ∧ (type_of% @i42r0.eq_1) ∧ (type_of% @i42r1.eq_1) ∧ (type_of% @i42r2.eq_1) ∧ (type_of% @i42r3.eq_1) ∧ (type_of% @i42r4.eq_1) ∧ (type_of% @i42r5.eq_1) ∧ (type_of% @i42r6.eq_1) ∧ (type_of% @i42r7.eq_1) ∧ (type_of% @i42r8.eq_1) ∧ (type_of% @i42r9.eq_1) ∧ (type_of% @i42r10.eq_1) ∧ (type_of% @i42r11.eq_1) ∧ (type_of% @i42r12.eq_1) ∧ (type_of% @i42r13.eq_1) ∧ (type_of% @i42r14.eq_1) ∧ (type_of% @i42r15.eq_1) := ⟨@f42.eq_1, @xb42, @xf42r0, @xf42r1, @xf42r2, @xf42r3, @xf42r4, @xf42r5, @xf42r6, @xf42r7, @xf42r8, @xf42r9, @xf42r10, @xf42r11, @xf42r12, @xf42r13, @xf42l0, @xf42r14, @xf42l1, @xf42r15, @i42r0.eq_1, @i42r1.eq_1, @i42r2.eq_1, @i42r3.eq_1, @i42r4.eq_1, @i42r5.eq_1, @i42r6.eq_1, @i42r7.eq_1, @i42r8.eq_1, @i42r9.eq_1, @i42r10.eq_1, @i42r11.eq_1, @i42r12.eq_1, @i42r13.eq_1, @i42r14.eq_1, @i42r15.eq_1⟩
theorem xf43r0 : wp T f43r0 e h Q = wpI (cW T) i43r0 e h (regQ (some [0]) Q) := wq_reg ..
theorem xf43r1 : wp T f43r1 e h Q = wpI (cW T) i43r1 e h (regQ (some [0, 3]) Q) := wq_reg ..
theorem xf43r2 : wp T f43r2 e h Q = wpI (cW T) i43r2 e h (regQ (some [0, 3, 10]) Q) := wq_reg ..
theorem xf43r3 : wp T f43r3 e h Q = wpI (cW T) i43r3 e h (regQ (some [0, 3, 4]) Q) := wq_reg ..
theorem xf43r4 : wp T f43r4 e h Q = wpI (cW T) i43r4 e h (regQ (some [0, 3, 4, 20]) Q) := wq_reg ..
theorem xf43r5 : wp T f43r5 e h Q = wpI (cW T) i43r5 e h (regQ (some [0, 3, 4, 5]) Q) := wq_reg ..
theorem xf43r6 : wp T f43r6 e h Q = wpI (cW T) i43r6 e h (regQ (some [0, 3, 4, 5, 6]) Q) := wq_reg ..
theorem xf43r7 : wp T f43r7 e h Q = wpI (cW T) i43r7 e h (regQ (some [0, 3, 4, 5, 6, 35]) Q) := wq_reg ..
theorem xf43r8 : wp T f43r8 e h Q = wpI (cW T) i43r8 e h (regQ (some [0, 3, 4, 5, 6, 44]) Q) := wq_reg ..
theorem xf43r9 : wp T f43r9 e h Q = wpI (cW T) i43r9 e h (regQ (some [2]) Q) := wq_reg ..
theorem xf43r10 : wp T f43r10 e h Q = wpI (cW T) i43r10 e h (regQ (some [0, 3, 4, 5, 6]) Q) := wq_reg ..
theorem xf43l0 : wp T f43l0 e h Q = wp T (.seq (.seq f43r7 (.cond (.t 35) .skip (.exit 4))) (.seq (.blk 5 (.seq f43r8 (.cond (.t 44) (.seq f43r9 .ret) .skip))) f43r10)) e h Q := rfl
theorem xf43r11 : wp T f43r11 e h Q = wpI (cW T) i43r11 e h (regQ (some [0, 3, 4]) Q) := wq_reg ..
theorem xf43l1 : wp T f43l1 e h Q = wp T (.seq (.seq f43r4 (.cond (.t 20) .skip (.exit 2))) (.seq (.blk 3 (.seq f43r5 (.seq f43r6 (.blk 4 (.loop f43l0))))) f43r11)) e h Q := rfl
theorem xf43r12 : wp T f43r12 e h Q = wpI (cW T) i43r12 e h (regQ (some [0, 3]) Q) := wq_reg ..
theorem xf43l2 : wp T f43l2 e h Q = wp T (.seq (.seq f43r2 (.cond (.t 10) .skip (.exit 0))) (.seq (.blk 1 (.seq f43r3 (.blk 2 (.loop f43l1)))) f43r12)) e h Q := rfl
theorem xf43r13 : wp T f43r13 e h Q = wpI (cW T) i43r13 e h (regQ (some [2]) Q) := wq_reg ..
theorem xb43 : wp T b43 e h Q = wp T (.seq f43r0 (.seq (.seq f43r1 (.blk 0 (.loop f43l2))) (.seq f43r13 .ret))) e h Q := rfl
theorem e43 : (type_of% @f43.eq_1) ∧ (type_of% @xb43) ∧ (type_of% @xf43r0) ∧ (type_of% @xf43r1) ∧ (type_of% @xf43r2) ∧ (type_of% @xf43r3) ∧ (type_of% @xf43r4) ∧ (type_of% @xf43r5) ∧ (type_of% @xf43r6) ∧ (type_of% @xf43r7) ∧ (type_of% @xf43r8) ∧ (type_of% @xf43r9) ∧ (type_of% @xf43r10) ∧ (type_of% @xf43l0) ∧ (type_of% @xf43r11) ∧ (type_of% @xf43l1) ∧ (type_of% @xf43r12) ∧ (type_of% @xf43l2) ∧ (type_of% @xf43r13) ∧ (type_of% @i43r0.eq_1) ∧ (type_of% @i43r1.eq_1) ∧ (type_of% @i43r2.eq_1) ∧ (type_of% @i43r3.eq_1) ∧ (type_of% @i43r4.eq_1) ∧ (type_of% @i43r5.eq_1) ∧ (type_of% @i43r6.eq_1) ∧ (type_of% @i43r7.eq_1) ∧ (type_of% @i43r8.eq_1) ∧ (type_of% @i43r9.eq_1) ∧ (type_of% @i43r10.eq_1) ∧ (type_of% @i43r11.eq_1) ∧ (type_of% @i43r12.eq_1) ∧ (type_of% @i43r13.eq_1) := ⟨@f43.eq_1, @xb43, @xf43r0, @xf43r1, @xf43r2, @xf43r3, @xf43r4, @xf43r5, @xf43r6, @xf43r7, @xf43r8, @xf43r9, @xf43r10, @xf43l0, @xf43r11, @xf43l1, @xf43r12, @xf43l2, @xf43r13, @i43r0.eq_1, @i43r1.eq_1, @i43r2.eq_1, @i43r3.eq_1, @i43r4.eq_1, @i43r5.eq_1, @i43r6.eq_1, @i43r7.eq_1, @i43r8.eq_1, @i43r9.eq_1, @i43r10.eq_1, @i43r11.eq_1, @i43r12.eq_1, @i43r13.eq_1⟩
theorem xf44r0 : wp T f44r0 e h Q = wpI (cW T) i44r0 e h (regQ (some [0]) Q) := wq_reg ..
theorem xf44r1 : wp T f44r1 e h Q = wpI (cW T) i44r1 e h (regQ (some [0, 3]) Q) := wq_reg ..
theorem xf44r2 : wp T f44r2 e h Q = wpI (cW T) i44r2 e h (regQ (some [0, 3]) Q) := wq_reg ..
theorem xf44r3 : wp T f44r3 e h Q = wpI (cW T) i44r3 e h (regQ (some [0, 3, 4]) Q) := wq_reg ..
theorem xf44r4 : wp T f44r4 e h Q = wpI (cW T) i44r4 e h (regQ (some [0, 3, 4, 20]) Q) := wq_reg ..
theorem xf44r5 : wp T f44r5 e h Q = wpI (cW T) i44r5 e h (regQ (some [0, 3, 4, 5]) Q) := wq_reg ..
theorem xf44r6 : wp T f44r6 e h Q = wpI (cW T) i44r6 e h (regQ (some [0, 3, 4, 5, 26]) Q) := wq_reg ..
theorem xf44r7 : wp T f44r7 e h Q = wpI (cW T) i44r7 e h (regQ (some [0, 3, 4, 5, 6]) Q) := wq_reg ..
theorem xf44r8 : wp T f44r8 e h Q = wpI (cW T) i44r8 e h (regQ (some [0, 3, 4, 5, 6, 36]) Q) := wq_reg ..
theorem xf44r9 : wp T f44r9 e h Q = wpI (cW T) i44r9 e h (regQ (some [0, 3, 4, 5, 6, 7]) Q) := wq_reg ..
theorem xf44r10 : wp T f44r10 e h Q = wpI (cW T) i44r10 e h (regQ (some [0, 3, 4, 5, 6, 7, 8]) Q) := wq_reg ..
theorem xf44r11 : wp T f44r11 e h Q = wpI (cW T) i44r11 e h (regQ (some [0, 3, 4, 5, 6, 7, 8, 9]) Q) := wq_reg ..
theorem xf44r12 : wp T f44r12 e h Q = wpI (cW T) i44r12 e h (regQ (some [0, 3, 4, 5, 6, 7, 8, 9, 51]) Q) := wq_reg ..
theorem xf44r13 : wp T f44r13 e h Q = wpI (cW T) i44r13 e h (regQ (some [0, 3, 4, 5, 6, 7, 8, 9]) Q) := wq_reg ..
theorem xf44r14 : wp T f44r14 e h Q = wpI (cW T) i44r14 e h (regQ (some [0, 3, 4, 5, 6, 7, 8, 9]) Q) := wq_reg ..
theorem xf44l0 : wp T f44l0 e h Q = wp T (.seq (.seq f44r12 (.cond (.t 51) .skip (.exit 6))) (.seq (.blk 7 f44r13) f44r14)) e h Q := rfl
theorem xf44r15 : wp T f44r15 e h Q = wpI (cW T) i44r15 e h (regQ (some [0, 3, 4, 5, 6]) Q) := wq_reg ..
theorem xf44r16 : wp T f44r16 e h Q = wpI (cW T) i44r16 e h (regQ (some [0, 3, 4, 5, 6]) Q) := wq_reg ..
theorem xf44l1 : wp T f44l1 e h Q = wp T (.seq (.seq f44r8 (.cond (.t 36) .skip (.exit 4))) (.seq (.blk 5 (.seq f44r9 (.seq f44r10 (.seq (.seq f44r11 (.blk 6 (.loop f44l0))) f44r15)))) f44r16)) e h Q := rfl
theorem xf44r17 : wp T f44r17 e h Q = wpI (cW T) i44r17 e h (regQ (some [0, 3, 4, 5]) Q) := wq_reg ..
theorem xf44l2 : wp T f44l2 e h Q = wp T (.seq (.seq f44r6 (.cond (.t 26) .skip (.exit 2))) (.seq (.blk 3 (.seq f44r7 (.blk 4 (.loop f44l1)))) f44r17)) e h Q := rfl
theorem xf44r18 : wp T f44r18 e h Q = wpI (cW T) i44r18 e h (regQ (some [0, 3, 4]) Q) := wq_reg ..
theorem xf44l3 : wp T f44l3 e h Q = wp T (.seq (.seq f44r4 (.cond (.t 20) .skip (.exit 0))) (.seq (.blk 1 (.seq f44r5 (.blk 2 (.loop f44l2)))) f44r18)) e h Q := rfl
theorem xf44r19 : wp T f44r19 e h Q = wpI (cW T) i44r19 e h (regQ (some [3, 10]) Q) := wq_reg ..
theorem xf44r20 : wp T f44r20 e h Q = wpI (cW T) i44r20 e h (regQ (some [3, 10, 79]) Q) := wq_reg ..
theorem xf44r21 : wp T f44r21 e h Q = wpI (cW T) i44r21 e h (regQ (some [3, 10, 86]) Q) := wq_reg ..
theorem xf44r22 : wp T f44r22 e h Q = wpI (cW T) i44r22 e h (regQ (some [2]) Q) := wq_reg ..
theorem xf44r23 : wp T f44r23 e h Q = wpI (cW T) i44r23 e h (regQ (some [3, 10]) Q) := wq_reg ..
theorem xf44l4 : wp T f44l4 e h Q = wp T (.seq (.seq f44r20 (.cond (.t 79) .skip (.exit 8))) (.seq (.blk 9 (.seq f44r21 (.cond (.t 86) (.seq f44r22 .ret) .skip))) f44r23)) e h Q := rfl
theorem xf44r24 : wp T f44r24 e h Q = wpI (cW T) i44r24 e h (regQ (some [2]) Q) := wq_reg ..
theorem xb44 : wp T b44 e h Q = wp T (.seq f44r0 (.seq f44r1 (.seq f44r2 (.seq (.seq f44r3 (.blk 0 (.loop f44l3))) (.seq (.seq f44r19 (.blk 8 (.loop f44l4))) (.seq f44r24 .ret)))))) e h Q := rfl
theorem e44 : (type_of% @f44.eq_1) ∧ (type_of% @xb44) ∧ (type_of% @xf44r0) ∧ (type_of% @xf44r1) ∧ (type_of% @xf44r2) ∧ (type_of% @xf44r3) ∧ (type_of% @xf44r4) ∧ (type_of% @xf44r5) ∧ (type_of% @xf44r6) ∧ (type_of% @xf44r7) ∧ (type_of% @xf44r8) ∧ (type_of% @xf44r9) ∧ (type_of% @xf44r10) ∧ (type_of% @xf44r11) ∧ (type_of% @xf44r12) ∧ (type_of% @xf44r13) ∧ (type_of% @xf44r14) ∧ (type_of% @xf44l0) ∧ (type_of% @xf44r15) ∧ (type_of% @xf44r16) ∧ (type_of% @xf44l1) ∧ (type_of% @xf44r17) ∧ (type_of% @xf44l2) ∧ (type_of% @xf44r18) ∧ (type_of% @xf44l3) ∧ (type_of% @xf44r19) ∧ (type_of% @xf44r20) ∧ (type_of% @xf44r21) ∧ (type_of% @xf44r22) ∧ (type_of% @xf44r23) ∧ (type_of% @xf44l4) ∧ (type_of% @xf44r24) ∧ (type_of% @i44r0.eq_1) ∧ (type_of% @i44r1.eq_1) ∧ (type_of% @i44r2.eq_1) ∧ (type_of% @i44r3.eq_1) ∧ (type_of% @i44r4.eq_1) ∧ (type_of% @i44r5.eq_1) ∧ (type_of% @i44r6.eq_1) ∧ (type_of% @i44r7.eq_1) ∧ (type_of% @i44r8.eq_1) ∧ (type_of% @i44r9.eq_1) ∧ (type_of% @i44r10.eq_1) ∧ (type_of% @i44r11.eq_1) ∧ (type_of% @i44r12.eq_1) ∧ (type_of% @i44r13.eq_1) ∧ (type_of% @i44r14.eq_1) ∧ (type_of% @i44r15.eq_1) ∧ (type_of% @i44r16.eq_1) ∧ (type_of% @i44r17.eq_1) ∧ (type_of% @i44r18.eq_1) ∧ (type_of% @i44r19.eq_1) ∧ (type_of% @i44r20.eq_1) ∧ (type_of% @i44r21.eq_1) ∧ (type_of% @i44r22.eq_1) ∧ (type_of% @i44r23.eq_1) ∧ (type_of% @i44r24.eq_1) := ⟨@f44.eq_1, @xb44, @xf44r0, @xf44r1, @xf44r2, @xf44r3, @xf44r4, @xf44r5, @xf44r6, @xf44r7, @xf44r8, @xf44r9, @xf44r10, @xf44r11, @xf44r12, @xf44r13, @xf44r14, @xf44l0, @xf44r15, @xf44r16, @xf44l1, @xf44r17, @xf44l2, @xf44r18, @xf44l3, @xf44r19, @xf44r20, @xf44r21, @xf44r22, @xf44r23, @xf44l4, @xf44r24, @i44r0.eq_1, @i44r1.eq_1, @i44r2.eq_1, @i44r3.eq_1, @i44r4.eq_1, @i44r5.eq_1, @i44r6.eq_1, @i44r7.eq_1, @i44r8.eq_1, @i44r9.eq_1, @i44r10.eq_1, @i44r11.eq_1, @i44r12.eq_1, @i44r13.eq_1, @i44r14.eq_1, @i44r15.eq_1, @i44r16.eq_1, @i44r17.eq_1, @i44r18.eq_1, @i44r19.eq_1, @i44r20.eq_1, @i44r21.eq_1, @i44r22.eq_1, @i44r23.eq_1, @i44r24.eq_1⟩
theorem xf45r0 : wp T f45r0 e h Q = wpI (cW T) i45r0 e h (regQ (some [0, 1, 2]) Q) := wq_reg ..
theorem xf45r1 : wp T f45r1 e h Q = wpI (cW T) i45r1 e h (regQ (some [0, 1, 2, 17]) Q) := wq_reg ..
theorem xf45r2 : wp T f45r2 e h Q = wpI (cW T) i45r2 e h (regQ (some [6]) Q) := wq_reg ..
theorem xf45r3 : wp T f45r3 e h Q = wpI (cW T) i45r3 e h (regQ (some [0, 1, 2]) Q) := wq_reg ..
theorem xf45r4 : wp T f45r4 e h Q = wpI (cW T) i45r4 e h (regQ (some [0, 2, 7]) Q) := wq_reg ..
theorem xf45r5 : wp T f45r5 e h Q = wpI (cW T) i45r5 e h (regQ (some [0, 2, 7, 8]) Q) := wq_reg ..
theorem xf45r6 : wp T f45r6 e h Q = wpI (cW T) i45r6 e h (regQ (some [0, 2, 7, 8, 32]) Q) := wq_reg ..
theorem xf45r7 : wp T f45r7 e h Q = wpI (cW T) i45r7 e h (regQ (some [0, 2, 7, 8, 9]) Q) := wq_reg ..
theorem xf45r8 : wp T f45r8 e h Q = wpI (cW T) i45r8 e h (regQ (some [0, 2, 7, 8, 9, 42]) Q) := wq_reg ..
theorem xf45r9 : wp T f45r9 e h Q = wpI (cW T) i45r9 e h (regQ (some [0, 2, 7, 8, 9]) Q) := wq_reg ..
theorem xf45r10 : wp T f45r10 e h Q = wpI (cW T) i45r10 e h (regQ (some [0, 2, 7, 8, 9]) Q) := wq_reg ..
theorem xf45l0 : wp T f45l0 e h Q = wp T (.seq (.seq f45r8 (.cond (.t 42) .skip (.exit 2))) (.seq (.blk 3 f45r9) f45r10)) e h Q := rfl
theorem xf45r11 : wp T f45r11 e h Q = wpI (cW T) i45r11 e h (regQ (some [0, 2, 7, 8]) Q) := wq_reg ..
theorem xf45l1 : wp T f45l1 e h Q = wp T (.seq (.seq f45r6 (.cond (.t 32) .skip (.exit 0))) (.seq (.blk 1 (.seq f45r7 (.blk 2 (.loop f45l0)))) f45r11)) e h Q := rfl
theorem xf45r12 : wp T f45r12 e h Q = wpI (cW T) i45r12 e h (regQ (some [6]) Q) := wq_reg ..
theorem xb45 : wp T b45 e h Q = wp T (.seq f45r0 (.seq (.seq f45r1 (.cond (.t 17) (.seq f45r2 .ret) .skip)) (.seq f45r3 (.seq f45r4 (.seq (.seq f45r5 (.blk 0 (.loop f45l1))) (.seq f45r12 .ret)))))) e h Q := rfl
theorem e45 : (type_of% @f45.eq_1) ∧ (type_of% @xb45) ∧ (type_of% @xf45r0) ∧ (type_of% @xf45r1) ∧ (type_of% @xf45r2) ∧ (type_of% @xf45r3) ∧ (type_of% @xf45r4) ∧ (type_of% @xf45r5) ∧ (type_of% @xf45r6) ∧ (type_of% @xf45r7) ∧ (type_of% @xf45r8) ∧ (type_of% @xf45r9) ∧ (type_of% @xf45r10) ∧ (type_of% @xf45l0) ∧ (type_of% @xf45r11) ∧ (type_of% @xf45l1) ∧ (type_of% @xf45r12) ∧ (type_of% @i45r0.eq_1) ∧ (type_of% @i45r1.eq_1) ∧ (type_of% @i45r2.eq_1) ∧ (type_of% @i45r3.eq_1) ∧ (type_of% @i45r4.eq_1) ∧ (type_of% @i45r5.eq_1) ∧ (type_of% @i45r6.eq_1) ∧ (type_of% @i45r7.eq_1) ∧ (type_of% @i45r8.eq_1) ∧ (type_of% @i45r9.eq_1) ∧ (type_of% @i45r10.eq_1) ∧ (type_of% @i45r11.eq_1) ∧ (type_of% @i45r12.eq_1) := ⟨@f45.eq_1, @xb45, @xf45r0, @xf45r1, @xf45r2, @xf45r3, @xf45r4, @xf45r5, @xf45r6, @xf45r7, @xf45r8, @xf45r9, @xf45r10, @xf45l0, @xf45r11, @xf45l1, @xf45r12, @i45r0.eq_1, @i45r1.eq_1, @i45r2.eq_1, @i45r3.eq_1, @i45r4.eq_1, @i45r5.eq_1, @i45r6.eq_1, @i45r7.eq_1, @i45r8.eq_1, @i45r9.eq_1, @i45r10.eq_1, @i45r11.eq_1, @i45r12.eq_1⟩
theorem xf49r0 : wp T f49r0 e h Q = wpI (cW T) i49r0 e h (regQ (some [1]) Q) := wq_reg ..
theorem xf49r1 : wp T f49r1 e h Q = wpI (cW T) i49r1 e h (regQ (some [2]) Q) := wq_reg ..
theorem xb49 : wp T b49 e h Q = wp T (.seq f49r0 (.seq f49r1 .ret)) e h Q := rfl
theorem e49 : (type_of% @f49.eq_1) ∧ (type_of% @xb49) ∧ (type_of% @xf49r0) ∧ (type_of% @xf49r1) ∧ (type_of% @i49r0.eq_1) ∧ (type_of% @i49r1.eq_1) := ⟨@f49.eq_1, @xb49, @xf49r0, @xf49r1, @i49r0.eq_1, @i49r1.eq_1⟩
theorem xf50r0 : wp T f50r0 e h Q = wpI (cW T) i50r0 e h (regQ (some [0]) Q) := wq_reg ..
theorem xf50r1 : wp T f50r1 e h Q = wpI (cW T) i50r1 e h (regQ (some [0, 21]) Q) := wq_reg ..
theorem xf50r2 : wp T f50r2 e h Q = wpI (cW T) i50r2 e h (regQ (some [2]) Q) := wq_reg ..
theorem xf50r3 : wp T f50r3 e h Q = wpI (cW T) i50r3 e h (regQ (some [0, 23, 24]) Q) := wq_reg ..
theorem xf50r4 : wp T f50r4 e h Q = wpI (cW T) i50r4 e h (regQ (some [0, 23, 24, 25]) Q) := wq_reg ..
theorem xf50r5 : wp T f50r5 e h Q = wpI (cW T) i50r5 e h (regQ (some [0, 3, 23, 24]) Q) := wq_reg ..
theorem xf50r6 : wp T f50r6 e h Q = wpI (cW T) i50r6 e h (regQ (some [0, 4, 23, 24]) Q) := wq_reg ..
theorem xf50r7 : wp T f50r7 e h Q = wpI (cW T) i50r7 e h (regQ (some [0, 23, 24, 56]) Q) := wq_reg ..
theorem xf50r8 : wp T f50r8 e h Q = wpI (cW T) i50r8 e h (regQ (some [2]) Q) := wq_reg ..
theorem xf50r9 : wp T f50r9 e h Q = wpI (cW T) i50r9 e h (regQ (some [0, 23, 24]) Q) := wq_reg ..
theorem xf50l0 : wp T f50l0 e h Q = wp T (.seq f50r4 (.seq (.cond (.t 25) .skip (.exit 0)) (.seq (.blk 1 (.seq f50r5 (.seq f50r6 (.seq f50r7 (.cond (.t 56) (.seq f50r8 .ret) .skip))))) f50r9))) e h Q := rfl
theorem xf50r10 : wp T f50r10 e h Q = wpI (cW T) i50r10 e h (regQ (some [2]) Q) := wq_reg ..
theorem xb50 : wp T b50 e h Q = wp T (.seq f50r0 (.seq (.seq f50r1 (.cond (.t 21) (.seq f50r2 .ret) .skip)) (.seq (.seq f50r3 (.blk 0 (.loop f50l0))) (.seq f50r10 .ret)))) e h Q := rfl
theorem e50 : (type_of% @f50.eq_1) ∧ (type_of% @xb50) ∧ (type_of% @xf50r0) ∧ (type_of% @xf50r1) ∧ (type_of% @xf50r2) ∧ (type_of% @xf50r3) ∧ (type_of% @xf50r4) ∧ (type_of% @xf50r5) ∧ (type_of% @xf50r6) ∧ (type_of% @xf50r7) ∧ (type_of% @xf50r8) ∧ (type_of% @xf50r9) ∧ (type_of% @xf50l0) ∧ (type_of% @xf50r10) ∧ (type_of% @i50r0.eq_1) ∧ (type_of% @i50r1.eq_1) ∧ (type_of% @i50r2.eq_1) ∧ (type_of% @i50r3.eq_1) ∧ (type_of% @i50r4.eq_1) ∧ (type_of% @i50r5.eq_1) ∧ (type_of% @i50r6.eq_1) ∧ (type_of% @i50r7.eq_1) ∧ (type_of% @i50r8.eq_1) ∧ (type_of% @i50r9.eq_1) ∧ (type_of% @i50r10.eq_1) := ⟨@f50.eq_1, @xb50, @xf50r0, @xf50r1, @xf50r2, @xf50r3, @xf50r4, @xf50r5, @xf50r6, @xf50r7, @xf50r8, @xf50r9, @xf50l0, @xf50r10, @i50r0.eq_1, @i50r1.eq_1, @i50r2.eq_1, @i50r3.eq_1, @i50r4.eq_1, @i50r5.eq_1, @i50r6.eq_1, @i50r7.eq_1, @i50r8.eq_1, @i50r9.eq_1, @i50r10.eq_1⟩
theorem xf51r0 : wp T f51r0 e h Q = wpI (cW T) i51r0 e h (regQ (some [1]) Q) := wq_reg ..
theorem xf51r1 : wp T f51r1 e h Q = wpI (cW T) i51r1 e h (regQ (some [2]) Q) := wq_reg ..
theorem xb51 : wp T b51 e h Q = wp T (.seq f51r0 (.seq f51r1 .ret)) e h Q := rfl
theorem e51 : (type_of% @f51.eq_1) ∧ (type_of% @xb51) ∧ (type_of% @xf51r0) ∧ (type_of% @xf51r1) ∧ (type_of% @i51r0.eq_1) ∧ (type_of% @i51r1.eq_1) := ⟨@f51.eq_1, @xb51, @xf51r0, @xf51r1, @i51r0.eq_1, @i51r1.eq_1⟩
theorem xf52r0 : wp T f52r0 e h Q = wpI (cW T) i52r0 e h (regQ (some [0, 1]) Q) := wq_reg ..
theorem xf52r1 : wp T f52r1 e h Q = wpI (cW T) i52r1 e h (regQ (some [0, 1, 7, 8]) Q) := wq_reg ..
theorem xf52r2 : wp T f52r2 e h Q = wpI (cW T) i52r2 e h (regQ (some [0, 1, 7, 8, 9]) Q) := wq_reg ..
theorem xf52r3 : wp T f52r3 e h Q = wpI (cW T) i52r3 e h (regQ (some [0, 1, 5, 7, 8]) Q) := wq_reg ..
theorem xf52r4 : wp T f52r4 e h Q = wpI (cW T) i52r4 e h (regQ (some [0, 1, 5, 7, 8, 16]) Q) := wq_reg ..
theorem xf52r5 : wp T f52r5 e h Q = wpI (cW T) i52r5 e h (regQ (some [4]) Q) := wq_reg ..
theorem xf52r6 : wp T f52r6 e h Q = wpI (cW T) i52r6 e h (regQ (some [0, 1, 7, 8]) Q) := wq_reg ..
theorem xf52l0 : wp T f52l0 e h Q = wp T (.seq f52r2 (.seq (.cond (.t 9) .skip (.exit 0)) (.seq (.blk 1 (.seq f52r3 (.seq f52r4 (.cond (.t 16) (.seq f52r5 .ret) .skip)))) f52r6))) e h Q := rfl
theorem xf52r7 : wp T f52r7 e h Q = wpI (cW T) i52r7 e h (regQ (some [4]) Q) := wq_reg ..
theorem xb52 : wp T b52 e h Q = wp T (.seq f52r0 (.seq (.seq f52r1 (.blk 0 (.loop f52l0))) (.seq f52r7 .ret))) e h Q := rfl
theorem e52 : (type_of% @f52.eq_1) ∧ (type_of% @xb52) ∧ (type_of% @xf52r0) ∧ (type_of% @xf52r1) ∧ (type_of% @xf52r2) ∧ (type_of% @xf52r3) ∧ (type_of% @xf52r4) ∧ (type_of% @xf52r5) ∧ (type_of% @xf52r6) ∧ (type_of% @xf52l0) ∧ (type_of% @xf52r7) ∧ (type_of% @i52r0.eq_1) ∧ (type_of% @i52r1.eq_1) ∧ (type_of% @i52r2.eq_1) ∧ (type_of% @i52r3.eq_1) ∧ (type_of% @i52r4.eq_1) ∧ (type_of% @i52r5.eq_1) ∧ (type_of% @i52r6.eq_1) ∧ (type_of% @i52r7.eq_1) := ⟨@f52.eq_1, @xb52, @xf52r0, @xf52r1, @xf52r2, @xf52r3, @xf52r4, @xf52r5, @xf52r6, @xf52l0, @xf52r7, @i52r0.eq_1, @i52r1.eq_1, @i52r2.eq_1, @i52r3.eq_1, @i52r4.eq_1, @i52r5.eq_1, @i52r6.eq_1, @i52r7.eq_1⟩
theorem xf53r0 : wp T f53r0 e h Q = wpI (cW T) i53r0 e h (regQ (some [1, 2]) Q) := wq_reg ..
theorem xf53r1 : wp T f53r1 e h Q = wpI (cW T) i53r1 e h (regQ (some [3]) Q) := wq_reg ..
theorem xb53 : wp T b53 e h Q = wp T (.seq f53r0 (.seq f53r1 .ret)) e h Q := rfl
theorem e53 : (type_of% @f53.eq_1) ∧ (type_of% @xb53) ∧ (type_of% @xf53r0) ∧ (type_of% @xf53r1) ∧ (type_of% @i53r0.eq_1) ∧ (type_of% @i53r1.eq_1) := ⟨@f53.eq_1, @xb53, @xf53r0, @xf53r1, @i53r0.eq_1, @i53r1.eq_1⟩
theorem xf54r0 : wp T f54r0 e h Q = wpI (cW T) i54r0 e h (regQ (some [0, 1]) Q) := wq_reg ..
theorem xf54r1 : wp T f54r1 e h Q = wpI (cW T) i54r1 e h (regQ (some [3]) Q) := wq_reg ..
theorem xb54 : wp T b54 e h Q = wp T (.seq f54r0 (.seq f54r1 .ret)) e h Q := rfl
theorem e54 : (type_of% @f54.eq_1) ∧ (type_of% @xb54) ∧ (type_of% @xf54r0) ∧ (type_of% @xf54r1) ∧ (type_of% @i54r0.eq_1) ∧ (type_of% @i54r1.eq_1) := ⟨@f54.eq_1, @xb54, @xf54r0, @xf54r1, @i54r0.eq_1, @i54r1.eq_1⟩
theorem xf55r0 : wp T f55r0 e h Q = wpI (cW T) i55r0 e h (regQ (some [0, 1]) Q) := wq_reg ..
theorem xf55r1 : wp T f55r1 e h Q = wpI (cW T) i55r1 e h (regQ (some [4]) Q) := wq_reg ..
theorem xb55 : wp T b55 e h Q = wp T (.seq f55r0 (.seq f55r1 .ret)) e h Q := rfl
theorem e55 : (type_of% @f55.eq_1) ∧ (type_of% @xb55) ∧ (type_of% @xf55r0) ∧ (type_of% @xf55r1) ∧ (type_of% @i55r0.eq_1) ∧ (type_of% @i55r1.eq_1) := ⟨@f55.eq_1, @xb55, @xf55r0, @xf55r1, @i55r0.eq_1, @i55r1.eq_1⟩
theorem xf56r0 : wp T f56r0 e h Q = wpI (cW T) i56r0 e h (regQ (some [0, 1]) Q) := wq_reg ..
theorem xf56r1 : wp T f56r1 e h Q = wpI (cW T) i56r1 e h (regQ (some [0, 1, 7, 8]) Q) := wq_reg ..
theorem xf56r2 : wp T f56r2 e h Q = wpI (cW T) i56r2 e h (regQ (some [0, 1, 7, 8, 9]) Q) := wq_reg ..
theorem xf56r3 : wp T f56r3 e h Q = wpI (cW T) i56r3 e h (regQ (some [0, 1, 5, 7, 8]) Q) := wq_reg ..
theorem xf56r4 : wp T f56r4 e h Q = wpI (cW T) i56r4 e h (regQ (some [0, 1, 5, 7, 8, 16]) Q) := wq_reg ..
theorem xf56r5 : wp T f56r5 e h Q = wpI (cW T) i56r5 e h (regQ (some [4]) Q) := wq_reg ..
theorem xf56r6 : wp T f56r6 e h Q = wpI (cW T) i56r6 e h (regQ (some [0, 1, 7, 8]) Q) := wq_reg ..
theorem xf56l0 : wp T f56l0 e h Q = wp T (.seq f56r2 (.seq (.cond (.t 9) .skip (.exit 0)) (.seq (.blk 1 (.seq f56r3 (.seq f56r4 (.cond (.t 16) (.seq f56r5 .ret) .skip)))) f56r6))) e h Q := rfl
theorem xf56r7 : wp T f56r7 e h Q = wpI (cW T) i56r7 e h (regQ (some [4]) Q) := wq_reg ..
theorem xb56 : wp T b56 e h Q = wp T (.seq f56r0 (.seq (.seq f56r1 (.blk 0 (.loop f56l0))) (.seq f56r7 .ret))) e h Q := rfl
theorem e56 : (type_of% @f56.eq_1) ∧ (type_of% @xb56) ∧ (type_of% @xf56r0) ∧ (type_of% @xf56r1) ∧ (type_of% @xf56r2) ∧ (type_of% @xf56r3) ∧ (type_of% @xf56r4) ∧ (type_of% @xf56r5) ∧ (type_of% @xf56r6) ∧ (type_of% @xf56l0) ∧ (type_of% @xf56r7) ∧ (type_of% @i56r0.eq_1) ∧ (type_of% @i56r1.eq_1) ∧ (type_of% @i56r2.eq_1) ∧ (type_of% @i56r3.eq_1) ∧ (type_of% @i56r4.eq_1) ∧ (type_of% @i56r5.eq_1) ∧ (type_of% @i56r6.eq_1) ∧ (type_of% @i56r7.eq_1) := ⟨@f56.eq_1, @xb56, @xf56r0, @xf56r1, @xf56r2, @xf56r3, @xf56r4, @xf56r5, @xf56r6, @xf56l0, @xf56r7, @i56r0.eq_1, @i56r1.eq_1, @i56r2.eq_1, @i56r3.eq_1, @i56r4.eq_1, @i56r5.eq_1, @i56r6.eq_1, @i56r7.eq_1⟩
theorem xf57r0 : wp T f57r0 e h Q = wpI (cW T) i57r0 e h (regQ (some [0]) Q) := wq_reg ..
theorem xf57r1 : wp T f57r1 e h Q = wpI (cW T) i57r1 e h (regQ (some [0, 3]) Q) := wq_reg ..
theorem xf57r2 : wp T f57r2 e h Q = wpI (cW T) i57r2 e h (regQ (some [0, 3, 9]) Q) := wq_reg ..
theorem xf57r3 : wp T f57r3 e h Q = wpI (cW T) i57r3 e h (regQ (some [0, 3, 4]) Q) := wq_reg ..
theorem xf57r4 : wp T f57r4 e h Q = wpI (cW T) i57r4 e h (regQ (some [0, 3, 4, 5]) Q) := wq_reg ..
theorem xf57r5 : wp T f57r5 e h Q = wpI (cW T) i57r5 e h (regQ (some [0, 3, 47]) Q) := wq_reg ..
theorem xf57r6 : wp T f57r6 e h Q = wpI (cW T) i57r6 e h (regQ (some [2]) Q) := wq_reg ..
theorem xf57r7 : wp T f57r7 e h Q = wpI (cW T) i57r7 e h (regQ (some [0, 3]) Q) := wq_reg ..
theorem xf57l0 : wp T f57l0 e h Q = wp T (.seq (.seq f57r2 (.cond (.t 9) .skip (.exit 0))) (.seq (.blk 1 (.seq f57r3 (.seq f57r4 (.seq f57r5 (.cond (.t 47) (.seq f57r6 .ret) .skip))))) f57r7)) e h Q := rfl
theorem xf57r8 : wp T f57r8 e h Q = wpI (cW T) i57r8 e h (regQ (some [2]) Q) := wq_reg ..
theorem xb57 : wp T b57 e h Q = wp T (.seq f57r0 (.seq (.seq f57r1 (.blk 0 (.loop f57l0))) (.seq f57r8 .ret))) e h Q := rfl
theorem e57 : (type_of% @f57.eq_1) ∧ (type_of% @xb57) ∧ (type_of% @xf57r0) ∧ (type_of% @xf57r1) ∧ (type_of% @xf57r2) ∧ (type_of% @xf57r3) ∧ (type_of% @xf57r4) ∧ (type_of% @xf57r5) ∧ (type_of% @xf57r6) ∧ (type_of% @xf57r7) ∧ (type_of% @xf57l0) ∧ (type_of% @xf57r8) ∧ (type_of% @i57r0.eq_1) ∧ (type_of% @i57r1.eq_1) ∧ (type_of% @i57r2.eq_1) ∧ (type_of% @i57r3.eq_1) ∧ (type_of% @i57r4.eq_1) ∧ (type_of% @i57r5.eq_1) ∧ (type_of% @i57r6.eq_1) ∧ (type_of% @i57r7.eq_1) ∧ (type_of% @i57r8.eq_1) := ⟨@f57.eq_1, @xb57, @xf57r0, @xf57r1, @xf57r2, @xf57r3, @xf57r4, @xf57r5, @xf57r6, @xf57r7, @xf57l0, @xf57r8, @i57r0.eq_1, @i57r1.eq_1, @i57r2.eq_1, @i57r3.eq_1, @i57r4.eq_1, @i57r5.eq_1, @i57r6.eq_1, @i57r7.eq_1, @i57r8.eq_1⟩
theorem xf58r0 : wp T f58r0 e h Q = wpI (cW T) i58r0 e h (regQ (some [0, 1]) Q) := wq_reg ..
theorem xf58r1 : wp T f58r1 e h Q = wpI (cW T) i58r1 e h (regQ (some [0, 1, 5]) Q) := wq_reg ..
theorem xf58r2 : wp T f58r2 e h Q = wpI (cW T) i58r2 e h (regQ (some [0, 1, 5, 9]) Q) := wq_reg ..
theorem xf58r3 : wp T f58r3 e h Q = wpI (cW T) i58r3 e h (regQ (some [0, 1, 5, 17]) Q) := wq_reg ..
theorem xf58r4 : wp T f58r4 e h Q = wpI (cW T) i58r4 e h (regQ (some [4]) Q) := wq_reg ..
theorem xf58r5 : wp T f58r5 e h Q = wpI (cW T) i58r5 e h (regQ (some [0, 1, 5]) Q) := wq_reg ..
theorem xf58l0 : wp T f58l0 e h Q = wp T (.seq (.seq f58r2 (.cond (.t 9) .skip (.exit 0))) (.seq (.blk 1 (.seq f58r3 (.cond (.t 17) (.seq f58r4 .ret) .skip))) f58r5)) e h Q := rfl
theorem xf58r6 : wp T f58r6 e h Q = wpI (cW T) i58r6 e h (regQ (some [4]) Q) := wq_reg ..
theorem xb58 : wp T b58 e h Q = wp T (.seq f58r0 (.seq (.seq f58r1 (.blk 0 (.loop f58l0))) (.seq f58r6 .ret))) e h Q := rfl
theorem e58 : (type_of% @f58.eq_1) ∧ (type_of% @xb58) ∧ (type_of% @xf58r0) ∧ (type_of% @xf58r1) ∧ (type_of% @xf58r2) ∧ (type_of% @xf58r3) ∧ (type_of% @xf58r4) ∧ (type_of% @xf58r5) ∧ (type_of% @xf58l0) ∧ (type_of% @xf58r6) ∧ (type_of% @i58r0.eq_1) ∧ (type_of% @i58r1.eq_1) ∧ (type_of% @i58r2.eq_1) ∧ (type_of% @i58r3.eq_1) ∧ (type_of% @i58r4.eq_1) ∧ (type_of% @i58r5.eq_1) ∧ (type_of% @i58r6.eq_1) := ⟨@f58.eq_1, @xb58, @xf58r0, @xf58r1, @xf58r2, @xf58r3, @xf58r4, @xf58r5, @xf58l0, @xf58r6, @i58r0.eq_1, @i58r1.eq_1, @i58r2.eq_1, @i58r3.eq_1, @i58r4.eq_1, @i58r5.eq_1, @i58r6.eq_1⟩
theorem xf59r0 : wp T f59r0 e h Q = wpI (cW T) i59r0 e h (regQ (some [0, 1]) Q) := wq_reg ..
theorem xf59r1 : wp T f59r1 e h Q = wpI (cW T) i59r1 e h (regQ (some [4]) Q) := wq_reg ..
theorem xb59 : wp T b59 e h Q = wp T (.seq f59r0 (.seq f59r1 .ret)) e h Q := rfl
theorem e59 : (type_of% @f59.eq_1) ∧ (type_of% @xb59) ∧ (type_of% @xf59r0) ∧ (type_of% @xf59r1) ∧ (type_of% @i59r0.eq_1) ∧ (type_of% @i59r1.eq_1) := ⟨@f59.eq_1, @xb59, @xf59r0, @xf59r1, @i59r0.eq_1, @i59r1.eq_1⟩
theorem xf60r0 : wp T f60r0 e h Q = wpI (cW T) i60r0 e h (regQ (some [0, 1]) Q) := wq_reg ..
theorem xf60r1 : wp T f60r1 e h Q = wpI (cW T) i60r1 e h (regQ (some [0, 1, 8]) Q) := wq_reg ..
theorem xf60r2 : wp T f60r2 e h Q = wpI (cW T) i60r2 e h (regQ (some [4]) Q) := wq_reg ..
theorem xf60r3 : wp T f60r3 e h Q = wpI (cW T) i60r3 e h (regQ (some [5]) Q) := wq_reg ..
theorem xf60r4 : wp T f60r4 e h Q = wpI (cW T) i60r4 e h (regQ (some [5, 6]) Q) := wq_reg ..
theorem xf60r5 : wp T f60r5 e h Q = wpI (cW T) i60r5 e h (regQ (some [5, 6, 18]) Q) := wq_reg ..
theorem xf60r6 : wp T f60r6 e h Q = wpI (cW T) i60r6 e h (regQ (some [5, 6, 27]) Q) := wq_reg ..
theorem xf60r7 : wp T f60r7 e h Q = wpI (cW T) i60r7 e h (regQ (some [4]) Q) := wq_reg ..
theorem xf60r8 : wp T f60r8 e h Q = wpI (cW T) i60r8 e h (regQ (some [5, 6]) Q) := wq_reg ..
theorem xf60l0 : wp T f60l0 e h Q = wp T (.seq (.seq f60r5 (.cond (.t 18) .skip (.exit 0))) (.seq (.blk 1 (.seq f60r6 (.cond (.t 27) (.seq f60r7 .ret) .skip))) f60r8)) e h Q := rfl
theorem xf60r9 : wp T f60r9 e h Q = wpI (cW T) i60r9 e h (regQ (some [4]) Q) := wq_reg ..
theorem xb60 : wp T b60 e h Q = wp T (.seq f60r0 (.seq (.seq f60r1 (.cond (.t 8) (.seq f60r2 .ret) .skip)) (.seq f60r3 (.seq (.seq f60r4 (.blk 0 (.loop f60l0))) (.seq f60r9 .ret))))) e h Q := rfl
theorem e60 : (type_of% @f60.eq_1) ∧ (type_of% @xb60) ∧ (type_of% @xf60r0) ∧ (type_of% @xf60r1) ∧ (type_of% @xf60r2) ∧ (type_of% @xf60r3) ∧ (type_of% @xf60r4) ∧ (type_of% @xf60r5) ∧ (type_of% @xf60r6) ∧ (type_of% @xf60r7) ∧ (type_of% @xf60r8) ∧ (type_of% @xf60l0) ∧ (type_of% @xf60r9) ∧ (type_of% @i60r0.eq_1) ∧ (type_of% @i60r1.eq_1) ∧ (type_of% @i60r2.eq_1) ∧ (type_of% @i60r3.eq_1) ∧ (type_of% @i60r4.eq_1) ∧ (type_of% @i60r5.eq_1) ∧ (type_of% @i60r6.eq_1) ∧ (type_of% @i60r7.eq_1) ∧ (type_of% @i60r8.eq_1) ∧ (type_of% @i60r9.eq_1) := ⟨@f60.eq_1, @xb60, @xf60r0, @xf60r1, @xf60r2, @xf60r3, @xf60r4, @xf60r5, @xf60r6, @xf60r7, @xf60r8, @xf60l0, @xf60r9, @i60r0.eq_1, @i60r1.eq_1, @i60r2.eq_1, @i60r3.eq_1, @i60r4.eq_1, @i60r5.eq_1, @i60r6.eq_1, @i60r7.eq_1, @i60r8.eq_1, @i60r9.eq_1⟩
theorem xf61r0 : wp T f61r0 e h Q = wpI (cW T) i61r0 e h (regQ (some [0, 1]) Q) := wq_reg ..
theorem xf61r1 : wp T f61r1 e h Q = wpI (cW T) i61r1 e h (regQ (some [0, 1, 5]) Q) := wq_reg ..
theorem xf61r2 : wp T f61r2 e h Q = wpI (cW T) i61r2 e h (regQ (some [0, 1, 5, 9]) Q) := wq_reg ..
theorem xf61r3 : wp T f61r3 e h Q = wpI (cW T) i61r3 e h (regQ (some [0, 1, 5, 17]) Q) := wq_reg ..
theorem xf61r4 : wp T f61r4 e h Q = wpI (cW T) i61r4 e h (regQ (some [4]) Q) := wq_reg ..
theorem xf61r5 : wp T f61r5 e h Q = wpI (cW T) i61r5 e h (regQ (some [0, 1, 5]) Q) := wq_reg ..
theorem xf61l0 : wp T f61l0 e h Q = wp T (.seq (.seq f61r2 (.cond (.t 9) .skip (.exit 0))) (.seq (.blk 1 (.seq f61r3 (.cond (.t 17) (.seq f61r4 .ret) .skip))) f61r5)) e h Q := rfl
theorem xf61r6 : wp T f61r6 e h Q = wpI (cW T) i61r6 e h (regQ (some [4]) Q) := wq_reg ..
theorem xb61 : wp T b61 e h Q = wp T (.seq f61r0 (.seq (.seq f61r1 (.blk 0 (.loop f61l0))) (.seq f61r6 .ret))) e h Q := rfl
theorem e61 : (type_of% @f61.eq_1) ∧ (type_of% @xb61) ∧ (type_of% @xf61r0) ∧ (type_of% @xf61r1) ∧ (type_of% @xf61r2) ∧ (type_of% @xf61r3) ∧ (type_of% @xf61r4) ∧ (type_of% @xf61r5) ∧ (type_of% @xf61l0) ∧ (type_of% @xf61r6) ∧ (type_of% @i61r0.eq_1) ∧ (type_of% @i61r1.eq_1) ∧ (type_of% @i61r2.eq_1) ∧ (type_of% @i61r3.eq_1) ∧ (type_of% @i61r4.eq_1) ∧ (type_of% @i61r5.eq_1) ∧ (type_of% @i61r6.eq_1) := ⟨@f61.eq_1, @xb61, @xf61r0, @xf61r1, @xf61r2, @xf61r3, @xf61r4, @xf61r5, @xf61l0, @xf61r6, @i61r0.eq_1, @i61r1.eq_1, @i61r2.eq_1, @i61r3.eq_1, @i61r4.eq_1, @i61r5.eq_1, @i61r6.eq_1⟩
theorem xf64r0 : wp T f64r0 e h Q = wpI (cW T) i64r0 e h (regQ (some [0, 1]) Q) := wq_reg ..
theorem xf64r1 : wp T f64r1 e h Q = wpI (cW T) i64r1 e h (regQ (some [0, 1, 7, 8]) Q) := wq_reg ..
theorem xf64r2 : wp T f64r2 e h Q = wpI (cW T) i64r2 e h (regQ (some [0, 1, 7, 8, 9]) Q) := wq_reg ..
theorem xf64r3 : wp T f64r3 e h Q = wpI (cW T) i64r3 e h (regQ (some [0, 1, 5, 7, 8]) Q) := wq_reg ..
theorem xf64r4 : wp T f64r4 e h Q = wpI (cW T) i64r4 e h (regQ (some [0, 1, 5, 7, 8, 16]) Q) := wq_reg ..
theorem xf64r5 : wp T f64r5 e h Q = wpI (cW T) i64r5 e h (regQ (some [4]) Q) := wq_reg ..
theorem xf64r6 : wp T f64r6 e h Q = wpI (cW T) i64r6 e h (regQ (some [0, 1, 7, 8]) Q) := wq_reg ..
theorem xf64l0 : wp T f64l0 e h Q = wp T (.seq f64r2 (.seq (.cond (.t 9) .skip (.exit 0)) (.seq (.blk 1 (.seq f64r3 (.seq f64r4 (.cond (.t 16) (.seq f64r5 .ret) .skip)))) f64r6))) e h Q := rfl
theorem xf64r7 : wp T f64r7 e h Q = wpI (cW T) i64r7 e h (regQ (some [4]) Q) := wq_reg ..
theorem xb64 : wp T b64 e h Q = wp T (.seq f64r0 (.seq (.seq f64r1 (.blk 0 (.loop f64l0))) (.seq f64r7 .ret))) e h Q := rfl
theorem e64 : (type_of% @f64.eq_1) ∧ (type_of% @xb64) ∧ (type_of% @xf64r0) ∧ (type_of% @xf64r1) ∧ (type_of% @xf64r2) ∧ (type_of% @xf64r3) ∧ (type_of% @xf64r4) ∧ (type_of% @xf64r5) ∧ (type_of% @xf64r6) ∧ (type_of% @xf64l0) ∧ (type_of% @xf64r7) ∧ (type_of% @i64r0.eq_1) ∧ (type_of% @i64r1.eq_1) ∧ (type_of% @i64r2.eq_1) ∧ (type_of% @i64r3.eq_1) ∧ (type_of% @i64r4.eq_1) ∧ (type_of% @i64r5.eq_1) ∧ (type_of% @i64r6.eq_1) ∧ (type_of% @i64r7.eq_1) := ⟨@f64.eq_1, @xb64, @xf64r0, @xf64r1, @xf64r2, @xf64r3, @xf64r4, @xf64r5, @xf64r6, @xf64l0, @xf64r7, @i64r0.eq_1, @i64r1.eq_1, @i64r2.eq_1, @i64r3.eq_1, @i64r4.eq_1, @i64r5.eq_1, @i64r6.eq_1, @i64r7.eq_1⟩
end Zc18
