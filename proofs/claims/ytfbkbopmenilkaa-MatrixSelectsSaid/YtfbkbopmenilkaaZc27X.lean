/-
  What each part of the code does, as an equation.
-/
import Derived.Test.YtfbkbopmenilkaaTab
import Derived.Test.YtfbkbopmenilkaaZwWp
namespace Zc27
open Go Zv Zs
variable (T : Tab) (e : Env) (h : Hp) (Q : Out → Prop)
theorem xf3r0 : wp T f3r0 e h Q = wpI (cW T) i3r0 e h (regQ (some [0, 1, 2]) Q) := wq_reg ..
theorem xf3r1 : wp T f3r1 e h Q = wpI (cW T) i3r1 e h (regQ (some [0, 1, 2, 11]) Q) := wq_reg ..
theorem xf3r2 : wp T f3r2 e h Q = wpI (cW T) i3r2 e h (regQ (some [6]) Q) := wq_reg ..
theorem xf3r3 : wp T f3r3 e h Q = wpI (cW T) i3r3 e h (regQ (some [6]) Q) := wq_reg ..
theorem xb3 : wp T b3 e h Q = wp T (.seq f3r0 (.seq (.seq f3r1 (.cond (.t 11) (.seq f3r2 .ret) .skip)) (.seq f3r3 .ret))) e h Q := rfl
theorem e3 : (type_of% @f3.eq_1) ∧ (type_of% @xb3) ∧ (type_of% @xf3r0) ∧ (type_of% @xf3r1) ∧ (type_of% @xf3r2) ∧ (type_of% @xf3r3) ∧ (type_of% @i3r0.eq_1) ∧ (type_of% @i3r1.eq_1) ∧ (type_of% @i3r2.eq_1) ∧ (type_of% @i3r3.eq_1) := ⟨@f3.eq_1, @xb3, @xf3r0, @xf3r1, @xf3r2, @xf3r3, @i3r0.eq_1, @i3r1.eq_1, @i3r2.eq_1, @i3r3.eq_1⟩
theorem xf4r0 : wp T f4r0 e h Q = wpI (cW T) i4r0 e h (regQ (some [1]) Q) := wq_reg ..
theorem xf4r1 : wp T f4r1 e h Q = wpI (cW T) i4r1 e h (regQ (some [3, 4, 5, 6]) Q) := wq_reg ..
theorem xf4r2 : wp T f4r2 e h Q = wpI (cW T) i4r2 e h (regQ (some [3, 4, 5, 6, 7]) Q) := wq_reg ..
theorem xf4r3 : wp T f4r3 e h Q = wpI (cW T) i4r3 e h (regQ (some [3, 4, 5, 6, 7, 34]) Q) := wq_reg ..
theorem xf4r4 : wp T f4r4 e h Q = wpI (cW T) i4r4 e h (regQ (some [2]) Q) := wq_reg ..
theorem xf4r5 : wp T f4r5 e h Q = wpI (cW T) i4r5 e h (regQ (some [3, 4, 5, 6, 7, 8, 9]) Q) := wq_reg ..
theorem xf4r6 : wp T f4r6 e h Q = wpI (cW T) i4r6 e h (regQ (some [3, 4, 5, 6, 7, 8, 9, 10, 11]) Q) := wq_reg ..
theorem xf4r7 : wp T f4r7 e h Q = wpI (cW T) i4r7 e h (regQ (some [3, 4, 5, 6, 7, 8, 9, 10, 11, 12]) Q) := wq_reg ..
theorem xf4r8 : wp T f4r8 e h Q = wpI (cW T) i4r8 e h (regQ (some [3, 4, 5, 6, 7, 8, 9, 10, 11, 12, 59]) Q) := wq_reg ..
theorem xf4r9 : wp T f4r9 e h Q = wpI (cW T) i4r9 e h (regQ (some [2]) Q) := wq_reg ..
theorem xf4r10 : wp T f4r10 e h Q = wpI (cW T) i4r10 e h (regQ (some [3, 4, 5, 6, 7, 8, 9, 10, 11, 13]) Q) := wq_reg ..
theorem xf4r11 : wp T f4r11 e h Q = wpI (cW T) i4r11 e h (regQ (some [3, 4, 5, 6, 7, 8, 9, 10, 13, 87]) Q) := wq_reg ..
theorem xf4r12 : wp T f4r12 e h Q = wpI (cW T) i4r12 e h (regQ (some [2]) Q) := wq_reg ..
theorem xf4r13 : wp T f4r13 e h Q = wpI (cW T) i4r13 e h (regQ (some [3, 4, 5, 6, 7, 8, 9, 10, 13, 14]) Q) := wq_reg ..
theorem xf4r14 : wp T f4r14 e h Q = wpI (cW T) i4r14 e h (regQ (some [3, 4, 5, 6, 7, 8, 9, 10, 13, 14, 91]) Q) := wq_reg ..
theorem xf4r15 : wp T f4r15 e h Q = wpI (cW T) i4r15 e h (regQ (some [3, 4, 5, 6, 7, 8, 9, 10, 13, 14, 102]) Q) := wq_reg ..
theorem xf4r16 : wp T f4r16 e h Q = wpI (cW T) i4r16 e h (regQ (some [2]) Q) := wq_reg ..
theorem xf4r17 : wp T f4r17 e h Q = wpI (cW T) i4r17 e h (regQ (some [3, 4, 5, 6, 7, 8, 9, 10, 13, 14]) Q) := wq_reg ..
theorem xf4l0 : wp T f4l0 e h Q = wp T (.seq (.seq f4r14 (.cond (.t 91) .skip (.exit 0))) (.seq (.blk 1 (.seq f4r15 (.cond (.t 102) (.seq f4r16 .ret) .skip))) f4r17)) e h Q := rfl
theorem xf4r18 : wp T f4r18 e h Q = wpI (cW T) i4r18 e h (regQ (some [3, 4, 5, 6, 8, 9, 15]) Q) := wq_reg ..
theorem xf4r19 : wp T f4r19 e h Q = wpI (cW T) i4r19 e h (regQ (some [3, 4, 5, 6, 8, 9, 15, 108]) Q) := wq_reg ..
theorem xf4r20 : wp T f4r20 e h Q = wpI (cW T) i4r20 e h (regQ (some [2]) Q) := wq_reg ..
theorem xf4r21 : wp T f4r21 e h Q = wpI (cW T) i4r21 e h (regQ (some [2]) Q) := wq_reg ..
theorem xb4 : wp T b4 e h Q = wp T (.seq f4r0 (.seq f4r1 (.seq f4r2 (.seq (.seq f4r3 (.cond (.t 34) (.seq f4r4 .ret) .skip)) (.seq f4r5 (.seq f4r6 (.seq (.seq f4r7 (.seq f4r8 (.cond (.t 59) (.seq f4r9 .ret) .skip))) (.seq f4r10 (.seq (.seq f4r11 (.cond (.t 87) (.seq f4r12 .ret) .skip)) (.seq (.seq f4r13 (.blk 0 (.loop f4l0))) (.seq (.seq f4r18 (.seq f4r19 (.cond (.t 108) (.seq f4r20 .ret) .skip))) (.seq f4r21 .ret)))))))))))) e h Q := rfl
theorem e4 : (type_of% @f4.eq_1) ∧ (type_of% @xb4) ∧ (type_of% @xf4r0) ∧ (type_of% @xf4r1) ∧ (type_of% @xf4r2) ∧ (type_of% @xf4r3) ∧ (type_of% @xf4r4) ∧ (type_of% @xf4r5) ∧ (type_of% @xf4r6) ∧ (type_of% @xf4r7) ∧ (type_of% @xf4r8) ∧ (type_of% @xf4r9) ∧ (type_of% @xf4r10) ∧ (type_of% @xf4r11) ∧ (type_of% @xf4r12) ∧ (type_of% @xf4r13) ∧ (type_of% @xf4r14) ∧ (type_of% @xf4r15) ∧ (type_of% @xf4r16) ∧ (type_of% @xf4r17) ∧ (type_of% @xf4l0) ∧ (type_of% @xf4r18) ∧ (type_of% @xf4r19) ∧ (type_of% @xf4r20) ∧ (type_of% @xf4r21) ∧ (type_of% @i4r0.eq_1) ∧ (type_of% @i4r1.eq_1) ∧ (type_of% @i4r2.eq_1) ∧ (type_of% @i4r3.eq_1) ∧ (type_of% @i4r4.eq_1) ∧ (type_of% @i4r5.eq_1) ∧ (type_of% @i4r6.eq_1) ∧ (type_of% @i4r7.eq_1) ∧ (type_of% @i4r8.eq_1) ∧ (type_of% @i4r9.eq_1) ∧ (type_of% @i4r10.eq_1) ∧ (type_of% @i4r11.eq_1) ∧ (type_of% @i4r12.eq_1) ∧ (type_of% @i4r13.eq_1) ∧ (type_of% @i4r14.eq_1) ∧ (type_of% @i4r15.eq_1) ∧ (type_of% @i4r16.eq_1) ∧ (type_of% @i4r17.eq_1) ∧ (type_of% @i4r18.eq_1) ∧ (type_of% @i4r19.eq_1) ∧ (type_of% @i4r20.eq_1) ∧ (type_of% @i4r21.eq_1) := ⟨@f4.eq_1, @xb4, @xf4r0, @xf4r1, @xf4r2, @xf4r3, @xf4r4, @xf4r5, @xf4r6, @xf4r7, @xf4r8, @xf4r9, @xf4r10, @xf4r11, @xf4r12, @xf4r13, @xf4r14, @xf4r15, @xf4r16, @xf4r17, @xf4l0, @xf4r18, @xf4r19, @xf4r20, @xf4r21, @i4r0.eq_1, @i4r1.eq_1, @i4r2.eq_1, @i4r3.eq_1, @i4r4.eq_1, @i4r5.eq_1, @i4r6.eq_1, @i4r7.eq_1, @i4r8.eq_1, @i4r9.eq_1, @i4r10.eq_1, @i4r11.eq_1, @i4r12.eq_1, @i4r13.eq_1, @i4r14.eq_1, @i4r15.eq_1, @i4r16.eq_1, @i4r17.eq_1, @i4r18.eq_1, @i4r19.eq_1, @i4r20.eq_1, @i4r21.eq_1⟩
theorem xf6r0 : wp T f6r0 e h Q = wpI (cW T) i6r0 e h (regQ (some [0, 1, 2]) Q) := wq_reg ..
theorem xf6r1 : wp T f6r1 e h Q = wpI (cW T) i6r1 e h (regQ (some [0, 1, 2, 36]) Q) := wq_reg ..
theorem xf6r2 : wp T f6r2 e h Q = wpI (cW T) i6r2 e h (regQ (some [6]) Q) := wq_reg ..
theorem xf6r3 : wp T f6r3 e h Q = wpI (cW T) i6r3 e h (regQ (some [0, 1, 2, 7]) Q) := wq_reg ..
theorem xf6r4 : wp T f6r4 e h Q = wpI (cW T) i6r4 e h (regQ (some [0, 1, 2, 7, 8, 9, 10]) Q) := wq_reg ..
theorem xf6r5 : wp T f6r5 e h Q = wpI (cW T) i6r5 e h (regQ (some [0, 1, 2, 7, 8, 9, 10, 11, 12]) Q) := wq_reg ..
theorem xf6r6 : wp T f6r6 e h Q = wpI (cW T) i6r6 e h (regQ (some [0, 1, 2, 7, 8, 9, 69]) Q) := wq_reg ..
theorem xf6r7 : wp T f6r7 e h Q = wpI (cW T) i6r7 e h (regQ (some [6]) Q) := wq_reg ..
theorem xf6r8 : wp T f6r8 e h Q = wpI (cW T) i6r8 e h (regQ (some [0, 1, 2, 7, 8, 71]) Q) := wq_reg ..
theorem xf6r9 : wp T f6r9 e h Q = wpI (cW T) i6r9 e h (regQ (some [6]) Q) := wq_reg ..
theorem xf6r10 : wp T f6r10 e h Q = wpI (cW T) i6r10 e h (regQ (some [0, 1, 2, 7, 8, 13, 14]) Q) := wq_reg ..
theorem xf6r11 : wp T f6r11 e h Q = wpI (cW T) i6r11 e h (regQ (some [0, 1, 2, 7, 13, 14, 15, 16]) Q) := wq_reg ..
theorem xf6r12 : wp T f6r12 e h Q = wpI (cW T) i6r12 e h (regQ (some [2, 13, 14, 15, 16, 18, 19]) Q) := wq_reg ..
theorem xf6r13 : wp T f6r13 e h Q = wpI (cW T) i6r13 e h (regQ (some [2, 13, 137]) Q) := wq_reg ..
theorem xf6r14 : wp T f6r14 e h Q = wpI (cW T) i6r14 e h (regQ (some [6]) Q) := wq_reg ..
theorem xf6r15 : wp T f6r15 e h Q = wpI (cW T) i6r15 e h (regQ (some [6]) Q) := wq_reg ..
theorem xb6 : wp T b6 e h Q = wp T (.seq f6r0 (.seq (.seq f6r1 (.cond (.t 36) (.seq f6r2 .ret) .skip)) (.seq f6r3 (.seq f6r4 (.seq f6r5 (.seq (.seq f6r6 (.cond (.t 69) (.seq f6r7 .ret) .skip)) (.seq (.seq f6r8 (.cond (.t 71) (.seq f6r9 .ret) .skip)) (.seq f6r10 (.seq f6r11 (.seq f6r12 (.seq (.seq f6r13 (.cond (.t 137) (.seq f6r14 .ret) .skip)) (.seq f6r15 .ret)))))))))))) e h Q := rfl
theorem e6 : (type_of% @f6.eq_1) ∧ (type_of% @xb6) ∧ (type_of% @xf6r0) ∧ (type_of% @xf6r1) ∧ (type_of% @xf6r2) ∧ (type_of% @xf6r3) ∧ (type_of% @xf6r4) ∧ (type_of% @xf6r5) ∧ (type_of% @xf6r6) ∧ (type_of% @xf6r7) ∧ (type_of% @xf6r8) ∧ (type_of% @xf6r9) ∧ (type_of% @xf6r10) ∧ (type_of% @xf6r11) ∧ (type_of% @xf6r12) ∧ (type_of% @xf6r13) ∧ (type_of% @xf6r14) ∧ (type_of% @xf6r15) ∧ (type_of% @i6r0.eq_1) ∧ (type_of% @i6r1.eq_1) ∧ (type_of% @i6r2.eq_1) ∧ (type_of% @i6r3.eq_1) ∧ (type_of% @i6r4.eq_1) ∧ (type_of% @i6r5.eq_1) ∧ (type_of% @i6r6.eq_1) ∧ (type_of% @i6r7.eq_1) ∧ (type_of% @i6r8.eq_1) ∧ (type_of% @i6r9.eq_1) ∧ (type_of% @i6r10.eq_1) ∧ (type_of% @i6r11.eq_1) ∧ (type_of% @i6r12.eq_1) ∧ (type_of% @i6r13.eq_1) ∧ (type_of% @i6r14.eq_1) ∧ (type_of% @i6r15.eq_1) := ⟨@f6.eq_1, @xb6, @xf6r0, @xf6r1, @xf6r2, @xf6r3, @xf6r4, @xf6r5, @xf6r6, @xf6r7, @xf6r8, @xf6r9, @xf6r10, @xf6r11, @xf6r12, @xf6r13, @xf6r14, @xf6r15, @i6r0.eq_1, @i6r1.eq_1, @i6r2.eq_1, @i6r3.eq_1, @i6r4.eq_1, @i6r5.eq_1, @i6r6.eq_1, @i6r7.eq_1, @i6r8.eq_1, @i6r9.eq_1, @i6r10.eq_1, @i6r11.eq_1, @i6r12.eq_1, @i6r13.eq_1, @i6r14.eq_1, @i6r15.eq_1⟩
theorem xf7r0 : wp T f7r0 e h Q = wpI (cW T) i7r0 e h (regQ (some [0, 1]) Q) := wq_reg ..
theorem xf7r1 : wp T f7r1 e h Q = wpI (cW T) i7r1 e h (regQ (some [0, 1, 15]) Q) := wq_reg ..
theorem xf7r2 : wp T f7r2 e h Q = wpI (cW T) i7r2 e h (regQ (some [4]) Q) := wq_reg ..
theorem xf7r3 : wp T f7r3 e h Q = wpI (cW T) i7r3 e h (regQ (some [0, 1, 5]) Q) := wq_reg ..
theorem xf7r4 : wp T f7r4 e h Q = wpI (cW T) i7r4 e h (regQ (some [0, 1, 5, 20]) Q) := wq_reg ..
theorem xf7r5 : wp T f7r5 e h Q = wpI (cW T) i7r5 e h (regQ (some [0, 1, 5, 28]) Q) := wq_reg ..
theorem xf7r6 : wp T f7r6 e h Q = wpI (cW T) i7r6 e h (regQ (some [4]) Q) := wq_reg ..
theorem xf7r7 : wp T f7r7 e h Q = wpI (cW T) i7r7 e h (regQ (some [0, 1, 5]) Q) := wq_reg ..
theorem xf7l0 : wp T f7l0 e h Q = wp T (.seq (.seq f7r4 (.cond (.t 20) .skip (.exit 0))) (.seq (.blk 1 (.seq f7r5 (.cond (.t 28) (.seq f7r6 .ret) .skip))) f7r7)) e h Q := rfl
theorem xf7r8 : wp T f7r8 e h Q = wpI (cW T) i7r8 e h (regQ (some [0, 1, 6]) Q) := wq_reg ..
theorem xf7r9 : wp T f7r9 e h Q = wpI (cW T) i7r9 e h (regQ (some [0, 1, 6, 7]) Q) := wq_reg ..
theorem xf7r10 : wp T f7r10 e h Q = wpI (cW T) i7r10 e h (regQ (some [0, 1, 6, 7, 35]) Q) := wq_reg ..
theorem xf7r11 : wp T f7r11 e h Q = wpI (cW T) i7r11 e h (regQ (some [0, 1, 6, 7, 50]) Q) := wq_reg ..
theorem xf7r12 : wp T f7r12 e h Q = wpI (cW T) i7r12 e h (regQ (some [4]) Q) := wq_reg ..
theorem xf7r13 : wp T f7r13 e h Q = wpI (cW T) i7r13 e h (regQ (some [0, 1, 6, 7]) Q) := wq_reg ..
theorem xf7l1 : wp T f7l1 e h Q = wp T (.seq (.seq f7r10 (.cond (.t 35) .skip (.exit 2))) (.seq (.blk 3 (.seq f7r11 (.cond (.t 50) (.seq f7r12 .ret) .skip))) f7r13)) e h Q := rfl
theorem xf7r14 : wp T f7r14 e h Q = wpI (cW T) i7r14 e h (regQ (some [4]) Q) := wq_reg ..
theorem xb7 : wp T b7 e h Q = wp T (.seq f7r0 (.seq (.seq f7r1 (.cond (.t 15) (.seq f7r2 .ret) .skip)) (.seq (.seq f7r3 (.blk 0 (.loop f7l0))) (.seq f7r8 (.seq (.seq f7r9 (.blk 2 (.loop f7l1))) (.seq f7r14 .ret)))))) e h Q := rfl
theorem e7 : (type_of% @f7.eq_1) ∧ (type_of% @xb7) ∧ (type_of% @xf7r0) ∧ (type_of% @xf7r1) ∧ (type_of% @xf7r2) ∧ (type_of% @xf7r3) ∧ (type_of% @xf7r4) ∧ (type_of% @xf7r5) ∧ (type_of% @xf7r6) ∧ (type_of% @xf7r7) ∧ (type_of% @xf7l0) ∧ (type_of% @xf7r8) ∧ (type_of% @xf7r9) ∧ (type_of% @xf7r10) ∧ (type_of% @xf7r11) ∧ (type_of% @xf7r12) ∧ (type_of% @xf7r13) ∧ (type_of% @xf7l1) ∧ (type_of% @xf7r14) ∧ (type_of% @i7r0.eq_1) ∧ (type_of% @i7r1.eq_1) ∧ (type_of% @i7r2.eq_1) ∧ (type_of% @i7r3.eq_1) ∧ (type_of% @i7r4.eq_1) ∧ (type_of% @i7r5.eq_1) ∧ (type_of% @i7r6.eq_1) ∧ (type_of% @i7r7.eq_1) ∧ (type_of% @i7r8.eq_1) ∧ (type_of% @i7r9.eq_1) ∧ (type_of% @i7r10.eq_1) ∧ (type_of% @i7r11.eq_1) ∧ (type_of% @i7r12.eq_1) ∧ (type_of% @i7r13.eq_1) ∧ (type_of% @i7r14.eq_1) := ⟨@f7.eq_1, @xb7, @xf7r0, @xf7r1, @xf7r2, @xf7r3, @xf7r4, @xf7r5, @xf7r6, @xf7r7, @xf7l0, @xf7r8, @xf7r9, @xf7r10, @xf7r11, @xf7r12, @xf7r13, @xf7l1, @xf7r14, @i7r0.eq_1, @i7r1.eq_1, @i7r2.eq_1, @i7r3.eq_1, @i7r4.eq_1, @i7r5.eq_1, @i7r6.eq_1, @i7r7.eq_1, @i7r8.eq_1, @i7r9.eq_1, @i7r10.eq_1, @i7r11.eq_1, @i7r12.eq_1, @i7r13.eq_1, @i7r14.eq_1⟩
theorem xf9r0 : wp T f9r0 e h Q = wpI (cW T) i9r0 e h (regQ (some [0, 1, 2]) Q) := wq_reg ..
theorem xf9r1 : wp T f9r1 e h Q = wpI (cW T) i9r1 e h (regQ (some [0, 1, 2, 7]) Q) := wq_reg ..
theorem xf9r2 : wp T f9r2 e h Q = wpI (cW T) i9r2 e h (regQ (some [0, 1, 2, 7, 8]) Q) := wq_reg ..
theorem xf9r3 : wp T f9r3 e h Q = wpI (cW T) i9r3 e h (regQ (some [0, 1, 2, 7, 8, 16]) Q) := wq_reg ..
theorem xf9r4 : wp T f9r4 e h Q = wpI (cW T) i9r4 e h (regQ (some [0, 1, 2, 7, 8]) Q) := wq_reg ..
theorem xf9r5 : wp T f9r5 e h Q = wpI (cW T) i9r5 e h (regQ (some [0, 1, 2, 7, 8]) Q) := wq_reg ..
theorem xf9l0 : wp T f9l0 e h Q = wp T (.seq (.seq f9r3 (.cond (.t 16) .skip (.exit 0))) (.seq (.blk 1 f9r4) f9r5)) e h Q := rfl
theorem xf9r6 : wp T f9r6 e h Q = wpI (cW T) i9r6 e h (regQ (some [6]) Q) := wq_reg ..
theorem xb9 : wp T b9 e h Q = wp T (.seq f9r0 (.seq f9r1 (.seq (.seq f9r2 (.blk 0 (.loop f9l0))) (.seq f9r6 .ret)))) e h Q := rfl
theorem e9 : (type_of% @f9.eq_1) ∧ (type_of% @xb9) ∧ (type_of% @xf9r0) ∧ (type_of% @xf9r1) ∧ (type_of% @xf9r2) ∧ (type_of% @xf9r3) ∧ (type_of% @xf9r4) ∧ (type_of% @xf9r5) ∧ (type_of% @xf9l0) ∧ (type_of% @xf9r6) ∧ (type_of% @i9r0.eq_1) ∧ (type_of% @i9r1.eq_1) ∧ (type_of% @i9r2.eq_1) ∧ (type_of% @i9r3.eq_1) ∧ (type_of% @i9r4.eq_1) ∧ (type_of% @i9r5.eq_1) ∧ (type_of% @i9r6.eq_1) := ⟨@f9.eq_1, @xb9, @xf9r0, @xf9r1, @xf9r2, @xf9r3, @xf9r4, @xf9r5, @xf9l0, @xf9r6, @i9r0.eq_1, @i9r1.eq_1, @i9r2.eq_1, @i9r3.eq_1, @i9r4.eq_1, @i9r5.eq_1, @i9r6.eq_1⟩
theorem xf11r0 : wp T f11r0 e h Q = wpI (cW T) i11r0 e h (regQ (some [1, 2, 3]) Q) := wq_reg ..
theorem xf11r1 : wp T f11r1 e h Q = wpI (cW T) i11r1 e h (regQ (some [1, 2, 3, 15]) Q) := wq_reg ..
theorem xf11r2 : wp T f11r2 e h Q = wpI (cW T) i11r2 e h (regQ (some [6]) Q) := wq_reg ..
theorem xf11r3 : wp T f11r3 e h Q = wpI (cW T) i11r3 e h (regQ (some [1, 2, 3, 23]) Q) := wq_reg ..
theorem xf11r4 : wp T f11r4 e h Q = wpI (cW T) i11r4 e h (regQ (some [6]) Q) := wq_reg ..
theorem xf11r5 : wp T f11r5 e h Q = wpI (cW T) i11r5 e h (regQ (some [1, 2, 3, 26]) Q) := wq_reg ..
theorem xf11r6 : wp T f11r6 e h Q = wpI (cW T) i11r6 e h (regQ (some [6]) Q) := wq_reg ..
theorem xf11r7 : wp T f11r7 e h Q = wpI (cW T) i11r7 e h (regQ (some [1, 2, 3, 27, 28, 29]) Q) := wq_reg ..
theorem xf11r8 : wp T f11r8 e h Q = wpI (cW T) i11r8 e h (regQ (some [1, 2, 3, 27, 28, 29, 30]) Q) := wq_reg ..
theorem xf11r9 : wp T f11r9 e h Q = wpI (cW T) i11r9 e h (regQ (some [1, 2, 3, 8, 27, 28, 29]) Q) := wq_reg ..
theorem xf11r10 : wp T f11r10 e h Q = wpI (cW T) i11r10 e h (regQ (some [1, 2, 3, 27, 28, 29, 34]) Q) := wq_reg ..
theorem xf11r11 : wp T f11r11 e h Q = wpI (cW T) i11r11 e h (regQ (some [6]) Q) := wq_reg ..
theorem xf11r12 : wp T f11r12 e h Q = wpI (cW T) i11r12 e h (regQ (some [1, 2, 3, 27, 28, 29]) Q) := wq_reg ..
theorem xf11l0 : wp T f11l0 e h Q = wp T (.seq f11r8 (.seq (.cond (.t 30) .skip (.exit 0)) (.seq (.blk 1 (.seq f11r9 (.seq f11r10 (.cond (.t 34) (.seq f11r11 .ret) .skip)))) f11r12))) e h Q := rfl
theorem xf11r13 : wp T f11r13 e h Q = wpI (cW T) i11r13 e h (regQ (some [1, 3, 36, 37, 38]) Q) := wq_reg ..
theorem xf11r14 : wp T f11r14 e h Q = wpI (cW T) i11r14 e h (regQ (some [1, 3, 36, 37, 38, 39]) Q) := wq_reg ..
theorem xf11r15 : wp T f11r15 e h Q = wpI (cW T) i11r15 e h (regQ (some [1, 3, 10, 36, 37, 38]) Q) := wq_reg ..
theorem xf11r16 : wp T f11r16 e h Q = wpI (cW T) i11r16 e h (regQ (some [1, 3, 10, 36, 37, 38, 46]) Q) := wq_reg ..
theorem xf11r17 : wp T f11r17 e h Q = wpI (cW T) i11r17 e h (regQ (some [6]) Q) := wq_reg ..
theorem xf11r18 : wp T f11r18 e h Q = wpI (cW T) i11r18 e h (regQ (some [1, 3, 36, 37, 38, 47, 48, 49]) Q) := wq_reg ..
theorem xf11r19 : wp T f11r19 e h Q = wpI (cW T) i11r19 e h (regQ (some [1, 3, 36, 37, 38, 47, 48, 49, 50]) Q) := wq_reg ..
theorem xf11r20 : wp T f11r20 e h Q = wpI (cW T) i11r20 e h (regQ (some [1, 3, 11, 12, 36, 37, 38, 47, 48, 49]) Q) := wq_reg ..
theorem xf11r21 : wp T f11r21 e h Q = wpI (cW T) i11r21 e h (regQ (some [1, 3, 36, 37, 38, 47, 48, 49, 61]) Q) := wq_reg ..
theorem xf11r22 : wp T f11r22 e h Q = wpI (cW T) i11r22 e h (regQ (some [6]) Q) := wq_reg ..
theorem xf11r23 : wp T f11r23 e h Q = wpI (cW T) i11r23 e h (regQ (some [1, 3, 36, 37, 38, 47, 48, 49]) Q) := wq_reg ..
theorem xf11l1 : wp T f11l1 e h Q = wp T (.seq f11r19 (.seq (.cond (.t 50) .skip (.exit 4)) (.seq (.blk 5 (.seq f11r20 (.seq f11r21 (.cond (.t 61) (.seq f11r22 .ret) .skip)))) f11r23))) e h Q := rfl
theorem xf11r24 : wp T f11r24 e h Q = wpI (cW T) i11r24 e h (regQ (some [1, 3, 36, 37, 38]) Q) := wq_reg ..
theorem xf11l2 : wp T f11l2 e h Q = wp T (.seq f11r14 (.seq (.cond (.t 39) .skip (.exit 2)) (.seq (.blk 3 (.seq f11r15 (.seq (.seq f11r16 (.cond (.t 46) (.seq f11r17 .ret) .skip)) (.seq f11r18 (.blk 4 (.loop f11l1)))))) f11r24))) e h Q := rfl
theorem xf11r25 : wp T f11r25 e h Q = wpI (cW T) i11r25 e h (regQ (some [6]) Q) := wq_reg ..
theorem xb11 : wp T b11 e h Q = wp T (.seq f11r0 (.seq (.seq f11r1 (.cond (.t 15) (.seq f11r2 .ret) .skip)) (.seq (.seq f11r3 (.cond (.t 23) (.seq f11r4 .ret) .skip)) (.seq (.seq f11r5 (.cond (.t 26) (.seq f11r6 .ret) .skip)) (.seq (.seq f11r7 (.blk 0 (.loop f11l0))) (.seq (.seq f11r13 (.blk 2 (.loop f11l2))) (.seq f11r25 .ret))))))) e h Q := rfl
theorem e11 : (type_of% @f11.eq_1) ∧ (type_of% @xb11) ∧ (type_of% @xf11r0) ∧ (type_of% @xf11r1) ∧ (type_of% @xf11r2) ∧ (type_of% @xf11r3) ∧ (type_of% @xf11r4) ∧ (type_of% @xf11r5) ∧ (type_of% @xf11r6) ∧ (type_of% @xf11r7) ∧ (type_of% @xf11r8) ∧ (type_of% @xf11r9) ∧ (type_of% @xf11r10) ∧ (type_of% @xf11r11) ∧ (type_of% @xf11r12) ∧ (type_of% @xf11l0) ∧ (type_of% @xf11r13) ∧ (type_of% @xf11r14) ∧ (type_of% @xf11r15) ∧ (type_of% @xf11r16) ∧ (type_of% @xf11r17) ∧ (type_of% @xf11r18) ∧ (type_of% @xf11r19) ∧ (type_of% @xf11r20) ∧ (type_of% @xf11r21) ∧ (type_of% @xf11r22) ∧ (type_of% @xf11r23) ∧ (type_of% @xf11l1) ∧ (type_of% @xf11r24) ∧ (type_of% @xf11l2) ∧ (type_of% @xf11r25) ∧ (type_of% @i11r0.eq_1) ∧ (type_of% @i11r1.eq_1) ∧ (type_of% @i11r2.eq_1) ∧ (type_of% @i11r3.eq_1) ∧ (type_of% @i11r4.eq_1) ∧ (type_of% @i11r5.eq_1) ∧ (type_of% @i11r6.eq_1) ∧ (type_of% @i11r7.eq_1) ∧ (type_of% @i11r8.eq_1) ∧ (type_of% @i11r9.eq_1) ∧ (type_of% @i11r10.eq_1) ∧ (type_of% @i11r11.eq_1) ∧ (type_of% @i11r12.eq_1) ∧ (type_of% @i11r13.eq_1) ∧ (type_of% @i11r14.eq_1) ∧ (type_of% @i11r15.eq_1) ∧ (type_of% @i11r16.eq_1) ∧ (type_of% @i11r17.eq_1) ∧ (type_of% @i11r18.eq_1) ∧ (type_of% @i11r19.eq_1) ∧ (type_of% @i11r20.eq_1) ∧ (type_of% @i11r21.eq_1) ∧ (type_of% @i11r22.eq_1) ∧ (type_of% @i11r23.eq_1) ∧ (type_of% @i11r24.eq_1) ∧ (type_of% @i11r25.eq_1) := ⟨@f11.eq_1, @xb11, @xf11r0, @xf11r1, @xf11r2, @xf11r3, @xf11r4, @xf11r5, @xf11r6, @xf11r7, @xf11r8, @xf11r9, @xf11r10, @xf11r11, @xf11r12, @xf11l0, @xf11r13, @xf11r14, @xf11r15, @xf11r16, @xf11r17, @xf11r18, @xf11r19, @xf11r20, @xf11r21, @xf11r22, @xf11r23, @xf11l1, @xf11r24, @xf11l2, @xf11r25, @i11r0.eq_1, @i11r1.eq_1, @i11r2.eq_1, @i11r3.eq_1, @i11r4.eq_1, @i11r5.eq_1, @i11r6.eq_1, @i11r7.eq_1, @i11r8.eq_1, @i11r9.eq_1, @i11r10.eq_1, @i11r11.eq_1, @i11r12.eq_1, @i11r13.eq_1, @i11r14.eq_1, @i11r15.eq_1, @i11r16.eq_1, @i11r17.eq_1, @i11r18.eq_1, @i11r19.eq_1, @i11r20.eq_1, @i11r21.eq_1, @i11r22.eq_1, @i11r23.eq_1, @i11r24.eq_1, @i11r25.eq_1⟩
theorem xf12r0 : wp T f12r0 e h Q = wpI (cW T) i12r0 e h (regQ (some [0]) Q) := wq_reg ..
theorem xf12r1 : wp T f12r1 e h Q = wpI (cW T) i12r1 e h (regQ (some [0, 3]) Q) := wq_reg ..
theorem xf12r2 : wp T f12r2 e h Q = wpI (cW T) i12r2 e h (regQ (some [0, 3, 4]) Q) := wq_reg ..
theorem xf12r3 : wp T f12r3 e h Q = wpI (cW T) i12r3 e h (regQ (some [0, 3, 4, 8]) Q) := wq_reg ..
theorem xf12r4 : wp T f12r4 e h Q = wpI (cW T) i12r4 e h (regQ (some [0, 3, 4]) Q) := wq_reg ..
theorem xf12r5 : wp T f12r5 e h Q = wpI (cW T) i12r5 e h (regQ (some [0, 3, 4]) Q) := wq_reg ..
theorem xf12l0 : wp T f12l0 e h Q = wp T (.seq (.seq f12r3 (.cond (.t 8) .skip (.exit 0))) (.seq (.blk 1 f12r4) f12r5)) e h Q := rfl
theorem xf12r6 : wp T f12r6 e h Q = wpI (cW T) i12r6 e h (regQ (some [2]) Q) := wq_reg ..
theorem xb12 : wp T b12 e h Q = wp T (.seq f12r0 (.seq f12r1 (.seq (.seq f12r2 (.blk 0 (.loop f12l0))) (.seq f12r6 .ret)))) e h Q := rfl
theorem e12 : (type_of% @f12.eq_1) ∧ (type_of% @xb12) ∧ (type_of% @xf12r0) ∧ (type_of% @xf12r1) ∧ (type_of% @xf12r2) ∧ (type_of% @xf12r3) ∧ (type_of% @xf12r4) ∧ (type_of% @xf12r5) ∧ (type_of% @xf12l0) ∧ (type_of% @xf12r6) ∧ (type_of% @i12r0.eq_1) ∧ (type_of% @i12r1.eq_1) ∧ (type_of% @i12r2.eq_1) ∧ (type_of% @i12r3.eq_1) ∧ (type_of% @i12r4.eq_1) ∧ (type_of% @i12r5.eq_1) ∧ (type_of% @i12r6.eq_1) := ⟨@f12.eq_1, @xb12, @xf12r0, @xf12r1, @xf12r2, @xf12r3, @xf12r4, @xf12r5, @xf12l0, @xf12r6, @i12r0.eq_1, @i12r1.eq_1, @i12r2.eq_1, @i12r3.eq_1, @i12r4.eq_1, @i12r5.eq_1, @i12r6.eq_1⟩
theorem xf13r0 : wp T f13r0 e h Q = wpI (cW T) i13r0 e h (regQ (some [0, 1, 2]) Q) := wq_reg ..
theorem xf13r1 : wp T f13r1 e h Q = wpI (cW T) i13r1 e h (regQ (some [0, 1, 2, 14]) Q) := wq_reg ..
theorem xf13r2 : wp T f13r2 e h Q = wpI (cW T) i13r2 e h (regQ (some [6]) Q) := wq_reg ..
theorem xf13r3 : wp T f13r3 e h Q = wpI (cW T) i13r3 e h (regQ (some [0, 1, 2, 22]) Q) := wq_reg ..
theorem xf13r4 : wp T f13r4 e h Q = wpI (cW T) i13r4 e h (regQ (some [6]) Q) := wq_reg ..
theorem xf13r5 : wp T f13r5 e h Q = wpI (cW T) i13r5 e h (regQ (some [0, 1, 2, 7]) Q) := wq_reg ..
theorem xf13r6 : wp T f13r6 e h Q = wpI (cW T) i13r6 e h (regQ (some [0, 1, 2, 7, 26]) Q) := wq_reg ..
theorem xf13r7 : wp T f13r7 e h Q = wpI (cW T) i13r7 e h (regQ (some [0, 1, 2, 7, 42]) Q) := wq_reg ..
theorem xf13r8 : wp T f13r8 e h Q = wpI (cW T) i13r8 e h (regQ (some [6]) Q) := wq_reg ..
theorem xf13r9 : wp T f13r9 e h Q = wpI (cW T) i13r9 e h (regQ (some [0, 1, 2, 7]) Q) := wq_reg ..
theorem xf13l0 : wp T f13l0 e h Q = wp T (.seq (.seq f13r6 (.cond (.t 26) .skip (.exit 0))) (.seq (.blk 1 (.seq f13r7 (.cond (.t 42) (.seq f13r8 .ret) .skip))) f13r9)) e h Q := rfl
theorem xf13r10 : wp T f13r10 e h Q = wpI (cW T) i13r10 e h (regQ (some [0, 1, 2, 8]) Q) := wq_reg ..
theorem xf13r11 : wp T f13r11 e h Q = wpI (cW T) i13r11 e h (regQ (some [0, 1, 2, 8, 46]) Q) := wq_reg ..
theorem xf13r12 : wp T f13r12 e h Q = wpI (cW T) i13r12 e h (regQ (some [0, 1, 2, 8, 9]) Q) := wq_reg ..
theorem xf13r13 : wp T f13r13 e h Q = wpI (cW T) i13r13 e h (regQ (some [0, 1, 2, 8, 9, 55]) Q) := wq_reg ..
theorem xf13r14 : wp T f13r14 e h Q = wpI (cW T) i13r14 e h (regQ (some [0, 1, 2, 8, 9, 65]) Q) := wq_reg ..
theorem xf13r15 : wp T f13r15 e h Q = wpI (cW T) i13r15 e h (regQ (some [6]) Q) := wq_reg ..
theorem xf13r16 : wp T f13r16 e h Q = wpI (cW T) i13r16 e h (regQ (some [0, 1, 2, 8, 9]) Q) := wq_reg ..
theorem xf13l1 : wp T f13l1 e h Q = wp T (.seq (.seq f13r13 (.cond (.t 55) .skip (.exit 4))) (.seq (.blk 5 (.seq f13r14 (.cond (.t 65) (.seq f13r15 .ret) .skip))) f13r16)) e h Q := rfl
theorem xf13r17 : wp T f13r17 e h Q = wpI (cW T) i13r17 e h (regQ (some [0, 1, 2, 8]) Q) := wq_reg ..
theorem xf13l2 : wp T f13l2 e h Q = wp T (.seq (.seq f13r11 (.cond (.t 46) .skip (.exit 2))) (.seq (.blk 3 (.seq f13r12 (.blk 4 (.loop f13l1)))) f13r17)) e h Q := rfl
theorem xf13r18 : wp T f13r18 e h Q = wpI (cW T) i13r18 e h (regQ (some [0, 1, 2, 10]) Q) := wq_reg ..
theorem xf13r19 : wp T f13r19 e h Q = wpI (cW T) i13r19 e h (regQ (some [0, 1, 2, 10, 69]) Q) := wq_reg ..
theorem xf13r20 : wp T f13r20 e h Q = wpI (cW T) i13r20 e h (regQ (some [0, 1, 2, 10, 79]) Q) := wq_reg ..
theorem xf13r21 : wp T f13r21 e h Q = wpI (cW T) i13r21 e h (regQ (some [6]) Q) := wq_reg ..
theorem xf13r22 : wp T f13r22 e h Q = wpI (cW T) i13r22 e h (regQ (some [0, 1, 2, 10, 11]) Q) := wq_reg ..
theorem xf13r23 : wp T f13r23 e h Q = wpI (cW T) i13r23 e h (regQ (some [0, 1, 2, 10, 11, 83]) Q) := wq_reg ..
theorem xf13r24 : wp T f13r24 e h Q = wpI (cW T) i13r24 e h (regQ (some [0, 1, 2, 10, 11, 99]) Q) := wq_reg ..
theorem xf13r25 : wp T f13r25 e h Q = wpI (cW T) i13r25 e h (regQ (some [6]) Q) := wq_reg ..
theorem xf13r26 : wp T f13r26 e h Q = wpI (cW T) i13r26 e h (regQ (some [0, 1, 2, 10, 11]) Q) := wq_reg ..
theorem xf13l3 : wp T f13l3 e h Q = wp T (.seq (.seq f13r23 (.cond (.t 83) .skip (.exit 8))) (.seq (.blk 9 (.seq f13r24 (.cond (.t 99) (.seq f13r25 .ret) .skip))) f13r26)) e h Q := rfl
theorem xf13r27 : wp T f13r27 e h Q = wpI (cW T) i13r27 e h (regQ (some [0, 1, 2, 10]) Q) := wq_reg ..
theorem xf13l4 : wp T f13l4 e h Q = wp T (.seq (.seq f13r19 (.cond (.t 69) .skip (.exit 6))) (.seq (.blk 7 (.seq (.seq f13r20 (.cond (.t 79) (.seq f13r21 .ret) .skip)) (.seq f13r22 (.blk 8 (.loop f13l3))))) f13r27)) e h Q := rfl
theorem xf13r28 : wp T f13r28 e h Q = wpI (cW T) i13r28 e h (regQ (some [6]) Q) := wq_reg ..
theorem xb13 : wp T b13 e h Q = wp T (.seq f13r0 (.seq (.seq f13r1 (.cond (.t 14) (.seq f13r2 .ret) .skip)) (.seq (.seq f13r3 (.cond (.t 22) (.seq f13r4 .ret) .skip)) (.seq (.seq f13r5 (.blk 0 (.loop f13l0))) (.seq (.seq f13r10 (.blk 2 (.loop f13l2))) (.seq (.seq f13r18 (.blk 6 (.loop f13l4))) (.seq f13r28 .ret))))))) e h Q := rfl
theorem e13 : (type_of% @f13.eq_1) ∧ (type_of% @xb13) ∧ (type_of% @xf13r0) ∧ (type_of% @xf13r1) ∧ (type_of% @xf13r2) ∧ (type_of% @xf13r3) ∧ (type_of% @xf13r4) ∧ (type_of% @xf13r5) ∧ (type_of% @xf13r6) ∧ (type_of% @xf13r7) ∧ (type_of% @xf13r8) ∧ (type_of% @xf13r9) ∧ (type_of% @xf13l0) ∧ (type_of% @xf13r10) ∧ (type_of% @xf13r11) ∧ (type_of% @xf13r12) ∧ (type_of% @xf13r13) ∧ (type_of% @xf13r14) ∧ (type_of% @xf13r15) ∧ (type_of% @xf13r16) ∧ (type_of% @xf13l1) ∧ (type_of% @xf13r17) ∧ (type_of% @xf13l2) ∧ (type_of% @xf13r18) ∧ (type_of% @xf13r19) ∧ (type_of% @xf13r20) ∧ (type_of% @xf13r21) ∧ (type_of% @xf13r22) ∧ (type_of% @xf13r23) ∧ (type_of% @xf13r24) ∧ (type_of% @xf13r25) ∧ (type_of% @xf13r26) ∧ (type_of% @xf13l3) ∧ (type_of% @xf13r27) ∧ (type_of% @xf13l4) ∧ (type_of% @xf13r28) ∧ (type_of% @i13r0.eq_1) ∧ (type_of% @i13r1.eq_1) ∧ (type_of% @i13r2.eq_1) ∧ (type_of% @i13r3.eq_1) ∧ (type_of% @i13r4.eq_1) ∧ (type_of% @i13r5.eq_1) ∧ (type_of% @i13r6.eq_1) ∧ (type_of% @i13r7.eq_1) ∧ (type_of% @i13r8.eq_1) ∧ (type_of% @i13r9.eq_1) ∧ (type_of% @i13r10.eq_1) ∧ (type_of% @i13r11.eq_1) ∧ (type_of% @i13r12.eq_1) ∧ (type_of% @i13r13.eq_1) ∧ (type_of% @i13r14.eq_1) ∧ (type_of% @i13r15.eq_1) ∧ (type_of% @i13r16.eq_1) ∧ (type_of% @i13r17.eq_1) ∧ (type_of% @i13r18.eq_1) ∧ (type_of% @i13r19.eq_1) ∧ (type_of% @i13r20.eq_1) ∧ (type_of% @i13r21.eq_1) ∧ (type_of% @i13r22.eq_1) ∧ (type_of% @i13r23.eq_1) ∧ (type_of% @i13r24.eq_1) ∧ (type_of% @i13r25.eq_1) ∧ (type_of% @i13r26.eq_1) ∧ (type_of% @i13r27.eq_1) ∧ (type_of% @i13r28.eq_1) := ⟨@f13.eq_1, @xb13, @xf13r0, @xf13r1, @xf13r2, @xf13r3, @xf13r4, @xf13r5, @xf13r6, @xf13r7, @xf13r8, @xf13r9, @xf13l0, @xf13r10, @xf13r11, @xf13r12, @xf13r13, @xf13r14, @xf13r15, @xf13r16, @xf13l1, @xf13r17, @xf13l2, @xf13r18, @xf13r19, @xf13r20, @xf13r21, @xf13r22, @xf13r23, @xf13r24, @xf13r25, @xf13r26, @xf13l3, @xf13r27, @xf13l4, @xf13r28, @i13r0.eq_1, @i13r1.eq_1, @i13r2.eq_1, @i13r3.eq_1, @i13r4.eq_1, @i13r5.eq_1, @i13r6.eq_1, @i13r7.eq_1, @i13r8.eq_1, @i13r9.eq_1, @i13r10.eq_1, @i13r11.eq_1, @i13r12.eq_1, @i13r13.eq_1, @i13r14.eq_1, @i13r15.eq_1, @i13r16.eq_1, @i13r17.eq_1, @i13r18.eq_1, @i13r19.eq_1, @i13r20.eq_1, @i13r21.eq_1, @i13r22.eq_1, @i13r23.eq_1, @i13r24.eq_1, @i13r25.eq_1, @i13r26.eq_1, @i13r27.eq_1, @i13r28.eq_1⟩
theorem xf15r0 : wp T f15r0 e h Q = wpI (cW T) i15r0 e h (regQ (some [0]) Q) := wq_reg ..
theorem xf15r1 : wp T f15r1 e h Q = wpI (cW T) i15r1 e h (regQ (some [0, 3]) Q) := wq_reg ..
theorem xf15r2 : wp T f15r2 e h Q = wpI (cW T) i15r2 e h (regQ (some [0, 3, 4]) Q) := wq_reg ..
theorem xf15r3 : wp T f15r3 e h Q = wpI (cW T) i15r3 e h (regQ (some [0, 3, 4, 8]) Q) := wq_reg ..
theorem xf15r4 : wp T f15r4 e h Q = wpI (cW T) i15r4 e h (regQ (some [0, 3, 4]) Q) := wq_reg ..
theorem xf15r5 : wp T f15r5 e h Q = wpI (cW T) i15r5 e h (regQ (some [0, 3, 4]) Q) := wq_reg ..
theorem xf15l0 : wp T f15l0 e h Q = wp T (.seq (.seq f15r3 (.cond (.t 8) .skip (.exit 0))) (.seq (.blk 1 f15r4) f15r5)) e h Q := rfl
theorem xf15r6 : wp T f15r6 e h Q = wpI (cW T) i15r6 e h (regQ (some [2]) Q) := wq_reg ..
theorem xb15 : wp T b15 e h Q = wp T (.seq f15r0 (.seq f15r1 (.seq (.seq f15r2 (.blk 0 (.loop f15l0))) (.seq f15r6 .ret)))) e h Q := rfl
theorem e15 : (type_of% @f15.eq_1) ∧ (type_of% @xb15) ∧ (type_of% @xf15r0) ∧ (type_of% @xf15r1) ∧ (type_of% @xf15r2) ∧ (type_of% @xf15r3) ∧ (type_of% @xf15r4) ∧ (type_of% @xf15r5) ∧ (type_of% @xf15l0) ∧ (type_of% @xf15r6) ∧ (type_of% @i15r0.eq_1) ∧ (type_of% @i15r1.eq_1) ∧ (type_of% @i15r2.eq_1) ∧ (type_of% @i15r3.eq_1) ∧ (type_of% @i15r4.eq_1) ∧ (type_of% @i15r5.eq_1) ∧ (type_of% @i15r6.eq_1) := ⟨@f15.eq_1, @xb15, @xf15r0, @xf15r1, @xf15r2, @xf15r3, @xf15r4, @xf15r5, @xf15l0, @xf15r6, @i15r0.eq_1, @i15r1.eq_1, @i15r2.eq_1, @i15r3.eq_1, @i15r4.eq_1, @i15r5.eq_1, @i15r6.eq_1⟩
theorem xf23r0 : wp T f23r0 e h Q = wpI (cW T) i23r0 e h (regQ (some [0, 3]) Q) := wq_reg ..
theorem xf23r1 : wp T f23r1 e h Q = wpI (cW T) i23r1 e h (regQ (some [4]) Q) := wq_reg ..
theorem xb23 : wp T b23 e h Q = wp T (.seq f23r0 (.seq f23r1 .ret)) e h Q := rfl
theorem e23 : (type_of% @f23.eq_1) ∧ (type_of% @xb23) ∧ (type_of% @xf23r0) ∧ (type_of% @xf23r1) ∧ (type_of% @i23r0.eq_1) ∧ (type_of% @i23r1.eq_1) := ⟨@f23.eq_1, @xb23, @xf23r0, @xf23r1, @i23r0.eq_1, @i23r1.eq_1⟩
theorem xf24r0 : wp T f24r0 e h Q = wpI (cW T) i24r0 e h (regQ (some [0, 1]) Q) := wq_reg ..
theorem xf24r1 : wp T f24r1 e h Q = wpI (cW T) i24r1 e h (regQ (some [0, 1, 10]) Q) := wq_reg ..
theorem xf24r2 : wp T f24r2 e h Q = wpI (cW T) i24r2 e h (regQ (some [4]) Q) := wq_reg ..
theorem xf24r3 : wp T f24r3 e h Q = wpI (cW T) i24r3 e h (regQ (some [0, 1, 12, 13]) Q) := wq_reg ..
theorem xf24r4 : wp T f24r4 e h Q = wpI (cW T) i24r4 e h (regQ (some [0, 1, 12, 13, 14]) Q) := wq_reg ..
theorem xf24r5 : wp T f24r5 e h Q = wpI (cW T) i24r5 e h (regQ (some [0, 1, 5, 12, 13]) Q) := wq_reg ..
theorem xf24r6 : wp T f24r6 e h Q = wpI (cW T) i24r6 e h (regQ (some [0, 1, 12, 13, 25]) Q) := wq_reg ..
theorem xf24r7 : wp T f24r7 e h Q = wpI (cW T) i24r7 e h (regQ (some [4]) Q) := wq_reg ..
theorem xf24r8 : wp T f24r8 e h Q = wpI (cW T) i24r8 e h (regQ (some [0, 1, 12, 13]) Q) := wq_reg ..
theorem xf24l0 : wp T f24l0 e h Q = wp T (.seq f24r4 (.seq (.cond (.t 14) .skip (.exit 0)) (.seq (.blk 1 (.seq f24r5 (.seq f24r6 (.cond (.t 25) (.seq f24r7 .ret) .skip)))) f24r8))) e h Q := rfl
theorem xf24r9 : wp T f24r9 e h Q = wpI (cW T) i24r9 e h (regQ (some [4]) Q) := wq_reg ..
theorem xb24 : wp T b24 e h Q = wp T (.seq f24r0 (.seq (.seq f24r1 (.cond (.t 10) (.seq f24r2 .ret) .skip)) (.seq (.seq f24r3 (.blk 0 (.loop f24l0))) (.seq f24r9 .ret)))) e h Q := rfl
theorem e24 : (type_of% @f24.eq_1) ∧ (type_of% @xb24) ∧ (type_of% @xf24r0) ∧ (type_of% @xf24r1) ∧ (type_of% @xf24r2) ∧ (type_of% @xf24r3) ∧ (type_of% @xf24r4) ∧ (type_of% @xf24r5) ∧ (type_of% @xf24r6) ∧ (type_of% @xf24r7) ∧ (type_of% @xf24r8) ∧ (type_of% @xf24l0) ∧ (type_of% @xf24r9) ∧ (type_of% @i24r0.eq_1) ∧ (type_of% @i24r1.eq_1) ∧ (type_of% @i24r2.eq_1) ∧ (type_of% @i24r3.eq_1) ∧ (type_of% @i24r4.eq_1) ∧ (type_of% @i24r5.eq_1) ∧ (type_of% @i24r6.eq_1) ∧ (type_of% @i24r7.eq_1) ∧ (type_of% @i24r8.eq_1) ∧ (type_of% @i24r9.eq_1) := ⟨@f24.eq_1, @xb24, @xf24r0, @xf24r1, @xf24r2, @xf24r3, @xf24r4, @xf24r5, @xf24r6, @xf24r7, @xf24r8, @xf24l0, @xf24r9, @i24r0.eq_1, @i24r1.eq_1, @i24r2.eq_1, @i24r3.eq_1, @i24r4.eq_1, @i24r5.eq_1, @i24r6.eq_1, @i24r7.eq_1, @i24r8.eq_1, @i24r9.eq_1⟩
theorem xf25r0 : wp T f25r0 e h Q = wpI (cW T) i25r0 e h (regQ (some [0, 1]) Q) := wq_reg ..
theorem xf25r1 : wp T f25r1 e h Q = wpI (cW T) i25r1 e h (regQ (some [0, 1, 10]) Q) := wq_reg ..
theorem xf25r2 : wp T f25r2 e h Q = wpI (cW T) i25r2 e h (regQ (some [4]) Q) := wq_reg ..
theorem xf25r3 : wp T f25r3 e h Q = wpI (cW T) i25r3 e h (regQ (some [0, 1, 5]) Q) := wq_reg ..
theorem xf25r4 : wp T f25r4 e h Q = wpI (cW T) i25r4 e h (regQ (some [0, 1, 5, 14]) Q) := wq_reg ..
theorem xf25r5 : wp T f25r5 e h Q = wpI (cW T) i25r5 e h (regQ (some [0, 1, 5, 26]) Q) := wq_reg ..
theorem xf25r6 : wp T f25r6 e h Q = wpI (cW T) i25r6 e h (regQ (some [4]) Q) := wq_reg ..
theorem xf25r7 : wp T f25r7 e h Q = wpI (cW T) i25r7 e h (regQ (some [0, 1, 5]) Q) := wq_reg ..
theorem xf25l0 : wp T f25l0 e h Q = wp T (.seq (.seq f25r4 (.cond (.t 14) .skip (.exit 0))) (.seq (.blk 1 (.seq f25r5 (.cond (.t 26) (.seq f25r6 .ret) .skip))) f25r7)) e h Q := rfl
theorem xf25r8 : wp T f25r8 e h Q = wpI (cW T) i25r8 e h (regQ (some [4]) Q) := wq_reg ..
theorem xb25 : wp T b25 e h Q = wp T (.seq f25r0 (.seq (.seq f25r1 (.cond (.t 10) (.seq f25r2 .ret) .skip)) (.seq (.seq f25r3 (.blk 0 (.loop f25l0))) (.seq f25r8 .ret)))) e h Q := rfl
theorem e25 : (type_of% @f25.eq_1) ∧ (type_of% @xb25) ∧ (type_of% @xf25r0) ∧ (type_of% @xf25r1) ∧ (type_of% @xf25r2) ∧ (type_of% @xf25r3) ∧ (type_of% @xf25r4) ∧ (type_of% @xf25r5) ∧ (type_of% @xf25r6) ∧ (type_of% @xf25r7) ∧ (type_of% @xf25l0) ∧ (type_of% @xf25r8) ∧ (type_of% @i25r0.eq_1) ∧ (type_of% @i25r1.eq_1) ∧ (type_of% @i25r2.eq_1) ∧ (type_of% @i25r3.eq_1) ∧ (type_of% @i25r4.eq_1) ∧ (type_of% @i25r5.eq_1) ∧ (type_of% @i25r6.eq_1) ∧ (type_of% @i25r7.eq_1) ∧ (type_of% @i25r8.eq_1) := ⟨@f25.eq_1, @xb25, @xf25r0, @xf25r1, @xf25r2, @xf25r3, @xf25r4, @xf25r5, @xf25r6, @xf25r7, @xf25l0, @xf25r8, @i25r0.eq_1, @i25r1.eq_1, @i25r2.eq_1, @i25r3.eq_1, @i25r4.eq_1, @i25r5.eq_1, @i25r6.eq_1, @i25r7.eq_1, @i25r8.eq_1⟩
theorem xf26r0 : wp T f26r0 e h Q = wpI (cW T) i26r0 e h (regQ (some [0, 3]) Q) := wq_reg ..
theorem xf26r1 : wp T f26r1 e h Q = wpI (cW T) i26r1 e h (regQ (some [4]) Q) := wq_reg ..
theorem xb26 : wp T b26 e h Q = wp T (.seq f26r0 (.seq f26r1 .ret)) e h Q := rfl
theorem e26 : (type_of% @f26.eq_1) ∧ (type_of% @xb26) ∧ (type_of% @xf26r0) ∧ (type_of% @xf26r1) ∧ (type_of% @i26r0.eq_1) ∧ (type_of% @i26r1.eq_1) := ⟨@f26.eq_1, @xb26, @xf26r0, @xf26r1, @i26r0.eq_1, @i26r1.eq_1⟩
theorem xf27r0 : wp T f27r0 e h Q = wpI (cW T) i27r0 e h (regQ (some [0, 1]) Q) := wq_reg ..
theorem xf27r1 : wp T f27r1 e h Q = wpI (cW T) i27r1 e h (regQ (some [0, 1, 5]) Q) := wq_reg ..
theorem xf27r2 : wp T f27r2 e h Q = wpI (cW T) i27r2 e h (regQ (some [0, 1, 5, 9]) Q) := wq_reg ..
theorem xf27r3 : wp T f27r3 e h Q = wpI (cW T) i27r3 e h (regQ (some [0, 1, 5, 17]) Q) := wq_reg ..
theorem xf27r4 : wp T f27r4 e h Q = wpI (cW T) i27r4 e h (regQ (some [4]) Q) := wq_reg ..
theorem xf27r5 : wp T f27r5 e h Q = wpI (cW T) i27r5 e h (regQ (some [0, 1, 5]) Q) := wq_reg ..
theorem xf27l0 : wp T f27l0 e h Q = wp T (.seq (.seq f27r2 (.cond (.t 9) .skip (.exit 0))) (.seq (.blk 1 (.seq f27r3 (.cond (.t 17) (.seq f27r4 .ret) .skip))) f27r5)) e h Q := rfl
theorem xf27r6 : wp T f27r6 e h Q = wpI (cW T) i27r6 e h (regQ (some [4]) Q) := wq_reg ..
theorem xb27 : wp T b27 e h Q = wp T (.seq f27r0 (.seq (.seq f27r1 (.blk 0 (.loop f27l0))) (.seq f27r6 .ret))) e h Q := rfl
theorem e27 : (type_of% @f27.eq_1) ∧ (type_of% @xb27) ∧ (type_of% @xf27r0) ∧ (type_of% @xf27r1) ∧ (type_of% @xf27r2) ∧ (type_of% @xf27r3) ∧ (type_of% @xf27r4) ∧ (type_of% @xf27r5) ∧ (type_of% @xf27l0) ∧ (type_of% @xf27r6) ∧ (type_of% @i27r0.eq_1) ∧ (type_of% @i27r1.eq_1) ∧ (type_of% @i27r2.eq_1) ∧ (type_of% @i27r3.eq_1) ∧ (type_of% @i27r4.eq_1) ∧ (type_of% @i27r5.eq_1) ∧ (type_of% @i27r6.eq_1) := ⟨@f27.eq_1, @xb27, @xf27r0, @xf27r1, @xf27r2, @xf27r3, @xf27r4, @xf27r5, @xf27l0, @xf27r6, @i27r0.eq_1, @i27r1.eq_1, @i27r2.eq_1, @i27r3.eq_1, @i27r4.eq_1, @i27r5.eq_1, @i27r6.eq_1⟩
theorem xf29r0 : wp T f29r0 e h Q = wpI (cW T) i29r0 e h (regQ (some [0, 1, 2]) Q) := wq_reg ..
theorem xf29r1 : wp T f29r1 e h Q = wpI (cW T) i29r1 e h (regQ (some [0, 1, 2, 7]) Q) := wq_reg ..
theorem xf29r2 : wp T f29r2 e h Q = wpI (cW T) i29r2 e h (regQ (some [0, 1, 2, 7, 16]) Q) := wq_reg ..
theorem xf29r3 : wp T f29r3 e h Q = wpI (cW T) i29r3 e h (regQ (some [0, 1, 2, 7]) Q) := wq_reg ..
theorem xf29r4 : wp T f29r4 e h Q = wpI (cW T) i29r4 e h (regQ (some [0, 1, 2, 7]) Q) := wq_reg ..
theorem xf29l0 : wp T f29l0 e h Q = wp T (.seq (.seq f29r2 (.cond (.t 16) .skip (.exit 0))) (.seq (.blk 1 f29r3) f29r4)) e h Q := rfl
theorem xf29r5 : wp T f29r5 e h Q = wpI (cW T) i29r5 e h (regQ (some [6]) Q) := wq_reg ..
theorem xb29 : wp T b29 e h Q = wp T (.seq f29r0 (.seq (.seq f29r1 (.blk 0 (.loop f29l0))) (.seq f29r5 .ret))) e h Q := rfl
theorem e29 : (type_of% @f29.eq_1) ∧ (type_of% @xb29) ∧ (type_of% @xf29r0) ∧ (type_of% @xf29r1) ∧ (type_of% @xf29r2) ∧ (type_of% @xf29r3) ∧ (type_of% @xf29r4) ∧ (type_of% @xf29l0) ∧ (type_of% @xf29r5) ∧ (type_of% @i29r0.eq_1) ∧ (type_of% @i29r1.eq_1) ∧ (type_of% @i29r2.eq_1) ∧ (type_of% @i29r3.eq_1) ∧ (type_of% @i29r4.eq_1) ∧ (type_of% @i29r5.eq_1) := ⟨@f29.eq_1, @xb29, @xf29r0, @xf29r1, @xf29r2, @xf29r3, @xf29r4, @xf29l0, @xf29r5, @i29r0.eq_1, @i29r1.eq_1, @i29r2.eq_1, @i29r3.eq_1, @i29r4.eq_1, @i29r5.eq_1⟩
theorem xf30r0 : wp T f30r0 e h Q = wpI (cW T) i30r0 e h (regQ (some [0]) Q) := wq_reg ..
theorem xf30r1 : wp T f30r1 e h Q = wpI (cW T) i30r1 e h (regQ (some [0, 3]) Q) := wq_reg ..
theorem xf30r2 : wp T f30r2 e h Q = wpI (cW T) i30r2 e h (regQ (some [0, 3, 12]) Q) := wq_reg ..
theorem xf30r3 : wp T f30r3 e h Q = wpI (cW T) i30r3 e h (regQ (some [0, 3, 30]) Q) := wq_reg ..
theorem xf30r4 : wp T f30r4 e h Q = wpI (cW T) i30r4 e h (regQ (some [2]) Q) := wq_reg ..
theorem xf30r5 : wp T f30r5 e h Q = wpI (cW T) i30r5 e h (regQ (some [0, 3, 4]) Q) := wq_reg ..
theorem xf30r6 : wp T f30r6 e h Q = wpI (cW T) i30r6 e h (regQ (some [0, 3, 4, 38]) Q) := wq_reg ..
theorem xf30r7 : wp T f30r7 e h Q = wpI (cW T) i30r7 e h (regQ (some [0, 3, 4, 64]) Q) := wq_reg ..
theorem xf30r8 : wp T f30r8 e h Q = wpI (cW T) i30r8 e h (regQ (some [2]) Q) := wq_reg ..
theorem xf30r9 : wp T f30r9 e h Q = wpI (cW T) i30r9 e h (regQ (some [0, 3, 4]) Q) := wq_reg ..
theorem xf30l0 : wp T f30l0 e h Q = wp T (.seq (.seq f30r6 (.cond (.t 38) .skip (.exit 2))) (.seq (.blk 3 (.seq f30r7 (.cond (.t 64) (.seq f30r8 .ret) .skip))) f30r9)) e h Q := rfl
theorem xf30r10 : wp T f30r10 e h Q = wpI (cW T) i30r10 e h (regQ (some [0, 3]) Q) := wq_reg ..
theorem xf30l1 : wp T f30l1 e h Q = wp T (.seq (.seq f30r2 (.cond (.t 12) .skip (.exit 0))) (.seq (.blk 1 (.seq (.seq f30r3 (.cond (.t 30) (.seq f30r4 .ret) .skip)) (.seq f30r5 (.blk 2 (.loop f30l0))))) f30r10)) e h Q := rfl
theorem xf30r11 : wp T f30r11 e h Q = wpI (cW T) i30r11 e h (regQ (some [2]) Q) := wq_reg ..
theorem xb30 : wp T b30 e h Q = wp T (.seq f30r0 (.seq (.seq f30r1 (.blk 0 (.loop f30l1))) (.seq f30r11 .ret))) e h Q := rfl
theorem e30 : (type_of% @f30.eq_1) ∧ (type_of% @xb30) ∧ (type_of% @xf30r0) ∧ (type_of% @xf30r1) ∧ (type_of% @xf30r2) ∧ (type_of% @xf30r3) ∧ (type_of% @xf30r4) ∧ (type_of% @xf30r5) ∧ (type_of% @xf30r6) ∧ (type_of% @xf30r7) ∧ (type_of% @xf30r8) ∧ (type_of% @xf30r9) ∧ (type_of% @xf30l0) ∧ (type_of% @xf30r10) ∧ (type_of% @xf30l1) ∧ (type_of% @xf30r11) ∧ (type_of% @i30r0.eq_1) ∧ (type_of% @i30r1.eq_1) ∧ (type_of% @i30r2.eq_1) ∧ (type_of% @i30r3.eq_1) ∧ (type_of% @i30r4.eq_1) ∧ (type_of% @i30r5.eq_1) ∧ (type_of% @i30r6.eq_1) ∧ (type_of% @i30r7.eq_1) ∧ (type_of% @i30r8.eq_1) ∧ (type_of% @i30r9.eq_1) ∧ (type_of% @i30r10.eq_1) ∧ (type_of% @i30r11.eq_1) := ⟨@f30.eq_1, @xb30, @xf30r0, @xf30r1, @xf30r2, @xf30r3, @xf30r4, @xf30r5, @xf30r6, @xf30r7, @xf30r8, @xf30r9, @xf30l0, @xf30r10, @xf30l1, @xf30r11, @i30r0.eq_1, @i30r1.eq_1, @i30r2.eq_1, @i30r3.eq_1, @i30r4.eq_1, @i30r5.eq_1, @i30r6.eq_1, @i30r7.eq_1, @i30r8.eq_1, @i30r9.eq_1, @i30r10.eq_1, @i30r11.eq_1⟩
theorem xf33r0 : wp T f33r0 e h Q = wpI (cW T) i33r0 e h (regQ (some [1]) Q) := wq_reg ..
theorem xf33r1 : wp T f33r1 e h Q = wpI (cW T) i33r1 e h (regQ (some [1, 8]) Q) := wq_reg ..
theorem xf33r2 : wp T f33r2 e h Q = wpI (cW T) i33r2 e h (regQ (some [2]) Q) := wq_reg ..
theorem xf33r3 : wp T f33r3 e h Q = wpI (cW T) i33r3 e h (regQ (some [1, 11]) Q) := wq_reg ..
theorem xf33r4 : wp T f33r4 e h Q = wpI (cW T) i33r4 e h (regQ (some [2]) Q) := wq_reg ..
theorem xf33r5 : wp T f33r5 e h Q = wpI (cW T) i33r5 e h (regQ (some [1, 13]) Q) := wq_reg ..
theorem xf33r6 : wp T f33r6 e h Q = wpI (cW T) i33r6 e h (regQ (some [2]) Q) := wq_reg ..
theorem xf33r7 : wp T f33r7 e h Q = wpI (cW T) i33r7 e h (regQ (some [1, 14, 15, 16]) Q) := wq_reg ..
theorem xf33r8 : wp T f33r8 e h Q = wpI (cW T) i33r8 e h (regQ (some [1, 14, 15, 16, 17]) Q) := wq_reg ..
theorem xf33r9 : wp T f33r9 e h Q = wpI (cW T) i33r9 e h (regQ (some [1, 4, 14, 15, 16]) Q) := wq_reg ..
theorem xf33r10 : wp T f33r10 e h Q = wpI (cW T) i33r10 e h (regQ (some [1, 14, 15, 16, 21, 22, 23]) Q) := wq_reg ..
theorem xf33r11 : wp T f33r11 e h Q = wpI (cW T) i33r11 e h (regQ (some [1, 14, 15, 16, 21, 22, 23, 24]) Q) := wq_reg ..
theorem xf33r12 : wp T f33r12 e h Q = wpI (cW T) i33r12 e h (regQ (some [1, 6, 14, 15, 16, 21, 22, 23]) Q) := wq_reg ..
theorem xf33r13 : wp T f33r13 e h Q = wpI (cW T) i33r13 e h (regQ (some [1, 14, 15, 16, 21, 22, 23, 30]) Q) := wq_reg ..
theorem xf33r14 : wp T f33r14 e h Q = wpI (cW T) i33r14 e h (regQ (some [2]) Q) := wq_reg ..
theorem xf33r15 : wp T f33r15 e h Q = wpI (cW T) i33r15 e h (regQ (some [1, 14, 15, 16, 21, 22, 23]) Q) := wq_reg ..
theorem xf33l0 : wp T f33l0 e h Q = wp T (.seq f33r11 (.seq (.cond (.t 24) .skip (.exit 2)) (.seq (.blk 3 (.seq f33r12 (.seq f33r13 (.cond (.t 30) (.seq f33r14 .ret) .skip)))) f33r15))) e h Q := rfl
theorem xf33r16 : wp T f33r16 e h Q = wpI (cW T) i33r16 e h (regQ (some [1, 14, 15, 16]) Q) := wq_reg ..
theorem xf33l1 : wp T f33l1 e h Q = wp T (.seq f33r8 (.seq (.cond (.t 17) .skip (.exit 0)) (.seq (.blk 1 (.seq f33r9 (.seq f33r10 (.blk 2 (.loop f33l0))))) f33r16))) e h Q := rfl
theorem xf33r17 : wp T f33r17 e h Q = wpI (cW T) i33r17 e h (regQ (some [35]) Q) := wq_reg ..
theorem xf33r18 : wp T f33r18 e h Q = wpI (cW T) i33r18 e h (regQ (some [2]) Q) := wq_reg ..
theorem xf33r19 : wp T f33r19 e h Q = wpI (cW T) i33r19 e h (regQ (some [2]) Q) := wq_reg ..
theorem xb33 : wp T b33 e h Q = wp T (.seq f33r0 (.seq (.seq f33r1 (.cond (.t 8) (.seq f33r2 .ret) .skip)) (.seq (.seq f33r3 (.cond (.t 11) (.seq f33r4 .ret) .skip)) (.seq (.seq f33r5 (.cond (.t 13) (.seq f33r6 .ret) .skip)) (.seq (.seq f33r7 (.blk 0 (.loop f33l1))) (.seq (.seq f33r17 (.cond (.t 35) (.seq f33r18 .ret) .skip)) (.seq f33r19 .ret))))))) e h Q := rfl
theorem e33 : (type_of% @f33.eq_1) ∧ (type_of% @xb33) ∧ (type_of% @xf33r0) ∧ (type_of% @xf33r1) ∧ (type_of% @xf33r2) ∧ (type_of% @xf33r3) ∧ (type_of% @xf33r4) ∧ (type_of% @xf33r5) ∧ (type_of% @xf33r6) ∧ (type_of% @xf33r7) ∧ (type_of% @xf33r8) ∧ (type_of% @xf33r9) ∧ (type_of% @xf33r10) ∧ (type_of% @xf33r11) ∧ (type_of% @xf33r12) ∧ (type_of% @xf33r13) ∧ (type_of% @xf33r14) ∧ (type_of% @xf33r15) ∧ (type_of% @xf33l0) ∧ (type_of% @xf33r16) ∧ (type_of% @xf33l1) ∧ (type_of% @xf33r17) ∧ (type_of% @xf33r18) ∧ (type_of% @xf33r19) ∧ (type_of% @i33r0.eq_1) ∧ (type_of% @i33r1.eq_1) ∧ (type_of% @i33r2.eq_1) ∧ (type_of% @i33r3.eq_1) ∧ (type_of% @i33r4.eq_1) ∧ (type_of% @i33r5.eq_1) ∧ (type_of% @i33r6.eq_1) ∧ (type_of% @i33r7.eq_1) ∧ (type_of% @i33r8.eq_1) ∧ (type_of% @i33r9.eq_1) ∧ (type_of% @i33r10.eq_1) ∧ (type_of% @i33r11.eq_1) ∧ (type_of% @i33r12.eq_1) ∧ (type_of% @i33r13.eq_1) ∧ (type_of% @i33r14.eq_1) ∧ (type_of% @i33r15.eq_1) ∧ (type_of% @i33r16.eq_1) ∧ (type_of% @i33r17.eq_1) ∧ (type_of% @i33r18.eq_1) ∧ (type_of% @i33r19.eq_1) := ⟨@f33.eq_1, @xb33, @xf33r0, @xf33r1, @xf33r2, @xf33r3, @xf33r4, @xf33r5, @xf33r6, @xf33r7, @xf33r8, @xf33r9, @xf33r10, @xf33r11, @xf33r12, @xf33r13, @xf33r14, @xf33r15, @xf33l0, @xf33r16, @xf33l1, @xf33r17, @xf33r18, @xf33r19, @i33r0.eq_1, @i33r1.eq_1, @i33r2.eq_1, @i33r3.eq_1, @i33r4.eq_1, @i33r5.eq_1, @i33r6.eq_1, @i33r7.eq_1, @i33r8.eq_1, @i33r9.eq_1, @i33r10.eq_1, @i33r11.eq_1, @i33r12.eq_1, @i33r13.eq_1, @i33r14.eq_1, @i33r15.eq_1, @i33r16.eq_1, @i33r17.eq_1, @i33r18.eq_1, @i33r19.eq_1⟩
theorem xf34r0 : wp T f34r0 e h Q = wpI (cW T) i34r0 e h (regQ (some [0, 1]) Q) := wq_reg ..
theorem xf34r1 : wp T f34r1 e h Q = wpI (cW T) i34r1 e h (regQ (some [4]) Q) := wq_reg ..
theorem xb34 : wp T b34 e h Q = wp T (.seq f34r0 (.seq f34r1 .ret)) e h Q := rfl
theorem e34 : (type_of% @f34.eq_1) ∧ (type_of% @xb34) ∧ (type_of% @xf34r0) ∧ (type_of% @xf34r1) ∧ (type_of% @i34r0.eq_1) ∧ (type_of% @i34r1.eq_1) := ⟨@f34.eq_1, @xb34, @xf34r0, @xf34r1, @i34r0.eq_1, @i34r1.eq_1⟩
theorem xf35r0 : wp T f35r0 e h Q = wpI (cW T) i35r0 e h (regQ (some [0, 1]) Q) := wq_reg ..
theorem xf35r1 : wp T f35r1 e h Q = wpI (cW T) i35r1 e h (regQ (some [3]) Q) := wq_reg ..
theorem xb35 : wp T b35 e h Q = wp T (.seq f35r0 (.seq f35r1 .ret)) e h Q := rfl
theorem e35 : (type_of% @f35.eq_1) ∧ (type_of% @xb35) ∧ (type_of% @xf35r0) ∧ (type_of% @xf35r1) ∧ (type_of% @i35r0.eq_1) ∧ (type_of% @i35r1.eq_1) := ⟨@f35.eq_1, @xb35, @xf35r0, @xf35r1, @i35r0.eq_1, @i35r1.eq_1⟩
theorem xf36r0 : wp T f36r0 e h Q = wpI (cW T) i36r0 e h (regQ (some [0, 1]) Q) := wq_reg ..
theorem xf36r1 : wp T f36r1 e h Q = wpI (cW T) i36r1 e h (regQ (some [4]) Q) := wq_reg ..
theorem xb36 : wp T b36 e h Q = wp T (.seq f36r0 (.seq f36r1 .ret)) e h Q := rfl
theorem e36 : (type_of% @f36.eq_1) ∧ (type_of% @xb36) ∧ (type_of% @xf36r0) ∧ (type_of% @xf36r1) ∧ (type_of% @i36r0.eq_1) ∧ (type_of% @i36r1.eq_1) := ⟨@f36.eq_1, @xb36, @xf36r0, @xf36r1, @i36r0.eq_1, @i36r1.eq_1⟩
theorem xf37r0 : wp T f37r0 e h Q = wpI (cW T) i37r0 e h (regQ (some [1]) Q) := wq_reg ..
theorem xf37r1 : wp T f37r1 e h Q = wpI (cW T) i37r1 e h (regQ (some [2]) Q) := wq_reg ..
theorem xb37 : wp T b37 e h Q = wp T (.seq f37r0 (.seq f37r1 .ret)) e h Q := rfl
theorem e37 : (type_of% @f37.eq_1) ∧ (type_of% @xb37) ∧ (type_of% @xf37r0) ∧ (type_of% @xf37r1) ∧ (type_of% @i37r0.eq_1) ∧ (type_of% @i37r1.eq_1) := ⟨@f37.eq_1, @xb37, @xf37r0, @xf37r1, @i37r0.eq_1, @i37r1.eq_1⟩
theorem xf38r0 : wp T f38r0 e h Q = wpI (cW T) i38r0 e h (regQ (some [2, 3]) Q) := wq_reg ..
theorem xf38r1 : wp T f38r1 e h Q = wpI (cW T) i38r1 e h (regQ (some [4]) Q) := wq_reg ..
theorem xb38 : wp T b38 e h Q = wp T (.seq f38r0 (.seq f38r1 .ret)) e h Q := rfl
theorem e38 : (type_of% @f38.eq_1) ∧ (type_of% @xb38) ∧ (type_of% @xf38r0) ∧ (type_of% @xf38r1) ∧ (type_of% @i38r0.eq_1) ∧ (type_of% @i38r1.eq_1) := ⟨@f38.eq_1, @xb38, @xf38r0, @xf38r1, @i38r0.eq_1, @i38r1.eq_1⟩
theorem xf39r0 : wp T f39r0 e h Q = wpI (cW T) i39r0 e h (regQ (some [0, 1, 5]) Q) := wq_reg ..
theorem xf39r1 : wp T f39r1 e h Q = wpI (cW T) i39r1 e h (regQ (some [0, 1, 5, 11]) Q) := wq_reg ..
theorem xf39r2 : wp T f39r2 e h Q = wpI (cW T) i39r2 e h (regQ (some [0, 1, 5, 11, 12]) Q) := wq_reg ..
theorem xf39r3 : wp T f39r3 e h Q = wpI (cW T) i39r3 e h (regQ (some [6]) Q) := wq_reg ..
theorem xf39r4 : wp T f39r4 e h Q = wpI (cW T) i39r4 e h (regQ (some [0, 1, 5, 11, 28]) Q) := wq_reg ..
theorem xf39r5 : wp T f39r5 e h Q = wpI (cW T) i39r5 e h (regQ (some [6]) Q) := wq_reg ..
theorem xf39r6 : wp T f39r6 e h Q = wpI (cW T) i39r6 e h (regQ (some [0, 1, 5, 43]) Q) := wq_reg ..
theorem xf39r7 : wp T f39r7 e h Q = wpI (cW T) i39r7 e h (regQ (some [0, 1, 5, 68]) Q) := wq_reg ..
theorem xf39r8 : wp T f39r8 e h Q = wpI (cW T) i39r8 e h (regQ (some [6]) Q) := wq_reg ..
theorem xf39r9 : wp T f39r9 e h Q = wpI (cW T) i39r9 e h (regQ (some [0, 5, 7]) Q) := wq_reg ..
theorem xf39r10 : wp T f39r10 e h Q = wpI (cW T) i39r10 e h (regQ (some [0, 5, 7, 85]) Q) := wq_reg ..
theorem xf39r11 : wp T f39r11 e h Q = wpI (cW T) i39r11 e h (regQ (some [6]) Q) := wq_reg ..
theorem xf39r12 : wp T f39r12 e h Q = wpI (cW T) i39r12 e h (regQ (some [0, 7, 87, 88, 89]) Q) := wq_reg ..
theorem xf39r13 : wp T f39r13 e h Q = wpI (cW T) i39r13 e h (regQ (some [0, 7, 87, 88, 89, 90]) Q) := wq_reg ..
theorem xf39r14 : wp T f39r14 e h Q = wpI (cW T) i39r14 e h (regQ (some [0, 7, 8, 9, 87, 88, 89]) Q) := wq_reg ..
theorem xf39r15 : wp T f39r15 e h Q = wpI (cW T) i39r15 e h (regQ (some [0, 7, 87, 88, 89, 101]) Q) := wq_reg ..
theorem xf39r16 : wp T f39r16 e h Q = wpI (cW T) i39r16 e h (regQ (some [6]) Q) := wq_reg ..
theorem xf39r17 : wp T f39r17 e h Q = wpI (cW T) i39r17 e h (regQ (some [0, 7, 87, 88, 89]) Q) := wq_reg ..
theorem xf39l0 : wp T f39l0 e h Q = wp T (.seq f39r13 (.seq (.cond (.t 90) .skip (.exit 1)) (.seq (.blk 2 (.seq f39r14 (.seq f39r15 (.cond (.t 101) (.seq f39r16 .ret) .skip)))) f39r17))) e h Q := rfl
theorem xf39r18 : wp T f39r18 e h Q = wpI (cW T) i39r18 e h (regQ (some [6]) Q) := wq_reg ..
theorem xf39r19 : wp T f39r19 e h Q = wpI (cW T) i39r19 e h (regQ (some [6]) Q) := wq_reg ..
theorem xb39 : wp T b39 e h Q = wp T (.seq f39r0 (.seq (.seq f39r1 (.blk 0 (.seq f39r2 (.cond (.t 12) (.seq f39r3 .ret) (.seq f39r4 (.cond (.t 28) (.seq f39r5 .ret) (.seq f39r6 (.cond (.t 43) (.seq (.seq f39r7 (.cond (.t 68) (.seq f39r8 .ret) .skip)) (.seq f39r9 (.seq (.seq f39r10 (.cond (.t 85) (.seq f39r11 .ret) .skip)) (.seq (.seq f39r12 (.blk 1 (.loop f39l0))) (.seq f39r18 .ret))))) .skip)))))))) (.seq f39r19 .ret))) e h Q := rfl
theorem e39 : (type_of% @f39.eq_1) ∧ (type_of% @xb39) ∧ (type_of% @xf39r0) ∧ (type_of% @xf39r1) ∧ (type_of% @xf39r2) ∧ (type_of% @xf39r3) ∧ (type_of% @xf39r4) ∧ (type_of% @xf39r5) ∧ (type_of% @xf39r6) ∧ (type_of% @xf39r7) ∧ (type_of% @xf39r8) ∧ (type_of% @xf39r9) ∧ (type_of% @xf39r10) ∧ (type_of% @xf39r11) ∧ (type_of% @xf39r12) ∧ (type_of% @xf39r13) ∧ (type_of% @xf39r14) ∧ (type_of% @xf39r15) ∧ (type_of% @xf39r16) ∧ (type_of% @xf39r17) ∧ (type_of% @xf39l0) ∧ (type_of% @xf39r18) ∧ (type_of% @xf39r19) ∧ (type_of% @i39r0.eq_1) ∧ (type_of% @i39r1.eq_1) ∧ (type_of% @i39r2.eq_1) ∧ (type_of% @i39r3.eq_1) ∧ (type_of% @i39r4.eq_1) ∧ (type_of% @i39r5.eq_1) ∧ (type_of% @i39r6.eq_1) ∧ (type_of% @i39r7.eq_1) ∧ (type_of% @i39r8.eq_1) ∧ (type_of% @i39r9.eq_1) ∧ (type_of% @i39r10.eq_1) ∧ (type_of% @i39r11.eq_1) ∧ (type_of% @i39r12.eq_1) ∧ (type_of% @i39r13.eq_1) ∧ (type_of% @i39r14.eq_1) ∧ (type_of% @i39r15.eq_1) ∧ (type_of% @i39r16.eq_1) ∧ (type_of% @i39r17.eq_1) ∧ (type_of% @i39r18.eq_1) ∧ (type_of% @i39r19.eq_1) := ⟨@f39.eq_1, @xb39, @xf39r0, @xf39r1, @xf39r2, @xf39r3, @xf39r4, @xf39r5, @xf39r6, @xf39r7, @xf39r8, @xf39r9, @xf39r10, @xf39r11, @xf39r12, @xf39r13, @xf39r14, @xf39r15, @xf39r16, @xf39r17, @xf39l0, @xf39r18, @xf39r19, @i39r0.eq_1, @i39r1.eq_1, @i39r2.eq_1, @i39r3.eq_1, @i39r4.eq_1, @i39r5.eq_1, @i39r6.eq_1, @i39r7.eq_1, @i39r8.eq_1, @i39r9.eq_1, @i39r10.eq_1, @i39r11.eq_1, @i39r12.eq_1, @i39r13.eq_1, @i39r14.eq_1, @i39r15.eq_1, @i39r16.eq_1, @i39r17.eq_1, @i39r18.eq_1, @i39r19.eq_1⟩
theorem xf40r0 : wp T f40r0 e h Q = wpI (cW T) i40r0 e h (regQ (some [0]) Q) := wq_reg ..
theorem xf40r1 : wp T f40r1 e h Q = wpI (cW T) i40r1 e h (regQ (some [0, 3]) Q) := wq_reg ..
theorem xf40r2 : wp T f40r2 e h Q = wpI (cW T) i40r2 e h (regQ (some [2]) Q) := wq_reg ..
theorem xf40r3 : wp T f40r3 e h Q = wpI (cW T) i40r3 e h (regQ (some [0, 6]) Q) := wq_reg ..
theorem xf40r4 : wp T f40r4 e h Q = wpI (cW T) i40r4 e h (regQ (some [2]) Q) := wq_reg ..
theorem xf40r5 : wp T f40r5 e h Q = wpI (cW T) i40r5 e h (regQ (some [0, 10]) Q) := wq_reg ..
theorem xf40r6 : wp T f40r6 e h Q = wpI (cW T) i40r6 e h (regQ (some [2]) Q) := wq_reg ..
theorem xf40r7 : wp T f40r7 e h Q = wpI (cW T) i40r7 e h (regQ (some [0, 13]) Q) := wq_reg ..
theorem xf40r8 : wp T f40r8 e h Q = wpI (cW T) i40r8 e h (regQ (some [2]) Q) := wq_reg ..
theorem xf40r9 : wp T f40r9 e h Q = wpI (cW T) i40r9 e h (regQ (some [17]) Q) := wq_reg ..
theorem xf40r10 : wp T f40r10 e h Q = wpI (cW T) i40r10 e h (regQ (some [2]) Q) := wq_reg ..
theorem xf40r11 : wp T f40r11 e h Q = wpI (cW T) i40r11 e h (regQ (some [2]) Q) := wq_reg ..
theorem xb40 : wp T b40 e h Q = wp T (.seq f40r0 (.seq (.blk 0 (.seq f40r1 (.cond (.t 3) (.seq f40r2 .ret) (.seq f40r3 (.cond (.t 6) (.seq f40r4 .ret) (.seq f40r5 (.cond (.t 10) (.seq f40r6 .ret) (.seq f40r7 (.cond (.t 13) (.seq f40r8 .ret) (.seq f40r9 (.cond (.t 17) (.seq f40r10 .ret) .skip))))))))))) (.seq f40r11 .ret))) e h Q := rfl
theorem e40 : (type_of% @f40.eq_1) ∧ (type_of% @xb40) ∧ (type_of% @xf40r0) ∧ (type_of% @xf40r1) ∧ (type_of% @xf40r2) ∧ (type_of% @xf40r3) ∧ (type_of% @xf40r4) ∧ (type_of% @xf40r5) ∧ (type_of% @xf40r6) ∧ (type_of% @xf40r7) ∧ (type_of% @xf40r8) ∧ (type_of% @xf40r9) ∧ (type_of% @xf40r10) ∧ (type_of% @xf40r11) ∧ (type_of% @i40r0.eq_1) ∧ (type_of% @i40r1.eq_1) ∧ (type_of% @i40r2.eq_1) ∧ (type_of% @i40r3.eq_1) ∧ (type_of% @i40r4.eq_1) ∧ (type_of% @i40r5.eq_1) ∧ (type_of% @i40r6.eq_1) ∧ (type_of% @i40r7.eq_1) ∧ (type_of% @i40r8.eq_1) ∧ (type_of% @i40r9.eq_1) ∧ (type_of% @i40r10.eq_1) ∧ (type_of% @i40r11.eq_1) := ⟨@f40.eq_1, @xb40, @xf40r0, @xf40r1, @xf40r2, @xf40r3, @xf40r4, @xf40r5, @xf40r6, @xf40r7, @xf40r8, @xf40r9, @xf40r10, @xf40r11, @i40r0.eq_1, @i40r1.eq_1, @i40r2.eq_1, @i40r3.eq_1, @i40r4.eq_1, @i40r5.eq_1, @i40r6.eq_1, @i40r7.eq_1, @i40r8.eq_1, @i40r9.eq_1, @i40r10.eq_1, @i40r11.eq_1⟩
theorem xf41r0 : wp T f41r0 e h Q = wpI (cW T) i41r0 e h (regQ (some [1, 2]) Q) := wq_reg ..
theorem xf41r1 : wp T f41r1 e h Q = wpI (cW T) i41r1 e h (regQ (some [1, 2, 7]) Q) := wq_reg ..
theorem xf41r2 : wp T f41r2 e h Q = wpI (cW T) i41r2 e h (regQ (some [4]) Q) := wq_reg ..
theorem xf41r3 : wp T f41r3 e h Q = wpI (cW T) i41r3 e h (regQ (some [1, 2, 5]) Q) := wq_reg ..
theorem xf41r4 : wp T f41r4 e h Q = wpI (cW T) i41r4 e h (regQ (some [1, 2, 5, 12]) Q) := wq_reg ..
theorem xf41r5 : wp T f41r5 e h Q = wpI (cW T) i41r5 e h (regQ (some [1, 2, 5, 22]) Q) := wq_reg ..
theorem xf41r6 : wp T f41r6 e h Q = wpI (cW T) i41r6 e h (regQ (some [4]) Q) := wq_reg ..
theorem xf41r7 : wp T f41r7 e h Q = wpI (cW T) i41r7 e h (regQ (some [1, 2, 5]) Q) := wq_reg ..
theorem xf41l0 : wp T f41l0 e h Q = wp T (.seq (.seq f41r4 (.cond (.t 12) .skip (.exit 0))) (.seq (.blk 1 (.seq f41r5 (.cond (.t 22) (.seq f41r6 .ret) .skip))) f41r7)) e h Q := rfl
theorem xf41r8 : wp T f41r8 e h Q = wpI (cW T) i41r8 e h (regQ (some [4]) Q) := wq_reg ..
theorem xb41 : wp T b41 e h Q = wp T (.seq f41r0 (.seq (.seq f41r1 (.cond (.t 7) (.seq f41r2 .ret) .skip)) (.seq (.seq f41r3 (.blk 0 (.loop f41l0))) (.seq f41r8 .ret)))) e h Q := rfl
theorem e41 : (type_of% @f41.eq_1) ∧ (type_of% @xb41) ∧ (type_of% @xf41r0) ∧ (type_of% @xf41r1) ∧ (type_of% @xf41r2) ∧ (type_of% @xf41r3) ∧ (type_of% @xf41r4) ∧ (type_of% @xf41r5) ∧ (type_of% @xf41r6) ∧ (type_of% @xf41r7) ∧ (type_of% @xf41l0) ∧ (type_of% @xf41r8) ∧ (type_of% @i41r0.eq_1) ∧ (type_of% @i41r1.eq_1) ∧ (type_of% @i41r2.eq_1) ∧ (type_of% @i41r3.eq_1) ∧ (type_of% @i41r4.eq_1) ∧ (type_of% @i41r5.eq_1) ∧ (type_of% @i41r6.eq_1) ∧ (type_of% @i41r7.eq_1) ∧ (type_of% @i41r8.eq_1) := ⟨@f41.eq_1, @xb41, @xf41r0, @xf41r1, @xf41r2, @xf41r3, @xf41r4, @xf41r5, @xf41r6, @xf41r7, @xf41l0, @xf41r8, @i41r0.eq_1, @i41r1.eq_1, @i41r2.eq_1, @i41r3.eq_1, @i41r4.eq_1, @i41r5.eq_1, @i41r6.eq_1, @i41r7.eq_1, @i41r8.eq_1⟩
theorem xf42r0 : wp T f42r0 e h Q = wpI (cW T) i42r0 e h (regQ (some [0, 1, 5]) Q) := wq_reg ..
theorem xf42r1 : wp T f42r1 e h Q = wpI (cW T) i42r1 e h (regQ (some [0, 1, 5, 10]) Q) := wq_reg ..
theorem xf42r2 : wp T f42r2 e h Q = wpI (cW T) i42r2 e h (regQ (some [0, 1, 5, 10, 11]) Q) := wq_reg ..
theorem xf42r3 : wp T f42r3 e h Q = wpI (cW T) i42r3 e h (regQ (some [6]) Q) := wq_reg ..
theorem xf42r4 : wp T f42r4 e h Q = wpI (cW T) i42r4 e h (regQ (some [0, 1, 5, 10, 27]) Q) := wq_reg ..
theorem xf42r5 : wp T f42r5 e h Q = wpI (cW T) i42r5 e h (regQ (some [6]) Q) := wq_reg ..
theorem xf42r6 : wp T f42r6 e h Q = wpI (cW T) i42r6 e h (regQ (some [0, 1, 5, 42]) Q) := wq_reg ..
theorem xf42r7 : wp T f42r7 e h Q = wpI (cW T) i42r7 e h (regQ (some [0, 1, 5, 67]) Q) := wq_reg ..
theorem xf42r8 : wp T f42r8 e h Q = wpI (cW T) i42r8 e h (regQ (some [6]) Q) := wq_reg ..
theorem xf42r9 : wp T f42r9 e h Q = wpI (cW T) i42r9 e h (regQ (some [0, 5, 7]) Q) := wq_reg ..
theorem xf42r10 : wp T f42r10 e h Q = wpI (cW T) i42r10 e h (regQ (some [0, 5, 7, 84]) Q) := wq_reg ..
theorem xf42r11 : wp T f42r11 e h Q = wpI (cW T) i42r11 e h (regQ (some [6]) Q) := wq_reg ..
theorem xf42r12 : wp T f42r12 e h Q = wpI (cW T) i42r12 e h (regQ (some [0, 5, 7, 8]) Q) := wq_reg ..
theorem xf42r13 : wp T f42r13 e h Q = wpI (cW T) i42r13 e h (regQ (some [0, 5, 7, 8, 88]) Q) := wq_reg ..
theorem xf42r14 : wp T f42r14 e h Q = wpI (cW T) i42r14 e h (regQ (some [0, 5, 7, 8, 102]) Q) := wq_reg ..
theorem xf42r15 : wp T f42r15 e h Q = wpI (cW T) i42r15 e h (regQ (some [6]) Q) := wq_reg ..
theorem xf42r16 : wp T f42r16 e h Q = wpI (cW T) i42r16 e h (regQ (some [0, 5, 7, 8]) Q) := wq_reg ..
theorem xf42l0 : wp T f42l0 e h Q = wp T (.seq (.seq f42r13 (.cond (.t 88) .skip (.exit 1))) (.seq (.blk 2 (.seq f42r14 (.cond (.t 102) (.seq f42r15 .ret) .skip))) f42r16)) e h Q := rfl
theorem xf42r17 : wp T f42r17 e h Q = wpI (cW T) i42r17 e h (regQ (some [6]) Q) := wq_reg ..
theorem xf42r18 : wp T f42r18 e h Q = wpI (cW T) i42r18 e h (regQ (some [6]) Q) := wq_reg ..
theorem xb42 : wp T b42 e h Q = wp T (.seq f42r0 (.seq (.seq f42r1 (.blk 0 (.seq f42r2 (.cond (.t 11) (.seq f42r3 .ret) (.seq f42r4 (.cond (.t 27) (.seq f42r5 .ret) (.seq f42r6 (.cond (.t 42) (.seq (.seq f42r7 (.cond (.t 67) (.seq f42r8 .ret) .skip)) (.seq f42r9 (.seq (.seq f42r10 (.cond (.t 84) (.seq f42r11 .ret) .skip)) (.seq (.seq f42r12 (.blk 1 (.loop f42l0))) (.seq f42r17 .ret))))) .skip)))))))) (.seq f42r18 .ret))) e h Q := rfl
theorem e42 : (type_of% @f42.eq_1) ∧ (type_of% @xb42) ∧ (type_of% @xf42r0) ∧ (type_of% @xf42r1) ∧ (type_of% @xf42r2) ∧ (type_of% @xf42r3) ∧ (type_of% @xf42r4) ∧ (type_of% @xf42r5) ∧ (type_of% @xf42r6) ∧ (type_of% @xf42r7) ∧ (type_of% @xf42r8) ∧ (type_of% @xf42r9) ∧ (type_of% @xf42r10) ∧ (type_of% @xf42r11) ∧ (type_of% @xf42r12) ∧ (type_of% @xf42r13) ∧ (type_of% @xf42r14) ∧ (type_of% @xf42r15) ∧ (type_of% @xf42r16) ∧ (type_of% @xf42l0) ∧ (type_of% @xf42r17) ∧ (type_of% @xf42r18) ∧ (type_of% @i42r0.eq_1) ∧ (type_of% @i42r1.eq_1) ∧ (type_of% @i42r2.eq_1) ∧ (type_of% @i42r3.eq_1) ∧ (type_of% @i42r4.eq_1) ∧ (type_of% @i42r5.eq_1) ∧ (type_of% @i42r6.eq_1) ∧ (type_of% @i42r7.eq_1) ∧ (type_of% @i42r8.eq_1) ∧ (type_of% @i42r9.eq_1) ∧ (type_of% @i42r10.eq_1) ∧ (type_of% @i42r11.eq_1) ∧ (type_of% @i42r12.eq_1) ∧ (type_of% @i42r13.eq_1) ∧ (type_of% @i42r14.eq_1) ∧ (type_of% @i42r15.eq_1) ∧ (type_of% @i42r16.eq_1) ∧ (type_of% @i42r17.eq_1) ∧ (type_of% @i42r18.eq_1) := ⟨@f42.eq_1, @xb42, @xf42r0, @xf42r1, @xf42r2, @xf42r3, @xf42r4, @xf42r5, @xf42r6, @xf42r7, @xf42r8, @xf42r9, @xf42r10, @xf42r11, @xf42r12, @xf42r13, @xf42r14, @xf42r15, @xf42r16, @xf42l0, @xf42r17, @xf42r18, @i42r0.eq_1, @i42r1.eq_1, @i42r2.eq_1, @i42r3.eq_1, @i42r4.eq_1, @i42r5.eq_1, @i42r6.eq_1, @i42r7.eq_1, @i42r8.eq_1, @i42r9.eq_1, @i42r10.eq_1, @i42r11.eq_1, @i42r12.eq_1, @i42r13.eq_1, @i42r14.eq_1, @i42r15.eq_1, @i42r16.eq_1, @i42r17.eq_1, @i42r18.eq_1⟩
theorem xa44q0 : wp T a44q0 e h Q = wp T (.seq f44r13 f44r14) e h Q := rfl
theorem xd44q0 : wp T d44q0 e h Q = wp T (.blk 2 (.seq f44r15 (.cond (.t 118) (.seq f44r16 .ret) .skip))) e h Q := rfl
theorem xf45r0 : wp T f45r0 e h Q = wpI (cW T) i45r0 e h (regQ (some [1, 2]) Q) := wq_reg ..
theorem xf45r1 : wp T f45r1 e h Q = wpI (cW T) i45r1 e h (regQ (some [2]) Q) := wq_reg ..
theorem xb45 : wp T b45 e h Q = wp T (.seq f45r0 (.seq f45r1 .ret)) e h Q := rfl
theorem e45 : (type_of% @f45.eq_1) ∧ (type_of% @xb45) ∧ (type_of% @xf45r0) ∧ (type_of% @xf45r1) ∧ (type_of% @i45r0.eq_1) ∧ (type_of% @i45r1.eq_1) := ⟨@f45.eq_1, @xb45, @xf45r0, @xf45r1, @i45r0.eq_1, @i45r1.eq_1⟩
theorem xa51q0 : wp T a51q0 e h Q = wp T (.seq f51r6 f51r7) e h Q := rfl
theorem xd51q0 : wp T d51q0 e h Q = wp T (.blk 1 (.seq f51r8 (.seq f51r9 (.cond (.t 65) (.seq f51r10 (.seq f51r11 .ret)) .skip)))) e h Q := rfl
theorem xf55r0 : wp T f55r0 e h Q = wpI (cW T) i55r0 e h (regQ (some [1, 2, 3]) Q) := wq_reg ..
theorem xf55r1 : wp T f55r1 e h Q = wpI (cW T) i55r1 e h (regQ (some [1, 2, 3]) Q) := wq_reg ..
theorem xf55r2 : wp T f55r2 e h Q = wpI (cW T) i55r2 e h (regQ (some [1, 2, 3, 7]) Q) := wq_reg ..
theorem xf55r3 : wp T f55r3 e h Q = wpI (cW T) i55r3 e h (regQ (some [1, 2, 3, 7, 19]) Q) := wq_reg ..
theorem xf55r4 : wp T f55r4 e h Q = wpI (cW T) i55r4 e h (regQ (some [1, 2, 3, 7]) Q) := wq_reg ..
theorem xf55r5 : wp T f55r5 e h Q = wpI (cW T) i55r5 e h (regQ (some [1, 2, 3, 7]) Q) := wq_reg ..
theorem xf55l0 : wp T f55l0 e h Q = wp T (.seq (.seq f55r3 (.cond (.t 19) .skip (.exit 0))) (.seq (.blk 1 f55r4) f55r5)) e h Q := rfl
theorem xf55r6 : wp T f55r6 e h Q = wpI (cW T) i55r6 e h (regQ (some [6]) Q) := wq_reg ..
theorem xb55 : wp T b55 e h Q = wp T (.seq f55r0 (.seq f55r1 (.seq (.seq f55r2 (.blk 0 (.loop f55l0))) (.seq f55r6 .ret)))) e h Q := rfl
theorem e55 : (type_of% @f55.eq_1) ∧ (type_of% @xb55) ∧ (type_of% @xf55r0) ∧ (type_of% @xf55r1) ∧ (type_of% @xf55r2) ∧ (type_of% @xf55r3) ∧ (type_of% @xf55r4) ∧ (type_of% @xf55r5) ∧ (type_of% @xf55l0) ∧ (type_of% @xf55r6) ∧ (type_of% @i55r0.eq_1) ∧ (type_of% @i55r1.eq_1) ∧ (type_of% @i55r2.eq_1) ∧ (type_of% @i55r3.eq_1) ∧ (type_of% @i55r4.eq_1) ∧ (type_of% @i55r5.eq_1) ∧ (type_of% @i55r6.eq_1) := ⟨@f55.eq_1, @xb55, @xf55r0, @xf55r1, @xf55r2, @xf55r3, @xf55r4, @xf55r5, @xf55l0, @xf55r6, @i55r0.eq_1, @i55r1.eq_1, @i55r2.eq_1, @i55r3.eq_1, @i55r4.eq_1, @i55r5.eq_1, @i55r6.eq_1⟩
theorem xf56r0 : wp T f56r0 e h Q = wpI (cW T) i56r0 e h (regQ (some [2, 3]) Q) := wq_reg ..
theorem xf56r1 : wp T f56r1 e h Q = wpI (cW T) i56r1 e h (regQ (some [2, 3, 6]) Q) := wq_reg ..
theorem xf56r2 : wp T f56r2 e h Q = wpI (cW T) i56r2 e h (regQ (some [2, 3, 6, 7]) Q) := wq_reg ..
theorem xf56r3 : wp T f56r3 e h Q = wpI (cW T) i56r3 e h (regQ (some [4]) Q) := wq_reg ..
theorem xf56r4 : wp T f56r4 e h Q = wpI (cW T) i56r4 e h (regQ (some [2, 3, 6, 9]) Q) := wq_reg ..
theorem xf56r5 : wp T f56r5 e h Q = wpI (cW T) i56r5 e h (regQ (some [4]) Q) := wq_reg ..
theorem xf56r6 : wp T f56r6 e h Q = wpI (cW T) i56r6 e h (regQ (some [2, 3, 16]) Q) := wq_reg ..
theorem xf56r7 : wp T f56r7 e h Q = wpI (cW T) i56r7 e h (regQ (some [4]) Q) := wq_reg ..
theorem xf56r8 : wp T f56r8 e h Q = wpI (cW T) i56r8 e h (regQ (some [4]) Q) := wq_reg ..
theorem xb56 : wp T b56 e h Q = wp T (.seq f56r0 (.seq (.seq f56r1 (.blk 0 (.seq f56r2 (.cond (.t 7) (.seq f56r3 .ret) (.seq f56r4 (.cond (.t 9) (.seq f56r5 .ret) (.seq f56r6 (.cond (.t 16) (.seq f56r7 .ret) .skip)))))))) (.seq f56r8 .ret))) e h Q := rfl
theorem e56 : (type_of% @f56.eq_1) ∧ (type_of% @xb56) ∧ (type_of% @xf56r0) ∧ (type_of% @xf56r1) ∧ (type_of% @xf56r2) ∧ (type_of% @xf56r3) ∧ (type_of% @xf56r4) ∧ (type_of% @xf56r5) ∧ (type_of% @xf56r6) ∧ (type_of% @xf56r7) ∧ (type_of% @xf56r8) ∧ (type_of% @i56r0.eq_1) ∧ (type_of% @i56r1.eq_1) ∧ (type_of% @i56r2.eq_1) ∧ (type_of% @i56r3.eq_1) ∧ (type_of% @i56r4.eq_1) ∧ (type_of% @i56r5.eq_1) ∧ (type_of% @i56r6.eq_1) ∧ (type_of% @i56r7.eq_1) ∧ (type_of% @i56r8.eq_1) := ⟨@f56.eq_1, @xb56, @xf56r0, @xf56r1, @xf56r2, @xf56r3, @xf56r4, @xf56r5, @xf56r6, @xf56r7, @xf56r8, @i56r0.eq_1, @i56r1.eq_1, @i56r2.eq_1, @i56r3.eq_1, @i56r4.eq_1, @i56r5.eq_1, @i56r6.eq_1, @i56r7.eq_1, @i56r8.eq_1⟩
theorem xf57r0 : wp T f57r0 e h Q = wpI (cW T) i57r0 e h (regQ (some [2, 3]) Q) := wq_reg ..
theorem xf57r1 : wp T f57r1 e h Q = wpI (cW T) i57r1 e h (regQ (some [2, 3, 6]) Q) := wq_reg ..
theorem xf57r2 : wp T f57r2 e h Q = wpI (cW T) i57r2 e h (regQ (some [2, 3, 6, 7]) Q) := wq_reg ..
theorem xf57r3 : wp T f57r3 e h Q = wpI (cW T) i57r3 e h (regQ (some [4]) Q) := wq_reg ..
theorem xf57r4 : wp T f57r4 e h Q = wpI (cW T) i57r4 e h (regQ (some [2, 3, 6, 9]) Q) := wq_reg ..
theorem xf57r5 : wp T f57r5 e h Q = wpI (cW T) i57r5 e h (regQ (some [4]) Q) := wq_reg ..
theorem xf57r6 : wp T f57r6 e h Q = wpI (cW T) i57r6 e h (regQ (some [2, 3, 23]) Q) := wq_reg ..
theorem xf57r7 : wp T f57r7 e h Q = wpI (cW T) i57r7 e h (regQ (some [4]) Q) := wq_reg ..
theorem xf57r8 : wp T f57r8 e h Q = wpI (cW T) i57r8 e h (regQ (some [4]) Q) := wq_reg ..
theorem xb57 : wp T b57 e h Q = wp T (.seq f57r0 (.seq (.seq f57r1 (.blk 0 (.seq f57r2 (.cond (.t 7) (.seq f57r3 .ret) (.seq f57r4 (.cond (.t 9) (.seq f57r5 .ret) (.seq f57r6 (.cond (.t 23) (.seq f57r7 .ret) .skip)))))))) (.seq f57r8 .ret))) e h Q := rfl
theorem e57 : (type_of% @f57.eq_1) ∧ (type_of% @xb57) ∧ (type_of% @xf57r0) ∧ (type_of% @xf57r1) ∧ (type_of% @xf57r2) ∧ (type_of% @xf57r3) ∧ (type_of% @xf57r4) ∧ (type_of% @xf57r5) ∧ (type_of% @xf57r6) ∧ (type_of% @xf57r7) ∧ (type_of% @xf57r8) ∧ (type_of% @i57r0.eq_1) ∧ (type_of% @i57r1.eq_1) ∧ (type_of% @i57r2.eq_1) ∧ (type_of% @i57r3.eq_1) ∧ (type_of% @i57r4.eq_1) ∧ (type_of% @i57r5.eq_1) ∧ (type_of% @i57r6.eq_1) ∧ (type_of% @i57r7.eq_1) ∧ (type_of% @i57r8.eq_1) := ⟨@f57.eq_1, @xb57, @xf57r0, @xf57r1, @xf57r2, @xf57r3, @xf57r4, @xf57r5, @xf57r6, @xf57r7, @xf57r8, @i57r0.eq_1, @i57r1.eq_1, @i57r2.eq_1, @i57r3.eq_1, @i57r4.eq_1, @i57r5.eq_1, @i57r6.eq_1, @i57r7.eq_1, @i57r8.eq_1⟩
theorem xf58r0 : wp T f58r0 e h Q = wpI (cW T) i58r0 e h (regQ (some [0, 1]) Q) := wq_reg ..
theorem xf58r1 : wp T f58r1 e h Q = wpI (cW T) i58r1 e h (regQ (some [0, 1, 7, 8]) Q) := wq_reg ..
theorem xf58r2 : wp T f58r2 e h Q = wpI (cW T) i58r2 e h (regQ (some [0, 1, 7, 8, 9]) Q) := wq_reg ..
theorem xf58r3 : wp T f58r3 e h Q = wpI (cW T) i58r3 e h (regQ (some [0, 1, 5, 7, 8]) Q) := wq_reg ..
theorem xf58r4 : wp T f58r4 e h Q = wpI (cW T) i58r4 e h (regQ (some [0, 1, 5, 7, 8, 16]) Q) := wq_reg ..
theorem xf58r5 : wp T f58r5 e h Q = wpI (cW T) i58r5 e h (regQ (some [4]) Q) := wq_reg ..
theorem xf58r6 : wp T f58r6 e h Q = wpI (cW T) i58r6 e h (regQ (some [0, 1, 7, 8]) Q) := wq_reg ..
theorem xf58l0 : wp T f58l0 e h Q = wp T (.seq f58r2 (.seq (.cond (.t 9) .skip (.exit 0)) (.seq (.blk 1 (.seq f58r3 (.seq f58r4 (.cond (.t 16) (.seq f58r5 .ret) .skip)))) f58r6))) e h Q := rfl
theorem xf58r7 : wp T f58r7 e h Q = wpI (cW T) i58r7 e h (regQ (some [4]) Q) := wq_reg ..
theorem xb58 : wp T b58 e h Q = wp T (.seq f58r0 (.seq (.seq f58r1 (.blk 0 (.loop f58l0))) (.seq f58r7 .ret))) e h Q := rfl
theorem e58 : (type_of% @f58.eq_1) ∧ (type_of% @xb58) ∧ (type_of% @xf58r0) ∧ (type_of% @xf58r1) ∧ (type_of% @xf58r2) ∧ (type_of% @xf58r3) ∧ (type_of% @xf58r4) ∧ (type_of% @xf58r5) ∧ (type_of% @xf58r6) ∧ (type_of% @xf58l0) ∧ (type_of% @xf58r7) ∧ (type_of% @i58r0.eq_1) ∧ (type_of% @i58r1.eq_1) ∧ (type_of% @i58r2.eq_1) ∧ (type_of% @i58r3.eq_1) ∧ (type_of% @i58r4.eq_1) ∧ (type_of% @i58r5.eq_1) ∧ (type_of% @i58r6.eq_1) ∧ (type_of% @i58r7.eq_1) := ⟨@f58.eq_1, @xb58, @xf58r0, @xf58r1, @xf58r2, @xf58r3, @xf58r4, @xf58r5, @xf58r6, @xf58l0, @xf58r7, @i58r0.eq_1, @i58r1.eq_1, @i58r2.eq_1, @i58r3.eq_1, @i58r4.eq_1, @i58r5.eq_1, @i58r6.eq_1, @i58r7.eq_1⟩
theorem xf59r0 : wp T f59r0 e h Q = wpI (cW T) i59r0 e h (regQ (some [0, 1]) Q) := wq_reg ..
theorem xf59r1 : wp T f59r1 e h Q = wpI (cW T) i59r1 e h (regQ (some [3]) Q) := wq_reg ..
theorem xb59 : wp T b59 e h Q = wp T (.seq f59r0 (.seq f59r1 .ret)) e h Q := rfl
theorem e59 : (type_of% @f59.eq_1) ∧ (type_of% @xb59) ∧ (type_of% @xf59r0) ∧ (type_of% @xf59r1) ∧ (type_of% @i59r0.eq_1) ∧ (type_of% @i59r1.eq_1) := ⟨@f59.eq_1, @xb59, @xf59r0, @xf59r1, @i59r0.eq_1, @i59r1.eq_1⟩
theorem xf62r0 : wp T f62r0 e h Q = wpI (cW T) i62r0 e h (regQ (some [0]) Q) := wq_reg ..
theorem xf62r1 : wp T f62r1 e h Q = wpI (cW T) i62r1 e h (regQ (some [0, 7]) Q) := wq_reg ..
theorem xf62r2 : wp T f62r2 e h Q = wpI (cW T) i62r2 e h (regQ (some [2]) Q) := wq_reg ..
theorem xf62r3 : wp T f62r3 e h Q = wpI (cW T) i62r3 e h (regQ (some [8, 9, 10]) Q) := wq_reg ..
theorem xf62r4 : wp T f62r4 e h Q = wpI (cW T) i62r4 e h (regQ (some [8, 9, 10, 11]) Q) := wq_reg ..
theorem xf62r5 : wp T f62r5 e h Q = wpI (cW T) i62r5 e h (regQ (some [4, 8, 9, 10]) Q) := wq_reg ..
theorem xf62r6 : wp T f62r6 e h Q = wpI (cW T) i62r6 e h (regQ (some [8, 9, 10, 22]) Q) := wq_reg ..
theorem xf62r7 : wp T f62r7 e h Q = wpI (cW T) i62r7 e h (regQ (some [2]) Q) := wq_reg ..
theorem xf62r8 : wp T f62r8 e h Q = wpI (cW T) i62r8 e h (regQ (some [8, 9, 10]) Q) := wq_reg ..
theorem xf62l0 : wp T f62l0 e h Q = wp T (.seq f62r4 (.seq (.cond (.t 11) .skip (.exit 0)) (.seq (.blk 1 (.seq f62r5 (.seq f62r6 (.cond (.t 22) (.seq f62r7 .ret) .skip)))) f62r8))) e h Q := rfl
theorem xf62r9 : wp T f62r9 e h Q = wpI (cW T) i62r9 e h (regQ (some [2]) Q) := wq_reg ..
theorem xb62 : wp T b62 e h Q = wp T (.seq f62r0 (.seq (.seq f62r1 (.cond (.t 7) (.seq f62r2 .ret) .skip)) (.seq (.seq f62r3 (.blk 0 (.loop f62l0))) (.seq f62r9 .ret)))) e h Q := rfl
theorem e62 : (type_of% @f62.eq_1) ∧ (type_of% @xb62) ∧ (type_of% @xf62r0) ∧ (type_of% @xf62r1) ∧ (type_of% @xf62r2) ∧ (type_of% @xf62r3) ∧ (type_of% @xf62r4) ∧ (type_of% @xf62r5) ∧ (type_of% @xf62r6) ∧ (type_of% @xf62r7) ∧ (type_of% @xf62r8) ∧ (type_of% @xf62l0) ∧ (type_of% @xf62r9) ∧ (type_of% @i62r0.eq_1) ∧ (type_of% @i62r1.eq_1) ∧ (type_of% @i62r2.eq_1) ∧ (type_of% @i62r3.eq_1) ∧ (type_of% @i62r4.eq_1) ∧ (type_of% @i62r5.eq_1) ∧ (type_of% @i62r6.eq_1) ∧ (type_of% @i62r7.eq_1) ∧ (type_of% @i62r8.eq_1) ∧ (type_of% @i62r9.eq_1) := ⟨@f62.eq_1, @xb62, @xf62r0, @xf62r1, @xf62r2, @xf62r3, @xf62r4, @xf62r5, @xf62r6, @xf62r7, @xf62r8, @xf62l0, @xf62r9, @i62r0.eq_1, @i62r1.eq_1, @i62r2.eq_1, @i62r3.eq_1, @i62r4.eq_1, @i62r5.eq_1, @i62r6.eq_1, @i62r7.eq_1, @i62r8.eq_1, @i62r9.eq_1⟩
theorem xf63r0 : wp T f63r0 e h Q = wpI (cW T) i63r0 e h (regQ (some [0]) Q) := wq_reg ..
theorem xf63r1 : wp T f63r1 e h Q = wpI (cW T) i63r1 e h (regQ (some [0, 24]) Q) := wq_reg ..
theorem xf63r2 : wp T f63r2 e h Q = wpI (cW T) i63r2 e h (regQ (some [2]) Q) := wq_reg ..
theorem xf63r3 : wp T f63r3 e h Q = wpI (cW T) i63r3 e h (regQ (some [0, 3, 4]) Q) := wq_reg ..
theorem xf63r4 : wp T f63r4 e h Q = wpI (cW T) i63r4 e h (regQ (some [0, 54]) Q) := wq_reg ..
theorem xf63r5 : wp T f63r5 e h Q = wpI (cW T) i63r5 e h (regQ (some [2]) Q) := wq_reg ..
theorem xf63r6 : wp T f63r6 e h Q = wpI (cW T) i63r6 e h (regQ (some [55, 56, 57]) Q) := wq_reg ..
theorem xf63r7 : wp T f63r7 e h Q = wpI (cW T) i63r7 e h (regQ (some [55, 56, 57, 58]) Q) := wq_reg ..
theorem xf63r8 : wp T f63r8 e h Q = wpI (cW T) i63r8 e h (regQ (some [6, 55, 56, 57]) Q) := wq_reg ..
theorem xf63r9 : wp T f63r9 e h Q = wpI (cW T) i63r9 e h (regQ (some [55, 56, 57, 75]) Q) := wq_reg ..
theorem xf63r10 : wp T f63r10 e h Q = wpI (cW T) i63r10 e h (regQ (some [2]) Q) := wq_reg ..
theorem xf63r11 : wp T f63r11 e h Q = wpI (cW T) i63r11 e h (regQ (some [55, 56, 57]) Q) := wq_reg ..
theorem xf63l0 : wp T f63l0 e h Q = wp T (.seq f63r7 (.seq (.cond (.t 58) .skip (.exit 0)) (.seq (.blk 1 (.seq f63r8 (.seq f63r9 (.cond (.t 75) (.seq f63r10 .ret) .skip)))) f63r11))) e h Q := rfl
theorem xf63r12 : wp T f63r12 e h Q = wpI (cW T) i63r12 e h (regQ (some [2]) Q) := wq_reg ..
theorem xb63 : wp T b63 e h Q = wp T (.seq f63r0 (.seq (.seq f63r1 (.cond (.t 24) (.seq f63r2 .ret) .skip)) (.seq f63r3 (.seq (.seq f63r4 (.cond (.t 54) (.seq f63r5 .ret) .skip)) (.seq (.seq f63r6 (.blk 0 (.loop f63l0))) (.seq f63r12 .ret)))))) e h Q := rfl
theorem e63 : (type_of% @f63.eq_1) ∧ (type_of% @xb63) ∧ (type_of% @xf63r0) ∧ (type_of% @xf63r1) ∧ (type_of% @xf63r2) ∧ (type_of% @xf63r3) ∧ (type_of% @xf63r4) ∧ (type_of% @xf63r5) ∧ (type_of% @xf63r6) ∧ (type_of% @xf63r7) ∧ (type_of% @xf63r8) ∧ (type_of% @xf63r9) ∧ (type_of% @xf63r10) ∧ (type_of% @xf63r11) ∧ (type_of% @xf63l0) ∧ (type_of% @xf63r12) ∧ (type_of% @i63r0.eq_1) ∧ (type_of% @i63r1.eq_1) ∧ (type_of% @i63r2.eq_1) ∧ (type_of% @i63r3.eq_1) ∧ (type_of% @i63r4.eq_1) ∧ (type_of% @i63r5.eq_1) ∧ (type_of% @i63r6.eq_1) ∧ (type_of% @i63r7.eq_1) ∧ (type_of% @i63r8.eq_1) ∧ (type_of% @i63r9.eq_1) ∧ (type_of% @i63r10.eq_1) ∧ (type_of% @i63r11.eq_1) ∧ (type_of% @i63r12.eq_1) := ⟨@f63.eq_1, @xb63, @xf63r0, @xf63r1, @xf63r2, @xf63r3, @xf63r4, @xf63r5, @xf63r6, @xf63r7, @xf63r8, @xf63r9, @xf63r10, @xf63r11, @xf63l0, @xf63r12, @i63r0.eq_1, @i63r1.eq_1, @i63r2.eq_1, @i63r3.eq_1, @i63r4.eq_1, @i63r5.eq_1, @i63r6.eq_1, @i63r7.eq_1, @i63r8.eq_1, @i63r9.eq_1, @i63r10.eq_1, @i63r11.eq_1, @i63r12.eq_1⟩
theorem xf64r0 : wp T f64r0 e h Q = wpI (cW T) i64r0 e h (regQ (some [0]) Q) := wq_reg ..
theorem xf64r1 : wp T f64r1 e h Q = wpI (cW T) i64r1 e h (regQ (some [0, 3, 4]) Q) := wq_reg ..
theorem xf64r2 : wp T f64r2 e h Q = wpI (cW T) i64r2 e h (regQ (some [3, 4, 12, 13, 14]) Q) := wq_reg ..
theorem xf64r3 : wp T f64r3 e h Q = wpI (cW T) i64r3 e h (regQ (some [3, 4, 12, 13, 14, 15]) Q) := wq_reg ..
theorem xf64r4 : wp T f64r4 e h Q = wpI (cW T) i64r4 e h (regQ (some [3, 4, 6, 12, 13, 14]) Q) := wq_reg ..
theorem xf64r5 : wp T f64r5 e h Q = wpI (cW T) i64r5 e h (regQ (some [3, 4, 6, 12, 13, 14, 21]) Q) := wq_reg ..
theorem xf64r6 : wp T f64r6 e h Q = wpI (cW T) i64r6 e h (regQ (some [2]) Q) := wq_reg ..
theorem xf64r7 : wp T f64r7 e h Q = wpI (cW T) i64r7 e h (regQ (some [3, 4, 6, 12, 13, 14]) Q) := wq_reg ..
theorem xf64r8 : wp T f64r8 e h Q = wpI (cW T) i64r8 e h (regQ (some [3, 4, 12, 13, 14, 26, 27, 28]) Q) := wq_reg ..
theorem xf64r9 : wp T f64r9 e h Q = wpI (cW T) i64r9 e h (regQ (some [3, 4, 12, 13, 14, 26, 27, 28, 29]) Q) := wq_reg ..
theorem xf64r10 : wp T f64r10 e h Q = wpI (cW T) i64r10 e h (regQ (some [3, 4, 8, 12, 13, 14, 26, 27, 28]) Q) := wq_reg ..
theorem xf64r11 : wp T f64r11 e h Q = wpI (cW T) i64r11 e h (regQ (some [3, 4, 8, 12, 13, 14, 26, 27, 28, 35]) Q) := wq_reg ..
theorem xf64r12 : wp T f64r12 e h Q = wpI (cW T) i64r12 e h (regQ (some [2]) Q) := wq_reg ..
theorem xf64r13 : wp T f64r13 e h Q = wpI (cW T) i64r13 e h (regQ (some [3, 4, 12, 13, 14, 26, 27, 28]) Q) := wq_reg ..
theorem xf64r14 : wp T f64r14 e h Q = wpI (cW T) i64r14 e h (regQ (some [3, 4, 12, 13, 14, 26, 27, 28]) Q) := wq_reg ..
theorem xf64l0 : wp T f64l0 e h Q = wp T (.seq f64r9 (.seq (.cond (.t 29) .skip (.exit 2)) (.seq (.blk 3 (.seq f64r10 (.seq (.seq f64r11 (.cond (.t 35) (.seq f64r12 .ret) .skip)) f64r13))) f64r14))) e h Q := rfl
theorem xf64r15 : wp T f64r15 e h Q = wpI (cW T) i64r15 e h (regQ (some [3, 4, 12, 13, 14]) Q) := wq_reg ..
theorem xf64l1 : wp T f64l1 e h Q = wp T (.seq f64r3 (.seq (.cond (.t 15) .skip (.exit 0)) (.seq (.blk 1 (.seq f64r4 (.seq (.seq f64r5 (.cond (.t 21) (.seq f64r6 .ret) .skip)) (.seq f64r7 (.seq f64r8 (.blk 2 (.loop f64l0))))))) f64r15))) e h Q := rfl
theorem xf64r16 : wp T f64r16 e h Q = wpI (cW T) i64r16 e h (regQ (some [2]) Q) := wq_reg ..
theorem xb64 : wp T b64 e h Q = wp T (.seq f64r0 (.seq f64r1 (.seq (.seq f64r2 (.blk 0 (.loop f64l1))) (.seq f64r16 .ret)))) e h Q := rfl
theorem e64 : (type_of% @f64.eq_1) ∧ (type_of% @xb64) ∧ (type_of% @xf64r0) ∧ (type_of% @xf64r1) ∧ (type_of% @xf64r2) ∧ (type_of% @xf64r3) ∧ (type_of% @xf64r4) ∧ (type_of% @xf64r5) ∧ (type_of% @xf64r6) ∧ (type_of% @xf64r7) ∧ (type_of% @xf64r8) ∧ (type_of% @xf64r9) ∧ (type_of% @xf64r10) ∧ (type_of% @xf64r11) ∧ (type_of% @xf64r12) ∧ (type_of% @xf64r13) ∧ (type_of% @xf64r14) ∧ (type_of% @xf64l0) ∧ (type_of% @xf64r15) ∧ (type_of% @xf64l1) ∧ (type_of% @xf64r16) ∧ (type_of% @i64r0.eq_1) ∧ (type_of% @i64r1.eq_1) ∧ (type_of% @i64r2.eq_1) ∧ (type_of% @i64r3.eq_1) ∧ (type_of% @i64r4.eq_1) ∧ (type_of% @i64r5.eq_1) ∧ (type_of% @i64r6.eq_1) ∧ (type_of% @i64r7.eq_1) ∧ (type_of% @i64r8.eq_1) ∧ (type_of% @i64r9.eq_1) ∧ (type_of% @i64r10.eq_1) ∧ (type_of% @i64r11.eq_1) ∧ (type_of% @i64r12.eq_1) ∧ (type_of% @i64r13.eq_1) ∧ (type_of% @i64r14.eq_1) ∧ (type_of% @i64r15.eq_1) ∧ (type_of% @i64r16.eq_1) := ⟨@f64.eq_1, @xb64, @xf64r0, @xf64r1, @xf64r2, @xf64r3, @xf64r4, @xf64r5, @xf64r6, @xf64r7, @xf64r8, @xf64r9, @xf64r10, @xf64r11, @xf64r12, @xf64r13, @xf64r14, @xf64l0, @xf64r15, @xf64l1, @xf64r16, @i64r0.eq_1, @i64r1.eq_1, @i64r2.eq_1, @i64r3.eq_1, @i64r4.eq_1, @i64r5.eq_1, @i64r6.eq_1, @i64r7.eq_1, @i64r8.eq_1, @i64r9.eq_1, @i64r10.eq_1, @i64r11.eq_1, @i64r12.eq_1, @i64r13.eq_1, @i64r14.eq_1, @i64r15.eq_1, @i64r16.eq_1⟩
theorem xf65r0 : wp T f65r0 e h Q = wpI (cW T) i65r0 e h (regQ (some [0, 1]) Q) := wq_reg ..
theorem xf65r1 : wp T f65r1 e h Q = wpI (cW T) i65r1 e h (regQ (some [3]) Q) := wq_reg ..
theorem xb65 : wp T b65 e h Q = wp T (.seq f65r0 (.seq f65r1 .ret)) e h Q := rfl
theorem e65 : (type_of% @f65.eq_1) ∧ (type_of% @xb65) ∧ (type_of% @xf65r0) ∧ (type_of% @xf65r1) ∧ (type_of% @i65r0.eq_1) ∧ (type_of% @i65r1.eq_1) := ⟨@f65.eq_1, @xb65, @xf65r0, @xf65r1, @i65r0.eq_1, @i65r1.eq_1⟩
theorem xf66r0 : wp T f66r0 e h Q = wpI (cW T) i66r0 e h (regQ (some [0, 1]) Q) := wq_reg ..
theorem xf66r1 : wp T f66r1 e h Q = wpI (cW T) i66r1 e h (regQ (some [4]) Q) := wq_reg ..
theorem xb66 : wp T b66 e h Q = wp T (.seq f66r0 (.seq f66r1 .ret)) e h Q := rfl
theorem e66 : (type_of% @f66.eq_1) ∧ (type_of% @xb66) ∧ (type_of% @xf66r0) ∧ (type_of% @xf66r1) ∧ (type_of% @i66r0.eq_1) ∧ (type_of% @i66r1.eq_1) := ⟨@f66.eq_1, @xb66, @xf66r0, @xf66r1, @i66r0.eq_1, @i66r1.eq_1⟩
theorem xf67r0 : wp T f67r0 e h Q = wpI (cW T) i67r0 e h (regQ (some [0]) Q) := wq_reg ..
theorem xf67r1 : wp T f67r1 e h Q = wpI (cW T) i67r1 e h (regQ (some [0, 3]) Q) := wq_reg ..
theorem xf67r2 : wp T f67r2 e h Q = wpI (cW T) i67r2 e h (regQ (some [0, 3]) Q) := wq_reg ..
theorem xf67r3 : wp T f67r3 e h Q = wpI (cW T) i67r3 e h (regQ (some [0, 3, 4]) Q) := wq_reg ..
theorem xf67r4 : wp T f67r4 e h Q = wpI (cW T) i67r4 e h (regQ (some [0, 3, 13]) Q) := wq_reg ..
theorem xf67r5 : wp T f67r5 e h Q = wpI (cW T) i67r5 e h (regQ (some [0, 3, 4]) Q) := wq_reg ..
theorem xf67r6 : wp T f67r6 e h Q = wpI (cW T) i67r6 e h (regQ (some [0, 3, 4, 15, 16]) Q) := wq_reg ..
theorem xf67r7 : wp T f67r7 e h Q = wpI (cW T) i67r7 e h (regQ (some [0, 3, 4, 15, 16, 17]) Q) := wq_reg ..
theorem xf67r8 : wp T f67r8 e h Q = wpI (cW T) i67r8 e h (regQ (some [0, 3, 4, 5, 15, 16]) Q) := wq_reg ..
theorem xf67r9 : wp T f67r9 e h Q = wpI (cW T) i67r9 e h (regQ (some [0, 3, 4, 5, 6, 15, 16]) Q) := wq_reg ..
theorem xf67r10 : wp T f67r10 e h Q = wpI (cW T) i67r10 e h (regQ (some [0, 3, 4, 5, 15, 16, 34]) Q) := wq_reg ..
theorem xf67r11 : wp T f67r11 e h Q = wpI (cW T) i67r11 e h (regQ (some [0, 3, 4, 15, 16]) Q) := wq_reg ..
theorem xf67r12 : wp T f67r12 e h Q = wpI (cW T) i67r12 e h (regQ (some [0, 3, 4, 15, 16]) Q) := wq_reg ..
theorem xf67l0 : wp T f67l0 e h Q = wp T (.seq f67r7 (.seq (.cond (.t 17) .skip (.exit 2)) (.seq (.blk 3 (.seq f67r8 (.seq f67r9 (.seq f67r10 (.cond (.t 34) f67r11 .skip))))) f67r12))) e h Q := rfl
theorem xf67l1 : wp T f67l1 e h Q = wp T (.seq (.seq f67r4 (.cond (.t 13) .skip (.exit 0))) (.blk 1 (.seq f67r5 (.seq f67r6 (.blk 2 (.loop f67l0)))))) e h Q := rfl
theorem xf67r13 : wp T f67r13 e h Q = wpI (cW T) i67r13 e h (regQ (some [2]) Q) := wq_reg ..
theorem xb67 : wp T b67 e h Q = wp T (.seq f67r0 (.seq f67r1 (.seq f67r2 (.seq (.seq f67r3 (.blk 0 (.loop f67l1))) (.seq f67r13 .ret))))) e h Q := rfl
theorem e67 : (type_of% @f67.eq_1) ∧ (type_of% @xb67) ∧ (type_of% @xf67r0) ∧ (type_of% @xf67r1) ∧ (type_of% @xf67r2) ∧ (type_of% @xf67r3) ∧ (type_of% @xf67r4) ∧ (type_of% @xf67r5) ∧ (type_of% @xf67r6) ∧ (type_of% @xf67r7) ∧ (type_of% @xf67r8) ∧ (type_of% @xf67r9) ∧ (type_of% @xf67r10) ∧ (type_of% @xf67r11) ∧ (type_of% @xf67r12) ∧ (type_of% @xf67l0) ∧ (type_of% @xf67l1) ∧ (type_of% @xf67r13) ∧ (type_of% @i67r0.eq_1) ∧ (type_of% @i67r1.eq_1) ∧ (type_of% @i67r2.eq_1) ∧ (type_of% @i67r3.eq_1) ∧ (type_of% @i67r4.eq_1) ∧ (type_of% @i67r5.eq_1) ∧ (type_of% @i67r6.eq_1) ∧ (type_of% @i67r7.eq_1) ∧ (type_of% @i67r8.eq_1) ∧ (type_of% @i67r9.eq_1) ∧ (type_of% @i67r10.eq_1) ∧ (type_of% @i67r11.eq_1) ∧ (type_of% @i67r12.eq_1) ∧ (type_of% @i67r13.eq_1) := ⟨@f67.eq_1, @xb67, @xf67r0, @xf67r1, @xf67r2, @xf67r3, @xf67r4, @xf67r5, @xf67r6, @xf67r7, @xf67r8, @xf67r9, @xf67r10, @xf67r11, @xf67r12, @xf67l0, @xf67l1, @xf67r13, @i67r0.eq_1, @i67r1.eq_1, @i67r2.eq_1, @i67r3.eq_1, @i67r4.eq_1, @i67r5.eq_1, @i67r6.eq_1, @i67r7.eq_1, @i67r8.eq_1, @i67r9.eq_1, @i67r10.eq_1, @i67r11.eq_1, @i67r12.eq_1, @i67r13.eq_1⟩
theorem xf68r0 : wp T f68r0 e h Q = wpI (cW T) i68r0 e h (regQ (some [0, 1]) Q) := wq_reg ..
theorem xf68r1 : wp T f68r1 e h Q = wpI (cW T) i68r1 e h (regQ (some [0, 1, 7, 8]) Q) := wq_reg ..
theorem xf68r2 : wp T f68r2 e h Q = wpI (cW T) i68r2 e h (regQ (some [0, 1, 7, 8, 9]) Q) := wq_reg ..
theorem xf68r3 : wp T f68r3 e h Q = wpI (cW T) i68r3 e h (regQ (some [0, 1, 5, 7, 8]) Q) := wq_reg ..
theorem xf68r4 : wp T f68r4 e h Q = wpI (cW T) i68r4 e h (regQ (some [0, 1, 5, 7, 8, 16]) Q) := wq_reg ..
theorem xf68r5 : wp T f68r5 e h Q = wpI (cW T) i68r5 e h (regQ (some [4]) Q) := wq_reg ..
theorem xf68r6 : wp T f68r6 e h Q = wpI (cW T) i68r6 e h (regQ (some [0, 1, 7, 8]) Q) := wq_reg ..
theorem xf68l0 : wp T f68l0 e h Q = wp T (.seq f68r2 (.seq (.cond (.t 9) .skip (.exit 0)) (.seq (.blk 1 (.seq f68r3 (.seq f68r4 (.cond (.t 16) (.seq f68r5 .ret) .skip)))) f68r6))) e h Q := rfl
theorem xf68r7 : wp T f68r7 e h Q = wpI (cW T) i68r7 e h (regQ (some [4]) Q) := wq_reg ..
theorem xb68 : wp T b68 e h Q = wp T (.seq f68r0 (.seq (.seq f68r1 (.blk 0 (.loop f68l0))) (.seq f68r7 .ret))) e h Q := rfl
theorem e68 : (type_of% @f68.eq_1) ∧ (type_of% @xb68) ∧ (type_of% @xf68r0) ∧ (type_of% @xf68r1) ∧ (type_of% @xf68r2) ∧ (type_of% @xf68r3) ∧ (type_of% @xf68r4) ∧ (type_of% @xf68r5) ∧ (type_of% @xf68r6) ∧ (type_of% @xf68l0) ∧ (type_of% @xf68r7) ∧ (type_of% @i68r0.eq_1) ∧ (type_of% @i68r1.eq_1) ∧ (type_of% @i68r2.eq_1) ∧ (type_of% @i68r3.eq_1) ∧ (type_of% @i68r4.eq_1) ∧ (type_of% @i68r5.eq_1) ∧ (type_of% @i68r6.eq_1) ∧ (type_of% @i68r7.eq_1) := ⟨@f68.eq_1, @xb68, @xf68r0, @xf68r1, @xf68r2, @xf68r3, @xf68r4, @xf68r5, @xf68r6, @xf68l0, @xf68r7, @i68r0.eq_1, @i68r1.eq_1, @i68r2.eq_1, @i68r3.eq_1, @i68r4.eq_1, @i68r5.eq_1, @i68r6.eq_1, @i68r7.eq_1⟩
theorem xf69r0 : wp T f69r0 e h Q = wpI (cW T) i69r0 e h (regQ (some [0, 1]) Q) := wq_reg ..
theorem xf69r1 : wp T f69r1 e h Q = wpI (cW T) i69r1 e h (regQ (some [0, 1, 7, 8]) Q) := wq_reg ..
theorem xf69r2 : wp T f69r2 e h Q = wpI (cW T) i69r2 e h (regQ (some [0, 1, 7, 8, 9]) Q) := wq_reg ..
theorem xf69r3 : wp T f69r3 e h Q = wpI (cW T) i69r3 e h (regQ (some [0, 1, 5, 7, 8]) Q) := wq_reg ..
theorem xf69r4 : wp T f69r4 e h Q = wpI (cW T) i69r4 e h (regQ (some [0, 1, 5, 7, 8, 16]) Q) := wq_reg ..
theorem xf69r5 : wp T f69r5 e h Q = wpI (cW T) i69r5 e h (regQ (some [4]) Q) := wq_reg ..
theorem xf69r6 : wp T f69r6 e h Q = wpI (cW T) i69r6 e h (regQ (some [0, 1, 7, 8]) Q) := wq_reg ..
theorem xf69l0 : wp T f69l0 e h Q = wp T (.seq f69r2 (.seq (.cond (.t 9) .skip (.exit 0)) (.seq (.blk 1 (.seq f69r3 (.seq f69r4 (.cond (.t 16) (.seq f69r5 .ret) .skip)))) f69r6))) e h Q := rfl
theorem xf69r7 : wp T f69r7 e h Q = wpI (cW T) i69r7 e h (regQ (some [4]) Q) := wq_reg ..
theorem xb69 : wp T b69 e h Q = wp T (.seq f69r0 (.seq (.seq f69r1 (.blk 0 (.loop f69l0))) (.seq f69r7 .ret))) e h Q := rfl
theorem e69 : (type_of% @f69.eq_1) ∧ (type_of% @xb69) ∧ (type_of% @xf69r0) ∧ (type_of% @xf69r1) ∧ (type_of% @xf69r2) ∧ (type_of% @xf69r3) ∧ (type_of% @xf69r4) ∧ (type_of% @xf69r5) ∧ (type_of% @xf69r6) ∧ (type_of% @xf69l0) ∧ (type_of% @xf69r7) ∧ (type_of% @i69r0.eq_1) ∧ (type_of% @i69r1.eq_1) ∧ (type_of% @i69r2.eq_1) ∧ (type_of% @i69r3.eq_1) ∧ (type_of% @i69r4.eq_1) ∧ (type_of% @i69r5.eq_1) ∧ (type_of% @i69r6.eq_1) ∧ (type_of% @i69r7.eq_1) := ⟨@f69.eq_1, @xb69, @xf69r0, @xf69r1, @xf69r2, @xf69r3, @xf69r4, @xf69r5, @xf69r6, @xf69l0, @xf69r7, @i69r0.eq_1, @i69r1.eq_1, @i69r2.eq_1, @i69r3.eq_1, @i69r4.eq_1, @i69r5.eq_1, @i69r6.eq_1, @i69r7.eq_1⟩
theorem xf70r0 : wp T f70r0 e h Q = wpI (cW T) i70r0 e h (regQ (some [1, 2]) Q) := wq_reg ..
theorem xf70r1 : wp T f70r1 e h Q = wpI (cW T) i70r1 e h (regQ (some [3]) Q) := wq_reg ..
theorem xb70 : wp T b70 e h Q = wp T (.seq f70r0 (.seq f70r1 .ret)) e h Q := rfl
theorem e70 : (type_of% @f70.eq_1) ∧ (type_of% @xb70) ∧ (type_of% @xf70r0) ∧ (type_of% @xf70r1) ∧ (type_of% @i70r0.eq_1) ∧ (type_of% @i70r1.eq_1) := ⟨@f70.eq_1, @xb70, @xf70r0, @xf70r1, @i70r0.eq_1, @i70r1.eq_1⟩
theorem xf71r0 : wp T f71r0 e h Q = wpI (cW T) i71r0 e h (regQ (some [0]) Q) := wq_reg ..
theorem xf71r1 : wp T f71r1 e h Q = wpI (cW T) i71r1 e h (regQ (some [0, 7]) Q) := wq_reg ..
theorem xf71r2 : wp T f71r2 e h Q = wpI (cW T) i71r2 e h (regQ (some [2]) Q) := wq_reg ..
theorem xf71r3 : wp T f71r3 e h Q = wpI (cW T) i71r3 e h (regQ (some [0, 3]) Q) := wq_reg ..
theorem xf71r4 : wp T f71r4 e h Q = wpI (cW T) i71r4 e h (regQ (some [0, 3, 11]) Q) := wq_reg ..
theorem xf71r5 : wp T f71r5 e h Q = wpI (cW T) i71r5 e h (regQ (some [0, 3, 20]) Q) := wq_reg ..
theorem xf71r6 : wp T f71r6 e h Q = wpI (cW T) i71r6 e h (regQ (some [2]) Q) := wq_reg ..
theorem xf71r7 : wp T f71r7 e h Q = wpI (cW T) i71r7 e h (regQ (some [0, 3, 4]) Q) := wq_reg ..
theorem xf71r8 : wp T f71r8 e h Q = wpI (cW T) i71r8 e h (regQ (some [0, 3, 4, 28]) Q) := wq_reg ..
theorem xf71r9 : wp T f71r9 e h Q = wpI (cW T) i71r9 e h (regQ (some [0, 3, 4, 41]) Q) := wq_reg ..
theorem xf71r10 : wp T f71r10 e h Q = wpI (cW T) i71r10 e h (regQ (some [2]) Q) := wq_reg ..
theorem xf71r11 : wp T f71r11 e h Q = wpI (cW T) i71r11 e h (regQ (some [0, 3, 4]) Q) := wq_reg ..
theorem xf71l0 : wp T f71l0 e h Q = wp T (.seq (.seq f71r8 (.cond (.t 28) .skip (.exit 2))) (.seq (.blk 3 (.seq f71r9 (.cond (.t 41) (.seq f71r10 .ret) .skip))) f71r11)) e h Q := rfl
theorem xf71r12 : wp T f71r12 e h Q = wpI (cW T) i71r12 e h (regQ (some [0, 3]) Q) := wq_reg ..
theorem xf71l1 : wp T f71l1 e h Q = wp T (.seq (.seq f71r4 (.cond (.t 11) .skip (.exit 0))) (.seq (.blk 1 (.seq (.seq f71r5 (.cond (.t 20) (.seq f71r6 .ret) .skip)) (.seq f71r7 (.blk 2 (.loop f71l0))))) f71r12)) e h Q := rfl
theorem xf71r13 : wp T f71r13 e h Q = wpI (cW T) i71r13 e h (regQ (some [2]) Q) := wq_reg ..
theorem xb71 : wp T b71 e h Q = wp T (.seq f71r0 (.seq (.seq f71r1 (.cond (.t 7) (.seq f71r2 .ret) .skip)) (.seq (.seq f71r3 (.blk 0 (.loop f71l1))) (.seq f71r13 .ret)))) e h Q := rfl
theorem e71 : (type_of% @f71.eq_1) ∧ (type_of% @xb71) ∧ (type_of% @xf71r0) ∧ (type_of% @xf71r1) ∧ (type_of% @xf71r2) ∧ (type_of% @xf71r3) ∧ (type_of% @xf71r4) ∧ (type_of% @xf71r5) ∧ (type_of% @xf71r6) ∧ (type_of% @xf71r7) ∧ (type_of% @xf71r8) ∧ (type_of% @xf71r9) ∧ (type_of% @xf71r10) ∧ (type_of% @xf71r11) ∧ (type_of% @xf71l0) ∧ (type_of% @xf71r12) ∧ (type_of% @xf71l1) ∧ (type_of% @xf71r13) ∧ (type_of% @i71r0.eq_1) ∧ (type_of% @i71r1.eq_1) ∧ (type_of% @i71r2.eq_1) ∧ (type_of% @i71r3.eq_1) ∧ (type_of% @i71r4.eq_1) ∧ (type_of% @i71r5.eq_1) ∧ (type_of% @i71r6.eq_1) ∧ (type_of% @i71r7.eq_1) ∧ (type_of% @i71r8.eq_1) ∧ (type_of% @i71r9.eq_1) ∧ (type_of% @i71r10.eq_1) ∧ (type_of% @i71r11.eq_1) ∧ (type_of% @i71r12.eq_1) ∧ (type_of% @i71r13.eq_1) := ⟨@f71.eq_1, @xb71, @xf71r0, @xf71r1, @xf71r2, @xf71r3, @xf71r4, @xf71r5, @xf71r6, @xf71r7, @xf71r8, @xf71r9, @xf71r10, @xf71r11, @xf71l0, @xf71r12, @xf71l1, @xf71r13, @i71r0.eq_1, @i71r1.eq_1, @i71r2.eq_1, @i71r3.eq_1, @i71r4.eq_1, @i71r5.eq_1, @i71r6.eq_1, @i71r7.eq_1, @i71r8.eq_1, @i71r9.eq_1, @i71r10.eq_1, @i71r11.eq_1, @i71r12.eq_1, @i71r13.eq_1⟩
theorem xf72r0 : wp T f72r0 e h Q = wpI (cW T) i72r0 e h (regQ (some [0]) Q) := wq_reg ..
theorem xf72r1 : wp T f72r1 e h Q = wpI (cW T) i72r1 e h (regQ (some [0, 24]) Q) := wq_reg ..
theorem xf72r2 : wp T f72r2 e h Q = wpI (cW T) i72r2 e h (regQ (some [2]) Q) := wq_reg ..
theorem xf72r3 : wp T f72r3 e h Q = wpI (cW T) i72r3 e h (regQ (some [0, 3, 4]) Q) := wq_reg ..
theorem xf72r4 : wp T f72r4 e h Q = wpI (cW T) i72r4 e h (regQ (some [0, 56]) Q) := wq_reg ..
theorem xf72r5 : wp T f72r5 e h Q = wpI (cW T) i72r5 e h (regQ (some [2]) Q) := wq_reg ..
theorem xf72r6 : wp T f72r6 e h Q = wpI (cW T) i72r6 e h (regQ (some [0, 5]) Q) := wq_reg ..
theorem xf72r7 : wp T f72r7 e h Q = wpI (cW T) i72r7 e h (regQ (some [0, 5, 60]) Q) := wq_reg ..
theorem xf72r8 : wp T f72r8 e h Q = wpI (cW T) i72r8 e h (regQ (some [0, 5, 78]) Q) := wq_reg ..
theorem xf72r9 : wp T f72r9 e h Q = wpI (cW T) i72r9 e h (regQ (some [2]) Q) := wq_reg ..
theorem xf72r10 : wp T f72r10 e h Q = wpI (cW T) i72r10 e h (regQ (some [0, 5, 6]) Q) := wq_reg ..
theorem xf72r11 : wp T f72r11 e h Q = wpI (cW T) i72r11 e h (regQ (some [0, 5, 6, 86]) Q) := wq_reg ..
theorem xf72r12 : wp T f72r12 e h Q = wpI (cW T) i72r12 e h (regQ (some [0, 5, 6, 99]) Q) := wq_reg ..
theorem xf72r13 : wp T f72r13 e h Q = wpI (cW T) i72r13 e h (regQ (some [2]) Q) := wq_reg ..
theorem xf72r14 : wp T f72r14 e h Q = wpI (cW T) i72r14 e h (regQ (some [0, 5, 6]) Q) := wq_reg ..
theorem xf72l0 : wp T f72l0 e h Q = wp T (.seq (.seq f72r11 (.cond (.t 86) .skip (.exit 2))) (.seq (.blk 3 (.seq f72r12 (.cond (.t 99) (.seq f72r13 .ret) .skip))) f72r14)) e h Q := rfl
theorem xf72r15 : wp T f72r15 e h Q = wpI (cW T) i72r15 e h (regQ (some [0, 5]) Q) := wq_reg ..
theorem xf72l1 : wp T f72l1 e h Q = wp T (.seq (.seq f72r7 (.cond (.t 60) .skip (.exit 0))) (.seq (.blk 1 (.seq (.seq f72r8 (.cond (.t 78) (.seq f72r9 .ret) .skip)) (.seq f72r10 (.blk 2 (.loop f72l0))))) f72r15)) e h Q := rfl
theorem xf72r16 : wp T f72r16 e h Q = wpI (cW T) i72r16 e h (regQ (some [2]) Q) := wq_reg ..
theorem xb72 : wp T b72 e h Q = wp T (.seq f72r0 (.seq (.seq f72r1 (.cond (.t 24) (.seq f72r2 .ret) .skip)) (.seq f72r3 (.seq (.seq f72r4 (.cond (.t 56) (.seq f72r5 .ret) .skip)) (.seq (.seq f72r6 (.blk 0 (.loop f72l1))) (.seq f72r16 .ret)))))) e h Q := rfl
theorem e72 : (type_of% @f72.eq_1) ∧ (type_of% @xb72) ∧ (type_of% @xf72r0) ∧ (type_of% @xf72r1) ∧ (type_of% @xf72r2) ∧ (type_of% @xf72r3) ∧ (type_of% @xf72r4) ∧ (type_of% @xf72r5) ∧ (type_of% @xf72r6) ∧ (type_of% @xf72r7) ∧ (type_of% @xf72r8) ∧ (type_of% @xf72r9) ∧ (type_of% @xf72r10) ∧ (type_of% @xf72r11) ∧ (type_of% @xf72r12) ∧ (type_of% @xf72r13) ∧ (type_of% @xf72r14) ∧ (type_of% @xf72l0) ∧ (type_of% @xf72r15) ∧ (type_of% @xf72l1) ∧ (type_of% @xf72r16) ∧ (type_of% @i72r0.eq_1) ∧ (type_of% @i72r1.eq_1) ∧ (type_of% @i72r2.eq_1) ∧ (type_of% @i72r3.eq_1) ∧ (type_of% @i72r4.eq_1) ∧ (type_of% @i72r5.eq_1) ∧ (type_of% @i72r6.eq_1) ∧ (type_of% @i72r7.eq_1) ∧ (type_of% @i72r8.eq_1) ∧ (type_of% @i72r9.eq_1) ∧ (type_of% @i72r10.eq_1) ∧ (type_of% @i72r11.eq_1) ∧ (type_of% @i72r12.eq_1) ∧ (type_of% @i72r13.eq_1) ∧ (type_of% @i72r14.eq_1) ∧ (type_of% @i72r15.eq_1) ∧ (type_of% @i72r16.eq_1) := ⟨@f72.eq_1, @xb72, @xf72r0, @xf72r1, @xf72r2, @xf72r3, @xf72r4, @xf72r5, @xf72r6, @xf72r7, @xf72r8, @xf72r9, @xf72r10, @xf72r11, @xf72r12, @xf72r13, @xf72r14, @xf72l0, @xf72r15, @xf72l1, @xf72r16, @i72r0.eq_1, @i72r1.eq_1, @i72r2.eq_1, @i72r3.eq_1, @i72r4.eq_1, @i72r5.eq_1, @i72r6.eq_1, @i72r7.eq_1, @i72r8.eq_1, @i72r9.eq_1, @i72r10.eq_1, @i72r11.eq_1, @i72r12.eq_1, @i72r13.eq_1, @i72r14.eq_1, @i72r15.eq_1, @i72r16.eq_1⟩
theorem xf73r0 : wp T f73r0 e h Q = wpI (cW T) i73r0 e h (regQ (some [0]) Q) := wq_reg ..
theorem xf73r1 : wp T f73r1 e h Q = wpI (cW T) i73r1 e h (regQ (some [0, 3, 4]) Q) := wq_reg ..
theorem xf73r2 : wp T f73r2 e h Q = wpI (cW T) i73r2 e h (regQ (some [0, 3, 4]) Q) := wq_reg ..
theorem xf73r3 : wp T f73r3 e h Q = wpI (cW T) i73r3 e h (regQ (some [0, 3, 4, 5]) Q) := wq_reg ..
theorem xf73r4 : wp T f73r4 e h Q = wpI (cW T) i73r4 e h (regQ (some [0, 3, 4, 5, 13]) Q) := wq_reg ..
theorem xf73r5 : wp T f73r5 e h Q = wpI (cW T) i73r5 e h (regQ (some [0, 3, 4, 5, 22]) Q) := wq_reg ..
theorem xf73r6 : wp T f73r6 e h Q = wpI (cW T) i73r6 e h (regQ (some [2]) Q) := wq_reg ..
theorem xf73r7 : wp T f73r7 e h Q = wpI (cW T) i73r7 e h (regQ (some [0, 3, 4, 5]) Q) := wq_reg ..
theorem xf73r8 : wp T f73r8 e h Q = wpI (cW T) i73r8 e h (regQ (some [0, 3, 4, 5, 6]) Q) := wq_reg ..
theorem xf73r9 : wp T f73r9 e h Q = wpI (cW T) i73r9 e h (regQ (some [0, 3, 4, 5, 6, 38]) Q) := wq_reg ..
theorem xf73r10 : wp T f73r10 e h Q = wpI (cW T) i73r10 e h (regQ (some [0, 3, 4, 5, 6, 51]) Q) := wq_reg ..
theorem xf73r11 : wp T f73r11 e h Q = wpI (cW T) i73r11 e h (regQ (some [2]) Q) := wq_reg ..
theorem xf73r12 : wp T f73r12 e h Q = wpI (cW T) i73r12 e h (regQ (some [0, 3, 4, 5, 6]) Q) := wq_reg ..
theorem xf73r13 : wp T f73r13 e h Q = wpI (cW T) i73r13 e h (regQ (some [0, 3, 4, 5, 6]) Q) := wq_reg ..
theorem xf73l0 : wp T f73l0 e h Q = wp T (.seq (.seq f73r9 (.cond (.t 38) .skip (.exit 2))) (.seq (.blk 3 (.seq (.seq f73r10 (.cond (.t 51) (.seq f73r11 .ret) .skip)) f73r12)) f73r13)) e h Q := rfl
theorem xf73r14 : wp T f73r14 e h Q = wpI (cW T) i73r14 e h (regQ (some [0, 3, 4, 5]) Q) := wq_reg ..
theorem xf73l1 : wp T f73l1 e h Q = wp T (.seq (.seq f73r4 (.cond (.t 13) .skip (.exit 0))) (.seq (.blk 1 (.seq (.seq f73r5 (.cond (.t 22) (.seq f73r6 .ret) .skip)) (.seq f73r7 (.seq f73r8 (.blk 2 (.loop f73l0)))))) f73r14)) e h Q := rfl
theorem xf73r15 : wp T f73r15 e h Q = wpI (cW T) i73r15 e h (regQ (some [2]) Q) := wq_reg ..
theorem xb73 : wp T b73 e h Q = wp T (.seq f73r0 (.seq f73r1 (.seq f73r2 (.seq (.seq f73r3 (.blk 0 (.loop f73l1))) (.seq f73r15 .ret))))) e h Q := rfl
theorem e73 : (type_of% @f73.eq_1) ∧ (type_of% @xb73) ∧ (type_of% @xf73r0) ∧ (type_of% @xf73r1) ∧ (type_of% @xf73r2) ∧ (type_of% @xf73r3) ∧ (type_of% @xf73r4) ∧ (type_of% @xf73r5) ∧ (type_of% @xf73r6) ∧ (type_of% @xf73r7) ∧ (type_of% @xf73r8) ∧ (type_of% @xf73r9) ∧ (type_of% @xf73r10) ∧ (type_of% @xf73r11) ∧ (type_of% @xf73r12) ∧ (type_of% @xf73r13) ∧ (type_of% @xf73l0) ∧ (type_of% @xf73r14) ∧ (type_of% @xf73l1) ∧ (type_of% @xf73r15) ∧ (type_of% @i73r0.eq_1) ∧ (type_of% @i73r1.eq_1) ∧ (type_of% @i73r2.eq_1) ∧ (type_of% @i73r3.eq_1) ∧ (type_of% @i73r4.eq_1) ∧ (type_of% @i73r5.eq_1) ∧ (type_of% @i73r6.eq_1) ∧ (type_of% @i73r7.eq_1) ∧ (type_of% @i73r8.eq_1) ∧ (type_of% @i73r9.eq_1) ∧ (type_of% @i73r10.eq_1) ∧ (type_of% @i73r11.eq_1) ∧ (type_of% @i73r12.eq_1) ∧ (type_of% @i73r13.eq_1) ∧ (type_of% @i73r14.eq_1) ∧ (type_of% @i73r15.eq_1) := ⟨@f73.eq_1, @xb73, @xf73r0, @xf73r1, @xf73r2, @xf73r3, @xf73r4, @xf73r5, @xf73r6, @xf73r7, @xf73r8, @xf73r9, @xf73r10, @xf73r11, @xf73r12, @xf73r13, @xf73l0, @xf73r14, @xf73l1, @xf73r15, @i73r0.eq_1, @i73r1.eq_1, @i73r2.eq_1, @i73r3.eq_1, @i73r4.eq_1, @i73r5.eq_1, @i73r6.eq_1, @i73r7.eq_1, @i73r8.eq_1, @i73r9.eq_1, @i73r10.eq_1, @i73r11.eq_1, @i73r12.eq_1, @i73r13.eq_1, @i73r14.eq_1, @i73r15.eq_1⟩
theorem xf74r0 : wp T f74r0 e h Q = wpI (cW T) i74r0 e h (regQ (some [0]) Q) := wq_reg ..
theorem xf74r1 : wp T f74r1 e h Q = wpI (cW T) i74r1 e h (regQ (some [0, 3]) Q) := wq_reg ..
theorem xf74r2 : wp T f74r2 e h Q = wpI (cW T) i74r2 e h (regQ (some [0, 3, 10]) Q) := wq_reg ..
theorem xf74r3 : wp T f74r3 e h Q = wpI (cW T) i74r3 e h (regQ (some [0, 3, 4]) Q) := wq_reg ..
theorem xf74r4 : wp T f74r4 e h Q = wpI (cW T) i74r4 e h (regQ (some [0, 3, 4, 20]) Q) := wq_reg ..
theorem xf74r5 : wp T f74r5 e h Q = wpI (cW T) i74r5 e h (regQ (some [0, 3, 4, 5]) Q) := wq_reg ..
theorem xf74r6 : wp T f74r6 e h Q = wpI (cW T) i74r6 e h (regQ (some [0, 3, 4, 5, 6]) Q) := wq_reg ..
theorem xf74r7 : wp T f74r7 e h Q = wpI (cW T) i74r7 e h (regQ (some [0, 3, 4, 5, 6, 35]) Q) := wq_reg ..
theorem xf74r8 : wp T f74r8 e h Q = wpI (cW T) i74r8 e h (regQ (some [0, 3, 4, 5, 6, 44]) Q) := wq_reg ..
theorem xf74r9 : wp T f74r9 e h Q = wpI (cW T) i74r9 e h (regQ (some [2]) Q) := wq_reg ..
theorem xf74r10 : wp T f74r10 e h Q = wpI (cW T) i74r10 e h (regQ (some [0, 3, 4, 5, 6]) Q) := wq_reg ..
theorem xf74l0 : wp T f74l0 e h Q = wp T (.seq (.seq f74r7 (.cond (.t 35) .skip (.exit 4))) (.seq (.blk 5 (.seq f74r8 (.cond (.t 44) (.seq f74r9 .ret) .skip))) f74r10)) e h Q := rfl
theorem xf74r11 : wp T f74r11 e h Q = wpI (cW T) i74r11 e h (regQ (some [0, 3, 4]) Q) := wq_reg ..
theorem xf74l1 : wp T f74l1 e h Q = wp T (.seq (.seq f74r4 (.cond (.t 20) .skip (.exit 2))) (.seq (.blk 3 (.seq f74r5 (.seq f74r6 (.blk 4 (.loop f74l0))))) f74r11)) e h Q := rfl
theorem xf74r12 : wp T f74r12 e h Q = wpI (cW T) i74r12 e h (regQ (some [0, 3]) Q) := wq_reg ..
theorem xf74l2 : wp T f74l2 e h Q = wp T (.seq (.seq f74r2 (.cond (.t 10) .skip (.exit 0))) (.seq (.blk 1 (.seq f74r3 (.blk 2 (.loop f74l1)))) f74r12)) e h Q := rfl
theorem xf74r13 : wp T f74r13 e h Q = wpI (cW T) i74r13 e h (regQ (some [2]) Q) := wq_reg ..
theorem xb74 : wp T b74 e h Q = wp T (.seq f74r0 (.seq (.seq f74r1 (.blk 0 (.loop f74l2))) (.seq f74r13 .ret))) e h Q := rfl
theorem e74 : (type_of% @f74.eq_1) ∧ (type_of% @xb74) ∧ (type_of% @xf74r0) ∧ (type_of% @xf74r1) ∧ (type_of% @xf74r2) ∧ (type_of% @xf74r3) ∧ (type_of% @xf74r4) ∧ (type_of% @xf74r5) ∧ (type_of% @xf74r6) ∧ (type_of% @xf74r7) ∧ (type_of% @xf74r8) ∧ (type_of% @xf74r9) ∧ (type_of% @xf74r10) ∧ (type_of% @xf74l0) ∧ (type_of% @xf74r11) ∧ (type_of% @xf74l1) ∧ (type_of% @xf74r12) ∧ (type_of% @xf74l2) ∧ (type_of% @xf74r13) ∧ (type_of% @i74r0.eq_1) ∧ (type_of% @i74r1.eq_1) ∧ (type_of% @i74r2.eq_1) ∧ (type_of% @i74r3.eq_1) ∧ (type_of% @i74r4.eq_1) ∧ (type_of% @i74r5.eq_1) ∧ (type_of% @i74r6.eq_1) ∧ (type_of% @i74r7.eq_1) ∧ (type_of% @i74r8.eq_1) ∧ (type_of% @i74r9.eq_1) ∧ (type_of% @i74r10.eq_1) ∧ (type_of% @i74r11.eq_1) ∧ (type_of% @i74r12.eq_1) ∧ (type_of% @i74r13.eq_1) := ⟨@f74.eq_1, @xb74, @xf74r0, @xf74r1, @xf74r2, @xf74r3, @xf74r4, @xf74r5, @xf74r6, @xf74r7, @xf74r8, @xf74r9, @xf74r10, @xf74l0, @xf74r11, @xf74l1, @xf74r12, @xf74l2, @xf74r13, @i74r0.eq_1, @i74r1.eq_1, @i74r2.eq_1, @i74r3.eq_1, @i74r4.eq_1, @i74r5.eq_1, @i74r6.eq_1, @i74r7.eq_1, @i74r8.eq_1, @i74r9.eq_1, @i74r10.eq_1, @i74r11.eq_1, @i74r12.eq_1, @i74r13.eq_1⟩
theorem xf75r0 : wp T f75r0 e h Q = wpI (cW T) i75r0 e h (regQ (some [0]) Q) := wq_reg ..
theorem xf75r1 : wp T f75r1 e h Q = wpI (cW T) i75r1 e h (regQ (some [0, 3]) Q) := wq_reg ..
theorem xf75r2 : wp T f75r2 e h Q = wpI (cW T) i75r2 e h (regQ (some [0, 3]) Q) := wq_reg ..
theorem xf75r3 : wp T f75r3 e h Q = wpI (cW T) i75r3 e h (regQ (some [0, 3, 4]) Q) := wq_reg ..
theorem xf75r4 : wp T f75r4 e h Q = wpI (cW T) i75r4 e h (regQ (some [0, 3, 4, 20]) Q) := wq_reg ..
theorem xf75r5 : wp T f75r5 e h Q = wpI (cW T) i75r5 e h (regQ (some [0, 3, 4, 5]) Q) := wq_reg ..
theorem xf75r6 : wp T f75r6 e h Q = wpI (cW T) i75r6 e h (regQ (some [0, 3, 4, 5, 26]) Q) := wq_reg ..
theorem xf75r7 : wp T f75r7 e h Q = wpI (cW T) i75r7 e h (regQ (some [0, 3, 4, 5, 6]) Q) := wq_reg ..
theorem xf75r8 : wp T f75r8 e h Q = wpI (cW T) i75r8 e h (regQ (some [0, 3, 4, 5, 6, 36]) Q) := wq_reg ..
theorem xf75r9 : wp T f75r9 e h Q = wpI (cW T) i75r9 e h (regQ (some [0, 3, 4, 5, 6, 7]) Q) := wq_reg ..
theorem xf75r10 : wp T f75r10 e h Q = wpI (cW T) i75r10 e h (regQ (some [0, 3, 4, 5, 6, 7, 8]) Q) := wq_reg ..
theorem xf75r11 : wp T f75r11 e h Q = wpI (cW T) i75r11 e h (regQ (some [0, 3, 4, 5, 6, 7, 8, 9]) Q) := wq_reg ..
theorem xf75r12 : wp T f75r12 e h Q = wpI (cW T) i75r12 e h (regQ (some [0, 3, 4, 5, 6, 7, 8, 9, 51]) Q) := wq_reg ..
theorem xf75r13 : wp T f75r13 e h Q = wpI (cW T) i75r13 e h (regQ (some [0, 3, 4, 5, 6, 7, 8, 9]) Q) := wq_reg ..
theorem xf75r14 : wp T f75r14 e h Q = wpI (cW T) i75r14 e h (regQ (some [0, 3, 4, 5, 6, 7, 8, 9]) Q) := wq_reg ..
theorem xf75l0 : wp T f75l0 e h Q = wp T (.seq (.seq f75r12 (.cond (.t 51) .skip (.exit 6))) (.seq (.blk 7 f75r13) f75r14)) e h Q := rfl
theorem xf75r15 : wp T f75r15 e h Q = wpI (cW T) i75r15 e h (regQ (some [0, 3, 4, 5, 6]) Q) := wq_reg ..
theorem xf75r16 : wp T f75r16 e h Q = wpI (cW T) i75r16 e h (regQ (some [0, 3, 4, 5, 6]) Q) := wq_reg ..
theorem xf75l1 : wp T f75l1 e h Q = wp T (.seq (.seq f75r8 (.cond (.t 36) .skip (.exit 4))) (.seq (.blk 5 (.seq f75r9 (.seq f75r10 (.seq (.seq f75r11 (.blk 6 (.loop f75l0))) f75r15)))) f75r16)) e h Q := rfl
theorem xf75r17 : wp T f75r17 e h Q = wpI (cW T) i75r17 e h (regQ (some [0, 3, 4, 5]) Q) := wq_reg ..
theorem xf75l2 : wp T f75l2 e h Q = wp T (.seq (.seq f75r6 (.cond (.t 26) .skip (.exit 2))) (.seq (.blk 3 (.seq f75r7 (.blk 4 (.loop f75l1)))) f75r17)) e h Q := rfl
theorem xf75r18 : wp T f75r18 e h Q = wpI (cW T) i75r18 e h (regQ (some [0, 3, 4]) Q) := wq_reg ..
theorem xf75l3 : wp T f75l3 e h Q = wp T (.seq (.seq f75r4 (.cond (.t 20) .skip (.exit 0))) (.seq (.blk 1 (.seq f75r5 (.blk 2 (.loop f75l2)))) f75r18)) e h Q := rfl
theorem xf75r19 : wp T f75r19 e h Q = wpI (cW T) i75r19 e h (regQ (some [3, 10]) Q) := wq_reg ..
theorem xf75r20 : wp T f75r20 e h Q = wpI (cW T) i75r20 e h (regQ (some [3, 10, 79]) Q) := wq_reg ..
theorem xf75r21 : wp T f75r21 e h Q = wpI (cW T) i75r21 e h (regQ (some [3, 10, 86]) Q) := wq_reg ..
theorem xf75r22 : wp T f75r22 e h Q = wpI (cW T) i75r22 e h (regQ (some [2]) Q) := wq_reg ..
theorem xf75r23 : wp T f75r23 e h Q = wpI (cW T) i75r23 e h (regQ (some [3, 10]) Q) := wq_reg ..
theorem xf75l4 : wp T f75l4 e h Q = wp T (.seq (.seq f75r20 (.cond (.t 79) .skip (.exit 8))) (.seq (.blk 9 (.seq f75r21 (.cond (.t 86) (.seq f75r22 .ret) .skip))) f75r23)) e h Q := rfl
theorem xf75r24 : wp T f75r24 e h Q = wpI (cW T) i75r24 e h (regQ (some [2]) Q) := wq_reg ..
theorem xb75 : wp T b75 e h Q = wp T (.seq f75r0 (.seq f75r1 (.seq f75r2 (.seq (.seq f75r3 (.blk 0 (.loop f75l3))) (.seq (.seq f75r19 (.blk 8 (.loop f75l4))) (.seq f75r24 .ret)))))) e h Q := rfl
theorem e75 : (type_of% @f75.eq_1) ∧ (type_of% @xb75) ∧ (type_of% @xf75r0) ∧ (type_of% @xf75r1) ∧ (type_of% @xf75r2) ∧ (type_of% @xf75r3) ∧ (type_of% @xf75r4) ∧ (type_of% @xf75r5) ∧ (type_of% @xf75r6) ∧ (type_of% @xf75r7) ∧ (type_of% @xf75r8) ∧ (type_of% @xf75r9) ∧ (type_of% @xf75r10) ∧ (type_of% @xf75r11) ∧ (type_of% @xf75r12) ∧ (type_of% @xf75r13) ∧ (type_of% @xf75r14) ∧ (type_of% @xf75l0) ∧ (type_of% @xf75r15) ∧ (type_of% @xf75r16) ∧ (type_of% @xf75l1) ∧ (type_of% @xf75r17) ∧ (type_of% @xf75l2) ∧ (type_of% @xf75r18) ∧ (type_of% @xf75l3) ∧ (type_of% @xf75r19) ∧ (type_of% @xf75r20) ∧ (type_of% @xf75r21) ∧ (type_of% @xf75r22) ∧ (type_of% @xf75r23) ∧ (type_of% @xf75l4) ∧ (type_of% @xf75r24) ∧ (type_of% @i75r0.eq_1) ∧ (type_of% @i75r1.eq_1) ∧ (type_of% @i75r2.eq_1) ∧ (type_of% @i75r3.eq_1) ∧ (type_of% @i75r4.eq_1) ∧ (type_of% @i75r5.eq_1) ∧ (type_of% @i75r6.eq_1) ∧ (type_of% @i75r7.eq_1) ∧ (type_of% @i75r8.eq_1) ∧ (type_of% @i75r9.eq_1) ∧ (type_of% @i75r10.eq_1) ∧ (type_of% @i75r11.eq_1) ∧ (type_of% @i75r12.eq_1) ∧ (type_of% @i75r13.eq_1) ∧ (type_of% @i75r14.eq_1) ∧ (type_of% @i75r15.eq_1) ∧ (type_of% @i75r16.eq_1) ∧ (type_of% @i75r17.eq_1) ∧ (type_of% @i75r18.eq_1) ∧ (type_of% @i75r19.eq_1) ∧ (type_of% @i75r20.eq_1) ∧ (type_of% @i75r21.eq_1) ∧ (type_of% @i75r22.eq_1) ∧ (type_of% @i75r23.eq_1) ∧ (type_of% @i75r24.eq_1) := ⟨@f75.eq_1, @xb75, @xf75r0, @xf75r1, @xf75r2, @xf75r3, @xf75r4, @xf75r5, @xf75r6, @xf75r7, @xf75r8, @xf75r9, @xf75r10, @xf75r11, @xf75r12, @xf75r13, @xf75r14, @xf75l0, @xf75r15, @xf75r16, @xf75l1, @xf75r17, @xf75l2, @xf75r18, @xf75l3, @xf75r19, @xf75r20, @xf75r21, @xf75r22, @xf75r23, @xf75l4, @xf75r24, @i75r0.eq_1, @i75r1.eq_1, @i75r2.eq_1, @i75r3.eq_1, @i75r4.eq_1, @i75r5.eq_1, @i75r6.eq_1, @i75r7.eq_1, @i75r8.eq_1, @i75r9.eq_1, @i75r10.eq_1, @i75r11.eq_1, @i75r12.eq_1, @i75r13.eq_1, @i75r14.eq_1, @i75r15.eq_1, @i75r16.eq_1, @i75r17.eq_1, @i75r18.eq_1, @i75r19.eq_1, @i75r20.eq_1, @i75r21.eq_1, @i75r22.eq_1, @i75r23.eq_1, @i75r24.eq_1⟩
theorem xf87r0 : wp T f87r0 e h Q = wpI (cW T) i87r0 e h (regQ (some [0, 1]) Q) := wq_reg ..
theorem xf87r1 : wp T f87r1 e h Q = wpI (cW T) i87r1 e h (regQ (some [4]) Q) := wq_reg ..
theorem xb87 : wp T b87 e h Q = wp T (.seq f87r0 (.seq f87r1 .ret)) e h Q := rfl
theorem e87 : (type_of% @f87.eq_1) ∧ (type_of% @xb87) ∧ (type_of% @xf87r0) ∧ (type_of% @xf87r1) ∧ (type_of% @i87r0.eq_1) ∧ (type_of% @i87r1.eq_1) := ⟨@f87.eq_1, @xb87, @xf87r0, @xf87r1, @i87r0.eq_1, @i87r1.eq_1⟩
theorem xf88r0 : wp T f88r0 e h Q = wpI (cW T) i88r0 e h (regQ (some [1]) Q) := wq_reg ..
theorem xf88r1 : wp T f88r1 e h Q = wpI (cW T) i88r1 e h (regQ (some [2]) Q) := wq_reg ..
theorem xb88 : wp T b88 e h Q = wp T (.seq f88r0 (.seq f88r1 .ret)) e h Q := rfl
theorem e88 : (type_of% @f88.eq_1) ∧ (type_of% @xb88) ∧ (type_of% @xf88r0) ∧ (type_of% @xf88r1) ∧ (type_of% @i88r0.eq_1) ∧ (type_of% @i88r1.eq_1) := ⟨@f88.eq_1, @xb88, @xf88r0, @xf88r1, @i88r0.eq_1, @i88r1.eq_1⟩
theorem xf89r0 : wp T f89r0 e h Q = wpI (cW T) i89r0 e h (regQ (some [0]) Q) := wq_reg ..
theorem xf89r1 : wp T f89r1 e h Q = wpI (cW T) i89r1 e h (regQ (some [0, 21]) Q) := wq_reg ..
theorem xf89r2 : wp T f89r2 e h Q = wpI (cW T) i89r2 e h (regQ (some [2]) Q) := wq_reg ..
theorem xf89r3 : wp T f89r3 e h Q = wpI (cW T) i89r3 e h (regQ (some [0, 23, 24]) Q) := wq_reg ..
theorem xf89r4 : wp T f89r4 e h Q = wpI (cW T) i89r4 e h (regQ (some [0, 23, 24, 25]) Q) := wq_reg ..
theorem xf89r5 : wp T f89r5 e h Q = wpI (cW T) i89r5 e h (regQ (some [0, 3, 23, 24]) Q) := wq_reg ..
theorem xf89r6 : wp T f89r6 e h Q = wpI (cW T) i89r6 e h (regQ (some [0, 4, 23, 24]) Q) := wq_reg ..
theorem xf89r7 : wp T f89r7 e h Q = wpI (cW T) i89r7 e h (regQ (some [0, 23, 24, 56]) Q) := wq_reg ..
theorem xf89r8 : wp T f89r8 e h Q = wpI (cW T) i89r8 e h (regQ (some [2]) Q) := wq_reg ..
theorem xf89r9 : wp T f89r9 e h Q = wpI (cW T) i89r9 e h (regQ (some [0, 23, 24]) Q) := wq_reg ..
theorem xf89l0 : wp T f89l0 e h Q = wp T (.seq f89r4 (.seq (.cond (.t 25) .skip (.exit 0)) (.seq (.blk 1 (.seq f89r5 (.seq f89r6 (.seq f89r7 (.cond (.t 56) (.seq f89r8 .ret) .skip))))) f89r9))) e h Q := rfl
theorem xf89r10 : wp T f89r10 e h Q = wpI (cW T) i89r10 e h (regQ (some [2]) Q) := wq_reg ..
theorem xb89 : wp T b89 e h Q = wp T (.seq f89r0 (.seq (.seq f89r1 (.cond (.t 21) (.seq f89r2 .ret) .skip)) (.seq (.seq f89r3 (.blk 0 (.loop f89l0))) (.seq f89r10 .ret)))) e h Q := rfl
theorem e89 : (type_of% @f89.eq_1) ∧ (type_of% @xb89) ∧ (type_of% @xf89r0) ∧ (type_of% @xf89r1) ∧ (type_of% @xf89r2) ∧ (type_of% @xf89r3) ∧ (type_of% @xf89r4) ∧ (type_of% @xf89r5) ∧ (type_of% @xf89r6) ∧ (type_of% @xf89r7) ∧ (type_of% @xf89r8) ∧ (type_of% @xf89r9) ∧ (type_of% @xf89l0) ∧ (type_of% @xf89r10) ∧ (type_of% @i89r0.eq_1) ∧ (type_of% @i89r1.eq_1) ∧ (type_of% @i89r2.eq_1) ∧ (type_of% @i89r3.eq_1) ∧ (type_of% @i89r4.eq_1) ∧ (type_of% @i89r5.eq_1) ∧ (type_of% @i89r6.eq_1) ∧ (type_of% @i89r7.eq_1) ∧ (type_of% @i89r8.eq_1) ∧ (type_of% @i89r9.eq_1) ∧ (type_of% @i89r10.eq_1) := ⟨@f89.eq_1, @xb89, @xf89r0, @xf89r1, @xf89r2, @xf89r3, @xf89r4, @xf89r5, @xf89r6, @xf89r7, @xf89r8, @xf89r9, @xf89l0, @xf89r10, @i89r0.eq_1, @i89r1.eq_1, @i89r2.eq_1, @i89r3.eq_1, @i89r4.eq_1, @i89r5.eq_1, @i89r6.eq_1, @i89r7.eq_1, @i89r8.eq_1, @i89r9.eq_1, @i89r10.eq_1⟩
theorem xf90r0 : wp T f90r0 e h Q = wpI (cW T) i90r0 e h (regQ (some [1]) Q) := wq_reg ..
theorem xf90r1 : wp T f90r1 e h Q = wpI (cW T) i90r1 e h (regQ (some [2]) Q) := wq_reg ..
theorem xb90 : wp T b90 e h Q = wp T (.seq f90r0 (.seq f90r1 .ret)) e h Q := rfl
theorem e90 : (type_of% @f90.eq_1) ∧ (type_of% @xb90) ∧ (type_of% @xf90r0) ∧ (type_of% @xf90r1) ∧ (type_of% @i90r0.eq_1) ∧ (type_of% @i90r1.eq_1) := ⟨@f90.eq_1, @xb90, @xf90r0, @xf90r1, @i90r0.eq_1, @i90r1.eq_1⟩
theorem xf91r0 : wp T f91r0 e h Q = wpI (cW T) i91r0 e h (regQ (some [1, 2]) Q) := wq_reg ..
theorem xf91r1 : wp T f91r1 e h Q = wpI (cW T) i91r1 e h (regQ (some [3]) Q) := wq_reg ..
theorem xb91 : wp T b91 e h Q = wp T (.seq f91r0 (.seq f91r1 .ret)) e h Q := rfl
theorem e91 : (type_of% @f91.eq_1) ∧ (type_of% @xb91) ∧ (type_of% @xf91r0) ∧ (type_of% @xf91r1) ∧ (type_of% @i91r0.eq_1) ∧ (type_of% @i91r1.eq_1) := ⟨@f91.eq_1, @xb91, @xf91r0, @xf91r1, @i91r0.eq_1, @i91r1.eq_1⟩
theorem xf92r0 : wp T f92r0 e h Q = wpI (cW T) i92r0 e h (regQ (some [0, 1]) Q) := wq_reg ..
theorem xf92r1 : wp T f92r1 e h Q = wpI (cW T) i92r1 e h (regQ (some [3]) Q) := wq_reg ..
theorem xb92 : wp T b92 e h Q = wp T (.seq f92r0 (.seq f92r1 .ret)) e h Q := rfl
theorem e92 : (type_of% @f92.eq_1) ∧ (type_of% @xb92) ∧ (type_of% @xf92r0) ∧ (type_of% @xf92r1) ∧ (type_of% @i92r0.eq_1) ∧ (type_of% @i92r1.eq_1) := ⟨@f92.eq_1, @xb92, @xf92r0, @xf92r1, @i92r0.eq_1, @i92r1.eq_1⟩
theorem xf93r0 : wp T f93r0 e h Q = wpI (cW T) i93r0 e h (regQ (some [0, 1]) Q) := wq_reg ..
theorem xf93r1 : wp T f93r1 e h Q = wpI (cW T) i93r1 e h (regQ (some [4]) Q) := wq_reg ..
theorem xb93 : wp T b93 e h Q = wp T (.seq f93r0 (.seq f93r1 .ret)) e h Q := rfl
theorem e93 : (type_of% @f93.eq_1) ∧ (type_of% @xb93) ∧ (type_of% @xf93r0) ∧ (type_of% @xf93r1) ∧ (type_of% @i93r0.eq_1) ∧ (type_of% @i93r1.eq_1) := ⟨@f93.eq_1, @xb93, @xf93r0, @xf93r1, @i93r0.eq_1, @i93r1.eq_1⟩
theorem xf94r0 : wp T f94r0 e h Q = wpI (cW T) i94r0 e h (regQ (some [0]) Q) := wq_reg ..
theorem xf94r1 : wp T f94r1 e h Q = wpI (cW T) i94r1 e h (regQ (some [0, 3]) Q) := wq_reg ..
theorem xf94r2 : wp T f94r2 e h Q = wpI (cW T) i94r2 e h (regQ (some [0, 3, 9]) Q) := wq_reg ..
theorem xf94r3 : wp T f94r3 e h Q = wpI (cW T) i94r3 e h (regQ (some [0, 3, 4]) Q) := wq_reg ..
theorem xf94r4 : wp T f94r4 e h Q = wpI (cW T) i94r4 e h (regQ (some [0, 3, 4, 5]) Q) := wq_reg ..
theorem xf94r5 : wp T f94r5 e h Q = wpI (cW T) i94r5 e h (regQ (some [0, 3, 47]) Q) := wq_reg ..
theorem xf94r6 : wp T f94r6 e h Q = wpI (cW T) i94r6 e h (regQ (some [2]) Q) := wq_reg ..
theorem xf94r7 : wp T f94r7 e h Q = wpI (cW T) i94r7 e h (regQ (some [0, 3]) Q) := wq_reg ..
theorem xf94l0 : wp T f94l0 e h Q = wp T (.seq (.seq f94r2 (.cond (.t 9) .skip (.exit 0))) (.seq (.blk 1 (.seq f94r3 (.seq f94r4 (.seq f94r5 (.cond (.t 47) (.seq f94r6 .ret) .skip))))) f94r7)) e h Q := rfl
theorem xf94r8 : wp T f94r8 e h Q = wpI (cW T) i94r8 e h (regQ (some [2]) Q) := wq_reg ..
theorem xb94 : wp T b94 e h Q = wp T (.seq f94r0 (.seq (.seq f94r1 (.blk 0 (.loop f94l0))) (.seq f94r8 .ret))) e h Q := rfl
theorem e94 : (type_of% @f94.eq_1) ∧ (type_of% @xb94) ∧ (type_of% @xf94r0) ∧ (type_of% @xf94r1) ∧ (type_of% @xf94r2) ∧ (type_of% @xf94r3) ∧ (type_of% @xf94r4) ∧ (type_of% @xf94r5) ∧ (type_of% @xf94r6) ∧ (type_of% @xf94r7) ∧ (type_of% @xf94l0) ∧ (type_of% @xf94r8) ∧ (type_of% @i94r0.eq_1) ∧ (type_of% @i94r1.eq_1) ∧ (type_of% @i94r2.eq_1) ∧ (type_of% @i94r3.eq_1) ∧ (type_of% @i94r4.eq_1) ∧ (type_of% @i94r5.eq_1) ∧ (type_of% @i94r6.eq_1) ∧ (type_of% @i94r7.eq_1) ∧ (type_of% @i94r8.eq_1) := ⟨@f94.eq_1, @xb94, @xf94r0, @xf94r1, @xf94r2, @xf94r3, @xf94r4, @xf94r5, @xf94r6, @xf94r7, @xf94l0, @xf94r8, @i94r0.eq_1, @i94r1.eq_1, @i94r2.eq_1, @i94r3.eq_1, @i94r4.eq_1, @i94r5.eq_1, @i94r6.eq_1, @i94r7.eq_1, @i94r8.eq_1⟩
theorem xf95r0 : wp T f95r0 e h Q = wpI (cW T) i95r0 e h (regQ (some [0, 1]) Q) := wq_reg ..
theorem xf95r1 : wp T f95r1 e h Q = wpI (cW T) i95r1 e h (regQ (some [0, 1, 5]) Q) := wq_reg ..
theorem xf95r2 : wp T f95r2 e h Q = wpI (cW T) i95r2 e h (regQ (some [0, 1, 5, 9]) Q) := wq_reg ..
theorem xf95r3 : wp T f95r3 e h Q = wpI (cW T) i95r3 e h (regQ (some [0, 1, 5, 17]) Q) := wq_reg ..
theorem xf95r4 : wp T f95r4 e h Q = wpI (cW T) i95r4 e h (regQ (some [4]) Q) := wq_reg ..
theorem xf95r5 : wp T f95r5 e h Q = wpI (cW T) i95r5 e h (regQ (some [0, 1, 5]) Q) := wq_reg ..
theorem xf95l0 : wp T f95l0 e h Q = wp T (.seq (.seq f95r2 (.cond (.t 9) .skip (.exit 0))) (.seq (.blk 1 (.seq f95r3 (.cond (.t 17) (.seq f95r4 .ret) .skip))) f95r5)) e h Q := rfl
theorem xf95r6 : wp T f95r6 e h Q = wpI (cW T) i95r6 e h (regQ (some [4]) Q) := wq_reg ..
theorem xb95 : wp T b95 e h Q = wp T (.seq f95r0 (.seq (.seq f95r1 (.blk 0 (.loop f95l0))) (.seq f95r6 .ret))) e h Q := rfl
theorem e95 : (type_of% @f95.eq_1) ∧ (type_of% @xb95) ∧ (type_of% @xf95r0) ∧ (type_of% @xf95r1) ∧ (type_of% @xf95r2) ∧ (type_of% @xf95r3) ∧ (type_of% @xf95r4) ∧ (type_of% @xf95r5) ∧ (type_of% @xf95l0) ∧ (type_of% @xf95r6) ∧ (type_of% @i95r0.eq_1) ∧ (type_of% @i95r1.eq_1) ∧ (type_of% @i95r2.eq_1) ∧ (type_of% @i95r3.eq_1) ∧ (type_of% @i95r4.eq_1) ∧ (type_of% @i95r5.eq_1) ∧ (type_of% @i95r6.eq_1) := ⟨@f95.eq_1, @xb95, @xf95r0, @xf95r1, @xf95r2, @xf95r3, @xf95r4, @xf95r5, @xf95l0, @xf95r6, @i95r0.eq_1, @i95r1.eq_1, @i95r2.eq_1, @i95r3.eq_1, @i95r4.eq_1, @i95r5.eq_1, @i95r6.eq_1⟩
theorem xf96r0 : wp T f96r0 e h Q = wpI (cW T) i96r0 e h (regQ (some [0, 1]) Q) := wq_reg ..
theorem xf96r1 : wp T f96r1 e h Q = wpI (cW T) i96r1 e h (regQ (some [4]) Q) := wq_reg ..
theorem xb96 : wp T b96 e h Q = wp T (.seq f96r0 (.seq f96r1 .ret)) e h Q := rfl
theorem e96 : (type_of% @f96.eq_1) ∧ (type_of% @xb96) ∧ (type_of% @xf96r0) ∧ (type_of% @xf96r1) ∧ (type_of% @i96r0.eq_1) ∧ (type_of% @i96r1.eq_1) := ⟨@f96.eq_1, @xb96, @xf96r0, @xf96r1, @i96r0.eq_1, @i96r1.eq_1⟩
theorem xf99r0 : wp T f99r0 e h Q = wpI (cW T) i99r0 e h (regQ (some [0, 1]) Q) := wq_reg ..
theorem xf99r1 : wp T f99r1 e h Q = wpI (cW T) i99r1 e h (regQ (some [0, 1, 7, 8]) Q) := wq_reg ..
theorem xf99r2 : wp T f99r2 e h Q = wpI (cW T) i99r2 e h (regQ (some [0, 1, 7, 8, 9]) Q) := wq_reg ..
theorem xf99r3 : wp T f99r3 e h Q = wpI (cW T) i99r3 e h (regQ (some [0, 1, 5, 7, 8]) Q) := wq_reg ..
theorem xf99r4 : wp T f99r4 e h Q = wpI (cW T) i99r4 e h (regQ (some [0, 1, 5, 7, 8, 16]) Q) := wq_reg ..
theorem xf99r5 : wp T f99r5 e h Q = wpI (cW T) i99r5 e h (regQ (some [4]) Q) := wq_reg ..
theorem xf99r6 : wp T f99r6 e h Q = wpI (cW T) i99r6 e h (regQ (some [0, 1, 7, 8]) Q) := wq_reg ..
theorem xf99l0 : wp T f99l0 e h Q = wp T (.seq f99r2 (.seq (.cond (.t 9) .skip (.exit 0)) (.seq (.blk 1 (.seq f99r3 (.seq f99r4 (.cond (.t 16) (.seq f99r5 .ret) .skip)))) f99r6))) e h Q := rfl
theorem xf99r7 : wp T f99r7 e h Q = wpI (cW T) i99r7 e h (regQ (some [4]) Q) := wq_reg ..
theorem xb99 : wp T b99 e h Q = wp T (.seq f99r0 (.seq (.seq f99r1 (.blk 0 (.loop f99l0))) (.seq f99r7 .ret))) e h Q := rfl
theorem e99 : (type_of% @f99.eq_1) ∧ (type_of% @xb99) ∧ (type_of% @xf99r0) ∧ (type_of% @xf99r1) ∧ (type_of% @xf99r2) ∧ (type_of% @xf99r3) ∧ (type_of% @xf99r4) ∧ (type_of% @xf99r5) ∧ (type_of% @xf99r6) ∧ (type_of% @xf99l0) ∧ (type_of% @xf99r7) ∧ (type_of% @i99r0.eq_1) ∧ (type_of% @i99r1.eq_1) ∧ (type_of% @i99r2.eq_1) ∧ (type_of% @i99r3.eq_1) ∧ (type_of% @i99r4.eq_1) ∧ (type_of% @i99r5.eq_1) ∧ (type_of% @i99r6.eq_1) ∧ (type_of% @i99r7.eq_1) := ⟨@f99.eq_1, @xb99, @xf99r0, @xf99r1, @xf99r2, @xf99r3, @xf99r4, @xf99r5, @xf99r6, @xf99l0, @xf99r7, @i99r0.eq_1, @i99r1.eq_1, @i99r2.eq_1, @i99r3.eq_1, @i99r4.eq_1, @i99r5.eq_1, @i99r6.eq_1, @i99r7.eq_1⟩
theorem xf100r0 : wp T f100r0 e h Q = wpI (cW T) i100r0 e h (regQ (some [0, 1]) Q) := wq_reg ..
theorem xf100r1 : wp T f100r1 e h Q = wpI (cW T) i100r1 e h (regQ (some [0, 1, 7, 8]) Q) := wq_reg ..
theorem xf100r2 : wp T f100r2 e h Q = wpI (cW T) i100r2 e h (regQ (some [0, 1, 7, 8, 9]) Q) := wq_reg ..
theorem xf100r3 : wp T f100r3 e h Q = wpI (cW T) i100r3 e h (regQ (some [0, 1, 5, 7, 8]) Q) := wq_reg ..
theorem xf100r4 : wp T f100r4 e h Q = wpI (cW T) i100r4 e h (regQ (some [0, 1, 5, 7, 8, 16]) Q) := wq_reg ..
theorem xf100r5 : wp T f100r5 e h Q = wpI (cW T) i100r5 e h (regQ (some [4]) Q) := wq_reg ..
theorem xf100r6 : wp T f100r6 e h Q = wpI (cW T) i100r6 e h (regQ (some [0, 1, 7, 8]) Q) := wq_reg ..
theorem xf100l0 : wp T f100l0 e h Q = wp T (.seq f100r2 (.seq (.cond (.t 9) .skip (.exit 0)) (.seq (.blk 1 (.seq f100r3 (.seq f100r4 (.cond (.t 16) (.seq f100r5 .ret) .skip)))) f100r6))) e h Q := rfl
theorem xf100r7 : wp T f100r7 e h Q = wpI (cW T) i100r7 e h (regQ (some [4]) Q) := wq_reg ..
theorem xb100 : wp T b100 e h Q = wp T (.seq f100r0 (.seq (.seq f100r1 (.blk 0 (.loop f100l0))) (.seq f100r7 .ret))) e h Q := rfl
theorem e100 : (type_of% @f100.eq_1) ∧ (type_of% @xb100) ∧ (type_of% @xf100r0) ∧ (type_of% @xf100r1) ∧ (type_of% @xf100r2) ∧ (type_of% @xf100r3) ∧ (type_of% @xf100r4) ∧ (type_of% @xf100r5) ∧ (type_of% @xf100r6) ∧ (type_of% @xf100l0) ∧ (type_of% @xf100r7) ∧ (type_of% @i100r0.eq_1) ∧ (type_of% @i100r1.eq_1) ∧ (type_of% @i100r2.eq_1) ∧ (type_of% @i100r3.eq_1) ∧ (type_of% @i100r4.eq_1) ∧ (type_of% @i100r5.eq_1) ∧ (type_of% @i100r6.eq_1) ∧ (type_of% @i100r7.eq_1) := ⟨@f100.eq_1, @xb100, @xf100r0, @xf100r1, @xf100r2, @xf100r3, @xf100r4, @xf100r5, @xf100r6, @xf100l0, @xf100r7, @i100r0.eq_1, @i100r1.eq_1, @i100r2.eq_1, @i100r3.eq_1, @i100r4.eq_1, @i100r5.eq_1, @i100r6.eq_1, @i100r7.eq_1⟩
end Zc27
