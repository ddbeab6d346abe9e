/-
  What each part of the code does, as an equation.
-/
import Derived.Test.YtlncinhieeopmaaTab
import Derived.Test.YtlncinhieeopmaaZvWp
namespace Zc55
open Go Zv Zs
variable (T : Tab) (e : Env) (h : Hp) (Q : Out → Prop)
theorem xf3r0 : wp T f3r0 e h Q = wpI (cW T) i3r0 e h (regQ (some [0, 1]) Q) := wq_reg ..
theorem xf3r1 : wp T f3r1 e h Q = wpI (cW T) i3r1 e h (regQ (some [1, 5]) Q) := wq_reg ..
theorem xf3r2 : wp T f3r2 e h Q = wpI (cW T) i3r2 e h (regQ (some [1, 5, 6, 7]) Q) := wq_reg ..
theorem xf3r3 : wp T f3r3 e h Q = wpI (cW T) i3r3 e h (regQ (some [1, 5, 6, 39]) Q) := wq_reg ..
theorem xf3r4 : wp T f3r4 e h Q = wpI (cW T) i3r4 e h (regQ (some [4]) Q) := wq_reg ..
theorem xf3r5 : wp T f3r5 e h Q = wpI (cW T) i3r5 e h (regQ (some [1, 5, 6, 8, 9]) Q) := wq_reg ..
theorem xf3r6 : wp T f3r6 e h Q = wpI (cW T) i3r6 e h (regQ (some [1, 5, 6, 8, 9, 10]) Q) := wq_reg ..
theorem xf3r7 : wp T f3r7 e h Q = wpI (cW T) i3r7 e h (regQ (some [1, 5, 6, 8, 9, 10, 51]) Q) := wq_reg ..
theorem xf3r8 : wp T f3r8 e h Q = wpI (cW T) i3r8 e h (regQ (some [1, 5, 6, 8, 9, 10]) Q) := wq_reg ..
theorem xf3r9 : wp T f3r9 e h Q = wpI (cW T) i3r9 e h (regQ (some [1, 5, 6, 8, 9, 10]) Q) := wq_reg ..
theorem xf3l0 : wp T f3l0 e h Q = wp T (.seq (.seq f3r7 (.cond (.t 51) .skip (.exit 0))) (.seq (.blk 1 f3r8) f3r9)) e h Q := rfl
theorem xf3r10 : wp T f3r10 e h Q = wpI (cW T) i3r10 e h (regQ (some [1, 5, 6, 8, 66]) Q) := wq_reg ..
theorem xf3r11 : wp T f3r11 e h Q = wpI (cW T) i3r11 e h (regQ (some [4]) Q) := wq_reg ..
theorem xf3r12 : wp T f3r12 e h Q = wpI (cW T) i3r12 e h (regQ (some [1, 5, 6, 11]) Q) := wq_reg ..
theorem xf3r13 : wp T f3r13 e h Q = wpI (cW T) i3r13 e h (regQ (some [1, 5, 6, 11, 12, 13]) Q) := wq_reg ..
theorem xf3r14 : wp T f3r14 e h Q = wpI (cW T) i3r14 e h (regQ (some [5, 6, 11, 12, 13, 14]) Q) := wq_reg ..
theorem xf3r15 : wp T f3r15 e h Q = wpI (cW T) i3r15 e h (regQ (some [5, 6, 11, 12, 13, 14, 16]) Q) := wq_reg ..
theorem xf3r16 : wp T f3r16 e h Q = wpI (cW T) i3r16 e h (regQ (some [5, 6, 11, 12, 13, 14, 16, 18]) Q) := wq_reg ..
theorem xf3r17 : wp T f3r17 e h Q = wpI (cW T) i3r17 e h (regQ (some [5, 6, 11, 12, 13, 14, 16, 18, 20]) Q) := wq_reg ..
theorem xf3r18 : wp T f3r18 e h Q = wpI (cW T) i3r18 e h (regQ (some [5, 6, 11, 12, 13, 16, 18, 20, 21]) Q) := wq_reg ..
theorem xf3r19 : wp T f3r19 e h Q = wpI (cW T) i3r19 e h (regQ (some [5, 12, 13, 16, 18, 20, 21, 23]) Q) := wq_reg ..
theorem xf3r20 : wp T f3r20 e h Q = wpI (cW T) i3r20 e h (regQ (some [4]) Q) := wq_reg ..
theorem xb3 : wp T b3 e h Q = wp T (.seq f3r0 (.seq f3r1 (.seq f3r2 (.seq (.seq f3r3 (.cond (.t 39) (.seq f3r4 .ret) .skip)) (.seq f3r5 (.seq (.seq f3r6 (.blk 0 (.loop f3l0))) (.seq (.seq f3r10 (.cond (.t 66) (.seq f3r11 .ret) .skip)) (.seq f3r12 (.seq f3r13 (.seq f3r14 (.seq f3r15 (.seq f3r16 (.seq f3r17 (.seq f3r18 (.seq f3r19 (.seq f3r20 .ret)))))))))))))))) e h Q := rfl
theorem e3 : (type_of% @f3.eq_1) ∧ (type_of% @xb3) ∧ (type_of% @xf3r0) ∧ (type_of% @xf3r1) ∧ (type_of% @xf3r2) ∧ (type_of% @xf3r3) ∧ (type_of% @xf3r4) ∧ (type_of% @xf3r5) ∧ (type_of% @xf3r6) ∧ (type_of% @xf3r7) ∧ (type_of% @xf3r8) ∧ (type_of% @xf3r9) ∧ (type_of% @xf3l0) ∧ (type_of% @xf3r10) ∧ (type_of% @xf3r11) ∧ (type_of% @xf3r12) ∧ (type_of% @xf3r13) ∧ (type_of% @xf3r14) ∧ (type_of% @xf3r15) ∧ (type_of% @xf3r16) ∧ (type_of% @xf3r17) ∧ (type_of% @xf3r18) ∧ (type_of% @xf3r19) ∧ (type_of% @xf3r20) ∧ (type_of% @i3r0.eq_1) ∧ (type_of% @i3r1.eq_1) ∧ (type_of% @i3r2.eq_1) ∧ (type_of% @i3r3.eq_1) ∧ (type_of% @i3r4.eq_1) ∧ (type_of% @i3r5.eq_1) ∧ (type_of% @i3r6.eq_1) ∧ (type_of% @i3r7.eq_1) ∧ (type_of% @i3r8.eq_1) ∧ (type_of% @i3r9.eq_1) ∧ (type_of% @i3r10.eq_1) ∧ (type_of% @i3r11.eq_1) ∧ (type_of% @i3r12.eq_1) ∧ (type_of% @i3r13.eq_1) ∧ (type_of% @i3r14.eq_1) ∧ (type_of% @i3r15.eq_1) ∧ (type_of% @i3r16.eq_1) ∧ (type_of% @i3r17.eq_1) ∧ (type_of% @i3r18.eq_1) ∧ (type_of% @i3r19.eq_1) ∧ (type_of% @i3r20.eq_1) := ⟨@f3.eq_1, @xb3, @xf3r0, @xf3r1, @xf3r2, @xf3r3, @xf3r4, @xf3r5, @xf3r6, @xf3r7, @xf3r8, @xf3r9, @xf3l0, @xf3r10, @xf3r11, @xf3r12, @xf3r13, @xf3r14, @xf3r15, @xf3r16, @xf3r17, @xf3r18, @xf3r19, @xf3r20, @i3r0.eq_1, @i3r1.eq_1, @i3r2.eq_1, @i3r3.eq_1, @i3r4.eq_1, @i3r5.eq_1, @i3r6.eq_1, @i3r7.eq_1, @i3r8.eq_1, @i3r9.eq_1, @i3r10.eq_1, @i3r11.eq_1, @i3r12.eq_1, @i3r13.eq_1, @i3r14.eq_1, @i3r15.eq_1, @i3r16.eq_1, @i3r17.eq_1, @i3r18.eq_1, @i3r19.eq_1, @i3r20.eq_1⟩
theorem xf5r0 : wp T f5r0 e h Q = wpI (cW T) i5r0 e h (regQ (some [0, 1]) Q) := wq_reg ..
theorem xf5r1 : wp T f5r1 e h Q = wpI (cW T) i5r1 e h (regQ (some [0, 1, 21]) Q) := wq_reg ..
theorem xf5r2 : wp T f5r2 e h Q = wpI (cW T) i5r2 e h (regQ (some [4]) Q) := wq_reg ..
theorem xf5r3 : wp T f5r3 e h Q = wpI (cW T) i5r3 e h (regQ (some [0, 1, 5, 6]) Q) := wq_reg ..
theorem xf5r4 : wp T f5r4 e h Q = wpI (cW T) i5r4 e h (regQ (some [1, 5, 6, 7, 8]) Q) := wq_reg ..
theorem xf5r5 : wp T f5r5 e h Q = wpI (cW T) i5r5 e h (regQ (some [1, 5, 7, 50]) Q) := wq_reg ..
theorem xf5r6 : wp T f5r6 e h Q = wpI (cW T) i5r6 e h (regQ (some [4]) Q) := wq_reg ..
theorem xf5r7 : wp T f5r7 e h Q = wpI (cW T) i5r7 e h (regQ (some [1, 5, 7, 9]) Q) := wq_reg ..
theorem xf5r8 : wp T f5r8 e h Q = wpI (cW T) i5r8 e h (regQ (some [1, 5, 7, 9, 54]) Q) := wq_reg ..
theorem xf5r9 : wp T f5r9 e h Q = wpI (cW T) i5r9 e h (regQ (some [1, 5, 7, 9, 10]) Q) := wq_reg ..
theorem xf5r10 : wp T f5r10 e h Q = wpI (cW T) i5r10 e h (regQ (some [1, 5, 7, 9, 10, 68]) Q) := wq_reg ..
theorem xf5r11 : wp T f5r11 e h Q = wpI (cW T) i5r11 e h (regQ (some [1, 5, 7, 9, 10, 11, 12]) Q) := wq_reg ..
theorem xf5r12 : wp T f5r12 e h Q = wpI (cW T) i5r12 e h (regQ (some [1, 5, 7, 9, 10, 11, 12, 13, 14]) Q) := wq_reg ..
theorem xf5r13 : wp T f5r13 e h Q = wpI (cW T) i5r13 e h (regQ (some [1, 5, 7, 9, 10, 98]) Q) := wq_reg ..
theorem xf5r14 : wp T f5r14 e h Q = wpI (cW T) i5r14 e h (regQ (some [4]) Q) := wq_reg ..
theorem xf5r15 : wp T f5r15 e h Q = wpI (cW T) i5r15 e h (regQ (some [1, 5, 7, 9, 10, 113]) Q) := wq_reg ..
theorem xf5r16 : wp T f5r16 e h Q = wpI (cW T) i5r16 e h (regQ (some [4]) Q) := wq_reg ..
theorem xf5r17 : wp T f5r17 e h Q = wpI (cW T) i5r17 e h (regQ (some [1, 5, 7, 9, 10, 15, 16]) Q) := wq_reg ..
theorem xf5r18 : wp T f5r18 e h Q = wpI (cW T) i5r18 e h (regQ (some [1, 5, 7, 9, 15, 16, 17, 18]) Q) := wq_reg ..
theorem xf5r19 : wp T f5r19 e h Q = wpI (cW T) i5r19 e h (regQ (some [1, 5, 7, 9, 140]) Q) := wq_reg ..
theorem xf5r20 : wp T f5r20 e h Q = wpI (cW T) i5r20 e h (regQ (some [4]) Q) := wq_reg ..
theorem xf5r21 : wp T f5r21 e h Q = wpI (cW T) i5r21 e h (regQ (some [1, 5, 7, 9]) Q) := wq_reg ..
theorem xf5l0 : wp T f5l0 e h Q = wp T (.seq (.seq f5r8 (.cond (.t 54) .skip (.exit 0))) (.seq (.blk 1 (.seq f5r9 (.seq (.seq f5r10 (.cond (.t 68) (.seq f5r11 (.seq f5r12 (.seq f5r13 (.cond (.t 98) (.seq f5r14 .ret) .skip)))) (.seq f5r15 (.cond (.t 113) (.seq f5r16 .ret) .skip)))) (.seq f5r17 (.seq f5r18 (.seq f5r19 (.cond (.t 140) (.seq f5r20 .ret) .skip))))))) f5r21)) e h Q := rfl
theorem xf5r22 : wp T f5r22 e h Q = wpI (cW T) i5r22 e h (regQ (some [4]) Q) := wq_reg ..
theorem xb5 : wp T b5 e h Q = wp T (.seq f5r0 (.seq (.seq f5r1 (.cond (.t 21) (.seq f5r2 .ret) .skip)) (.seq f5r3 (.seq f5r4 (.seq (.seq f5r5 (.cond (.t 50) (.seq f5r6 .ret) .skip)) (.seq (.seq f5r7 (.blk 0 (.loop f5l0))) (.seq f5r22 .ret))))))) e h Q := rfl
theorem e5 : (type_of% @f5.eq_1) ∧ (type_of% @xb5) ∧ (type_of% @xf5r0) ∧ (type_of% @xf5r1) ∧ (type_of% @xf5r2) ∧ (type_of% @xf5r3) ∧ (type_of% @xf5r4) ∧ (type_of% @xf5r5) ∧ (type_of% @xf5r6) ∧ (type_of% @xf5r7) ∧ (type_of% @xf5r8) ∧ (type_of% @xf5r9) ∧ (type_of% @xf5r10) ∧ (type_of% @xf5r11) ∧ (type_of% @xf5r12) ∧ (type_of% @xf5r13) ∧ (type_of% @xf5r14) ∧ (type_of% @xf5r15) ∧ (type_of% @xf5r16) ∧ (type_of% @xf5r17) ∧ (type_of% @xf5r18) ∧ (type_of% @xf5r19) ∧ (type_of% @xf5r20) ∧ (type_of% @xf5r21) ∧ (type_of% @xf5l0) ∧ (type_of% @xf5r22) ∧ (type_of% @i5r0.eq_1) ∧ (type_of% @i5r1.eq_1) ∧ (type_of% @i5r2.eq_1) ∧ (type_of% @i5r3.eq_1) ∧ (type_of% @i5r4.eq_1) ∧ (type_of% @i5r5.eq_1) ∧ (type_of% @i5r6.eq_1) ∧ (type_of% @i5r7.eq_1) ∧ (type_of% @i5r8.eq_1) ∧ (type_of% @i5r9.eq_1) ∧ (type_of% @i5r10.eq_1) ∧ (type_of% @i5r11.eq_1) ∧ (type_of% @i5r12.eq_1) ∧ (type_of% @i5r13.eq_1) ∧ (type_of% @i5r14.eq_1) ∧ (type_of% @i5r15.eq_1) ∧ (type_of% @i5r16.eq_1) ∧ (type_of% @i5r17.eq_1) ∧ (type_of% @i5r18.eq_1) ∧ (type_of% @i5r19.eq_1) ∧ (type_of% @i5r20.eq_1) ∧ (type_of% @i5r21.eq_1) ∧ (type_of% @i5r22.eq_1) := ⟨@f5.eq_1, @xb5, @xf5r0, @xf5r1, @xf5r2, @xf5r3, @xf5r4, @xf5r5, @xf5r6, @xf5r7, @xf5r8, @xf5r9, @xf5r10, @xf5r11, @xf5r12, @xf5r13, @xf5r14, @xf5r15, @xf5r16, @xf5r17, @xf5r18, @xf5r19, @xf5r20, @xf5r21, @xf5l0, @xf5r22, @i5r0.eq_1, @i5r1.eq_1, @i5r2.eq_1, @i5r3.eq_1, @i5r4.eq_1, @i5r5.eq_1, @i5r6.eq_1, @i5r7.eq_1, @i5r8.eq_1, @i5r9.eq_1, @i5r10.eq_1, @i5r11.eq_1, @i5r12.eq_1, @i5r13.eq_1, @i5r14.eq_1, @i5r15.eq_1, @i5r16.eq_1, @i5r17.eq_1, @i5r18.eq_1, @i5r19.eq_1, @i5r20.eq_1, @i5r21.eq_1, @i5r22.eq_1⟩
theorem xf9r0 : wp T f9r0 e h Q = wpI (cW T) i9r0 e h (regQ (some [0, 3]) Q) := wq_reg ..
theorem xf9r1 : wp T f9r1 e h Q = wpI (cW T) i9r1 e h (regQ (some [0, 3, 5]) Q) := wq_reg ..
theorem xf9r2 : wp T f9r2 e h Q = wpI (cW T) i9r2 e h (regQ (some [0, 5, 6]) Q) := wq_reg ..
theorem xf9r3 : wp T f9r3 e h Q = wpI (cW T) i9r3 e h (regQ (some [0, 5, 6, 8]) Q) := wq_reg ..
theorem xf9r4 : wp T f9r4 e h Q = wpI (cW T) i9r4 e h (regQ (some [0, 5, 6, 8, 10, 11]) Q) := wq_reg ..
theorem xf9r5 : wp T f9r5 e h Q = wpI (cW T) i9r5 e h (regQ (some [0, 5, 6, 8, 10, 11, 12, 13]) Q) := wq_reg ..
theorem xf9r6 : wp T f9r6 e h Q = wpI (cW T) i9r6 e h (regQ (some [4]) Q) := wq_reg ..
theorem xb9 : wp T b9 e h Q = wp T (.seq f9r0 (.seq f9r1 (.seq f9r2 (.seq f9r3 (.seq f9r4 (.seq f9r5 (.seq f9r6 .ret))))))) e h Q := rfl
theorem e9 : (type_of% @f9.eq_1) ∧ (type_of% @xb9) ∧ (type_of% @xf9r0) ∧ (type_of% @xf9r1) ∧ (type_of% @xf9r2) ∧ (type_of% @xf9r3) ∧ (type_of% @xf9r4) ∧ (type_of% @xf9r5) ∧ (type_of% @xf9r6) ∧ (type_of% @i9r0.eq_1) ∧ (type_of% @i9r1.eq_1) ∧ (type_of% @i9r2.eq_1) ∧ (type_of% @i9r3.eq_1) ∧ (type_of% @i9r4.eq_1) ∧ (type_of% @i9r5.eq_1) ∧ (type_of% @i9r6.eq_1) := ⟨@f9.eq_1, @xb9, @xf9r0, @xf9r1, @xf9r2, @xf9r3, @xf9r4, @xf9r5, @xf9r6, @i9r0.eq_1, @i9r1.eq_1, @i9r2.eq_1, @i9r3.eq_1, @i9r4.eq_1, @i9r5.eq_1, @i9r6.eq_1⟩
theorem xf10r0 : wp T f10r0 e h Q = wpI (cW T) i10r0 e h (regQ (some [0]) Q) := wq_reg ..
theorem xf10r1 : wp T f10r1 e h Q = wpI (cW T) i10r1 e h (regQ (some [0, 11]) Q) := wq_reg ..
theorem xf10r2 : wp T f10r2 e h Q = wpI (cW T) i10r2 e h (regQ (some [2, 3]) Q) := wq_reg ..
theorem xf10r3 : wp T f10r3 e h Q = wpI (cW T) i10r3 e h (regQ (some [4]) Q) := wq_reg ..
theorem xf10r4 : wp T f10r4 e h Q = wpI (cW T) i10r4 e h (regQ (some [4, 21, 22]) Q) := wq_reg ..
theorem xf10r5 : wp T f10r5 e h Q = wpI (cW T) i10r5 e h (regQ (some [4, 21, 22, 23]) Q) := wq_reg ..
theorem xf10r6 : wp T f10r6 e h Q = wpI (cW T) i10r6 e h (regQ (some [4, 5, 21, 22]) Q) := wq_reg ..
theorem xf10r7 : wp T f10r7 e h Q = wpI (cW T) i10r7 e h (regQ (some [4, 21, 22]) Q) := wq_reg ..
theorem xf10r8 : wp T f10r8 e h Q = wpI (cW T) i10r8 e h (regQ (some [4, 21, 22]) Q) := wq_reg ..
theorem xf10l0 : wp T f10l0 e h Q = wp T (.seq f10r5 (.seq (.cond (.t 23) .skip (.exit 0)) (.seq (.blk 1 (.seq f10r6 f10r7)) f10r8))) e h Q := rfl
theorem xf10r9 : wp T f10r9 e h Q = wpI (cW T) i10r9 e h (regQ (some [2, 3]) Q) := wq_reg ..
theorem xb10 : wp T b10 e h Q = wp T (.seq f10r0 (.seq (.seq f10r1 (.cond (.t 11) (.seq f10r2 .ret) .skip)) (.seq f10r3 (.seq (.seq f10r4 (.blk 0 (.loop f10l0))) (.seq f10r9 .ret))))) e h Q := rfl
theorem e10 : (type_of% @f10.eq_1) ∧ (type_of% @xb10) ∧ (type_of% @xf10r0) ∧ (type_of% @xf10r1) ∧ (type_of% @xf10r2) ∧ (type_of% @xf10r3) ∧ (type_of% @xf10r4) ∧ (type_of% @xf10r5) ∧ (type_of% @xf10r6) ∧ (type_of% @xf10r7) ∧ (type_of% @xf10r8) ∧ (type_of% @xf10l0) ∧ (type_of% @xf10r9) ∧ (type_of% @i10r0.eq_1) ∧ (type_of% @i10r1.eq_1) ∧ (type_of% @i10r2.eq_1) ∧ (type_of% @i10r3.eq_1) ∧ (type_of% @i10r4.eq_1) ∧ (type_of% @i10r5.eq_1) ∧ (type_of% @i10r6.eq_1) ∧ (type_of% @i10r7.eq_1) ∧ (type_of% @i10r8.eq_1) ∧ (type_of% @i10r9.eq_1) := ⟨@f10.eq_1, @xb10, @xf10r0, @xf10r1, @xf10r2, @xf10r3, @xf10r4, @xf10r5, @xf10r6, @xf10r7, @xf10r8, @xf10l0, @xf10r9, @i10r0.eq_1, @i10r1.eq_1, @i10r2.eq_1, @i10r3.eq_1, @i10r4.eq_1, @i10r5.eq_1, @i10r6.eq_1, @i10r7.eq_1, @i10r8.eq_1, @i10r9.eq_1⟩
theorem xf11r0 : wp T f11r0 e h Q = wpI (cW T) i11r0 e h (regQ (some [0, 1, 2]) Q) := wq_reg ..
theorem xf11r1 : wp T f11r1 e h Q = wpI (cW T) i11r1 e h (regQ (some [0, 1, 2, 11]) Q) := wq_reg ..
theorem xf11r2 : wp T f11r2 e h Q = wpI (cW T) i11r2 e h (regQ (some [6, 7]) Q) := wq_reg ..
theorem xf11r3 : wp T f11r3 e h Q = wpI (cW T) i11r3 e h (regQ (some [0, 1, 2, 14]) Q) := wq_reg ..
theorem xf11r4 : wp T f11r4 e h Q = wpI (cW T) i11r4 e h (regQ (some [6, 7]) Q) := wq_reg ..
theorem xf11r5 : wp T f11r5 e h Q = wpI (cW T) i11r5 e h (regQ (some [0, 1, 2, 17]) Q) := wq_reg ..
theorem xf11r6 : wp T f11r6 e h Q = wpI (cW T) i11r6 e h (regQ (some [6, 7]) Q) := wq_reg ..
theorem xf11r7 : wp T f11r7 e h Q = wpI (cW T) i11r7 e h (regQ (some [0, 1, 2, 8]) Q) := wq_reg ..
theorem xf11r8 : wp T f11r8 e h Q = wpI (cW T) i11r8 e h (regQ (some [0, 1, 2, 8, 25]) Q) := wq_reg ..
theorem xf11r9 : wp T f11r9 e h Q = wpI (cW T) i11r9 e h (regQ (some [6, 7]) Q) := wq_reg ..
theorem xf11r10 : wp T f11r10 e h Q = wpI (cW T) i11r10 e h (regQ (some [0, 1, 2, 31]) Q) := wq_reg ..
theorem xf11r11 : wp T f11r11 e h Q = wpI (cW T) i11r11 e h (regQ (some [6, 7]) Q) := wq_reg ..
theorem xf11r12 : wp T f11r12 e h Q = wpI (cW T) i11r12 e h (regQ (some [0, 1, 2, 9]) Q) := wq_reg ..
theorem xf11r13 : wp T f11r13 e h Q = wpI (cW T) i11r13 e h (regQ (some [0, 1, 2, 9, 10]) Q) := wq_reg ..
theorem xf11r14 : wp T f11r14 e h Q = wpI (cW T) i11r14 e h (regQ (some [0, 1, 2, 9, 10]) Q) := wq_reg ..
theorem xf11r15 : wp T f11r15 e h Q = wpI (cW T) i11r15 e h (regQ (some [1, 2, 9, 10]) Q) := wq_reg ..
theorem xf11r16 : wp T f11r16 e h Q = wpI (cW T) i11r16 e h (regQ (some [2, 9, 10]) Q) := wq_reg ..
theorem xf11r17 : wp T f11r17 e h Q = wpI (cW T) i11r17 e h (regQ (some [2, 9, 10]) Q) := wq_reg ..
theorem xf11r18 : wp T f11r18 e h Q = wpI (cW T) i11r18 e h (regQ (some [9]) Q) := wq_reg ..
theorem xf11r19 : wp T f11r19 e h Q = wpI (cW T) i11r19 e h (regQ (some [6, 7]) Q) := wq_reg ..
theorem xb11 : wp T b11 e h Q = wp T (.seq f11r0 (.seq (.blk 0 (.seq f11r1 (.cond (.t 11) (.seq f11r2 .ret) (.seq f11r3 (.cond (.t 14) (.seq f11r4 .ret) (.seq f11r5 (.cond (.t 17) (.seq f11r6 .ret) .skip))))))) (.seq (.seq f11r7 (.seq f11r8 (.cond (.t 25) (.seq f11r9 .ret) .skip))) (.seq (.seq f11r10 (.cond (.t 31) (.seq f11r11 .ret) .skip)) (.seq f11r12 (.seq f11r13 (.seq f11r14 (.seq f11r15 (.seq f11r16 (.seq f11r17 (.seq f11r18 (.seq f11r19 .ret)))))))))))) e h Q := rfl
theorem e11 : (type_of% @f11.eq_1) ∧ (type_of% @xb11) ∧ (type_of% @xf11r0) ∧ (type_of% @xf11r1) ∧ (type_of% @xf11r2) ∧ (type_of% @xf11r3) ∧ (type_of% @xf11r4) ∧ (type_of% @xf11r5) ∧ (type_of% @xf11r6) ∧ (type_of% @xf11r7) ∧ (type_of% @xf11r8) ∧ (type_of% @xf11r9) ∧ (type_of% @xf11r10) ∧ (type_of% @xf11r11) ∧ (type_of% @xf11r12) ∧ (type_of% @xf11r13) ∧ (type_of% @xf11r14) ∧ (type_of% @xf11r15) ∧ (type_of% @xf11r16) ∧ (type_of% @xf11r17) ∧ (type_of% @xf11r18) ∧ (type_of% @xf11r19) ∧ (type_of% @i11r0.eq_1) ∧ (type_of% @i11r1.eq_1) ∧ (type_of% @i11r2.eq_1) ∧ (type_of% @i11r3.eq_1) ∧ (type_of% @i11r4.eq_1) ∧ (type_of% @i11r5.eq_1) ∧ (type_of% @i11r6.eq_1) ∧ (type_of% @i11r7.eq_1) ∧ (type_of% @i11r8.eq_1) ∧ (type_of% @i11r9.eq_1) ∧ (type_of% @i11r10.eq_1) ∧ (type_of% @i11r11.eq_1) ∧ (type_of% @i11r12.eq_1) ∧ (type_of% @i11r13.eq_1) ∧ (type_of% @i11r14.eq_1) ∧ (type_of% @i11r15.eq_1) ∧ (type_of% @i11r16.eq_1) ∧ (type_of% @i11r17.eq_1) ∧ (type_of% @i11r18.eq_1) ∧ (type_of% @i11r19.eq_1) := ⟨@f11.eq_1, @xb11, @xf11r0, @xf11r1, @xf11r2, @xf11r3, @xf11r4, @xf11r5, @xf11r6, @xf11r7, @xf11r8, @xf11r9, @xf11r10, @xf11r11, @xf11r12, @xf11r13, @xf11r14, @xf11r15, @xf11r16, @xf11r17, @xf11r18, @xf11r19, @i11r0.eq_1, @i11r1.eq_1, @i11r2.eq_1, @i11r3.eq_1, @i11r4.eq_1, @i11r5.eq_1, @i11r6.eq_1, @i11r7.eq_1, @i11r8.eq_1, @i11r9.eq_1, @i11r10.eq_1, @i11r11.eq_1, @i11r12.eq_1, @i11r13.eq_1, @i11r14.eq_1, @i11r15.eq_1, @i11r16.eq_1, @i11r17.eq_1, @i11r18.eq_1, @i11r19.eq_1⟩
theorem xf12r0 : wp T f12r0 e h Q = wpI (cW T) i12r0 e h (regQ (some [1, 2]) Q) := wq_reg ..
theorem xf12r1 : wp T f12r1 e h Q = wpI (cW T) i12r1 e h (regQ (some [1, 2, 12]) Q) := wq_reg ..
theorem xf12r2 : wp T f12r2 e h Q = wpI (cW T) i12r2 e h (regQ (some [4, 5]) Q) := wq_reg ..
theorem xf12r3 : wp T f12r3 e h Q = wpI (cW T) i12r3 e h (regQ (some [1, 2, 13, 14, 15]) Q) := wq_reg ..
theorem xf12r4 : wp T f12r4 e h Q = wpI (cW T) i12r4 e h (regQ (some [1, 2, 13, 14, 15, 16]) Q) := wq_reg ..
theorem xf12r5 : wp T f12r5 e h Q = wpI (cW T) i12r5 e h (regQ (some [1, 2, 7, 13, 14, 15]) Q) := wq_reg ..
theorem xf12r6 : wp T f12r6 e h Q = wpI (cW T) i12r6 e h (regQ (some [1, 2, 13, 14, 15, 21]) Q) := wq_reg ..
theorem xf12r7 : wp T f12r7 e h Q = wpI (cW T) i12r7 e h (regQ (some [4, 5]) Q) := wq_reg ..
theorem xf12r8 : wp T f12r8 e h Q = wpI (cW T) i12r8 e h (regQ (some [1, 2, 13, 14, 15]) Q) := wq_reg ..
theorem xf12l0 : wp T f12l0 e h Q = wp T (.seq f12r4 (.seq (.cond (.t 16) .skip (.exit 0)) (.seq (.blk 1 (.seq f12r5 (.seq f12r6 (.cond (.t 21) (.seq f12r7 .ret) .skip)))) f12r8))) e h Q := rfl
theorem xf12r9 : wp T f12r9 e h Q = wpI (cW T) i12r9 e h (regQ (some [1, 2, 8]) Q) := wq_reg ..
theorem xf12r10 : wp T f12r10 e h Q = wpI (cW T) i12r10 e h (regQ (some [1, 2, 8, 9]) Q) := wq_reg ..
theorem xf12r11 : wp T f12r11 e h Q = wpI (cW T) i12r11 e h (regQ (some [1, 2, 8, 9, 10]) Q) := wq_reg ..
theorem xf12r12 : wp T f12r12 e h Q = wpI (cW T) i12r12 e h (regQ (some [1, 2, 9, 10]) Q) := wq_reg ..
theorem xf12r13 : wp T f12r13 e h Q = wpI (cW T) i12r13 e h (regQ (some [2, 9, 33]) Q) := wq_reg ..
theorem xf12r14 : wp T f12r14 e h Q = wpI (cW T) i12r14 e h (regQ (some [4, 5]) Q) := wq_reg ..
theorem xf12r15 : wp T f12r15 e h Q = wpI (cW T) i12r15 e h (regQ (some [9, 45]) Q) := wq_reg ..
theorem xf12r16 : wp T f12r16 e h Q = wpI (cW T) i12r16 e h (regQ (some [4, 5]) Q) := wq_reg ..
theorem xf12r17 : wp T f12r17 e h Q = wpI (cW T) i12r17 e h (regQ (some [4, 5]) Q) := wq_reg ..
theorem xb12 : wp T b12 e h Q = wp T (.seq f12r0 (.seq (.seq f12r1 (.cond (.t 12) (.seq f12r2 .ret) .skip)) (.seq (.seq f12r3 (.blk 0 (.loop f12l0))) (.seq f12r9 (.seq f12r10 (.seq f12r11 (.seq f12r12 (.seq (.seq f12r13 (.cond (.t 33) (.seq f12r14 .ret) .skip)) (.seq (.seq f12r15 (.cond (.t 45) (.seq f12r16 .ret) .skip)) (.seq f12r17 .ret)))))))))) e h Q := rfl
theorem e12 : (type_of% @f12.eq_1) ∧ (type_of% @xb12) ∧ (type_of% @xf12r0) ∧ (type_of% @xf12r1) ∧ (type_of% @xf12r2) ∧ (type_of% @xf12r3) ∧ (type_of% @xf12r4) ∧ (type_of% @xf12r5) ∧ (type_of% @xf12r6) ∧ (type_of% @xf12r7) ∧ (type_of% @xf12r8) ∧ (type_of% @xf12l0) ∧ (type_of% @xf12r9) ∧ (type_of% @xf12r10) ∧ (type_of% @xf12r11) ∧ (type_of% @xf12r12) ∧ (type_of% @xf12r13) ∧ (type_of% @xf12r14) ∧ (type_of% @xf12r15) ∧ (type_of% @xf12r16) ∧ (type_of% @xf12r17) ∧ (type_of% @i12r0.eq_1) ∧ (type_of% @i12r1.eq_1) ∧ (type_of% @i12r2.eq_1) ∧ (type_of% @i12r3.eq_1) ∧ (type_of% @i12r4.eq_1) ∧ (type_of% @i12r5.eq_1) ∧ (type_of% @i12r6.eq_1) ∧ (type_of% @i12r7.eq_1) ∧ (type_of% @i12r8.eq_1) ∧ (type_of% @i12r9.eq_1) ∧ (type_of% @i12r10.eq_1) ∧ (type_of% @i12r11.eq_1) ∧ (type_of% @i12r12.eq_1) ∧ (type_of% @i12r13.eq_1) ∧ (type_of% @i12r14.eq_1) ∧ (type_of% @i12r15.eq_1) ∧ (type_of% @i12r16.eq_1) ∧ (type_of% @i12r17.eq_1) := ⟨@f12.eq_1, @xb12, @xf12r0, @xf12r1, @xf12r2, @xf12r3, @xf12r4, @xf12r5, @xf12r6, @xf12r7, @xf12r8, @xf12l0, @xf12r9, @xf12r10, @xf12r11, @xf12r12, @xf12r13, @xf12r14, @xf12r15, @xf12r16, @xf12r17, @i12r0.eq_1, @i12r1.eq_1, @i12r2.eq_1, @i12r3.eq_1, @i12r4.eq_1, @i12r5.eq_1, @i12r6.eq_1, @i12r7.eq_1, @i12r8.eq_1, @i12r9.eq_1, @i12r10.eq_1, @i12r11.eq_1, @i12r12.eq_1, @i12r13.eq_1, @i12r14.eq_1, @i12r15.eq_1, @i12r16.eq_1, @i12r17.eq_1⟩
theorem xf13r0 : wp T f13r0 e h Q = wpI (cW T) i13r0 e h (regQ (some [0, 1]) Q) := wq_reg ..
theorem xf13r1 : wp T f13r1 e h Q = wpI (cW T) i13r1 e h (regQ (some [0, 1, 5]) Q) := wq_reg ..
theorem xf13r2 : wp T f13r2 e h Q = wpI (cW T) i13r2 e h (regQ (some [0, 1, 5, 11]) Q) := wq_reg ..
theorem xf13r3 : wp T f13r3 e h Q = wpI (cW T) i13r3 e h (regQ (some [4]) Q) := wq_reg ..
theorem xf13r4 : wp T f13r4 e h Q = wpI (cW T) i13r4 e h (regQ (some [0, 1, 6]) Q) := wq_reg ..
theorem xf13r5 : wp T f13r5 e h Q = wpI (cW T) i13r5 e h (regQ (some [0, 1]) Q) := wq_reg ..
theorem xf13r6 : wp T f13r6 e h Q = wpI (cW T) i13r6 e h (regQ (some [0]) Q) := wq_reg ..
theorem xf13r7 : wp T f13r7 e h Q = wpI (cW T) i13r7 e h (regQ (some []) Q) := wq_reg ..
theorem xf13r8 : wp T f13r8 e h Q = wpI (cW T) i13r8 e h (regQ (some [4]) Q) := wq_reg ..
theorem xb13 : wp T b13 e h Q = wp T (.seq f13r0 (.seq (.seq f13r1 (.seq f13r2 (.cond (.t 11) (.seq f13r3 .ret) .skip))) (.seq f13r4 (.seq f13r5 (.seq f13r6 (.seq f13r7 (.seq f13r8 .ret))))))) e h Q := rfl
theorem e13 : (type_of% @f13.eq_1) ∧ (type_of% @xb13) ∧ (type_of% @xf13r0) ∧ (type_of% @xf13r1) ∧ (type_of% @xf13r2) ∧ (type_of% @xf13r3) ∧ (type_of% @xf13r4) ∧ (type_of% @xf13r5) ∧ (type_of% @xf13r6) ∧ (type_of% @xf13r7) ∧ (type_of% @xf13r8) ∧ (type_of% @i13r0.eq_1) ∧ (type_of% @i13r1.eq_1) ∧ (type_of% @i13r2.eq_1) ∧ (type_of% @i13r3.eq_1) ∧ (type_of% @i13r4.eq_1) ∧ (type_of% @i13r5.eq_1) ∧ (type_of% @i13r6.eq_1) ∧ (type_of% @i13r7.eq_1) ∧ (type_of% @i13r8.eq_1) := ⟨@f13.eq_1, @xb13, @xf13r0, @xf13r1, @xf13r2, @xf13r3, @xf13r4, @xf13r5, @xf13r6, @xf13r7, @xf13r8, @i13r0.eq_1, @i13r1.eq_1, @i13r2.eq_1, @i13r3.eq_1, @i13r4.eq_1, @i13r5.eq_1, @i13r6.eq_1, @i13r7.eq_1, @i13r8.eq_1⟩
theorem xf15r0 : wp T f15r0 e h Q = wpI (cW T) i15r0 e h (regQ (some [0]) Q) := wq_reg ..
theorem xf15r1 : wp T f15r1 e h Q = wpI (cW T) i15r1 e h (regQ (some [0, 4]) Q) := wq_reg ..
theorem xf15r2 : wp T f15r2 e h Q = wpI (cW T) i15r2 e h (regQ (some [2]) Q) := wq_reg ..
theorem xf15r3 : wp T f15r3 e h Q = wpI (cW T) i15r3 e h (regQ (some [2]) Q) := wq_reg ..
theorem xb15 : wp T b15 e h Q = wp T (.seq f15r0 (.seq (.seq f15r1 (.cond (.t 4) (.seq f15r2 .ret) .skip)) (.seq f15r3 .ret))) e h Q := rfl
theorem e15 : (type_of% @f15.eq_1) ∧ (type_of% @xb15) ∧ (type_of% @xf15r0) ∧ (type_of% @xf15r1) ∧ (type_of% @xf15r2) ∧ (type_of% @xf15r3) ∧ (type_of% @i15r0.eq_1) ∧ (type_of% @i15r1.eq_1) ∧ (type_of% @i15r2.eq_1) ∧ (type_of% @i15r3.eq_1) := ⟨@f15.eq_1, @xb15, @xf15r0, @xf15r1, @xf15r2, @xf15r3, @i15r0.eq_1, @i15r1.eq_1, @i15r2.eq_1, @i15r3.eq_1⟩
theorem xf16r0 : wp T f16r0 e h Q = wpI (cW T) i16r0 e h (regQ (some [0]) Q) := wq_reg ..
theorem xf16r1 : wp T f16r1 e h Q = wpI (cW T) i16r1 e h (regQ (some [0, 3]) Q) := wq_reg ..
theorem xf16r2 : wp T f16r2 e h Q = wpI (cW T) i16r2 e h (regQ (some [0, 3, 11]) Q) := wq_reg ..
theorem xf16r3 : wp T f16r3 e h Q = wpI (cW T) i16r3 e h (regQ (some [0, 3, 20]) Q) := wq_reg ..
theorem xf16r4 : wp T f16r4 e h Q = wpI (cW T) i16r4 e h (regQ (some [2]) Q) := wq_reg ..
theorem xf16r5 : wp T f16r5 e h Q = wpI (cW T) i16r5 e h (regQ (some [0, 3]) Q) := wq_reg ..
theorem xf16l0 : wp T f16l0 e h Q = wp T (.seq (.seq f16r2 (.cond (.t 11) .skip (.exit 0))) (.seq (.blk 1 (.seq f16r3 (.cond (.t 20) (.seq f16r4 .ret) .skip))) f16r5)) e h Q := rfl
theorem xf16r6 : wp T f16r6 e h Q = wpI (cW T) i16r6 e h (regQ (some [2]) Q) := wq_reg ..
theorem xb16 : wp T b16 e h Q = wp T (.seq f16r0 (.seq (.seq f16r1 (.blk 0 (.loop f16l0))) (.seq f16r6 .ret))) e h Q := rfl
theorem e16 : (type_of% @f16.eq_1) ∧ (type_of% @xb16) ∧ (type_of% @xf16r0) ∧ (type_of% @xf16r1) ∧ (type_of% @xf16r2) ∧ (type_of% @xf16r3) ∧ (type_of% @xf16r4) ∧ (type_of% @xf16r5) ∧ (type_of% @xf16l0) ∧ (type_of% @xf16r6) ∧ (type_of% @i16r0.eq_1) ∧ (type_of% @i16r1.eq_1) ∧ (type_of% @i16r2.eq_1) ∧ (type_of% @i16r3.eq_1) ∧ (type_of% @i16r4.eq_1) ∧ (type_of% @i16r5.eq_1) ∧ (type_of% @i16r6.eq_1) := ⟨@f16.eq_1, @xb16, @xf16r0, @xf16r1, @xf16r2, @xf16r3, @xf16r4, @xf16r5, @xf16l0, @xf16r6, @i16r0.eq_1, @i16r1.eq_1, @i16r2.eq_1, @i16r3.eq_1, @i16r4.eq_1, @i16r5.eq_1, @i16r6.eq_1⟩
theorem xf17r0 : wp T f17r0 e h Q = wpI (cW T) i17r0 e h (regQ (some [0]) Q) := wq_reg ..
theorem xf17r1 : wp T f17r1 e h Q = wpI (cW T) i17r1 e h (regQ (some [0, 3]) Q) := wq_reg ..
theorem xf17r2 : wp T f17r2 e h Q = wpI (cW T) i17r2 e h (regQ (some [0, 3, 4]) Q) := wq_reg ..
theorem xf17r3 : wp T f17r3 e h Q = wpI (cW T) i17r3 e h (regQ (some [0, 3, 4, 8]) Q) := wq_reg ..
theorem xf17r4 : wp T f17r4 e h Q = wpI (cW T) i17r4 e h (regQ (some [0, 3, 4]) Q) := wq_reg ..
theorem xf17r5 : wp T f17r5 e h Q = wpI (cW T) i17r5 e h (regQ (some [0, 3, 4]) Q) := wq_reg ..
theorem xf17l0 : wp T f17l0 e h Q = wp T (.seq (.seq f17r3 (.cond (.t 8) .skip (.exit 0))) (.seq (.blk 1 f17r4) f17r5)) e h Q := rfl
theorem xf17r6 : wp T f17r6 e h Q = wpI (cW T) i17r6 e h (regQ (some [2]) Q) := wq_reg ..
theorem xb17 : wp T b17 e h Q = wp T (.seq f17r0 (.seq f17r1 (.seq (.seq f17r2 (.blk 0 (.loop f17l0))) (.seq f17r6 .ret)))) e h Q := rfl
theorem e17 : (type_of% @f17.eq_1) ∧ (type_of% @xb17) ∧ (type_of% @xf17r0) ∧ (type_of% @xf17r1) ∧ (type_of% @xf17r2) ∧ (type_of% @xf17r3) ∧ (type_of% @xf17r4) ∧ (type_of% @xf17r5) ∧ (type_of% @xf17l0) ∧ (type_of% @xf17r6) ∧ (type_of% @i17r0.eq_1) ∧ (type_of% @i17r1.eq_1) ∧ (type_of% @i17r2.eq_1) ∧ (type_of% @i17r3.eq_1) ∧ (type_of% @i17r4.eq_1) ∧ (type_of% @i17r5.eq_1) ∧ (type_of% @i17r6.eq_1) := ⟨@f17.eq_1, @xb17, @xf17r0, @xf17r1, @xf17r2, @xf17r3, @xf17r4, @xf17r5, @xf17l0, @xf17r6, @i17r0.eq_1, @i17r1.eq_1, @i17r2.eq_1, @i17r3.eq_1, @i17r4.eq_1, @i17r5.eq_1, @i17r6.eq_1⟩
theorem xf20r0 : wp T f20r0 e h Q = wpI (cW T) i20r0 e h (regQ (some [0]) Q) := wq_reg ..
theorem xf20r1 : wp T f20r1 e h Q = wpI (cW T) i20r1 e h (regQ (some [0, 3]) Q) := wq_reg ..
theorem xf20r2 : wp T f20r2 e h Q = wpI (cW T) i20r2 e h (regQ (some [0, 3, 4]) Q) := wq_reg ..
theorem xf20r3 : wp T f20r3 e h Q = wpI (cW T) i20r3 e h (regQ (some [0, 3, 4, 12]) Q) := wq_reg ..
theorem xf20r4 : wp T f20r4 e h Q = wpI (cW T) i20r4 e h (regQ (some [0, 3, 4]) Q) := wq_reg ..
theorem xf20r5 : wp T f20r5 e h Q = wpI (cW T) i20r5 e h (regQ (some [0, 3, 4]) Q) := wq_reg ..
theorem xf20l0 : wp T f20l0 e h Q = wp T (.seq (.seq f20r3 (.cond (.t 12) .skip (.exit 0))) (.seq (.blk 1 f20r4) f20r5)) e h Q := rfl
theorem xf20r6 : wp T f20r6 e h Q = wpI (cW T) i20r6 e h (regQ (some [2]) Q) := wq_reg ..
theorem xb20 : wp T b20 e h Q = wp T (.seq f20r0 (.seq f20r1 (.seq (.seq f20r2 (.blk 0 (.loop f20l0))) (.seq f20r6 .ret)))) e h Q := rfl
theorem e20 : (type_of% @f20.eq_1) ∧ (type_of% @xb20) ∧ (type_of% @xf20r0) ∧ (type_of% @xf20r1) ∧ (type_of% @xf20r2) ∧ (type_of% @xf20r3) ∧ (type_of% @xf20r4) ∧ (type_of% @xf20r5) ∧ (type_of% @xf20l0) ∧ (type_of% @xf20r6) ∧ (type_of% @i20r0.eq_1) ∧ (type_of% @i20r1.eq_1) ∧ (type_of% @i20r2.eq_1) ∧ (type_of% @i20r3.eq_1) ∧ (type_of% @i20r4.eq_1) ∧ (type_of% @i20r5.eq_1) ∧ (type_of% @i20r6.eq_1) := ⟨@f20.eq_1, @xb20, @xf20r0, @xf20r1, @xf20r2, @xf20r3, @xf20r4, @xf20r5, @xf20l0, @xf20r6, @i20r0.eq_1, @i20r1.eq_1, @i20r2.eq_1, @i20r3.eq_1, @i20r4.eq_1, @i20r5.eq_1, @i20r6.eq_1⟩
theorem xf21r0 : wp T f21r0 e h Q = wpI (cW T) i21r0 e h (regQ (some [0]) Q) := wq_reg ..
theorem xf21r1 : wp T f21r1 e h Q = wpI (cW T) i21r1 e h (regQ (some [0, 4]) Q) := wq_reg ..
theorem xf21r2 : wp T f21r2 e h Q = wpI (cW T) i21r2 e h (regQ (some [2]) Q) := wq_reg ..
theorem xf21r3 : wp T f21r3 e h Q = wpI (cW T) i21r3 e h (regQ (some [2]) Q) := wq_reg ..
theorem xb21 : wp T b21 e h Q = wp T (.seq f21r0 (.seq (.seq f21r1 (.cond (.t 4) (.seq f21r2 .ret) .skip)) (.seq f21r3 .ret))) e h Q := rfl
theorem e21 : (type_of% @f21.eq_1) ∧ (type_of% @xb21) ∧ (type_of% @xf21r0) ∧ (type_of% @xf21r1) ∧ (type_of% @xf21r2) ∧ (type_of% @xf21r3) ∧ (type_of% @i21r0.eq_1) ∧ (type_of% @i21r1.eq_1) ∧ (type_of% @i21r2.eq_1) ∧ (type_of% @i21r3.eq_1) := ⟨@f21.eq_1, @xb21, @xf21r0, @xf21r1, @xf21r2, @xf21r3, @i21r0.eq_1, @i21r1.eq_1, @i21r2.eq_1, @i21r3.eq_1⟩
theorem xf25r0 : wp T f25r0 e h Q = wpI (cW T) i25r0 e h (regQ (some [0, 1]) Q) := wq_reg ..
theorem xf25r1 : wp T f25r1 e h Q = wpI (cW T) i25r1 e h (regQ (some [0, 1, 9, 10, 11]) Q) := wq_reg ..
theorem xf25r2 : wp T f25r2 e h Q = wpI (cW T) i25r2 e h (regQ (some [0, 1, 9, 10, 11, 12]) Q) := wq_reg ..
theorem xf25r3 : wp T f25r3 e h Q = wpI (cW T) i25r3 e h (regQ (some [0, 1, 6, 9, 10, 11]) Q) := wq_reg ..
theorem xf25r4 : wp T f25r4 e h Q = wpI (cW T) i25r4 e h (regQ (some [0, 1, 9, 10, 11, 17]) Q) := wq_reg ..
theorem xf25r5 : wp T f25r5 e h Q = wpI (cW T) i25r5 e h (regQ (some [4]) Q) := wq_reg ..
theorem xf25r6 : wp T f25r6 e h Q = wpI (cW T) i25r6 e h (regQ (some [0, 1, 9, 10, 11]) Q) := wq_reg ..
theorem xf25l0 : wp T f25l0 e h Q = wp T (.seq f25r2 (.seq (.cond (.t 12) .skip (.exit 0)) (.seq (.blk 1 (.seq f25r3 (.seq f25r4 (.cond (.t 17) (.seq f25r5 .ret) .skip)))) f25r6))) e h Q := rfl
theorem xf25r7 : wp T f25r7 e h Q = wpI (cW T) i25r7 e h (regQ (some [0, 19, 20, 21]) Q) := wq_reg ..
theorem xf25r8 : wp T f25r8 e h Q = wpI (cW T) i25r8 e h (regQ (some [0, 19, 20, 21, 22]) Q) := wq_reg ..
theorem xf25r9 : wp T f25r9 e h Q = wpI (cW T) i25r9 e h (regQ (some [0, 8, 19, 20, 21]) Q) := wq_reg ..
theorem xf25r10 : wp T f25r10 e h Q = wpI (cW T) i25r10 e h (regQ (some [0, 19, 20, 21, 34]) Q) := wq_reg ..
theorem xf25r11 : wp T f25r11 e h Q = wpI (cW T) i25r11 e h (regQ (some [4]) Q) := wq_reg ..
theorem xf25r12 : wp T f25r12 e h Q = wpI (cW T) i25r12 e h (regQ (some [0, 19, 20, 21]) Q) := wq_reg ..
theorem xf25l1 : wp T f25l1 e h Q = wp T (.seq f25r8 (.seq (.cond (.t 22) .skip (.exit 2)) (.seq (.blk 3 (.seq f25r9 (.seq f25r10 (.cond (.t 34) (.seq f25r11 .ret) .skip)))) f25r12))) e h Q := rfl
theorem xf25r13 : wp T f25r13 e h Q = wpI (cW T) i25r13 e h (regQ (some [4]) Q) := wq_reg ..
theorem xb25 : wp T b25 e h Q = wp T (.seq f25r0 (.seq (.seq f25r1 (.blk 0 (.loop f25l0))) (.seq (.seq f25r7 (.blk 2 (.loop f25l1))) (.seq f25r13 .ret)))) e h Q := rfl
theorem e25 : (type_of% @f25.eq_1) ∧ (type_of% @xb25) ∧ (type_of% @xf25r0) ∧ (type_of% @xf25r1) ∧ (type_of% @xf25r2) ∧ (type_of% @xf25r3) ∧ (type_of% @xf25r4) ∧ (type_of% @xf25r5) ∧ (type_of% @xf25r6) ∧ (type_of% @xf25l0) ∧ (type_of% @xf25r7) ∧ (type_of% @xf25r8) ∧ (type_of% @xf25r9) ∧ (type_of% @xf25r10) ∧ (type_of% @xf25r11) ∧ (type_of% @xf25r12) ∧ (type_of% @xf25l1) ∧ (type_of% @xf25r13) ∧ (type_of% @i25r0.eq_1) ∧ (type_of% @i25r1.eq_1) ∧ (type_of% @i25r2.eq_1) ∧ (type_of% @i25r3.eq_1) ∧ (type_of% @i25r4.eq_1) ∧ (type_of% @i25r5.eq_1) ∧ (type_of% @i25r6.eq_1) ∧ (type_of% @i25r7.eq_1) ∧ (type_of% @i25r8.eq_1) ∧ (type_of% @i25r9.eq_1) ∧ (type_of% @i25r10.eq_1) ∧ (type_of% @i25r11.eq_1) ∧ (type_of% @i25r12.eq_1) ∧ (type_of% @i25r13.eq_1) := ⟨@f25.eq_1, @xb25, @xf25r0, @xf25r1, @xf25r2, @xf25r3, @xf25r4, @xf25r5, @xf25r6, @xf25l0, @xf25r7, @xf25r8, @xf25r9, @xf25r10, @xf25r11, @xf25r12, @xf25l1, @xf25r13, @i25r0.eq_1, @i25r1.eq_1, @i25r2.eq_1, @i25r3.eq_1, @i25r4.eq_1, @i25r5.eq_1, @i25r6.eq_1, @i25r7.eq_1, @i25r8.eq_1, @i25r9.eq_1, @i25r10.eq_1, @i25r11.eq_1, @i25r12.eq_1, @i25r13.eq_1⟩
theorem xf26r0 : wp T f26r0 e h Q = wpI (cW T) i26r0 e h (regQ (some [1]) Q) := wq_reg ..
theorem xf26r1 : wp T f26r1 e h Q = wpI (cW T) i26r1 e h (regQ (some [1, 4]) Q) := wq_reg ..
theorem xf26r2 : wp T f26r2 e h Q = wpI (cW T) i26r2 e h (regQ (some [1, 4, 5]) Q) := wq_reg ..
theorem xf26r3 : wp T f26r3 e h Q = wpI (cW T) i26r3 e h (regQ (some [1, 4, 5]) Q) := wq_reg ..
theorem xf26r4 : wp T f26r4 e h Q = wpI (cW T) i26r4 e h (regQ (some [2]) Q) := wq_reg ..
theorem xf26r5 : wp T f26r5 e h Q = wpI (cW T) i26r5 e h (regQ (some [1, 4, 8]) Q) := wq_reg ..
theorem xf26r6 : wp T f26r6 e h Q = wpI (cW T) i26r6 e h (regQ (some [2]) Q) := wq_reg ..
theorem xf26r7 : wp T f26r7 e h Q = wpI (cW T) i26r7 e h (regQ (some [1, 13]) Q) := wq_reg ..
theorem xf26r8 : wp T f26r8 e h Q = wpI (cW T) i26r8 e h (regQ (some [2]) Q) := wq_reg ..
theorem xf26r9 : wp T f26r9 e h Q = wpI (cW T) i26r9 e h (regQ (some [2]) Q) := wq_reg ..
theorem xb26 : wp T b26 e h Q = wp T (.seq f26r0 (.seq (.seq f26r1 (.blk 0 (.seq (.seq f26r2 (.cond (.t 5) .skip f26r3)) (.cond (.t 5) (.seq f26r4 .ret) (.seq f26r5 (.cond (.t 8) (.seq f26r6 .ret) (.seq f26r7 (.cond (.t 13) (.seq f26r8 .ret) .skip)))))))) (.seq f26r9 .ret))) e h Q := rfl
theorem e26 : (type_of% @f26.eq_1) ∧ (type_of% @xb26) ∧ (type_of% @xf26r0) ∧ (type_of% @xf26r1) ∧ (type_of% @xf26r2) ∧ (type_of% @xf26r3) ∧ (type_of% @xf26r4) ∧ (type_of% @xf26r5) ∧ (type_of% @xf26r6) ∧ (type_of% @xf26r7) ∧ (type_of% @xf26r8) ∧ (type_of% @xf26r9) ∧ (type_of% @i26r0.eq_1) ∧ (type_of% @i26r1.eq_1) ∧ (type_of% @i26r2.eq_1) ∧ (type_of% @i26r3.eq_1) ∧ (type_of% @i26r4.eq_1) ∧ (type_of% @i26r5.eq_1) ∧ (type_of% @i26r6.eq_1) ∧ (type_of% @i26r7.eq_1) ∧ (type_of% @i26r8.eq_1) ∧ (type_of% @i26r9.eq_1) := ⟨@f26.eq_1, @xb26, @xf26r0, @xf26r1, @xf26r2, @xf26r3, @xf26r4, @xf26r5, @xf26r6, @xf26r7, @xf26r8, @xf26r9, @i26r0.eq_1, @i26r1.eq_1, @i26r2.eq_1, @i26r3.eq_1, @i26r4.eq_1, @i26r5.eq_1, @i26r6.eq_1, @i26r7.eq_1, @i26r8.eq_1, @i26r9.eq_1⟩
theorem xf27r0 : wp T f27r0 e h Q = wpI (cW T) i27r0 e h (regQ (some [0, 1, 2, 3, 4]) Q) := wq_reg ..
theorem xf27r1 : wp T f27r1 e h Q = wpI (cW T) i27r1 e h (regQ (some [1, 2, 3, 4, 9, 10, 11]) Q) := wq_reg ..
theorem xf27r2 : wp T f27r2 e h Q = wpI (cW T) i27r2 e h (regQ (some [1, 2, 3, 4, 9, 10, 11, 12]) Q) := wq_reg ..
theorem xf27r3 : wp T f27r3 e h Q = wpI (cW T) i27r3 e h (regQ (some [1, 2, 3, 4, 8, 9, 10, 11]) Q) := wq_reg ..
theorem xf27r4 : wp T f27r4 e h Q = wpI (cW T) i27r4 e h (regQ (some [1, 2, 3, 4, 8, 9, 10, 11, 17]) Q) := wq_reg ..
theorem xf27r5 : wp T f27r5 e h Q = wpI (cW T) i27r5 e h (regQ (some [1, 2, 3, 4, 8, 9, 10, 11, 22]) Q) := wq_reg ..
theorem xf27r6 : wp T f27r6 e h Q = wpI (cW T) i27r6 e h (regQ (some [6]) Q) := wq_reg ..
theorem xf27r7 : wp T f27r7 e h Q = wpI (cW T) i27r7 e h (regQ (some [1, 2, 3, 4, 8, 9, 10, 11, 27]) Q) := wq_reg ..
theorem xf27r8 : wp T f27r8 e h Q = wpI (cW T) i27r8 e h (regQ (some [1, 2, 3, 4, 8, 9, 10, 11]) Q) := wq_reg ..
theorem xf27r9 : wp T f27r9 e h Q = wpI (cW T) i27r9 e h (regQ (some [1, 2, 3, 4, 8, 9, 10, 11]) Q) := wq_reg ..
theorem xf27r10 : wp T f27r10 e h Q = wpI (cW T) i27r10 e h (regQ (some [1, 2, 3, 4, 9, 10, 11, 45]) Q) := wq_reg ..
theorem xf27r11 : wp T f27r11 e h Q = wpI (cW T) i27r11 e h (regQ (some [6]) Q) := wq_reg ..
theorem xf27r12 : wp T f27r12 e h Q = wpI (cW T) i27r12 e h (regQ (some [1, 2, 3, 4, 9, 10, 11]) Q) := wq_reg ..
theorem xf27l0 : wp T f27l0 e h Q = wp T (.seq f27r2 (.seq (.cond (.t 12) .skip (.exit 0)) (.seq (.blk 1 (.seq f27r3 (.seq (.seq f27r4 (.cond (.t 17) (.exit 1) .skip)) (.seq (.seq f27r5 (.cond (.t 22) (.seq f27r6 .ret) .skip)) (.seq (.seq f27r7 (.cond (.t 27) (.exit 1) .skip)) (.seq f27r8 (.seq f27r9 (.seq f27r10 (.cond (.t 45) (.seq f27r11 .ret) .skip))))))))) f27r12))) e h Q := rfl
theorem xf27r13 : wp T f27r13 e h Q = wpI (cW T) i27r13 e h (regQ (some [6]) Q) := wq_reg ..
theorem xb27 : wp T b27 e h Q = wp T (.seq f27r0 (.seq (.seq f27r1 (.blk 0 (.loop f27l0))) (.seq f27r13 .ret))) e h Q := rfl
theorem e27 : (type_of% @f27.eq_1) ∧ (type_of% @xb27) ∧ (type_of% @xf27r0) ∧ (type_of% @xf27r1) ∧ (type_of% @xf27r2) ∧ (type_of% @xf27r3) ∧ (type_of% @xf27r4) ∧ (type_of% @xf27r5) ∧ (type_of% @xf27r6) ∧ (type_of% @xf27r7) ∧ (type_of% @xf27r8) ∧ (type_of% @xf27r9) ∧ (type_of% @xf27r10) ∧ (type_of% @xf27r11) ∧ (type_of% @xf27r12) ∧ (type_of% @xf27l0) ∧ (type_of% @xf27r13) ∧ (type_of% @i27r0.eq_1) ∧ (type_of% @i27r1.eq_1) ∧ (type_of% @i27r2.eq_1) ∧ (type_of% @i27r3.eq_1) ∧ (type_of% @i27r4.eq_1) ∧ (type_of% @i27r5.eq_1) ∧ (type_of% @i27r6.eq_1) ∧ (type_of% @i27r7.eq_1) ∧ (type_of% @i27r8.eq_1) ∧ (type_of% @i27r9.eq_1) ∧ (type_of% @i27r10.eq_1) ∧ (type_of% @i27r11.eq_1) ∧ (type_of% @i27r12.eq_1) ∧ (type_of% @i27r13.eq_1) := ⟨@f27.eq_1, @xb27, @xf27r0, @xf27r1, @xf27r2, @xf27r3, @xf27r4, @xf27r5, @xf27r6, @xf27r7, @xf27r8, @xf27r9, @xf27r10, @xf27r11, @xf27r12, @xf27l0, @xf27r13, @i27r0.eq_1, @i27r1.eq_1, @i27r2.eq_1, @i27r3.eq_1, @i27r4.eq_1, @i27r5.eq_1, @i27r6.eq_1, @i27r7.eq_1, @i27r8.eq_1, @i27r9.eq_1, @i27r10.eq_1, @i27r11.eq_1, @i27r12.eq_1, @i27r13.eq_1⟩
theorem xf28r0 : wp T f28r0 e h Q = wpI (cW T) i28r0 e h (regQ (some [0, 1]) Q) := wq_reg ..
theorem xf28r1 : wp T f28r1 e h Q = wpI (cW T) i28r1 e h (regQ (some [4]) Q) := wq_reg ..
theorem xb28 : wp T b28 e h Q = wp T (.seq f28r0 (.seq f28r1 .ret)) e h Q := rfl
theorem e28 : (type_of% @f28.eq_1) ∧ (type_of% @xb28) ∧ (type_of% @xf28r0) ∧ (type_of% @xf28r1) ∧ (type_of% @i28r0.eq_1) ∧ (type_of% @i28r1.eq_1) := ⟨@f28.eq_1, @xb28, @xf28r0, @xf28r1, @i28r0.eq_1, @i28r1.eq_1⟩
theorem xf29r0 : wp T f29r0 e h Q = wpI (cW T) i29r0 e h (regQ (some [0, 1]) Q) := wq_reg ..
theorem xf29r1 : wp T f29r1 e h Q = wpI (cW T) i29r1 e h (regQ (some [0, 1, 5]) Q) := wq_reg ..
theorem xf29r2 : wp T f29r2 e h Q = wpI (cW T) i29r2 e h (regQ (some [4]) Q) := wq_reg ..
theorem xf29r3 : wp T f29r3 e h Q = wpI (cW T) i29r3 e h (regQ (some [0, 1, 8]) Q) := wq_reg ..
theorem xf29r4 : wp T f29r4 e h Q = wpI (cW T) i29r4 e h (regQ (some [4]) Q) := wq_reg ..
theorem xf29r5 : wp T f29r5 e h Q = wpI (cW T) i29r5 e h (regQ (some [20]) Q) := wq_reg ..
theorem xf29r6 : wp T f29r6 e h Q = wpI (cW T) i29r6 e h (regQ (some [4]) Q) := wq_reg ..
theorem xf29r7 : wp T f29r7 e h Q = wpI (cW T) i29r7 e h (regQ (some [4]) Q) := wq_reg ..
theorem xb29 : wp T b29 e h Q = wp T (.seq f29r0 (.seq (.blk 0 (.seq f29r1 (.cond (.t 5) (.seq f29r2 .ret) (.seq f29r3 (.cond (.t 8) (.seq f29r4 .ret) (.seq f29r5 (.cond (.t 20) (.seq f29r6 .ret) .skip))))))) (.seq f29r7 .ret))) e h Q := rfl
theorem e29 : (type_of% @f29.eq_1) ∧ (type_of% @xb29) ∧ (type_of% @xf29r0) ∧ (type_of% @xf29r1) ∧ (type_of% @xf29r2) ∧ (type_of% @xf29r3) ∧ (type_of% @xf29r4) ∧ (type_of% @xf29r5) ∧ (type_of% @xf29r6) ∧ (type_of% @xf29r7) ∧ (type_of% @i29r0.eq_1) ∧ (type_of% @i29r1.eq_1) ∧ (type_of% @i29r2.eq_1) ∧ (type_of% @i29r3.eq_1) ∧ (type_of% @i29r4.eq_1) ∧ (type_of% @i29r5.eq_1) ∧ (type_of% @i29r6.eq_1) ∧ (type_of% @i29r7.eq_1) := ⟨@f29.eq_1, @xb29, @xf29r0, @xf29r1, @xf29r2, @xf29r3, @xf29r4, @xf29r5, @xf29r6, @xf29r7, @i29r0.eq_1, @i29r1.eq_1, @i29r2.eq_1, @i29r3.eq_1, @i29r4.eq_1, @i29r5.eq_1, @i29r6.eq_1, @i29r7.eq_1⟩
theorem xf37r0 : wp T f37r0 e h Q = wpI (cW T) i37r0 e h (regQ (some [1]) Q) := wq_reg ..
theorem xf37r1 : wp T f37r1 e h Q = wpI (cW T) i37r1 e h (regQ (some [1, 4]) Q) := wq_reg ..
theorem xf37r2 : wp T f37r2 e h Q = wpI (cW T) i37r2 e h (regQ (some [1, 4, 5]) Q) := wq_reg ..
theorem xf37r3 : wp T f37r3 e h Q = wpI (cW T) i37r3 e h (regQ (some [1, 4, 5]) Q) := wq_reg ..
theorem xf37r4 : wp T f37r4 e h Q = wpI (cW T) i37r4 e h (regQ (some [2]) Q) := wq_reg ..
theorem xf37r5 : wp T f37r5 e h Q = wpI (cW T) i37r5 e h (regQ (some [1, 8]) Q) := wq_reg ..
theorem xf37r6 : wp T f37r6 e h Q = wpI (cW T) i37r6 e h (regQ (some [2]) Q) := wq_reg ..
theorem xf37r7 : wp T f37r7 e h Q = wpI (cW T) i37r7 e h (regQ (some [2]) Q) := wq_reg ..
theorem xb37 : wp T b37 e h Q = wp T (.seq f37r0 (.seq (.seq f37r1 (.blk 0 (.seq (.seq f37r2 (.cond (.t 5) .skip f37r3)) (.cond (.t 5) (.seq f37r4 .ret) (.seq f37r5 (.cond (.t 8) (.seq f37r6 .ret) .skip)))))) (.seq f37r7 .ret))) e h Q := rfl
theorem e37 : (type_of% @f37.eq_1) ∧ (type_of% @xb37) ∧ (type_of% @xf37r0) ∧ (type_of% @xf37r1) ∧ (type_of% @xf37r2) ∧ (type_of% @xf37r3) ∧ (type_of% @xf37r4) ∧ (type_of% @xf37r5) ∧ (type_of% @xf37r6) ∧ (type_of% @xf37r7) ∧ (type_of% @i37r0.eq_1) ∧ (type_of% @i37r1.eq_1) ∧ (type_of% @i37r2.eq_1) ∧ (type_of% @i37r3.eq_1) ∧ (type_of% @i37r4.eq_1) ∧ (type_of% @i37r5.eq_1) ∧ (type_of% @i37r6.eq_1) ∧ (type_of% @i37r7.eq_1) := ⟨@f37.eq_1, @xb37, @xf37r0, @xf37r1, @xf37r2, @xf37r3, @xf37r4, @xf37r5, @xf37r6, @xf37r7, @i37r0.eq_1, @i37r1.eq_1, @i37r2.eq_1, @i37r3.eq_1, @i37r4.eq_1, @i37r5.eq_1, @i37r6.eq_1, @i37r7.eq_1⟩
end Zc55
