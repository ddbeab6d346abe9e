/-
  What each part of the code does, as an equation.
-/
import Derived.Test.YtimjofcjjgppbaaTab
import Derived.Test.YtimjofcjjgppbaaZvWp
namespace Zc17
open Go Zv Zs
variable (T : Tab) (e : Env) (h : Hp) (Q : Out → Prop)
theorem xf3r0 : wp T f3r0 e h Q = wpI (cW T) i3r0 e h (regQ (some [0]) Q) := wq_reg ..
theorem xf3r1 : wp T f3r1 e h Q = wpI (cW T) i3r1 e h (regQ (some [0, 4]) Q) := wq_reg ..
theorem xf3r2 : wp T f3r2 e h Q = wpI (cW T) i3r2 e h (regQ (some [2]) Q) := wq_reg ..
theorem xf3r3 : wp T f3r3 e h Q = wpI (cW T) i3r3 e h (regQ (some [2]) Q) := wq_reg ..
theorem xb3 : wp T b3 e h Q = wp T (.seq f3r0 (.seq (.seq f3r1 (.cond (.t 4) (.seq f3r2 .ret) .skip)) (.seq f3r3 .ret))) e h Q := rfl
theorem e3 : (type_of% @f3.eq_1) ∧ (type_of% @xb3) ∧ (type_of% @xf3r0) ∧ (type_of% @xf3r1) ∧ (type_of% @xf3r2) ∧ (type_of% @xf3r3) ∧ (type_of% @i3r0.eq_1) ∧ (type_of% @i3r1.eq_1) ∧ (type_of% @i3r2.eq_1) ∧ (type_of% @i3r3.eq_1) := ⟨@f3.eq_1, @xb3, @xf3r0, @xf3r1, @xf3r2, @xf3r3, @i3r0.eq_1, @i3r1.eq_1, @i3r2.eq_1, @i3r3.eq_1⟩
theorem xf5r0 : wp T f5r0 e h Q = wpI (cW T) i5r0 e h (regQ (some [0, 1]) Q) := wq_reg ..
theorem xf5r1 : wp T f5r1 e h Q = wpI (cW T) i5r1 e h (regQ (some [0, 1, 6]) Q) := wq_reg ..
theorem xf5r2 : wp T f5r2 e h Q = wpI (cW T) i5r2 e h (regQ (some [4]) Q) := wq_reg ..
theorem xf5r3 : wp T f5r3 e h Q = wpI (cW T) i5r3 e h (regQ (some [4]) Q) := wq_reg ..
theorem xb5 : wp T b5 e h Q = wp T (.seq f5r0 (.seq (.seq f5r1 (.cond (.t 6) (.seq f5r2 .ret) .skip)) (.seq f5r3 .ret))) e h Q := rfl
theorem e5 : (type_of% @f5.eq_1) ∧ (type_of% @xb5) ∧ (type_of% @xf5r0) ∧ (type_of% @xf5r1) ∧ (type_of% @xf5r2) ∧ (type_of% @xf5r3) ∧ (type_of% @i5r0.eq_1) ∧ (type_of% @i5r1.eq_1) ∧ (type_of% @i5r2.eq_1) ∧ (type_of% @i5r3.eq_1) := ⟨@f5.eq_1, @xb5, @xf5r0, @xf5r1, @xf5r2, @xf5r3, @i5r0.eq_1, @i5r1.eq_1, @i5r2.eq_1, @i5r3.eq_1⟩
theorem xf9r0 : wp T f9r0 e h Q = wpI (cW T) i9r0 e h (regQ (some [0]) Q) := wq_reg ..
theorem xf9r1 : wp T f9r1 e h Q = wpI (cW T) i9r1 e h (regQ (some [0, 11]) Q) := wq_reg ..
theorem xf9r2 : wp T f9r2 e h Q = wpI (cW T) i9r2 e h (regQ (some [2]) Q) := wq_reg ..
theorem xf9r3 : wp T f9r3 e h Q = wpI (cW T) i9r3 e h (regQ (some [0, 19]) Q) := wq_reg ..
theorem xf9r4 : wp T f9r4 e h Q = wpI (cW T) i9r4 e h (regQ (some [2]) Q) := wq_reg ..
theorem xf9r5 : wp T f9r5 e h Q = wpI (cW T) i9r5 e h (regQ (some [0, 3]) Q) := wq_reg ..
theorem xf9r6 : wp T f9r6 e h Q = wpI (cW T) i9r6 e h (regQ (some [0, 3, 23]) Q) := wq_reg ..
theorem xf9r7 : wp T f9r7 e h Q = wpI (cW T) i9r7 e h (regQ (some [0, 3, 4, 5]) Q) := wq_reg ..
theorem xf9r8 : wp T f9r8 e h Q = wpI (cW T) i9r8 e h (regQ (some [0, 3, 4, 54]) Q) := wq_reg ..
theorem xf9r9 : wp T f9r9 e h Q = wpI (cW T) i9r9 e h (regQ (some [2]) Q) := wq_reg ..
theorem xf9r10 : wp T f9r10 e h Q = wpI (cW T) i9r10 e h (regQ (some [0, 3, 4, 6]) Q) := wq_reg ..
theorem xf9r11 : wp T f9r11 e h Q = wpI (cW T) i9r11 e h (regQ (some [0, 3, 4, 6, 62]) Q) := wq_reg ..
theorem xf9r12 : wp T f9r12 e h Q = wpI (cW T) i9r12 e h (regQ (some [0, 3, 4, 6, 7, 8, 9]) Q) := wq_reg ..
theorem xf9r13 : wp T f9r13 e h Q = wpI (cW T) i9r13 e h (regQ (some [0, 3, 4, 6, 91]) Q) := wq_reg ..
theorem xf9r14 : wp T f9r14 e h Q = wpI (cW T) i9r14 e h (regQ (some [2]) Q) := wq_reg ..
theorem xf9r15 : wp T f9r15 e h Q = wpI (cW T) i9r15 e h (regQ (some [0, 3, 4, 6]) Q) := wq_reg ..
theorem xf9l0 : wp T f9l0 e h Q = wp T (.seq (.seq f9r11 (.cond (.t 62) .skip (.exit 2))) (.seq (.blk 3 (.seq f9r12 (.seq f9r13 (.cond (.t 91) (.seq f9r14 .ret) .skip)))) f9r15)) e h Q := rfl
theorem xf9r16 : wp T f9r16 e h Q = wpI (cW T) i9r16 e h (regQ (some [0, 3]) Q) := wq_reg ..
theorem xf9l1 : wp T f9l1 e h Q = wp T (.seq (.seq f9r6 (.cond (.t 23) .skip (.exit 0))) (.seq (.blk 1 (.seq f9r7 (.seq (.seq f9r8 (.cond (.t 54) (.seq f9r9 .ret) .skip)) (.seq f9r10 (.blk 2 (.loop f9l0)))))) f9r16)) e h Q := rfl
theorem xf9r17 : wp T f9r17 e h Q = wpI (cW T) i9r17 e h (regQ (some [2]) Q) := wq_reg ..
theorem xb9 : wp T b9 e h Q = wp T (.seq f9r0 (.seq (.seq f9r1 (.cond (.t 11) (.seq f9r2 .ret) .skip)) (.seq (.seq f9r3 (.cond (.t 19) (.seq f9r4 .ret) .skip)) (.seq (.seq f9r5 (.blk 0 (.loop f9l1))) (.seq f9r17 .ret))))) e h Q := rfl
theorem e9 : (type_of% @f9.eq_1) ∧ (type_of% @xb9) ∧ (type_of% @xf9r0) ∧ (type_of% @xf9r1) ∧ (type_of% @xf9r2) ∧ (type_of% @xf9r3) ∧ (type_of% @xf9r4) ∧ (type_of% @xf9r5) ∧ (type_of% @xf9r6) ∧ (type_of% @xf9r7) ∧ (type_of% @xf9r8) ∧ (type_of% @xf9r9) ∧ (type_of% @xf9r10) ∧ (type_of% @xf9r11) ∧ (type_of% @xf9r12) ∧ (type_of% @xf9r13) ∧ (type_of% @xf9r14) ∧ (type_of% @xf9r15) ∧ (type_of% @xf9l0) ∧ (type_of% @xf9r16) ∧ (type_of% @xf9l1) ∧ (type_of% @xf9r17) ∧ (type_of% @i9r0.eq_1) ∧ (type_of% @i9r1.eq_1) ∧ (type_of% @i9r2.eq_1) ∧ (type_of% @i9r3.eq_1) ∧ (type_of% @i9r4.eq_1) ∧ (type_of% @i9r5.eq_1) ∧ (type_of% @i9r6.eq_1) ∧ (type_of% @i9r7.eq_1) ∧ (type_of% @i9r8.eq_1) ∧ (type_of% @i9r9.eq_1) ∧ (type_of% @i9r10.eq_1) ∧ (type_of% @i9r11.eq_1) ∧ (type_of% @i9r12.eq_1) ∧ (type_of% @i9r13.eq_1) ∧ (type_of% @i9r14.eq_1) ∧ (type_of% @i9r15.eq_1) ∧ (type_of% @i9r16.eq_1) ∧ (type_of% @i9r17.eq_1) := ⟨@f9.eq_1, @xb9, @xf9r0, @xf9r1, @xf9r2, @xf9r3, @xf9r4, @xf9r5, @xf9r6, @xf9r7, @xf9r8, @xf9r9, @xf9r10, @xf9r11, @xf9r12, @xf9r13, @xf9r14, @xf9r15, @xf9l0, @xf9r16, @xf9l1, @xf9r17, @i9r0.eq_1, @i9r1.eq_1, @i9r2.eq_1, @i9r3.eq_1, @i9r4.eq_1, @i9r5.eq_1, @i9r6.eq_1, @i9r7.eq_1, @i9r8.eq_1, @i9r9.eq_1, @i9r10.eq_1, @i9r11.eq_1, @i9r12.eq_1, @i9r13.eq_1, @i9r14.eq_1, @i9r15.eq_1, @i9r16.eq_1, @i9r17.eq_1⟩
theorem xf11r0 : wp T f11r0 e h Q = wpI (cW T) i11r0 e h (regQ (some [0]) Q) := wq_reg ..
theorem xf11r1 : wp T f11r1 e h Q = wpI (cW T) i11r1 e h (regQ (some [0, 8]) Q) := wq_reg ..
theorem xf11r2 : wp T f11r2 e h Q = wpI (cW T) i11r2 e h (regQ (some [2]) Q) := wq_reg ..
theorem xf11r3 : wp T f11r3 e h Q = wpI (cW T) i11r3 e h (regQ (some [0, 3]) Q) := wq_reg ..
theorem xf11r4 : wp T f11r4 e h Q = wpI (cW T) i11r4 e h (regQ (some [0, 3, 4]) Q) := wq_reg ..
theorem xf11r5 : wp T f11r5 e h Q = wpI (cW T) i11r5 e h (regQ (some [0, 3, 4, 12]) Q) := wq_reg ..
theorem xf11r6 : wp T f11r6 e h Q = wpI (cW T) i11r6 e h (regQ (some [0, 3, 4]) Q) := wq_reg ..
theorem xf11r7 : wp T f11r7 e h Q = wpI (cW T) i11r7 e h (regQ (some [0, 3, 4, 39]) Q) := wq_reg ..
theorem xf11r8 : wp T f11r8 e h Q = wpI (cW T) i11r8 e h (regQ (some [2]) Q) := wq_reg ..
theorem xf11r9 : wp T f11r9 e h Q = wpI (cW T) i11r9 e h (regQ (some [0, 3, 4, 5]) Q) := wq_reg ..
theorem xf11r10 : wp T f11r10 e h Q = wpI (cW T) i11r10 e h (regQ (some [0, 3, 4, 5, 47]) Q) := wq_reg ..
theorem xf11r11 : wp T f11r11 e h Q = wpI (cW T) i11r11 e h (regQ (some [0, 3, 4, 5]) Q) := wq_reg ..
theorem xf11r12 : wp T f11r12 e h Q = wpI (cW T) i11r12 e h (regQ (some [0, 3, 4, 5, 85]) Q) := wq_reg ..
theorem xf11r13 : wp T f11r13 e h Q = wpI (cW T) i11r13 e h (regQ (some [2]) Q) := wq_reg ..
theorem xf11r14 : wp T f11r14 e h Q = wpI (cW T) i11r14 e h (regQ (some [0, 3, 4, 5]) Q) := wq_reg ..
theorem xf11l0 : wp T f11l0 e h Q = wp T (.seq (.seq f11r10 (.cond (.t 47) .skip (.exit 2))) (.seq (.blk 3 (.seq f11r11 (.seq f11r12 (.cond (.t 85) (.seq f11r13 .ret) .skip)))) f11r14)) e h Q := rfl
theorem xf11r15 : wp T f11r15 e h Q = wpI (cW T) i11r15 e h (regQ (some [0, 3, 4]) Q) := wq_reg ..
theorem xf11l1 : wp T f11l1 e h Q = wp T (.seq (.seq f11r5 (.cond (.t 12) .skip (.exit 0))) (.seq (.blk 1 (.seq f11r6 (.seq (.seq f11r7 (.cond (.t 39) (.seq f11r8 .ret) .skip)) (.seq f11r9 (.blk 2 (.loop f11l0)))))) f11r15)) e h Q := rfl
theorem xf11r16 : wp T f11r16 e h Q = wpI (cW T) i11r16 e h (regQ (some [2]) Q) := wq_reg ..
theorem xb11 : wp T b11 e h Q = wp T (.seq f11r0 (.seq (.seq f11r1 (.cond (.t 8) (.seq f11r2 .ret) .skip)) (.seq f11r3 (.seq (.seq f11r4 (.blk 0 (.loop f11l1))) (.seq f11r16 .ret))))) e h Q := rfl
theorem e11 : (type_of% @f11.eq_1) ∧ (type_of% @xb11) ∧ (type_of% @xf11r0) ∧ (type_of% @xf11r1) ∧ (type_of% @xf11r2) ∧ (type_of% @xf11r3) ∧ (type_of% @xf11r4) ∧ (type_of% @xf11r5) ∧ (type_of% @xf11r6) ∧ (type_of% @xf11r7) ∧ (type_of% @xf11r8) ∧ (type_of% @xf11r9) ∧ (type_of% @xf11r10) ∧ (type_of% @xf11r11) ∧ (type_of% @xf11r12) ∧ (type_of% @xf11r13) ∧ (type_of% @xf11r14) ∧ (type_of% @xf11l0) ∧ (type_of% @xf11r15) ∧ (type_of% @xf11l1) ∧ (type_of% @xf11r16) ∧ (type_of% @i11r0.eq_1) ∧ (type_of% @i11r1.eq_1) ∧ (type_of% @i11r2.eq_1) ∧ (type_of% @i11r3.eq_1) ∧ (type_of% @i11r4.eq_1) ∧ (type_of% @i11r5.eq_1) ∧ (type_of% @i11r6.eq_1) ∧ (type_of% @i11r7.eq_1) ∧ (type_of% @i11r8.eq_1) ∧ (type_of% @i11r9.eq_1) ∧ (type_of% @i11r10.eq_1) ∧ (type_of% @i11r11.eq_1) ∧ (type_of% @i11r12.eq_1) ∧ (type_of% @i11r13.eq_1) ∧ (type_of% @i11r14.eq_1) ∧ (type_of% @i11r15.eq_1) ∧ (type_of% @i11r16.eq_1) := ⟨@f11.eq_1, @xb11, @xf11r0, @xf11r1, @xf11r2, @xf11r3, @xf11r4, @xf11r5, @xf11r6, @xf11r7, @xf11r8, @xf11r9, @xf11r10, @xf11r11, @xf11r12, @xf11r13, @xf11r14, @xf11l0, @xf11r15, @xf11l1, @xf11r16, @i11r0.eq_1, @i11r1.eq_1, @i11r2.eq_1, @i11r3.eq_1, @i11r4.eq_1, @i11r5.eq_1, @i11r6.eq_1, @i11r7.eq_1, @i11r8.eq_1, @i11r9.eq_1, @i11r10.eq_1, @i11r11.eq_1, @i11r12.eq_1, @i11r13.eq_1, @i11r14.eq_1, @i11r15.eq_1, @i11r16.eq_1⟩
theorem xf14r0 : wp T f14r0 e h Q = wpI (cW T) i14r0 e h (regQ (some [0, 1]) Q) := wq_reg ..
theorem xf14r1 : wp T f14r1 e h Q = wpI (cW T) i14r1 e h (regQ (some [4]) Q) := wq_reg ..
theorem xb14 : wp T b14 e h Q = wp T (.seq f14r0 (.seq f14r1 .ret)) e h Q := rfl
theorem e14 : (type_of% @f14.eq_1) ∧ (type_of% @xb14) ∧ (type_of% @xf14r0) ∧ (type_of% @xf14r1) ∧ (type_of% @i14r0.eq_1) ∧ (type_of% @i14r1.eq_1) := ⟨@f14.eq_1, @xb14, @xf14r0, @xf14r1, @i14r0.eq_1, @i14r1.eq_1⟩
theorem xf15r0 : wp T f15r0 e h Q = wpI (cW T) i15r0 e h (regQ (some [0, 1]) Q) := wq_reg ..
theorem xf15r1 : wp T f15r1 e h Q = wpI (cW T) i15r1 e h (regQ (some [0, 1, 7]) Q) := wq_reg ..
theorem xf15r2 : wp T f15r2 e h Q = wpI (cW T) i15r2 e h (regQ (some [4]) Q) := wq_reg ..
theorem xf15r3 : wp T f15r3 e h Q = wpI (cW T) i15r3 e h (regQ (some [0, 1, 11]) Q) := wq_reg ..
theorem xf15r4 : wp T f15r4 e h Q = wpI (cW T) i15r4 e h (regQ (some [4]) Q) := wq_reg ..
theorem xf15r5 : wp T f15r5 e h Q = wpI (cW T) i15r5 e h (regQ (some [0, 1, 5]) Q) := wq_reg ..
theorem xf15r6 : wp T f15r6 e h Q = wpI (cW T) i15r6 e h (regQ (some [0, 1, 5, 20]) Q) := wq_reg ..
theorem xf15r7 : wp T f15r7 e h Q = wpI (cW T) i15r7 e h (regQ (some [0, 1, 5, 34]) Q) := wq_reg ..
theorem xf15r8 : wp T f15r8 e h Q = wpI (cW T) i15r8 e h (regQ (some [4]) Q) := wq_reg ..
theorem xf15r9 : wp T f15r9 e h Q = wpI (cW T) i15r9 e h (regQ (some [0, 1, 5]) Q) := wq_reg ..
theorem xf15l0 : wp T f15l0 e h Q = wp T (.seq (.seq f15r6 (.cond (.t 20) .skip (.exit 0))) (.seq (.blk 1 (.seq f15r7 (.cond (.t 34) (.seq f15r8 .ret) .skip))) f15r9)) e h Q := rfl
theorem xf15r10 : wp T f15r10 e h Q = wpI (cW T) i15r10 e h (regQ (some [4]) Q) := wq_reg ..
theorem xb15 : wp T b15 e h Q = wp T (.seq f15r0 (.seq (.seq f15r1 (.cond (.t 7) (.seq f15r2 .ret) .skip)) (.seq (.seq f15r3 (.cond (.t 11) (.seq f15r4 .ret) .skip)) (.seq (.seq f15r5 (.blk 0 (.loop f15l0))) (.seq f15r10 .ret))))) e h Q := rfl
theorem e15 : (type_of% @f15.eq_1) ∧ (type_of% @xb15) ∧ (type_of% @xf15r0) ∧ (type_of% @xf15r1) ∧ (type_of% @xf15r2) ∧ (type_of% @xf15r3) ∧ (type_of% @xf15r4) ∧ (type_of% @xf15r5) ∧ (type_of% @xf15r6) ∧ (type_of% @xf15r7) ∧ (type_of% @xf15r8) ∧ (type_of% @xf15r9) ∧ (type_of% @xf15l0) ∧ (type_of% @xf15r10) ∧ (type_of% @i15r0.eq_1) ∧ (type_of% @i15r1.eq_1) ∧ (type_of% @i15r2.eq_1) ∧ (type_of% @i15r3.eq_1) ∧ (type_of% @i15r4.eq_1) ∧ (type_of% @i15r5.eq_1) ∧ (type_of% @i15r6.eq_1) ∧ (type_of% @i15r7.eq_1) ∧ (type_of% @i15r8.eq_1) ∧ (type_of% @i15r9.eq_1) ∧ (type_of% @i15r10.eq_1) := ⟨@f15.eq_1, @xb15, @xf15r0, @xf15r1, @xf15r2, @xf15r3, @xf15r4, @xf15r5, @xf15r6, @xf15r7, @xf15r8, @xf15r9, @xf15l0, @xf15r10, @i15r0.eq_1, @i15r1.eq_1, @i15r2.eq_1, @i15r3.eq_1, @i15r4.eq_1, @i15r5.eq_1, @i15r6.eq_1, @i15r7.eq_1, @i15r8.eq_1, @i15r9.eq_1, @i15r10.eq_1⟩
theorem xf16r0 : wp T f16r0 e h Q = wpI (cW T) i16r0 e h (regQ (some [0, 1, 2]) Q) := wq_reg ..
theorem xf16r1 : wp T f16r1 e h Q = wpI (cW T) i16r1 e h (regQ (some [2, 7]) Q) := wq_reg ..
theorem xf16r2 : wp T f16r2 e h Q = wpI (cW T) i16r2 e h (regQ (some [27]) Q) := wq_reg ..
theorem xf16r3 : wp T f16r3 e h Q = wpI (cW T) i16r3 e h (regQ (some [6]) Q) := wq_reg ..
theorem xf16r4 : wp T f16r4 e h Q = wpI (cW T) i16r4 e h (regQ (some [6]) Q) := wq_reg ..
theorem xb16 : wp T b16 e h Q = wp T (.seq f16r0 (.seq f16r1 (.seq (.seq f16r2 (.cond (.t 27) (.seq f16r3 .ret) .skip)) (.seq f16r4 .ret)))) e h Q := rfl
theorem e16 : (type_of% @f16.eq_1) ∧ (type_of% @xb16) ∧ (type_of% @xf16r0) ∧ (type_of% @xf16r1) ∧ (type_of% @xf16r2) ∧ (type_of% @xf16r3) ∧ (type_of% @xf16r4) ∧ (type_of% @i16r0.eq_1) ∧ (type_of% @i16r1.eq_1) ∧ (type_of% @i16r2.eq_1) ∧ (type_of% @i16r3.eq_1) ∧ (type_of% @i16r4.eq_1) := ⟨@f16.eq_1, @xb16, @xf16r0, @xf16r1, @xf16r2, @xf16r3, @xf16r4, @i16r0.eq_1, @i16r1.eq_1, @i16r2.eq_1, @i16r3.eq_1, @i16r4.eq_1⟩
theorem xf17r0 : wp T f17r0 e h Q = wpI (cW T) i17r0 e h (regQ (some [0, 1, 2]) Q) := wq_reg ..
theorem xf17r1 : wp T f17r1 e h Q = wpI (cW T) i17r1 e h (regQ (some [43]) Q) := wq_reg ..
theorem xf17r2 : wp T f17r2 e h Q = wpI (cW T) i17r2 e h (regQ (some [6]) Q) := wq_reg ..
theorem xf17r3 : wp T f17r3 e h Q = wpI (cW T) i17r3 e h (regQ (some [6]) Q) := wq_reg ..
theorem xb17 : wp T b17 e h Q = wp T (.seq f17r0 (.seq (.seq f17r1 (.cond (.t 43) (.seq f17r2 .ret) .skip)) (.seq f17r3 .ret))) e h Q := rfl
theorem e17 : (type_of% @f17.eq_1) ∧ (type_of% @xb17) ∧ (type_of% @xf17r0) ∧ (type_of% @xf17r1) ∧ (type_of% @xf17r2) ∧ (type_of% @xf17r3) ∧ (type_of% @i17r0.eq_1) ∧ (type_of% @i17r1.eq_1) ∧ (type_of% @i17r2.eq_1) ∧ (type_of% @i17r3.eq_1) := ⟨@f17.eq_1, @xb17, @xf17r0, @xf17r1, @xf17r2, @xf17r3, @i17r0.eq_1, @i17r1.eq_1, @i17r2.eq_1, @i17r3.eq_1⟩
theorem xf18r0 : wp T f18r0 e h Q = wpI (cW T) i18r0 e h (regQ (some [0, 1]) Q) := wq_reg ..
theorem xf18r1 : wp T f18r1 e h Q = wpI (cW T) i18r1 e h (regQ (some [0, 1, 10]) Q) := wq_reg ..
theorem xf18r2 : wp T f18r2 e h Q = wpI (cW T) i18r2 e h (regQ (some [4]) Q) := wq_reg ..
theorem xf18r3 : wp T f18r3 e h Q = wpI (cW T) i18r3 e h (regQ (some [0, 1, 5]) Q) := wq_reg ..
theorem xf18r4 : wp T f18r4 e h Q = wpI (cW T) i18r4 e h (regQ (some [0, 1, 5, 14]) Q) := wq_reg ..
theorem xf18r5 : wp T f18r5 e h Q = wpI (cW T) i18r5 e h (regQ (some [0, 1, 5, 25]) Q) := wq_reg ..
theorem xf18r6 : wp T f18r6 e h Q = wpI (cW T) i18r6 e h (regQ (some [4]) Q) := wq_reg ..
theorem xf18r7 : wp T f18r7 e h Q = wpI (cW T) i18r7 e h (regQ (some [0, 1, 5]) Q) := wq_reg ..
theorem xf18l0 : wp T f18l0 e h Q = wp T (.seq (.seq f18r4 (.cond (.t 14) .skip (.exit 0))) (.seq (.blk 1 (.seq f18r5 (.cond (.t 25) (.seq f18r6 .ret) .skip))) f18r7)) e h Q := rfl
theorem xf18r8 : wp T f18r8 e h Q = wpI (cW T) i18r8 e h (regQ (some [4]) Q) := wq_reg ..
theorem xb18 : wp T b18 e h Q = wp T (.seq f18r0 (.seq (.seq f18r1 (.cond (.t 10) (.seq f18r2 .ret) .skip)) (.seq (.seq f18r3 (.blk 0 (.loop f18l0))) (.seq f18r8 .ret)))) e h Q := rfl
theorem e18 : (type_of% @f18.eq_1) ∧ (type_of% @xb18) ∧ (type_of% @xf18r0) ∧ (type_of% @xf18r1) ∧ (type_of% @xf18r2) ∧ (type_of% @xf18r3) ∧ (type_of% @xf18r4) ∧ (type_of% @xf18r5) ∧ (type_of% @xf18r6) ∧ (type_of% @xf18r7) ∧ (type_of% @xf18l0) ∧ (type_of% @xf18r8) ∧ (type_of% @i18r0.eq_1) ∧ (type_of% @i18r1.eq_1) ∧ (type_of% @i18r2.eq_1) ∧ (type_of% @i18r3.eq_1) ∧ (type_of% @i18r4.eq_1) ∧ (type_of% @i18r5.eq_1) ∧ (type_of% @i18r6.eq_1) ∧ (type_of% @i18r7.eq_1) ∧ (type_of% @i18r8.eq_1) := ⟨@f18.eq_1, @xb18, @xf18r0, @xf18r1, @xf18r2, @xf18r3, @xf18r4, @xf18r5, @xf18r6, @xf18r7, @xf18l0, @xf18r8, @i18r0.eq_1, @i18r1.eq_1, @i18r2.eq_1, @i18r3.eq_1, @i18r4.eq_1, @i18r5.eq_1, @i18r6.eq_1, @i18r7.eq_1, @i18r8.eq_1⟩
theorem xf19r0 : wp T f19r0 e h Q = wpI (cW T) i19r0 e h (regQ (some [1, 2]) Q) := wq_reg ..
theorem xf19r1 : wp T f19r1 e h Q = wpI (cW T) i19r1 e h (regQ (some [1, 2, 5]) Q) := wq_reg ..
theorem xf19r2 : wp T f19r2 e h Q = wpI (cW T) i19r2 e h (regQ (some [1, 2, 5, 6]) Q) := wq_reg ..
theorem xf19r3 : wp T f19r3 e h Q = wpI (cW T) i19r3 e h (regQ (some [1, 2, 5, 6, 7]) Q) := wq_reg ..
theorem xf19r4 : wp T f19r4 e h Q = wpI (cW T) i19r4 e h (regQ (some [1, 5, 7]) Q) := wq_reg ..
theorem xf19r5 : wp T f19r5 e h Q = wpI (cW T) i19r5 e h (regQ (some [5]) Q) := wq_reg ..
theorem xf19r6 : wp T f19r6 e h Q = wpI (cW T) i19r6 e h (regQ (some [4]) Q) := wq_reg ..
theorem xb19 : wp T b19 e h Q = wp T (.seq f19r0 (.seq f19r1 (.seq f19r2 (.seq f19r3 (.seq f19r4 (.seq f19r5 (.seq f19r6 .ret))))))) e h Q := rfl
theorem e19 : (type_of% @f19.eq_1) ∧ (type_of% @xb19) ∧ (type_of% @xf19r0) ∧ (type_of% @xf19r1) ∧ (type_of% @xf19r2) ∧ (type_of% @xf19r3) ∧ (type_of% @xf19r4) ∧ (type_of% @xf19r5) ∧ (type_of% @xf19r6) ∧ (type_of% @i19r0.eq_1) ∧ (type_of% @i19r1.eq_1) ∧ (type_of% @i19r2.eq_1) ∧ (type_of% @i19r3.eq_1) ∧ (type_of% @i19r4.eq_1) ∧ (type_of% @i19r5.eq_1) ∧ (type_of% @i19r6.eq_1) := ⟨@f19.eq_1, @xb19, @xf19r0, @xf19r1, @xf19r2, @xf19r3, @xf19r4, @xf19r5, @xf19r6, @i19r0.eq_1, @i19r1.eq_1, @i19r2.eq_1, @i19r3.eq_1, @i19r4.eq_1, @i19r5.eq_1, @i19r6.eq_1⟩
theorem xf20r0 : wp T f20r0 e h Q = wpI (cW T) i20r0 e h (regQ (some [0, 1]) Q) := wq_reg ..
theorem xf20r1 : wp T f20r1 e h Q = wpI (cW T) i20r1 e h (regQ (some [4]) Q) := wq_reg ..
theorem xb20 : wp T b20 e h Q = wp T (.seq f20r0 (.seq f20r1 .ret)) e h Q := rfl
theorem e20 : (type_of% @f20.eq_1) ∧ (type_of% @xb20) ∧ (type_of% @xf20r0) ∧ (type_of% @xf20r1) ∧ (type_of% @i20r0.eq_1) ∧ (type_of% @i20r1.eq_1) := ⟨@f20.eq_1, @xb20, @xf20r0, @xf20r1, @i20r0.eq_1, @i20r1.eq_1⟩
theorem xf21r0 : wp T f21r0 e h Q = wpI (cW T) i21r0 e h (regQ (some [0, 1]) Q) := wq_reg ..
theorem xf21r1 : wp T f21r1 e h Q = wpI (cW T) i21r1 e h (regQ (some [0, 1, 11, 12, 13]) Q) := wq_reg ..
theorem xf21r2 : wp T f21r2 e h Q = wpI (cW T) i21r2 e h (regQ (some [0, 1, 11, 12, 13, 14]) Q) := wq_reg ..
theorem xf21r3 : wp T f21r3 e h Q = wpI (cW T) i21r3 e h (regQ (some [0, 1, 6, 11, 12, 13]) Q) := wq_reg ..
theorem xf21r4 : wp T f21r4 e h Q = wpI (cW T) i21r4 e h (regQ (some [0, 1, 11, 12, 13, 18, 19, 20]) Q) := wq_reg ..
theorem xf21r5 : wp T f21r5 e h Q = wpI (cW T) i21r5 e h (regQ (some [0, 1, 11, 12, 13, 18, 19, 20, 21]) Q) := wq_reg ..
theorem xf21r6 : wp T f21r6 e h Q = wpI (cW T) i21r6 e h (regQ (some [0, 1, 8, 11, 12, 13, 18, 19, 20]) Q) := wq_reg ..
theorem xf21r7 : wp T f21r7 e h Q = wpI (cW T) i21r7 e h (regQ (some [0, 1, 11, 12, 13, 18, 19, 20, 28]) Q) := wq_reg ..
theorem xf21r8 : wp T f21r8 e h Q = wpI (cW T) i21r8 e h (regQ (some [4]) Q) := wq_reg ..
theorem xf21r9 : wp T f21r9 e h Q = wpI (cW T) i21r9 e h (regQ (some [0, 1, 11, 12, 13, 18, 19, 20]) Q) := wq_reg ..
theorem xf21l0 : wp T f21l0 e h Q = wp T (.seq f21r5 (.seq (.cond (.t 21) .skip (.exit 2)) (.seq (.blk 3 (.seq f21r6 (.seq f21r7 (.cond (.t 28) (.seq f21r8 .ret) .skip)))) f21r9))) e h Q := rfl
theorem xf21r10 : wp T f21r10 e h Q = wpI (cW T) i21r10 e h (regQ (some [0, 1, 11, 12, 13]) Q) := wq_reg ..
theorem xf21l1 : wp T f21l1 e h Q = wp T (.seq f21r2 (.seq (.cond (.t 14) .skip (.exit 0)) (.seq (.blk 1 (.seq f21r3 (.seq f21r4 (.blk 2 (.loop f21l0))))) f21r10))) e h Q := rfl
theorem xf21r11 : wp T f21r11 e h Q = wpI (cW T) i21r11 e h (regQ (some [4]) Q) := wq_reg ..
theorem xb21 : wp T b21 e h Q = wp T (.seq f21r0 (.seq (.seq f21r1 (.blk 0 (.loop f21l1))) (.seq f21r11 .ret))) e h Q := rfl
theorem e21 : (type_of% @f21.eq_1) ∧ (type_of% @xb21) ∧ (type_of% @xf21r0) ∧ (type_of% @xf21r1) ∧ (type_of% @xf21r2) ∧ (type_of% @xf21r3) ∧ (type_of% @xf21r4) ∧ (type_of% @xf21r5) ∧ (type_of% @xf21r6) ∧ (type_of% @xf21r7) ∧ (type_of% @xf21r8) ∧ (type_of% @xf21r9) ∧ (type_of% @xf21l0) ∧ (type_of% @xf21r10) ∧ (type_of% @xf21l1) ∧ (type_of% @xf21r11) ∧ (type_of% @i21r0.eq_1) ∧ (type_of% @i21r1.eq_1) ∧ (type_of% @i21r2.eq_1) ∧ (type_of% @i21r3.eq_1) ∧ (type_of% @i21r4.eq_1) ∧ (type_of% @i21r5.eq_1) ∧ (type_of% @i21r6.eq_1) ∧ (type_of% @i21r7.eq_1) ∧ (type_of% @i21r8.eq_1) ∧ (type_of% @i21r9.eq_1) ∧ (type_of% @i21r10.eq_1) ∧ (type_of% @i21r11.eq_1) := ⟨@f21.eq_1, @xb21, @xf21r0, @xf21r1, @xf21r2, @xf21r3, @xf21r4, @xf21r5, @xf21r6, @xf21r7, @xf21r8, @xf21r9, @xf21l0, @xf21r10, @xf21l1, @xf21r11, @i21r0.eq_1, @i21r1.eq_1, @i21r2.eq_1, @i21r3.eq_1, @i21r4.eq_1, @i21r5.eq_1, @i21r6.eq_1, @i21r7.eq_1, @i21r8.eq_1, @i21r9.eq_1, @i21r10.eq_1, @i21r11.eq_1⟩
theorem xf22r0 : wp T f22r0 e h Q = wpI (cW T) i22r0 e h (regQ (some [0, 1]) Q) := wq_reg ..
theorem xf22r1 : wp T f22r1 e h Q = wpI (cW T) i22r1 e h (regQ (some [0, 1, 15]) Q) := wq_reg ..
theorem xf22r2 : wp T f22r2 e h Q = wpI (cW T) i22r2 e h (regQ (some [4]) Q) := wq_reg ..
theorem xf22r3 : wp T f22r3 e h Q = wpI (cW T) i22r3 e h (regQ (some [0, 1, 5]) Q) := wq_reg ..
theorem xf22r4 : wp T f22r4 e h Q = wpI (cW T) i22r4 e h (regQ (some [0, 1, 5, 24]) Q) := wq_reg ..
theorem xf22r5 : wp T f22r5 e h Q = wpI (cW T) i22r5 e h (regQ (some [0, 1, 5, 6]) Q) := wq_reg ..
theorem xf22r6 : wp T f22r6 e h Q = wpI (cW T) i22r6 e h (regQ (some [0, 1, 5, 6, 7]) Q) := wq_reg ..
theorem xf22r7 : wp T f22r7 e h Q = wpI (cW T) i22r7 e h (regQ (some [0, 1, 5, 6, 7, 40]) Q) := wq_reg ..
theorem xf22r8 : wp T f22r8 e h Q = wpI (cW T) i22r8 e h (regQ (some [0, 1, 5, 6, 7, 50]) Q) := wq_reg ..
theorem xf22r9 : wp T f22r9 e h Q = wpI (cW T) i22r9 e h (regQ (some [4]) Q) := wq_reg ..
theorem xf22r10 : wp T f22r10 e h Q = wpI (cW T) i22r10 e h (regQ (some [0, 1, 5, 6, 7]) Q) := wq_reg ..
theorem xf22l0 : wp T f22l0 e h Q = wp T (.seq (.seq f22r7 (.cond (.t 40) .skip (.exit 2))) (.seq (.blk 3 (.seq f22r8 (.cond (.t 50) (.seq f22r9 .ret) .skip))) f22r10)) e h Q := rfl
theorem xf22r11 : wp T f22r11 e h Q = wpI (cW T) i22r11 e h (regQ (some [0, 1, 5]) Q) := wq_reg ..
theorem xf22l1 : wp T f22l1 e h Q = wp T (.seq (.seq f22r4 (.cond (.t 24) .skip (.exit 0))) (.seq (.blk 1 (.seq f22r5 (.seq f22r6 (.blk 2 (.loop f22l0))))) f22r11)) e h Q := rfl
theorem xf22r12 : wp T f22r12 e h Q = wpI (cW T) i22r12 e h (regQ (some [4]) Q) := wq_reg ..
theorem xb22 : wp T b22 e h Q = wp T (.seq f22r0 (.seq (.seq f22r1 (.cond (.t 15) (.seq f22r2 .ret) .skip)) (.seq (.seq f22r3 (.blk 0 (.loop f22l1))) (.seq f22r12 .ret)))) e h Q := rfl
theorem e22 : (type_of% @f22.eq_1) ∧ (type_of% @xb22) ∧ (type_of% @xf22r0) ∧ (type_of% @xf22r1) ∧ (type_of% @xf22r2) ∧ (type_of% @xf22r3) ∧ (type_of% @xf22r4) ∧ (type_of% @xf22r5) ∧ (type_of% @xf22r6) ∧ (type_of% @xf22r7) ∧ (type_of% @xf22r8) ∧ (type_of% @xf22r9) ∧ (type_of% @xf22r10) ∧ (type_of% @xf22l0) ∧ (type_of% @xf22r11) ∧ (type_of% @xf22l1) ∧ (type_of% @xf22r12) ∧ (type_of% @i22r0.eq_1) ∧ (type_of% @i22r1.eq_1) ∧ (type_of% @i22r2.eq_1) ∧ (type_of% @i22r3.eq_1) ∧ (type_of% @i22r4.eq_1) ∧ (type_of% @i22r5.eq_1) ∧ (type_of% @i22r6.eq_1) ∧ (type_of% @i22r7.eq_1) ∧ (type_of% @i22r8.eq_1) ∧ (type_of% @i22r9.eq_1) ∧ (type_of% @i22r10.eq_1) ∧ (type_of% @i22r11.eq_1) ∧ (type_of% @i22r12.eq_1) := ⟨@f22.eq_1, @xb22, @xf22r0, @xf22r1, @xf22r2, @xf22r3, @xf22r4, @xf22r5, @xf22r6, @xf22r7, @xf22r8, @xf22r9, @xf22r10, @xf22l0, @xf22r11, @xf22l1, @xf22r12, @i22r0.eq_1, @i22r1.eq_1, @i22r2.eq_1, @i22r3.eq_1, @i22r4.eq_1, @i22r5.eq_1, @i22r6.eq_1, @i22r7.eq_1, @i22r8.eq_1, @i22r9.eq_1, @i22r10.eq_1, @i22r11.eq_1, @i22r12.eq_1⟩
theorem xf23r0 : wp T f23r0 e h Q = wpI (cW T) i23r0 e h (regQ (some [0, 1]) Q) := wq_reg ..
theorem xf23r1 : wp T f23r1 e h Q = wpI (cW T) i23r1 e h (regQ (some [0, 1, 5]) Q) := wq_reg ..
theorem xf23r2 : wp T f23r2 e h Q = wpI (cW T) i23r2 e h (regQ (some [0, 1, 5, 9]) Q) := wq_reg ..
theorem xf23r3 : wp T f23r3 e h Q = wpI (cW T) i23r3 e h (regQ (some [0, 1, 5, 17]) Q) := wq_reg ..
theorem xf23r4 : wp T f23r4 e h Q = wpI (cW T) i23r4 e h (regQ (some [4]) Q) := wq_reg ..
theorem xf23r5 : wp T f23r5 e h Q = wpI (cW T) i23r5 e h (regQ (some [0, 1, 5]) Q) := wq_reg ..
theorem xf23l0 : wp T f23l0 e h Q = wp T (.seq (.seq f23r2 (.cond (.t 9) .skip (.exit 0))) (.seq (.blk 1 (.seq f23r3 (.cond (.t 17) (.seq f23r4 .ret) .skip))) f23r5)) e h Q := rfl
theorem xf23r6 : wp T f23r6 e h Q = wpI (cW T) i23r6 e h (regQ (some [4]) Q) := wq_reg ..
theorem xb23 : wp T b23 e h Q = wp T (.seq f23r0 (.seq (.seq f23r1 (.blk 0 (.loop f23l0))) (.seq f23r6 .ret))) e h Q := rfl
theorem e23 : (type_of% @f23.eq_1) ∧ (type_of% @xb23) ∧ (type_of% @xf23r0) ∧ (type_of% @xf23r1) ∧ (type_of% @xf23r2) ∧ (type_of% @xf23r3) ∧ (type_of% @xf23r4) ∧ (type_of% @xf23r5) ∧ (type_of% @xf23l0) ∧ (type_of% @xf23r6) ∧ (type_of% @i23r0.eq_1) ∧ (type_of% @i23r1.eq_1) ∧ (type_of% @i23r2.eq_1) ∧ (type_of% @i23r3.eq_1) ∧ (type_of% @i23r4.eq_1) ∧ (type_of% @i23r5.eq_1) ∧ (type_of% @i23r6.eq_1) := ⟨@f23.eq_1, @xb23, @xf23r0, @xf23r1, @xf23r2, @xf23r3, @xf23r4, @xf23r5, @xf23l0, @xf23r6, @i23r0.eq_1, @i23r1.eq_1, @i23r2.eq_1, @i23r3.eq_1, @i23r4.eq_1, @i23r5.eq_1, @i23r6.eq_1⟩
theorem xf26r0 : wp T f26r0 e h Q = wpI (cW T) i26r0 e h (regQ (some [0, 1]) Q) := wq_reg ..
theorem xf26r1 : wp T f26r1 e h Q = wpI (cW T) i26r1 e h (regQ (some [0, 1, 8]) Q) := wq_reg ..
theorem xf26r2 : wp T f26r2 e h Q = wpI (cW T) i26r2 e h (regQ (some [4, 5]) Q) := wq_reg ..
theorem xf26r3 : wp T f26r3 e h Q = wpI (cW T) i26r3 e h (regQ (some [0, 1, 6]) Q) := wq_reg ..
theorem xf26r4 : wp T f26r4 e h Q = wpI (cW T) i26r4 e h (regQ (some [0, 1, 6, 12]) Q) := wq_reg ..
theorem xf26r5 : wp T f26r5 e h Q = wpI (cW T) i26r5 e h (regQ (some [0, 1, 6, 21]) Q) := wq_reg ..
theorem xf26r6 : wp T f26r6 e h Q = wpI (cW T) i26r6 e h (regQ (some [4, 5]) Q) := wq_reg ..
theorem xf26r7 : wp T f26r7 e h Q = wpI (cW T) i26r7 e h (regQ (some [0, 1, 6]) Q) := wq_reg ..
theorem xf26l0 : wp T f26l0 e h Q = wp T (.seq (.seq f26r4 (.cond (.t 12) .skip (.exit 0))) (.seq (.blk 1 (.seq f26r5 (.cond (.t 21) (.seq f26r6 .ret) .skip))) f26r7)) e h Q := rfl
theorem xf26r8 : wp T f26r8 e h Q = wpI (cW T) i26r8 e h (regQ (some [4, 5]) Q) := wq_reg ..
theorem xb26 : wp T b26 e h Q = wp T (.seq f26r0 (.seq (.seq f26r1 (.cond (.t 8) (.seq f26r2 .ret) .skip)) (.seq (.seq f26r3 (.blk 0 (.loop f26l0))) (.seq f26r8 .ret)))) e h Q := rfl
theorem e26 : (type_of% @f26.eq_1) ∧ (type_of% @xb26) ∧ (type_of% @xf26r0) ∧ (type_of% @xf26r1) ∧ (type_of% @xf26r2) ∧ (type_of% @xf26r3) ∧ (type_of% @xf26r4) ∧ (type_of% @xf26r5) ∧ (type_of% @xf26r6) ∧ (type_of% @xf26r7) ∧ (type_of% @xf26l0) ∧ (type_of% @xf26r8) ∧ (type_of% @i26r0.eq_1) ∧ (type_of% @i26r1.eq_1) ∧ (type_of% @i26r2.eq_1) ∧ (type_of% @i26r3.eq_1) ∧ (type_of% @i26r4.eq_1) ∧ (type_of% @i26r5.eq_1) ∧ (type_of% @i26r6.eq_1) ∧ (type_of% @i26r7.eq_1) ∧ (type_of% @i26r8.eq_1) := ⟨@f26.eq_1, @xb26, @xf26r0, @xf26r1, @xf26r2, @xf26r3, @xf26r4, @xf26r5, @xf26r6, @xf26r7, @xf26l0, @xf26r8, @i26r0.eq_1, @i26r1.eq_1, @i26r2.eq_1, @i26r3.eq_1, @i26r4.eq_1, @i26r5.eq_1, @i26r6.eq_1, @i26r7.eq_1, @i26r8.eq_1⟩
theorem xf34r0 : wp T f34r0 e h Q = wpI (cW T) i34r0 e h (regQ (some [0, 1]) Q) := wq_reg ..
theorem xf34r1 : wp T f34r1 e h Q = wpI (cW T) i34r1 e h (regQ (some [4]) Q) := wq_reg ..
theorem xb34 : wp T b34 e h Q = wp T (.seq f34r0 (.seq f34r1 .ret)) e h Q := rfl
theorem e34 : (type_of% @f34.eq_1) ∧ (type_of% @xb34) ∧ (type_of% @xf34r0) ∧ (type_of% @xf34r1) ∧ (type_of% @i34r0.eq_1) ∧ (type_of% @i34r1.eq_1) := ⟨@f34.eq_1, @xb34, @xf34r0, @xf34r1, @i34r0.eq_1, @i34r1.eq_1⟩
theorem xf36r0 : wp T f36r0 e h Q = wpI (cW T) i36r0 e h (regQ (some [0, 1]) Q) := wq_reg ..
theorem xf36r1 : wp T f36r1 e h Q = wpI (cW T) i36r1 e h (regQ (some [4]) Q) := wq_reg ..
theorem xb36 : wp T b36 e h Q = wp T (.seq f36r0 (.seq f36r1 .ret)) e h Q := rfl
theorem e36 : (type_of% @f36.eq_1) ∧ (type_of% @xb36) ∧ (type_of% @xf36r0) ∧ (type_of% @xf36r1) ∧ (type_of% @i36r0.eq_1) ∧ (type_of% @i36r1.eq_1) := ⟨@f36.eq_1, @xb36, @xf36r0, @xf36r1, @i36r0.eq_1, @i36r1.eq_1⟩
theorem xf43r0 : wp T f43r0 e h Q = wpI (cW T) i43r0 e h (regQ (some [0, 1]) Q) := wq_reg ..
theorem xf43r1 : wp T f43r1 e h Q = wpI (cW T) i43r1 e h (regQ (some [4]) Q) := wq_reg ..
theorem xb43 : wp T b43 e h Q = wp T (.seq f43r0 (.seq f43r1 .ret)) e h Q := rfl
theorem e43 : (type_of% @f43.eq_1) ∧ (type_of% @xb43) ∧ (type_of% @xf43r0) ∧ (type_of% @xf43r1) ∧ (type_of% @i43r0.eq_1) ∧ (type_of% @i43r1.eq_1) := ⟨@f43.eq_1, @xb43, @xf43r0, @xf43r1, @i43r0.eq_1, @i43r1.eq_1⟩
theorem xf44r0 : wp T f44r0 e h Q = wpI (cW T) i44r0 e h (regQ (some [0, 1]) Q) := wq_reg ..
theorem xf44r1 : wp T f44r1 e h Q = wpI (cW T) i44r1 e h (regQ (some [0, 1, 12]) Q) := wq_reg ..
theorem xf44r2 : wp T f44r2 e h Q = wpI (cW T) i44r2 e h (regQ (some [4]) Q) := wq_reg ..
theorem xf44r3 : wp T f44r3 e h Q = wpI (cW T) i44r3 e h (regQ (some [4]) Q) := wq_reg ..
theorem xb44 : wp T b44 e h Q = wp T (.seq f44r0 (.seq (.seq f44r1 (.cond (.t 12) (.seq f44r2 .ret) .skip)) (.seq f44r3 .ret))) e h Q := rfl
theorem e44 : (type_of% @f44.eq_1) ∧ (type_of% @xb44) ∧ (type_of% @xf44r0) ∧ (type_of% @xf44r1) ∧ (type_of% @xf44r2) ∧ (type_of% @xf44r3) ∧ (type_of% @i44r0.eq_1) ∧ (type_of% @i44r1.eq_1) ∧ (type_of% @i44r2.eq_1) ∧ (type_of% @i44r3.eq_1) := ⟨@f44.eq_1, @xb44, @xf44r0, @xf44r1, @xf44r2, @xf44r3, @i44r0.eq_1, @i44r1.eq_1, @i44r2.eq_1, @i44r3.eq_1⟩
theorem xf45r0 : wp T f45r0 e h Q = wpI (cW T) i45r0 e h (regQ (some [1]) Q) := wq_reg ..
theorem xf45r1 : wp T f45r1 e h Q = wpI (cW T) i45r1 e h (regQ (some [2]) Q) := wq_reg ..
theorem xb45 : wp T b45 e h Q = wp T (.seq f45r0 (.seq f45r1 .ret)) e h Q := rfl
theorem e45 : (type_of% @f45.eq_1) ∧ (type_of% @xb45) ∧ (type_of% @xf45r0) ∧ (type_of% @xf45r1) ∧ (type_of% @i45r0.eq_1) ∧ (type_of% @i45r1.eq_1) := ⟨@f45.eq_1, @xb45, @xf45r0, @xf45r1, @i45r0.eq_1, @i45r1.eq_1⟩
theorem xf46r0 : wp T f46r0 e h Q = wpI (cW T) i46r0 e h (regQ (some [0, 1]) Q) := wq_reg ..
theorem xf46r1 : wp T f46r1 e h Q = wpI (cW T) i46r1 e h (regQ (some [4]) Q) := wq_reg ..
theorem xb46 : wp T b46 e h Q = wp T (.seq f46r0 (.seq f46r1 .ret)) e h Q := rfl
theorem e46 : (type_of% @f46.eq_1) ∧ (type_of% @xb46) ∧ (type_of% @xf46r0) ∧ (type_of% @xf46r1) ∧ (type_of% @i46r0.eq_1) ∧ (type_of% @i46r1.eq_1) := ⟨@f46.eq_1, @xb46, @xf46r0, @xf46r1, @i46r0.eq_1, @i46r1.eq_1⟩
theorem xf47r0 : wp T f47r0 e h Q = wpI (cW T) i47r0 e h (regQ (some [0, 1, 2, 3, 4, 7]) Q) := wq_reg ..
theorem xf47r1 : wp T f47r1 e h Q = wpI (cW T) i47r1 e h (regQ (some [0, 1, 2, 3, 4, 24]) Q) := wq_reg ..
theorem xf47r2 : wp T f47r2 e h Q = wpI (cW T) i47r2 e h (regQ (some [0, 2, 3, 4]) Q) := wq_reg ..
theorem xf47r3 : wp T f47r3 e h Q = wpI (cW T) i47r3 e h (regQ (some [0, 2, 4]) Q) := wq_reg ..
theorem xf47r4 : wp T f47r4 e h Q = wpI (cW T) i47r4 e h (regQ (some [4, 35, 36, 37]) Q) := wq_reg ..
theorem xf47r5 : wp T f47r5 e h Q = wpI (cW T) i47r5 e h (regQ (some [4, 35, 36, 37, 38]) Q) := wq_reg ..
theorem xf47r6 : wp T f47r6 e h Q = wpI (cW T) i47r6 e h (regQ (some [4, 9, 35, 36, 37]) Q) := wq_reg ..
theorem xf47r7 : wp T f47r7 e h Q = wpI (cW T) i47r7 e h (regQ (some [4, 35, 36, 37, 42, 43, 44]) Q) := wq_reg ..
theorem xf47r8 : wp T f47r8 e h Q = wpI (cW T) i47r8 e h (regQ (some [4, 35, 36, 37, 42, 43, 44, 45]) Q) := wq_reg ..
theorem xf47r9 : wp T f47r9 e h Q = wpI (cW T) i47r9 e h (regQ (some [4, 11, 35, 36, 37, 42, 43, 44]) Q) := wq_reg ..
theorem xf47r10 : wp T f47r10 e h Q = wpI (cW T) i47r10 e h (regQ (some [4, 35, 36, 37, 42, 43, 44]) Q) := wq_reg ..
theorem xf47r11 : wp T f47r11 e h Q = wpI (cW T) i47r11 e h (regQ (some [4, 35, 36, 37, 42, 43, 44]) Q) := wq_reg ..
theorem xf47l0 : wp T f47l0 e h Q = wp T (.seq f47r8 (.seq (.cond (.t 45) .skip (.exit 2)) (.seq (.blk 3 (.seq f47r9 f47r10)) f47r11))) e h Q := rfl
theorem xf47r12 : wp T f47r12 e h Q = wpI (cW T) i47r12 e h (regQ (some [4, 35, 36, 37]) Q) := wq_reg ..
theorem xf47l1 : wp T f47l1 e h Q = wp T (.seq f47r5 (.seq (.cond (.t 38) .skip (.exit 0)) (.seq (.blk 1 (.seq f47r6 (.seq f47r7 (.blk 2 (.loop f47l0))))) f47r12))) e h Q := rfl
theorem xb47 : wp T b47 e h Q = wp T (.seq (.seq f47r0 (.seq f47r1 (.cond (.t 24) .ret .skip))) (.seq f47r2 (.seq f47r3 (.seq f47r4 (.blk 0 (.loop f47l1)))))) e h Q := rfl
theorem e47 : (type_of% @f47.eq_1) ∧ (type_of% @xb47) ∧ (type_of% @xf47r0) ∧ (type_of% @xf47r1) ∧ (type_of% @xf47r2) ∧ (type_of% @xf47r3) ∧ (type_of% @xf47r4) ∧ (type_of% @xf47r5) ∧ (type_of% @xf47r6) ∧ (type_of% @xf47r7) ∧ (type_of% @xf47r8) ∧ (type_of% @xf47r9) ∧ (type_of% @xf47r10) ∧ (type_of% @xf47r11) ∧ (type_of% @xf47l0) ∧ (type_of% @xf47r12) ∧ (type_of% @xf47l1) ∧ (type_of% @i47r0.eq_1) ∧ (type_of% @i47r1.eq_1) ∧ (type_of% @i47r2.eq_1) ∧ (type_of% @i47r3.eq_1) ∧ (type_of% @i47r4.eq_1) ∧ (type_of% @i47r5.eq_1) ∧ (type_of% @i47r6.eq_1) ∧ (type_of% @i47r7.eq_1) ∧ (type_of% @i47r8.eq_1) ∧ (type_of% @i47r9.eq_1) ∧ (type_of% @i47r10.eq_1) ∧ (type_of% @i47r11.eq_1) ∧ (type_of% @i47r12.eq_1) := ⟨@f47.eq_1, @xb47, @xf47r0, @xf47r1, @xf47r2, @xf47r3, @xf47r4, @xf47r5, @xf47r6, @xf47r7, @xf47r8, @xf47r9, @xf47r10, @xf47r11, @xf47l0, @xf47r12, @xf47l1, @i47r0.eq_1, @i47r1.eq_1, @i47r2.eq_1, @i47r3.eq_1, @i47r4.eq_1, @i47r5.eq_1, @i47r6.eq_1, @i47r7.eq_1, @i47r8.eq_1, @i47r9.eq_1, @i47r10.eq_1, @i47r11.eq_1, @i47r12.eq_1⟩
theorem xf48r0 : wp T f48r0 e h Q = wpI (cW T) i48r0 e h (regQ (some [0, 1, 2]) Q) := wq_reg ..
theorem xf48r1 : wp T f48r1 e h Q = wpI (cW T) i48r1 e h (regQ (some [0, 1, 2, 18]) Q) := wq_reg ..
theorem xf48r2 : wp T f48r2 e h Q = wpI (cW T) i48r2 e h (regQ (some [6]) Q) := wq_reg ..
theorem xf48r3 : wp T f48r3 e h Q = wpI (cW T) i48r3 e h (regQ (some [0, 1, 2]) Q) := wq_reg ..
theorem xf48r4 : wp T f48r4 e h Q = wpI (cW T) i48r4 e h (regQ (some [0, 1, 2, 25]) Q) := wq_reg ..
theorem xf48r5 : wp T f48r5 e h Q = wpI (cW T) i48r5 e h (regQ (some [6]) Q) := wq_reg ..
theorem xf48r6 : wp T f48r6 e h Q = wpI (cW T) i48r6 e h (regQ (some [0, 1, 2, 7]) Q) := wq_reg ..
theorem xf48r7 : wp T f48r7 e h Q = wpI (cW T) i48r7 e h (regQ (some [0, 1, 2, 7, 35]) Q) := wq_reg ..
theorem xf48r8 : wp T f48r8 e h Q = wpI (cW T) i48r8 e h (regQ (some [0, 1, 2, 7, 8]) Q) := wq_reg ..
theorem xf48r9 : wp T f48r9 e h Q = wpI (cW T) i48r9 e h (regQ (some [0, 1, 2, 7, 8, 9]) Q) := wq_reg ..
theorem xf48r10 : wp T f48r10 e h Q = wpI (cW T) i48r10 e h (regQ (some [0, 1, 2, 7, 8, 9, 51]) Q) := wq_reg ..
theorem xf48r11 : wp T f48r11 e h Q = wpI (cW T) i48r11 e h (regQ (some [0, 1, 2, 7, 8, 9]) Q) := wq_reg ..
theorem xf48r12 : wp T f48r12 e h Q = wpI (cW T) i48r12 e h (regQ (some [0, 1, 2, 7, 8, 9]) Q) := wq_reg ..
theorem xf48l0 : wp T f48l0 e h Q = wp T (.seq (.seq f48r10 (.cond (.t 51) .skip (.exit 2))) (.seq (.blk 3 f48r11) f48r12)) e h Q := rfl
theorem xf48r13 : wp T f48r13 e h Q = wpI (cW T) i48r13 e h (regQ (some [0, 1, 2, 7]) Q) := wq_reg ..
theorem xf48l1 : wp T f48l1 e h Q = wp T (.seq (.seq f48r7 (.cond (.t 35) .skip (.exit 0))) (.seq (.blk 1 (.seq f48r8 (.seq f48r9 (.blk 2 (.loop f48l0))))) f48r13)) e h Q := rfl
theorem xf48r14 : wp T f48r14 e h Q = wpI (cW T) i48r14 e h (regQ (some [6]) Q) := wq_reg ..
theorem xb48 : wp T b48 e h Q = wp T (.seq f48r0 (.seq (.seq f48r1 (.cond (.t 18) (.seq f48r2 .ret) .skip)) (.seq f48r3 (.seq (.seq f48r4 (.cond (.t 25) (.seq f48r5 .ret) .skip)) (.seq (.seq f48r6 (.blk 0 (.loop f48l1))) (.seq f48r14 .ret)))))) e h Q := rfl
theorem e48 : (type_of% @f48.eq_1) ∧ (type_of% @xb48) ∧ (type_of% @xf48r0) ∧ (type_of% @xf48r1) ∧ (type_of% @xf48r2) ∧ (type_of% @xf48r3) ∧ (type_of% @xf48r4) ∧ (type_of% @xf48r5) ∧ (type_of% @xf48r6) ∧ (type_of% @xf48r7) ∧ (type_of% @xf48r8) ∧ (type_of% @xf48r9) ∧ (type_of% @xf48r10) ∧ (type_of% @xf48r11) ∧ (type_of% @xf48r12) ∧ (type_of% @xf48l0) ∧ (type_of% @xf48r13) ∧ (type_of% @xf48l1) ∧ (type_of% @xf48r14) ∧ (type_of% @i48r0.eq_1) ∧ (type_of% @i48r1.eq_1) ∧ (type_of% @i48r2.eq_1) ∧ (type_of% @i48r3.eq_1) ∧ (type_of% @i48r4.eq_1) ∧ (type_of% @i48r5.eq_1) ∧ (type_of% @i48r6.eq_1) ∧ (type_of% @i48r7.eq_1) ∧ (type_of% @i48r8.eq_1) ∧ (type_of% @i48r9.eq_1) ∧ (type_of% @i48r10.eq_1) ∧ (type_of% @i48r11.eq_1) ∧ (type_of% @i48r12.eq_1) ∧ (type_of% @i48r13.eq_1) ∧ (type_of% @i48r14.eq_1) := ⟨@f48.eq_1, @xb48, @xf48r0, @xf48r1, @xf48r2, @xf48r3, @xf48r4, @xf48r5, @xf48r6, @xf48r7, @xf48r8, @xf48r9, @xf48r10, @xf48r11, @xf48r12, @xf48l0, @xf48r13, @xf48l1, @xf48r14, @i48r0.eq_1, @i48r1.eq_1, @i48r2.eq_1, @i48r3.eq_1, @i48r4.eq_1, @i48r5.eq_1, @i48r6.eq_1, @i48r7.eq_1, @i48r8.eq_1, @i48r9.eq_1, @i48r10.eq_1, @i48r11.eq_1, @i48r12.eq_1, @i48r13.eq_1, @i48r14.eq_1⟩
theorem xf49r0 : wp T f49r0 e h Q = wpI (cW T) i49r0 e h (regQ (some [0, 1]) Q) := wq_reg ..
theorem xf49r1 : wp T f49r1 e h Q = wpI (cW T) i49r1 e h (regQ (some [4]) Q) := wq_reg ..
theorem xb49 : wp T b49 e h Q = wp T (.seq f49r0 (.seq f49r1 .ret)) e h Q := rfl
theorem e49 : (type_of% @f49.eq_1) ∧ (type_of% @xb49) ∧ (type_of% @xf49r0) ∧ (type_of% @xf49r1) ∧ (type_of% @i49r0.eq_1) ∧ (type_of% @i49r1.eq_1) := ⟨@f49.eq_1, @xb49, @xf49r0, @xf49r1, @i49r0.eq_1, @i49r1.eq_1⟩
theorem xf50r0 : wp T f50r0 e h Q = wpI (cW T) i50r0 e h (regQ (some [0, 1]) Q) := wq_reg ..
theorem xf50r1 : wp T f50r1 e h Q = wpI (cW T) i50r1 e h (regQ (some [0, 1, 5]) Q) := wq_reg ..
theorem xf50r2 : wp T f50r2 e h Q = wpI (cW T) i50r2 e h (regQ (some [0, 1, 5, 9]) Q) := wq_reg ..
theorem xf50r3 : wp T f50r3 e h Q = wpI (cW T) i50r3 e h (regQ (some [0, 1, 5, 17]) Q) := wq_reg ..
theorem xf50r4 : wp T f50r4 e h Q = wpI (cW T) i50r4 e h (regQ (some [4]) Q) := wq_reg ..
theorem xf50r5 : wp T f50r5 e h Q = wpI (cW T) i50r5 e h (regQ (some [0, 1, 5]) Q) := wq_reg ..
theorem xf50l0 : wp T f50l0 e h Q = wp T (.seq (.seq f50r2 (.cond (.t 9) .skip (.exit 0))) (.seq (.blk 1 (.seq f50r3 (.cond (.t 17) (.seq f50r4 .ret) .skip))) f50r5)) e h Q := rfl
theorem xf50r6 : wp T f50r6 e h Q = wpI (cW T) i50r6 e h (regQ (some [4]) Q) := wq_reg ..
theorem xb50 : wp T b50 e h Q = wp T (.seq f50r0 (.seq (.seq f50r1 (.blk 0 (.loop f50l0))) (.seq f50r6 .ret))) e h Q := rfl
theorem e50 : (type_of% @f50.eq_1) ∧ (type_of% @xb50) ∧ (type_of% @xf50r0) ∧ (type_of% @xf50r1) ∧ (type_of% @xf50r2) ∧ (type_of% @xf50r3) ∧ (type_of% @xf50r4) ∧ (type_of% @xf50r5) ∧ (type_of% @xf50l0) ∧ (type_of% @xf50r6) ∧ (type_of% @i50r0.eq_1) ∧ (type_of% @i50r1.eq_1) ∧ (type_of% @i50r2.eq_1) ∧ (type_of% @i50r3.eq_1) ∧ (type_of% @i50r4.eq_1) ∧ (type_of% @i50r5.eq_1) ∧ (type_of% @i50r6.eq_1) := ⟨@f50.eq_1, @xb50, @xf50r0, @xf50r1, @xf50r2, @xf50r3, @xf50r4, @xf50r5, @xf50l0, @xf50r6, @i50r0.eq_1, @i50r1.eq_1, @i50r2.eq_1, @i50r3.eq_1, @i50r4.eq_1, @i50r5.eq_1, @i50r6.eq_1⟩
theorem xf53r0 : wp T f53r0 e h Q = wpI (cW T) i53r0 e h (regQ (some [0, 1]) Q) := wq_reg ..
theorem xf53r1 : wp T f53r1 e h Q = wpI (cW T) i53r1 e h (regQ (some [0, 1, 7, 8]) Q) := wq_reg ..
theorem xf53r2 : wp T f53r2 e h Q = wpI (cW T) i53r2 e h (regQ (some [0, 1, 7, 8, 9]) Q) := wq_reg ..
theorem xf53r3 : wp T f53r3 e h Q = wpI (cW T) i53r3 e h (regQ (some [0, 1, 5, 7, 8]) Q) := wq_reg ..
theorem xf53r4 : wp T f53r4 e h Q = wpI (cW T) i53r4 e h (regQ (some [0, 1, 5, 7, 8, 16]) Q) := wq_reg ..
theorem xf53r5 : wp T f53r5 e h Q = wpI (cW T) i53r5 e h (regQ (some [4]) Q) := wq_reg ..
theorem xf53r6 : wp T f53r6 e h Q = wpI (cW T) i53r6 e h (regQ (some [0, 1, 7, 8]) Q) := wq_reg ..
theorem xf53l0 : wp T f53l0 e h Q = wp T (.seq f53r2 (.seq (.cond (.t 9) .skip (.exit 0)) (.seq (.blk 1 (.seq f53r3 (.seq f53r4 (.cond (.t 16) (.seq f53r5 .ret) .skip)))) f53r6))) e h Q := rfl
theorem xf53r7 : wp T f53r7 e h Q = wpI (cW T) i53r7 e h (regQ (some [4]) Q) := wq_reg ..
theorem xb53 : wp T b53 e h Q = wp T (.seq f53r0 (.seq (.seq f53r1 (.blk 0 (.loop f53l0))) (.seq f53r7 .ret))) e h Q := rfl
theorem e53 : (type_of% @f53.eq_1) ∧ (type_of% @xb53) ∧ (type_of% @xf53r0) ∧ (type_of% @xf53r1) ∧ (type_of% @xf53r2) ∧ (type_of% @xf53r3) ∧ (type_of% @xf53r4) ∧ (type_of% @xf53r5) ∧ (type_of% @xf53r6) ∧ (type_of% @xf53l0) ∧ (type_of% @xf53r7) ∧ (type_of% @i53r0.eq_1) ∧ (type_of% @i53r1.eq_1) ∧ (type_of% @i53r2.eq_1) ∧ (type_of% @i53r3.eq_1) ∧ (type_of% @i53r4.eq_1) ∧ (type_of% @i53r5.eq_1) ∧ (type_of% @i53r6.eq_1) ∧ (type_of% @i53r7.eq_1) := ⟨@f53.eq_1, @xb53, @xf53r0, @xf53r1, @xf53r2, @xf53r3, @xf53r4, @xf53r5, @xf53r6, @xf53l0, @xf53r7, @i53r0.eq_1, @i53r1.eq_1, @i53r2.eq_1, @i53r3.eq_1, @i53r4.eq_1, @i53r5.eq_1, @i53r6.eq_1, @i53r7.eq_1⟩
theorem xf58r0 : wp T f58r0 e h Q = wpI (cW T) i58r0 e h (regQ (some [0, 1]) Q) := wq_reg ..
theorem xf58r1 : wp T f58r1 e h Q = wpI (cW T) i58r1 e h (regQ (some [0, 1, 7, 8]) Q) := wq_reg ..
theorem xf58r2 : wp T f58r2 e h Q = wpI (cW T) i58r2 e h (regQ (some [0, 1, 7, 8, 9]) Q) := wq_reg ..
theorem xf58r3 : wp T f58r3 e h Q = wpI (cW T) i58r3 e h (regQ (some [0, 1, 5, 7, 8]) Q) := wq_reg ..
theorem xf58r4 : wp T f58r4 e h Q = wpI (cW T) i58r4 e h (regQ (some [0, 1, 5, 7, 8, 16]) Q) := wq_reg ..
theorem xf58r5 : wp T f58r5 e h Q = wpI (cW T) i58r5 e h (regQ (some [4]) Q) := wq_reg ..
theorem xf58r6 : wp T f58r6 e h Q = wpI (cW T) i58r6 e h (regQ (some [0, 1, 7, 8]) Q) := wq_reg ..
theorem xf58l0 : wp T f58l0 e h Q = wp T (.seq f58r2 (.seq (.cond (.t 9) .skip (.exit 0)) (.seq (.blk 1 (.seq f58r3 (.seq f58r4 (.cond (.t 16) (.seq f58r5 .ret) .skip)))) f58r6))) e h Q := rfl
theorem xf58r7 : wp T f58r7 e h Q = wpI (cW T) i58r7 e h (regQ (some [4]) Q) := wq_reg ..
theorem xb58 : wp T b58 e h Q = wp T (.seq f58r0 (.seq (.seq f58r1 (.blk 0 (.loop f58l0))) (.seq f58r7 .ret))) e h Q := rfl
theorem e58 : (type_of% @f58.eq_1) ∧ (type_of% @xb58) ∧ (type_of% @xf58r0) ∧ (type_of% @xf58r1) ∧ (type_of% @xf58r2) ∧ (type_of% @xf58r3) ∧ (type_of% @xf58r4) ∧ (type_of% @xf58r5) ∧ (type_of% @xf58r6) ∧ (type_of% @xf58l0) ∧ (type_of% @xf58r7) ∧ (type_of% @i58r0.eq_1) ∧ (type_of% @i58r1.eq_1) ∧ (type_of% @i58r2.eq_1) ∧ (type_of% @i58r3.eq_1) ∧ (type_of% @i58r4.eq_1) ∧ (type_of% @i58r5.eq_1) ∧ (type_of% @i58r6.eq_1) ∧ (type_of% @i58r7.eq_1) := ⟨@f58.eq_1, @xb58, @xf58r0, @xf58r1, @xf58r2, @xf58r3, @xf58r4, @xf58r5, @xf58r6, @xf58l0, @xf58r7, @i58r0.eq_1, @i58r1.eq_1, @i58r2.eq_1, @i58r3.eq_1, @i58r4.eq_1, @i58r5.eq_1, @i58r6.eq_1, @i58r7.eq_1⟩
theorem xf64r0 : wp T f64r0 e h Q = wpI (cW T) i64r0 e h (regQ (some [0, 1]) Q) := wq_reg ..
theorem xf64r1 : wp T f64r1 e h Q = wpI (cW T) i64r1 e h (regQ (some [0, 1, 7, 8]) Q) := wq_reg ..
theorem xf64r2 : wp T f64r2 e h Q = wpI (cW T) i64r2 e h (regQ (some [0, 1, 7, 8, 9]) Q) := wq_reg ..
theorem xf64r3 : wp T f64r3 e h Q = wpI (cW T) i64r3 e h (regQ (some [0, 1, 5, 7, 8]) Q) := wq_reg ..
theorem xf64r4 : wp T f64r4 e h Q = wpI (cW T) i64r4 e h (regQ (some [0, 1, 5, 7, 8, 16]) Q) := wq_reg ..
theorem xf64r5 : wp T f64r5 e h Q = wpI (cW T) i64r5 e h (regQ (some [4]) Q) := wq_reg ..
theorem xf64r6 : wp T f64r6 e h Q = wpI (cW T) i64r6 e h (regQ (some [0, 1, 7, 8]) Q) := wq_reg ..
theorem xf64l0 : wp T f64l0 e h Q = wp T (.seq f64r2 (.seq (.cond (.t 9) .skip (.exit 0)) (.seq (.blk 1 (.seq f64r3 (.seq f64r4 (.cond (.t 16) (.seq f64r5 .ret) .skip)))) f64r6))) e h Q := rfl
theorem xf64r7 : wp T f64r7 e h Q = wpI (cW T) i64r7 e h (regQ (some [4]) Q) := wq_reg ..
theorem xb64 : wp T b64 e h Q = wp T (.seq f64r0 (.seq (.seq f64r1 (.blk 0 (.loop f64l0))) (.seq f64r7 .ret))) e h Q := rfl
theorem e64 : (type_of% @f64.eq_1) ∧ (type_of% @xb64) ∧ (type_of% @xf64r0) ∧ (type_of% @xf64r1) ∧ (type_of% @xf64r2) ∧ (type_of% @xf64r3) ∧ (type_of% @xf64r4) ∧ (type_of% @xf64r5) ∧ (type_of% @xf64r6) ∧ (type_of% @xf64l0) ∧ (type_of% @xf64r7) ∧ (type_of% @i64r0.eq_1) ∧ (type_of% @i64r1.eq_1) ∧ (type_of% @i64r2.eq_1) ∧ (type_of% @i64r3.eq_1) ∧ (type_of% @i64r4.eq_1) ∧ (type_of% @i64r5.eq_1) ∧ (type_of% @i64r6.eq_1) ∧ (type_of% @i64r7.eq_1) := ⟨@f64.eq_1, @xb64, @xf64r0, @xf64r1, @xf64r2, @xf64r3, @xf64r4, @xf64r5, @xf64r6, @xf64l0, @xf64r7, @i64r0.eq_1, @i64r1.eq_1, @i64r2.eq_1, @i64r3.eq_1, @i64r4.eq_1, @i64r5.eq_1, @i64r6.eq_1, @i64r7.eq_1⟩
end Zc17
