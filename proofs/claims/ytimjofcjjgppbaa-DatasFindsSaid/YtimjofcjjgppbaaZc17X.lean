/-
  What each part of the code does, as an equation.
-/
import Derived.Test.YtimjofcjjgppbaaTab
import Derived.Test.YtimjofcjjgppbaaZvWp
namespace Zc17
open Go Zv Zs
variable (T : Tab) (e : Env) (h : Hp) (Q : Out → Prop)
theorem xf3r0 : wp T f3r0 e h Q = wpI (cW T) i3r0 e h (regQ (some [0]) Q) := wq_reg ..
theorem xf3r1 : wp T f3r1 e h Q = wpI (cW T) i3r1 e h (regQ (some [0, 4]) Q) := wq_reg ..
theorem xf3r2 : wp T f3r2 e h Q = wpI (cW T) i3r2 e h (regQ (some [2]) Q) := wq_reg ..
theorem xf3r3 : wp T f3r3 e h Q = wpI (cW T) i3r3 e h (regQ (some [2]) Q) := wq_reg ..
theorem xb3 : wp T b3 e h Q = wp T (.seq f3r0 (.seq (.seq f3r1 (.cond (.t 4) (.seq f3r2 .ret) .skip)) (.seq f3r3 .ret))) e h Q := rfl
theorem e3 : (type_of% @f3.eq_1) ∧ (type_of% @xb3) ∧ (type_of% @xf3r0) ∧ (type_of% @xf3r1) ∧ (type_of% @xf3r2) ∧ (type_of% @xf3r3) ∧ (type_of% @i3r0.eq_1) ∧ (type_of% @i3r1.eq_1) ∧ (type_of% @i3r2.eq_1) ∧ (type_of% @i3r3.eq_1) := ⟨@f3.eq_1, @xb3, @xf3r0, @xf3r1, @xf3r2, @xf3r3, @i3r0.eq_1, @i3r1.eq_1, @i3r2.eq_1, @i3r3.eq_1⟩
theorem xf8r0 : wp T f8r0 e h Q = wpI (cW T) i8r0 e h (regQ (some [0, 1, 2]) Q) := wq_reg ..
theorem xf8r1 : wp T f8r1 e h Q = wpI (cW T) i8r1 e h (regQ (some [0, 1, 2, 18]) Q) := wq_reg ..
theorem xf8r2 : wp T f8r2 e h Q = wpI (cW T) i8r2 e h (regQ (some [6]) Q) := wq_reg ..
theorem xf8r3 : wp T f8r3 e h Q = wpI (cW T) i8r3 e h (regQ (some [0, 1, 2, 26]) Q) := wq_reg ..
theorem xf8r4 : wp T f8r4 e h Q = wpI (cW T) i8r4 e h (regQ (some [6]) Q) := wq_reg ..
theorem xf8r5 : wp T f8r5 e h Q = wpI (cW T) i8r5 e h (regQ (some [0, 1, 2, 7, 8]) Q) := wq_reg ..
theorem xf8r6 : wp T f8r6 e h Q = wpI (cW T) i8r6 e h (regQ (some [0, 1, 2, 7, 8, 9, 10]) Q) := wq_reg ..
theorem xf8r7 : wp T f8r7 e h Q = wpI (cW T) i8r7 e h (regQ (some [0, 1, 2, 7, 8, 9, 10, 11, 12, 13]) Q) := wq_reg ..
theorem xf8r8 : wp T f8r8 e h Q = wpI (cW T) i8r8 e h (regQ (some [0, 2, 7, 8, 9, 10, 11, 12, 13, 14, 15, 16]) Q) := wq_reg ..
theorem xf8r9 : wp T f8r9 e h Q = wpI (cW T) i8r9 e h (regQ (some [6]) Q) := wq_reg ..
theorem xb8 : wp T b8 e h Q = wp T (.seq f8r0 (.seq (.seq f8r1 (.cond (.t 18) (.seq f8r2 .ret) .skip)) (.seq (.seq f8r3 (.cond (.t 26) (.seq f8r4 .ret) .skip)) (.seq f8r5 (.seq f8r6 (.seq f8r7 (.seq f8r8 (.seq f8r9 .ret)))))))) e h Q := rfl
theorem e8 : (type_of% @f8.eq_1) ∧ (type_of% @xb8) ∧ (type_of% @xf8r0) ∧ (type_of% @xf8r1) ∧ (type_of% @xf8r2) ∧ (type_of% @xf8r3) ∧ (type_of% @xf8r4) ∧ (type_of% @xf8r5) ∧ (type_of% @xf8r6) ∧ (type_of% @xf8r7) ∧ (type_of% @xf8r8) ∧ (type_of% @xf8r9) ∧ (type_of% @i8r0.eq_1) ∧ (type_of% @i8r1.eq_1) ∧ (type_of% @i8r2.eq_1) ∧ (type_of% @i8r3.eq_1) ∧ (type_of% @i8r4.eq_1) ∧ (type_of% @i8r5.eq_1) ∧ (type_of% @i8r6.eq_1) ∧ (type_of% @i8r7.eq_1) ∧ (type_of% @i8r8.eq_1) ∧ (type_of% @i8r9.eq_1) := ⟨@f8.eq_1, @xb8, @xf8r0, @xf8r1, @xf8r2, @xf8r3, @xf8r4, @xf8r5, @xf8r6, @xf8r7, @xf8r8, @xf8r9, @i8r0.eq_1, @i8r1.eq_1, @i8r2.eq_1, @i8r3.eq_1, @i8r4.eq_1, @i8r5.eq_1, @i8r6.eq_1, @i8r7.eq_1, @i8r8.eq_1, @i8r9.eq_1⟩
theorem xf9r0 : wp T f9r0 e h Q = wpI (cW T) i9r0 e h (regQ (some [0]) Q) := wq_reg ..
theorem xf9r1 : wp T f9r1 e h Q = wpI (cW T) i9r1 e h (regQ (some [0, 11]) Q) := wq_reg ..
theorem xf9r2 : wp T f9r2 e h Q = wpI (cW T) i9r2 e h (regQ (some [2]) Q) := wq_reg ..
theorem xf9r3 : wp T f9r3 e h Q = wpI (cW T) i9r3 e h (regQ (some [0, 19]) Q) := wq_reg ..
theorem xf9r4 : wp T f9r4 e h Q = wpI (cW T) i9r4 e h (regQ (some [2]) Q) := wq_reg ..
theorem xf9r5 : wp T f9r5 e h Q = wpI (cW T) i9r5 e h (regQ (some [0, 3]) Q) := wq_reg ..
theorem xf9r6 : wp T f9r6 e h Q = wpI (cW T) i9r6 e h (regQ (some [0, 3, 23]) Q) := wq_reg ..
theorem xf9r7 : wp T f9r7 e h Q = wpI (cW T) i9r7 e h (regQ (some [0, 3, 4, 5]) Q) := wq_reg ..
theorem xf9r8 : wp T f9r8 e h Q = wpI (cW T) i9r8 e h (regQ (some [0, 3, 4, 54]) Q) := wq_reg ..
theorem xf9r9 : wp T f9r9 e h Q = wpI (cW T) i9r9 e h (regQ (some [2]) Q) := wq_reg ..
theorem xf9r10 : wp T f9r10 e h Q = wpI (cW T) i9r10 e h (regQ (some [0, 3, 4, 6]) Q) := wq_reg ..
theorem xf9r11 : wp T f9r11 e h Q = wpI (cW T) i9r11 e h (regQ (some [0, 3, 4, 6, 62]) Q) := wq_reg ..
theorem xf9r12 : wp T f9r12 e h Q = wpI (cW T) i9r12 e h (regQ (some [0, 3, 4, 6, 7, 8, 9]) Q) := wq_reg ..
theorem xf9r13 : wp T f9r13 e h Q = wpI (cW T) i9r13 e h (regQ (some [0, 3, 4, 6, 91]) Q) := wq_reg ..
theorem xf9r14 : wp T f9r14 e h Q = wpI (cW T) i9r14 e h (regQ (some [2]) Q) := wq_reg ..
theorem xf9r15 : wp T f9r15 e h Q = wpI (cW T) i9r15 e h (regQ (some [0, 3, 4, 6]) Q) := wq_reg ..
theorem xf9l0 : wp T f9l0 e h Q = wp T (.seq (.seq f9r11 (.cond (.t 62) .skip (.exit 2))) (.seq (.blk 3 (.seq f9r12 (.seq f9r13 (.cond (.t 91) (.seq f9r14 .ret) .skip)))) f9r15)) e h Q := rfl
theorem xf9r16 : wp T f9r16 e h Q = wpI (cW T) i9r16 e h (regQ (some [0, 3]) Q) := wq_reg ..
theorem xf9l1 : wp T f9l1 e h Q = wp T (.seq (.seq f9r6 (.cond (.t 23) .skip (.exit 0))) (.seq (.blk 1 (.seq f9r7 (.seq (.seq f9r8 (.cond (.t 54) (.seq f9r9 .ret) .skip)) (.seq f9r10 (.blk 2 (.loop f9l0)))))) f9r16)) e h Q := rfl
theorem xf9r17 : wp T f9r17 e h Q = wpI (cW T) i9r17 e h (regQ (some [2]) Q) := wq_reg ..
theorem xb9 : wp T b9 e h Q = wp T (.seq f9r0 (.seq (.seq f9r1 (.cond (.t 11) (.seq f9r2 .ret) .skip)) (.seq (.seq f9r3 (.cond (.t 19) (.seq f9r4 .ret) .skip)) (.seq (.seq f9r5 (.blk 0 (.loop f9l1))) (.seq f9r17 .ret))))) e h Q := rfl
theorem e9 : (type_of% @f9.eq_1) ∧ (type_of% @xb9) ∧ (type_of% @xf9r0) ∧ (type_of% @xf9r1) ∧ (type_of% @xf9r2) ∧ (type_of% @xf9r3) ∧ (type_of% @xf9r4) ∧ (type_of% @xf9r5) ∧ (type_of% @xf9r6) ∧ (type_of% @xf9r7) ∧ (type_of% @xf9r8) ∧ (type_of% @xf9r9) ∧ (type_of% @xf9r10) ∧ (type_of% @xf9r11) ∧ (type_of% @xf9r12) ∧ (type_of% @xf9r13) ∧ (type_of% @xf9r14) ∧ (type_of% @xf9r15) ∧ (type_of% @xf9l0) ∧ (type_of% @xf9r16) ∧ (type_of% @xf9l1) ∧ (type_of% @xf9r17) ∧ (type_of% @i9r0.eq_1) ∧ (type_of% @i9r1.eq_1) ∧ (type_of% @i9r2.eq_1) ∧ (type_of% @i9r3.eq_1) ∧ (type_of% @i9r4.eq_1) ∧ (type_of% @i9r5.eq_1) ∧ (type_of% @i9r6.eq_1) ∧ (type_of% @i9r7.eq_1) ∧ (type_of% @i9r8.eq_1) ∧ (type_of% @i9r9.eq_1) ∧ (type_of% @i9r10.eq_1) ∧ (type_of% @i9r11.eq_1) ∧ (type_of% @i9r12.eq_1) ∧ (type_of% @i9r13.eq_1) ∧ (type_of% @i9r14.eq_1) ∧ (type_of% @i9r15.eq_1) ∧ (type_of% @i9r16.eq_1) ∧ (type_of% @i9r17.eq_1) := ⟨@f9.eq_1, @xb9, @xf9r0, @xf9r1, @xf9r2, @xf9r3, @xf9r4, @xf9r5, @xf9r6, @xf9r7, @xf9r8, @xf9r9, @xf9r10, @xf9r11, @xf9r12, @xf9r13, @xf9r14, @xf9r15, @xf9l0, @xf9r16, @xf9l1, @xf9r17, @i9r0.eq_1, @i9r1.eq_1, @i9r2.eq_1, @i9r3.eq_1, @i9r4.eq_1, @i9r5.eq_1, @i9r6.eq_1, @i9r7.eq_1, @i9r8.eq_1, @i9r9.eq_1, @i9r10.eq_1, @i9r11.eq_1, @i9r12.eq_1, @i9r13.eq_1, @i9r14.eq_1, @i9r15.eq_1, @i9r16.eq_1, @i9r17.eq_1⟩
theorem xf11r0 : wp T f11r0 e h Q = wpI (cW T) i11r0 e h (regQ (some [0]) Q) := wq_reg ..
theorem xf11r1 : wp T f11r1 e h Q = wpI (cW T) i11r1 e h (regQ (some [0, 8]) Q) := wq_reg ..
theorem xf11r2 : wp T f11r2 e h Q = wpI (cW T) i11r2 e h (regQ (some [2]) Q) := wq_reg ..
theorem xf11r3 : wp T f11r3 e h Q = wpI (cW T) i11r3 e h (regQ (some [0, 3]) Q) := wq_reg ..
theorem xf11r4 : wp T f11r4 e h Q = wpI (cW T) i11r4 e h (regQ (some [0, 3, 4]) Q) := wq_reg ..
theorem xf11r5 : wp T f11r5 e h Q = wpI (cW T) i11r5 e h (regQ (some [0, 3, 4, 12]) Q) := wq_reg ..
theorem xf11r6 : wp T f11r6 e h Q = wpI (cW T) i11r6 e h (regQ (some [0, 3, 4]) Q) := wq_reg ..
theorem xf11r7 : wp T f11r7 e h Q = wpI (cW T) i11r7 e h (regQ (some [0, 3, 4, 39]) Q) := wq_reg ..
theorem xf11r8 : wp T f11r8 e h Q = wpI (cW T) i11r8 e h (regQ (some [2]) Q) := wq_reg ..
theorem xf11r9 : wp T f11r9 e h Q = wpI (cW T) i11r9 e h (regQ (some [0, 3, 4, 5]) Q) := wq_reg ..
theorem xf11r10 : wp T f11r10 e h Q = wpI (cW T) i11r10 e h (regQ (some [0, 3, 4, 5, 47]) Q) := wq_reg ..
theorem xf11r11 : wp T f11r11 e h Q = wpI (cW T) i11r11 e h (regQ (some [0, 3, 4, 5]) Q) := wq_reg ..
theorem xf11r12 : wp T f11r12 e h Q = wpI (cW T) i11r12 e h (regQ (some [0, 3, 4, 5, 85]) Q) := wq_reg ..
theorem xf11r13 : wp T f11r13 e h Q = wpI (cW T) i11r13 e h (regQ (some [2]) Q) := wq_reg ..
theorem xf11r14 : wp T f11r14 e h Q = wpI (cW T) i11r14 e h (regQ (some [0, 3, 4, 5]) Q) := wq_reg ..
theorem xf11l0 : wp T f11l0 e h Q = wp T (.seq (.seq f11r10 (.cond (.t 47) .skip (.exit 2))) (.seq (.blk 3 (.seq f11r11 (.seq f11r12 (.cond (.t 85) (.seq f11r13 .ret) .skip)))) f11r14)) e h Q := rfl
theorem xf11r15 : wp T f11r15 e h Q = wpI (cW T) i11r15 e h (regQ (some [0, 3, 4]) Q) := wq_reg ..
theorem xf11l1 : wp T f11l1 e h Q = wp T (.seq (.seq f11r5 (.cond (.t 12) .skip (.exit 0))) (.seq (.blk 1 (.seq f11r6 (.seq (.seq f11r7 (.cond (.t 39) (.seq f11r8 .ret) .skip)) (.seq f11r9 (.blk 2 (.loop f11l0)))))) f11r15)) e h Q := rfl
theorem xf11r16 : wp T f11r16 e h Q = wpI (cW T) i11r16 e h (regQ (some [2]) Q) := wq_reg ..
theorem xb11 : wp T b11 e h Q = wp T (.seq f11r0 (.seq (.seq f11r1 (.cond (.t 8) (.seq f11r2 .ret) .skip)) (.seq f11r3 (.seq (.seq f11r4 (.blk 0 (.loop f11l1))) (.seq f11r16 .ret))))) e h Q := rfl
theorem e11 : (type_of% @f11.eq_1) ∧ (type_of% @xb11) ∧ (type_of% @xf11r0) ∧ (type_of% @xf11r1) ∧ (type_of% @xf11r2) ∧ (type_of% @xf11r3) ∧ (type_of% @xf11r4) ∧ (type_of% @xf11r5) ∧ (type_of% @xf11r6) ∧ (type_of% @xf11r7) ∧ (type_of% @xf11r8) ∧ (type_of% @xf11r9) ∧ (type_of% @xf11r10) ∧ (type_of% @xf11r11) ∧ (type_of% @xf11r12) ∧ (type_of% @xf11r13) ∧ (type_of% @xf11r14) ∧ (type_of% @xf11l0) ∧ (type_of% @xf11r15) ∧ (type_of% @xf11l1) ∧ (type_of% @xf11r16) ∧ (type_of% @i11r0.eq_1) ∧ (type_of% @i11r1.eq_1) ∧ (type_of% @i11r2.eq_1) ∧ (type_of% @i11r3.eq_1) ∧ (type_of% @i11r4.eq_1) ∧ (type_of% @i11r5.eq_1) ∧ (type_of% @i11r6.eq_1) ∧ (type_of% @i11r7.eq_1) ∧ (type_of% @i11r8.eq_1) ∧ (type_of% @i11r9.eq_1) ∧ (type_of% @i11r10.eq_1) ∧ (type_of% @i11r11.eq_1) ∧ (type_of% @i11r12.eq_1) ∧ (type_of% @i11r13.eq_1) ∧ (type_of% @i11r14.eq_1) ∧ (type_of% @i11r15.eq_1) ∧ (type_of% @i11r16.eq_1) := ⟨@f11.eq_1, @xb11, @xf11r0, @xf11r1, @xf11r2, @xf11r3, @xf11r4, @xf11r5, @xf11r6, @xf11r7, @xf11r8, @xf11r9, @xf11r10, @xf11r11, @xf11r12, @xf11r13, @xf11r14, @xf11l0, @xf11r15, @xf11l1, @xf11r16, @i11r0.eq_1, @i11r1.eq_1, @i11r2.eq_1, @i11r3.eq_1, @i11r4.eq_1, @i11r5.eq_1, @i11r6.eq_1, @i11r7.eq_1, @i11r8.eq_1, @i11r9.eq_1, @i11r10.eq_1, @i11r11.eq_1, @i11r12.eq_1, @i11r13.eq_1, @i11r14.eq_1, @i11r15.eq_1, @i11r16.eq_1⟩
theorem xf14r0 : wp T f14r0 e h Q = wpI (cW T) i14r0 e h (regQ (some [0, 1]) Q) := wq_reg ..
theorem xf14r1 : wp T f14r1 e h Q = wpI (cW T) i14r1 e h (regQ (some [4]) Q) := wq_reg ..
theorem xb14 : wp T b14 e h Q = wp T (.seq f14r0 (.seq f14r1 .ret)) e h Q := rfl
theorem e14 : (type_of% @f14.eq_1) ∧ (type_of% @xb14) ∧ (type_of% @xf14r0) ∧ (type_of% @xf14r1) ∧ (type_of% @i14r0.eq_1) ∧ (type_of% @i14r1.eq_1) := ⟨@f14.eq_1, @xb14, @xf14r0, @xf14r1, @i14r0.eq_1, @i14r1.eq_1⟩
theorem xf15r0 : wp T f15r0 e h Q = wpI (cW T) i15r0 e h (regQ (some [0, 1]) Q) := wq_reg ..
theorem xf15r1 : wp T f15r1 e h Q = wpI (cW T) i15r1 e h (regQ (some [0, 1, 7]) Q) := wq_reg ..
theorem xf15r2 : wp T f15r2 e h Q = wpI (cW T) i15r2 e h (regQ (some [4]) Q) := wq_reg ..
theorem xf15r3 : wp T f15r3 e h Q = wpI (cW T) i15r3 e h (regQ (some [0, 1, 11]) Q) := wq_reg ..
theorem xf15r4 : wp T f15r4 e h Q = wpI (cW T) i15r4 e h (regQ (some [4]) Q) := wq_reg ..
theorem xf15r5 : wp T f15r5 e h Q = wpI (cW T) i15r5 e h (regQ (some [0, 1, 5]) Q) := wq_reg ..
theorem xf15r6 : wp T f15r6 e h Q = wpI (cW T) i15r6 e h (regQ (some [0, 1, 5, 20]) Q) := wq_reg ..
theorem xf15r7 : wp T f15r7 e h Q = wpI (cW T) i15r7 e h (regQ (some [0, 1, 5, 34]) Q) := wq_reg ..
theorem xf15r8 : wp T f15r8 e h Q = wpI (cW T) i15r8 e h (regQ (some [4]) Q) := wq_reg ..
theorem xf15r9 : wp T f15r9 e h Q = wpI (cW T) i15r9 e h (regQ (some [0, 1, 5]) Q) := wq_reg ..
theorem xf15l0 : wp T f15l0 e h Q = wp T (.seq (.seq f15r6 (.cond (.t 20) .skip (.exit 0))) (.seq (.blk 1 (.seq f15r7 (.cond (.t 34) (.seq f15r8 .ret) .skip))) f15r9)) e h Q := rfl
theorem xf15r10 : wp T f15r10 e h Q = wpI (cW T) i15r10 e h (regQ (some [4]) Q) := wq_reg ..
theorem xb15 : wp T b15 e h Q = wp T (.seq f15r0 (.seq (.seq f15r1 (.cond (.t 7) (.seq f15r2 .ret) .skip)) (.seq (.seq f15r3 (.cond (.t 11) (.seq f15r4 .ret) .skip)) (.seq (.seq f15r5 (.blk 0 (.loop f15l0))) (.seq f15r10 .ret))))) e h Q := rfl
theorem e15 : (type_of% @f15.eq_1) ∧ (type_of% @xb15) ∧ (type_of% @xf15r0) ∧ (type_of% @xf15r1) ∧ (type_of% @xf15r2) ∧ (type_of% @xf15r3) ∧ (type_of% @xf15r4) ∧ (type_of% @xf15r5) ∧ (type_of% @xf15r6) ∧ (type_of% @xf15r7) ∧ (type_of% @xf15r8) ∧ (type_of% @xf15r9) ∧ (type_of% @xf15l0) ∧ (type_of% @xf15r10) ∧ (type_of% @i15r0.eq_1) ∧ (type_of% @i15r1.eq_1) ∧ (type_of% @i15r2.eq_1) ∧ (type_of% @i15r3.eq_1) ∧ (type_of% @i15r4.eq_1) ∧ (type_of% @i15r5.eq_1) ∧ (type_of% @i15r6.eq_1) ∧ (type_of% @i15r7.eq_1) ∧ (type_of% @i15r8.eq_1) ∧ (type_of% @i15r9.eq_1) ∧ (type_of% @i15r10.eq_1) := ⟨@f15.eq_1, @xb15, @xf15r0, @xf15r1, @xf15r2, @xf15r3, @xf15r4, @xf15r5, @xf15r6, @xf15r7, @xf15r8, @xf15r9, @xf15l0, @xf15r10, @i15r0.eq_1, @i15r1.eq_1, @i15r2.eq_1, @i15r3.eq_1, @i15r4.eq_1, @i15r5.eq_1, @i15r6.eq_1, @i15r7.eq_1, @i15r8.eq_1, @i15r9.eq_1, @i15r10.eq_1⟩
theorem xf16r0 : wp T f16r0 e h Q = wpI (cW T) i16r0 e h (regQ (some [0, 1, 2]) Q) := wq_reg ..
theorem xf16r1 : wp T f16r1 e h Q = wpI (cW T) i16r1 e h (regQ (some [2, 7]) Q) := wq_reg ..
theorem xf16r2 : wp T f16r2 e h Q = wpI (cW T) i16r2 e h (regQ (some [27]) Q) := wq_reg ..
theorem xf16r3 : wp T f16r3 e h Q = wpI (cW T) i16r3 e h (regQ (some [6]) Q) := wq_reg ..
theorem xf16r4 : wp T f16r4 e h Q = wpI (cW T) i16r4 e h (regQ (some [6]) Q) := wq_reg ..
theorem xb16 : wp T b16 e h Q = wp T (.seq f16r0 (.seq f16r1 (.seq (.seq f16r2 (.cond (.t 27) (.seq f16r3 .ret) .skip)) (.seq f16r4 .ret)))) e h Q := rfl
theorem e16 : (type_of% @f16.eq_1) ∧ (type_of% @xb16) ∧ (type_of% @xf16r0) ∧ (type_of% @xf16r1) ∧ (type_of% @xf16r2) ∧ (type_of% @xf16r3) ∧ (type_of% @xf16r4) ∧ (type_of% @i16r0.eq_1) ∧ (type_of% @i16r1.eq_1) ∧ (type_of% @i16r2.eq_1) ∧ (type_of% @i16r3.eq_1) ∧ (type_of% @i16r4.eq_1) := ⟨@f16.eq_1, @xb16, @xf16r0, @xf16r1, @xf16r2, @xf16r3, @xf16r4, @i16r0.eq_1, @i16r1.eq_1, @i16r2.eq_1, @i16r3.eq_1, @i16r4.eq_1⟩
theorem xf17r0 : wp T f17r0 e h Q = wpI (cW T) i17r0 e h (regQ (some [0, 1, 2]) Q) := wq_reg ..
theorem xf17r1 : wp T f17r1 e h Q = wpI (cW T) i17r1 e h (regQ (some [43]) Q) := wq_reg ..
theorem xf17r2 : wp T f17r2 e h Q = wpI (cW T) i17r2 e h (regQ (some [6]) Q) := wq_reg ..
theorem xf17r3 : wp T f17r3 e h Q = wpI (cW T) i17r3 e h (regQ (some [6]) Q) := wq_reg ..
theorem xb17 : wp T b17 e h Q = wp T (.seq f17r0 (.seq (.seq f17r1 (.cond (.t 43) (.seq f17r2 .ret) .skip)) (.seq f17r3 .ret))) e h Q := rfl
theorem e17 : (type_of% @f17.eq_1) ∧ (type_of% @xb17) ∧ (type_of% @xf17r0) ∧ (type_of% @xf17r1) ∧ (type_of% @xf17r2) ∧ (type_of% @xf17r3) ∧ (type_of% @i17r0.eq_1) ∧ (type_of% @i17r1.eq_1) ∧ (type_of% @i17r2.eq_1) ∧ (type_of% @i17r3.eq_1) := ⟨@f17.eq_1, @xb17, @xf17r0, @xf17r1, @xf17r2, @xf17r3, @i17r0.eq_1, @i17r1.eq_1, @i17r2.eq_1, @i17r3.eq_1⟩
theorem xf24r0 : wp T f24r0 e h Q = wpI (cW T) i24r0 e h (regQ (some [0, 3]) Q) := wq_reg ..
theorem xf24r1 : wp T f24r1 e h Q = wpI (cW T) i24r1 e h (regQ (some [0, 3, 8]) Q) := wq_reg ..
theorem xf24r2 : wp T f24r2 e h Q = wpI (cW T) i24r2 e h (regQ (some [4, 5]) Q) := wq_reg ..
theorem xf24r3 : wp T f24r3 e h Q = wpI (cW T) i24r3 e h (regQ (some [6]) Q) := wq_reg ..
theorem xf24r4 : wp T f24r4 e h Q = wpI (cW T) i24r4 e h (regQ (some [4, 5]) Q) := wq_reg ..
theorem xb24 : wp T b24 e h Q = wp T (.seq f24r0 (.seq (.seq f24r1 (.cond (.t 8) (.seq f24r2 .ret) .skip)) (.seq f24r3 (.seq f24r4 .ret)))) e h Q := rfl
theorem e24 : (type_of% @f24.eq_1) ∧ (type_of% @xb24) ∧ (type_of% @xf24r0) ∧ (type_of% @xf24r1) ∧ (type_of% @xf24r2) ∧ (type_of% @xf24r3) ∧ (type_of% @xf24r4) ∧ (type_of% @i24r0.eq_1) ∧ (type_of% @i24r1.eq_1) ∧ (type_of% @i24r2.eq_1) ∧ (type_of% @i24r3.eq_1) ∧ (type_of% @i24r4.eq_1) := ⟨@f24.eq_1, @xb24, @xf24r0, @xf24r1, @xf24r2, @xf24r3, @xf24r4, @i24r0.eq_1, @i24r1.eq_1, @i24r2.eq_1, @i24r3.eq_1, @i24r4.eq_1⟩
theorem xf25r0 : wp T f25r0 e h Q = wpI (cW T) i25r0 e h (regQ (some [0, 3]) Q) := wq_reg ..
theorem xf25r1 : wp T f25r1 e h Q = wpI (cW T) i25r1 e h (regQ (some [3, 10, 11, 12]) Q) := wq_reg ..
theorem xf25r2 : wp T f25r2 e h Q = wpI (cW T) i25r2 e h (regQ (some [3, 10, 11, 12, 13]) Q) := wq_reg ..
theorem xf25r3 : wp T f25r3 e h Q = wpI (cW T) i25r3 e h (regQ (some [3, 7, 8, 10, 11, 12]) Q) := wq_reg ..
theorem xf25r4 : wp T f25r4 e h Q = wpI (cW T) i25r4 e h (regQ (some [3, 7, 9, 10, 11, 12]) Q) := wq_reg ..
theorem xf25r5 : wp T f25r5 e h Q = wpI (cW T) i25r5 e h (regQ (some [3, 7, 9, 10, 11, 12, 22]) Q) := wq_reg ..
theorem xf25r6 : wp T f25r6 e h Q = wpI (cW T) i25r6 e h (regQ (some [4, 5, 6]) Q) := wq_reg ..
theorem xf25r7 : wp T f25r7 e h Q = wpI (cW T) i25r7 e h (regQ (some [3, 10, 11, 12]) Q) := wq_reg ..
theorem xf25l0 : wp T f25l0 e h Q = wp T (.seq f25r2 (.seq (.cond (.t 13) .skip (.exit 0)) (.seq (.blk 1 (.seq f25r3 (.seq f25r4 (.seq f25r5 (.cond (.t 22) (.seq f25r6 .ret) .skip))))) f25r7))) e h Q := rfl
theorem xf25r8 : wp T f25r8 e h Q = wpI (cW T) i25r8 e h (regQ (some [4, 5, 6]) Q) := wq_reg ..
theorem xb25 : wp T b25 e h Q = wp T (.seq f25r0 (.seq (.seq f25r1 (.blk 0 (.loop f25l0))) (.seq f25r8 .ret))) e h Q := rfl
theorem e25 : (type_of% @f25.eq_1) ∧ (type_of% @xb25) ∧ (type_of% @xf25r0) ∧ (type_of% @xf25r1) ∧ (type_of% @xf25r2) ∧ (type_of% @xf25r3) ∧ (type_of% @xf25r4) ∧ (type_of% @xf25r5) ∧ (type_of% @xf25r6) ∧ (type_of% @xf25r7) ∧ (type_of% @xf25l0) ∧ (type_of% @xf25r8) ∧ (type_of% @i25r0.eq_1) ∧ (type_of% @i25r1.eq_1) ∧ (type_of% @i25r2.eq_1) ∧ (type_of% @i25r3.eq_1) ∧ (type_of% @i25r4.eq_1) ∧ (type_of% @i25r5.eq_1) ∧ (type_of% @i25r6.eq_1) ∧ (type_of% @i25r7.eq_1) ∧ (type_of% @i25r8.eq_1) := ⟨@f25.eq_1, @xb25, @xf25r0, @xf25r1, @xf25r2, @xf25r3, @xf25r4, @xf25r5, @xf25r6, @xf25r7, @xf25l0, @xf25r8, @i25r0.eq_1, @i25r1.eq_1, @i25r2.eq_1, @i25r3.eq_1, @i25r4.eq_1, @i25r5.eq_1, @i25r6.eq_1, @i25r7.eq_1, @i25r8.eq_1⟩
theorem xf26r0 : wp T f26r0 e h Q = wpI (cW T) i26r0 e h (regQ (some [0, 1]) Q) := wq_reg ..
theorem xf26r1 : wp T f26r1 e h Q = wpI (cW T) i26r1 e h (regQ (some [0, 1, 8]) Q) := wq_reg ..
theorem xf26r2 : wp T f26r2 e h Q = wpI (cW T) i26r2 e h (regQ (some [4, 5]) Q) := wq_reg ..
theorem xf26r3 : wp T f26r3 e h Q = wpI (cW T) i26r3 e h (regQ (some [0, 1, 6]) Q) := wq_reg ..
theorem xf26r4 : wp T f26r4 e h Q = wpI (cW T) i26r4 e h (regQ (some [0, 1, 6, 12]) Q) := wq_reg ..
theorem xf26r5 : wp T f26r5 e h Q = wpI (cW T) i26r5 e h (regQ (some [0, 1, 6, 21]) Q) := wq_reg ..
theorem xf26r6 : wp T f26r6 e h Q = wpI (cW T) i26r6 e h (regQ (some [4, 5]) Q) := wq_reg ..
theorem xf26r7 : wp T f26r7 e h Q = wpI (cW T) i26r7 e h (regQ (some [0, 1, 6]) Q) := wq_reg ..
theorem xf26l0 : wp T f26l0 e h Q = wp T (.seq (.seq f26r4 (.cond (.t 12) .skip (.exit 0))) (.seq (.blk 1 (.seq f26r5 (.cond (.t 21) (.seq f26r6 .ret) .skip))) f26r7)) e h Q := rfl
theorem xf26r8 : wp T f26r8 e h Q = wpI (cW T) i26r8 e h (regQ (some [4, 5]) Q) := wq_reg ..
theorem xb26 : wp T b26 e h Q = wp T (.seq f26r0 (.seq (.seq f26r1 (.cond (.t 8) (.seq f26r2 .ret) .skip)) (.seq (.seq f26r3 (.blk 0 (.loop f26l0))) (.seq f26r8 .ret)))) e h Q := rfl
theorem e26 : (type_of% @f26.eq_1) ∧ (type_of% @xb26) ∧ (type_of% @xf26r0) ∧ (type_of% @xf26r1) ∧ (type_of% @xf26r2) ∧ (type_of% @xf26r3) ∧ (type_of% @xf26r4) ∧ (type_of% @xf26r5) ∧ (type_of% @xf26r6) ∧ (type_of% @xf26r7) ∧ (type_of% @xf26l0) ∧ (type_of% @xf26r8) ∧ (type_of% @i26r0.eq_1) ∧ (type_of% @i26r1.eq_1) ∧ (type_of% @i26r2.eq_1) ∧ (type_of% @i26r3.eq_1) ∧ (type_of% @i26r4.eq_1) ∧ (type_of% @i26r5.eq_1) ∧ (type_of% @i26r6.eq_1) ∧ (type_of% @i26r7.eq_1) ∧ (type_of% @i26r8.eq_1) := ⟨@f26.eq_1, @xb26, @xf26r0, @xf26r1, @xf26r2, @xf26r3, @xf26r4, @xf26r5, @xf26r6, @xf26r7, @xf26l0, @xf26r8, @i26r0.eq_1, @i26r1.eq_1, @i26r2.eq_1, @i26r3.eq_1, @i26r4.eq_1, @i26r5.eq_1, @i26r6.eq_1, @i26r7.eq_1, @i26r8.eq_1⟩
theorem xf27r0 : wp T f27r0 e h Q = wpI (cW T) i27r0 e h (regQ (some [0, 1]) Q) := wq_reg ..
theorem xf27r1 : wp T f27r1 e h Q = wpI (cW T) i27r1 e h (regQ (some [0, 1, 7]) Q) := wq_reg ..
theorem xf27r2 : wp T f27r2 e h Q = wpI (cW T) i27r2 e h (regQ (some [0, 1, 7, 12]) Q) := wq_reg ..
theorem xf27r3 : wp T f27r3 e h Q = wpI (cW T) i27r3 e h (regQ (some [0, 1, 7, 8]) Q) := wq_reg ..
theorem xf27r4 : wp T f27r4 e h Q = wpI (cW T) i27r4 e h (regQ (some [0, 1, 7, 8, 22]) Q) := wq_reg ..
theorem xf27r5 : wp T f27r5 e h Q = wpI (cW T) i27r5 e h (regQ (some [0, 1, 7, 8, 35]) Q) := wq_reg ..
theorem xf27r6 : wp T f27r6 e h Q = wpI (cW T) i27r6 e h (regQ (some [4, 5, 6]) Q) := wq_reg ..
theorem xf27r7 : wp T f27r7 e h Q = wpI (cW T) i27r7 e h (regQ (some [0, 1, 7, 8]) Q) := wq_reg ..
theorem xf27l0 : wp T f27l0 e h Q = wp T (.seq (.seq f27r4 (.cond (.t 22) .skip (.exit 2))) (.seq (.blk 3 (.seq f27r5 (.cond (.t 35) (.seq f27r6 .ret) .skip))) f27r7)) e h Q := rfl
theorem xf27r8 : wp T f27r8 e h Q = wpI (cW T) i27r8 e h (regQ (some [0, 1, 7]) Q) := wq_reg ..
theorem xf27l1 : wp T f27l1 e h Q = wp T (.seq (.seq f27r2 (.cond (.t 12) .skip (.exit 0))) (.seq (.blk 1 (.seq f27r3 (.blk 2 (.loop f27l0)))) f27r8)) e h Q := rfl
theorem xf27r9 : wp T f27r9 e h Q = wpI (cW T) i27r9 e h (regQ (some [4, 5, 6]) Q) := wq_reg ..
theorem xb27 : wp T b27 e h Q = wp T (.seq f27r0 (.seq (.seq f27r1 (.blk 0 (.loop f27l1))) (.seq f27r9 .ret))) e h Q := rfl
theorem e27 : (type_of% @f27.eq_1) ∧ (type_of% @xb27) ∧ (type_of% @xf27r0) ∧ (type_of% @xf27r1) ∧ (type_of% @xf27r2) ∧ (type_of% @xf27r3) ∧ (type_of% @xf27r4) ∧ (type_of% @xf27r5) ∧ (type_of% @xf27r6) ∧ (type_of% @xf27r7) ∧ (type_of% @xf27l0) ∧ (type_of% @xf27r8) ∧ (type_of% @xf27l1) ∧ (type_of% @xf27r9) ∧ (type_of% @i27r0.eq_1) ∧ (type_of% @i27r1.eq_1) ∧ (type_of% @i27r2.eq_1) ∧ (type_of% @i27r3.eq_1) ∧ (type_of% @i27r4.eq_1) ∧ (type_of% @i27r5.eq_1) ∧ (type_of% @i27r6.eq_1) ∧ (type_of% @i27r7.eq_1) ∧ (type_of% @i27r8.eq_1) ∧ (type_of% @i27r9.eq_1) := ⟨@f27.eq_1, @xb27, @xf27r0, @xf27r1, @xf27r2, @xf27r3, @xf27r4, @xf27r5, @xf27r6, @xf27r7, @xf27l0, @xf27r8, @xf27l1, @xf27r9, @i27r0.eq_1, @i27r1.eq_1, @i27r2.eq_1, @i27r3.eq_1, @i27r4.eq_1, @i27r5.eq_1, @i27r6.eq_1, @i27r7.eq_1, @i27r8.eq_1, @i27r9.eq_1⟩
theorem xf28r0 : wp T f28r0 e h Q = wpI (cW T) i28r0 e h (regQ (some [0, 1]) Q) := wq_reg ..
theorem xf28r1 : wp T f28r1 e h Q = wpI (cW T) i28r1 e h (regQ (some [0, 1, 6]) Q) := wq_reg ..
theorem xf28r2 : wp T f28r2 e h Q = wpI (cW T) i28r2 e h (regQ (some [4]) Q) := wq_reg ..
theorem xf28r3 : wp T f28r3 e h Q = wpI (cW T) i28r3 e h (regQ (some [0, 1, 10]) Q) := wq_reg ..
theorem xf28r4 : wp T f28r4 e h Q = wpI (cW T) i28r4 e h (regQ (some [4]) Q) := wq_reg ..
theorem xf28r5 : wp T f28r5 e h Q = wpI (cW T) i28r5 e h (regQ (some [4]) Q) := wq_reg ..
theorem xb28 : wp T b28 e h Q = wp T (.seq f28r0 (.seq (.seq f28r1 (.cond (.t 6) (.seq f28r2 .ret) .skip)) (.seq (.seq f28r3 (.cond (.t 10) (.seq f28r4 .ret) .skip)) (.seq f28r5 .ret)))) e h Q := rfl
theorem e28 : (type_of% @f28.eq_1) ∧ (type_of% @xb28) ∧ (type_of% @xf28r0) ∧ (type_of% @xf28r1) ∧ (type_of% @xf28r2) ∧ (type_of% @xf28r3) ∧ (type_of% @xf28r4) ∧ (type_of% @xf28r5) ∧ (type_of% @i28r0.eq_1) ∧ (type_of% @i28r1.eq_1) ∧ (type_of% @i28r2.eq_1) ∧ (type_of% @i28r3.eq_1) ∧ (type_of% @i28r4.eq_1) ∧ (type_of% @i28r5.eq_1) := ⟨@f28.eq_1, @xb28, @xf28r0, @xf28r1, @xf28r2, @xf28r3, @xf28r4, @xf28r5, @i28r0.eq_1, @i28r1.eq_1, @i28r2.eq_1, @i28r3.eq_1, @i28r4.eq_1, @i28r5.eq_1⟩
theorem xf29r0 : wp T f29r0 e h Q = wpI (cW T) i29r0 e h (regQ (some [0, 1]) Q) := wq_reg ..
theorem xf29r1 : wp T f29r1 e h Q = wpI (cW T) i29r1 e h (regQ (some [0, 1, 6]) Q) := wq_reg ..
theorem xf29r2 : wp T f29r2 e h Q = wpI (cW T) i29r2 e h (regQ (some [4]) Q) := wq_reg ..
theorem xf29r3 : wp T f29r3 e h Q = wpI (cW T) i29r3 e h (regQ (some [0, 1, 10]) Q) := wq_reg ..
theorem xf29r4 : wp T f29r4 e h Q = wpI (cW T) i29r4 e h (regQ (some [4]) Q) := wq_reg ..
theorem xf29r5 : wp T f29r5 e h Q = wpI (cW T) i29r5 e h (regQ (some [4]) Q) := wq_reg ..
theorem xb29 : wp T b29 e h Q = wp T (.seq f29r0 (.seq (.seq f29r1 (.cond (.t 6) (.seq f29r2 .ret) .skip)) (.seq (.seq f29r3 (.cond (.t 10) (.seq f29r4 .ret) .skip)) (.seq f29r5 .ret)))) e h Q := rfl
theorem e29 : (type_of% @f29.eq_1) ∧ (type_of% @xb29) ∧ (type_of% @xf29r0) ∧ (type_of% @xf29r1) ∧ (type_of% @xf29r2) ∧ (type_of% @xf29r3) ∧ (type_of% @xf29r4) ∧ (type_of% @xf29r5) ∧ (type_of% @i29r0.eq_1) ∧ (type_of% @i29r1.eq_1) ∧ (type_of% @i29r2.eq_1) ∧ (type_of% @i29r3.eq_1) ∧ (type_of% @i29r4.eq_1) ∧ (type_of% @i29r5.eq_1) := ⟨@f29.eq_1, @xb29, @xf29r0, @xf29r1, @xf29r2, @xf29r3, @xf29r4, @xf29r5, @i29r0.eq_1, @i29r1.eq_1, @i29r2.eq_1, @i29r3.eq_1, @i29r4.eq_1, @i29r5.eq_1⟩
theorem xf34r0 : wp T f34r0 e h Q = wpI (cW T) i34r0 e h (regQ (some [0, 1]) Q) := wq_reg ..
theorem xf34r1 : wp T f34r1 e h Q = wpI (cW T) i34r1 e h (regQ (some [4]) Q) := wq_reg ..
theorem xb34 : wp T b34 e h Q = wp T (.seq f34r0 (.seq f34r1 .ret)) e h Q := rfl
theorem e34 : (type_of% @f34.eq_1) ∧ (type_of% @xb34) ∧ (type_of% @xf34r0) ∧ (type_of% @xf34r1) ∧ (type_of% @i34r0.eq_1) ∧ (type_of% @i34r1.eq_1) := ⟨@f34.eq_1, @xb34, @xf34r0, @xf34r1, @i34r0.eq_1, @i34r1.eq_1⟩
theorem xf36r0 : wp T f36r0 e h Q = wpI (cW T) i36r0 e h (regQ (some [0, 1]) Q) := wq_reg ..
theorem xf36r1 : wp T f36r1 e h Q = wpI (cW T) i36r1 e h (regQ (some [4]) Q) := wq_reg ..
theorem xb36 : wp T b36 e h Q = wp T (.seq f36r0 (.seq f36r1 .ret)) e h Q := rfl
theorem e36 : (type_of% @f36.eq_1) ∧ (type_of% @xb36) ∧ (type_of% @xf36r0) ∧ (type_of% @xf36r1) ∧ (type_of% @i36r0.eq_1) ∧ (type_of% @i36r1.eq_1) := ⟨@f36.eq_1, @xb36, @xf36r0, @xf36r1, @i36r0.eq_1, @i36r1.eq_1⟩
theorem xf43r0 : wp T f43r0 e h Q = wpI (cW T) i43r0 e h (regQ (some [0, 1]) Q) := wq_reg ..
theorem xf43r1 : wp T f43r1 e h Q = wpI (cW T) i43r1 e h (regQ (some [4]) Q) := wq_reg ..
theorem xb43 : wp T b43 e h Q = wp T (.seq f43r0 (.seq f43r1 .ret)) e h Q := rfl
theorem e43 : (type_of% @f43.eq_1) ∧ (type_of% @xb43) ∧ (type_of% @xf43r0) ∧ (type_of% @xf43r1) ∧ (type_of% @i43r0.eq_1) ∧ (type_of% @i43r1.eq_1) := ⟨@f43.eq_1, @xb43, @xf43r0, @xf43r1, @i43r0.eq_1, @i43r1.eq_1⟩
theorem xf44r0 : wp T f44r0 e h Q = wpI (cW T) i44r0 e h (regQ (some [0, 1]) Q) := wq_reg ..
theorem xf44r1 : wp T f44r1 e h Q = wpI (cW T) i44r1 e h (regQ (some [0, 1, 12]) Q) := wq_reg ..
theorem xf44r2 : wp T f44r2 e h Q = wpI (cW T) i44r2 e h (regQ (some [4]) Q) := wq_reg ..
theorem xf44r3 : wp T f44r3 e h Q = wpI (cW T) i44r3 e h (regQ (some [4]) Q) := wq_reg ..
theorem xb44 : wp T b44 e h Q = wp T (.seq f44r0 (.seq (.seq f44r1 (.cond (.t 12) (.seq f44r2 .ret) .skip)) (.seq f44r3 .ret))) e h Q := rfl
theorem e44 : (type_of% @f44.eq_1) ∧ (type_of% @xb44) ∧ (type_of% @xf44r0) ∧ (type_of% @xf44r1) ∧ (type_of% @xf44r2) ∧ (type_of% @xf44r3) ∧ (type_of% @i44r0.eq_1) ∧ (type_of% @i44r1.eq_1) ∧ (type_of% @i44r2.eq_1) ∧ (type_of% @i44r3.eq_1) := ⟨@f44.eq_1, @xb44, @xf44r0, @xf44r1, @xf44r2, @xf44r3, @i44r0.eq_1, @i44r1.eq_1, @i44r2.eq_1, @i44r3.eq_1⟩
theorem xf45r0 : wp T f45r0 e h Q = wpI (cW T) i45r0 e h (regQ (some [1]) Q) := wq_reg ..
theorem xf45r1 : wp T f45r1 e h Q = wpI (cW T) i45r1 e h (regQ (some [2]) Q) := wq_reg ..
theorem xb45 : wp T b45 e h Q = wp T (.seq f45r0 (.seq f45r1 .ret)) e h Q := rfl
theorem e45 : (type_of% @f45.eq_1) ∧ (type_of% @xb45) ∧ (type_of% @xf45r0) ∧ (type_of% @xf45r1) ∧ (type_of% @i45r0.eq_1) ∧ (type_of% @i45r1.eq_1) := ⟨@f45.eq_1, @xb45, @xf45r0, @xf45r1, @i45r0.eq_1, @i45r1.eq_1⟩
theorem xf46r0 : wp T f46r0 e h Q = wpI (cW T) i46r0 e h (regQ (some [0, 1]) Q) := wq_reg ..
theorem xf46r1 : wp T f46r1 e h Q = wpI (cW T) i46r1 e h (regQ (some [4]) Q) := wq_reg ..
theorem xb46 : wp T b46 e h Q = wp T (.seq f46r0 (.seq f46r1 .ret)) e h Q := rfl
theorem e46 : (type_of% @f46.eq_1) ∧ (type_of% @xb46) ∧ (type_of% @xf46r0) ∧ (type_of% @xf46r1) ∧ (type_of% @i46r0.eq_1) ∧ (type_of% @i46r1.eq_1) := ⟨@f46.eq_1, @xb46, @xf46r0, @xf46r1, @i46r0.eq_1, @i46r1.eq_1⟩
theorem xf51r0 : wp T f51r0 e h Q = wpI (cW T) i51r0 e h (regQ (some [0, 1]) Q) := wq_reg ..
theorem xf51r1 : wp T f51r1 e h Q = wpI (cW T) i51r1 e h (regQ (some [0, 1, 7, 8]) Q) := wq_reg ..
theorem xf51r2 : wp T f51r2 e h Q = wpI (cW T) i51r2 e h (regQ (some [0, 1, 7, 8, 9]) Q) := wq_reg ..
theorem xf51r3 : wp T f51r3 e h Q = wpI (cW T) i51r3 e h (regQ (some [0, 1, 5, 7, 8]) Q) := wq_reg ..
theorem xf51r4 : wp T f51r4 e h Q = wpI (cW T) i51r4 e h (regQ (some [0, 1, 5, 7, 8, 16]) Q) := wq_reg ..
theorem xf51r5 : wp T f51r5 e h Q = wpI (cW T) i51r5 e h (regQ (some [4]) Q) := wq_reg ..
theorem xf51r6 : wp T f51r6 e h Q = wpI (cW T) i51r6 e h (regQ (some [0, 1, 7, 8]) Q) := wq_reg ..
theorem xf51l0 : wp T f51l0 e h Q = wp T (.seq f51r2 (.seq (.cond (.t 9) .skip (.exit 0)) (.seq (.blk 1 (.seq f51r3 (.seq f51r4 (.cond (.t 16) (.seq f51r5 .ret) .skip)))) f51r6))) e h Q := rfl
theorem xf51r7 : wp T f51r7 e h Q = wpI (cW T) i51r7 e h (regQ (some [4]) Q) := wq_reg ..
theorem xb51 : wp T b51 e h Q = wp T (.seq f51r0 (.seq (.seq f51r1 (.blk 0 (.loop f51l0))) (.seq f51r7 .ret))) e h Q := rfl
theorem e51 : (type_of% @f51.eq_1) ∧ (type_of% @xb51) ∧ (type_of% @xf51r0) ∧ (type_of% @xf51r1) ∧ (type_of% @xf51r2) ∧ (type_of% @xf51r3) ∧ (type_of% @xf51r4) ∧ (type_of% @xf51r5) ∧ (type_of% @xf51r6) ∧ (type_of% @xf51l0) ∧ (type_of% @xf51r7) ∧ (type_of% @i51r0.eq_1) ∧ (type_of% @i51r1.eq_1) ∧ (type_of% @i51r2.eq_1) ∧ (type_of% @i51r3.eq_1) ∧ (type_of% @i51r4.eq_1) ∧ (type_of% @i51r5.eq_1) ∧ (type_of% @i51r6.eq_1) ∧ (type_of% @i51r7.eq_1) := ⟨@f51.eq_1, @xb51, @xf51r0, @xf51r1, @xf51r2, @xf51r3, @xf51r4, @xf51r5, @xf51r6, @xf51l0, @xf51r7, @i51r0.eq_1, @i51r1.eq_1, @i51r2.eq_1, @i51r3.eq_1, @i51r4.eq_1, @i51r5.eq_1, @i51r6.eq_1, @i51r7.eq_1⟩
theorem xf52r0 : wp T f52r0 e h Q = wpI (cW T) i52r0 e h (regQ (some [1, 2]) Q) := wq_reg ..
theorem xf52r1 : wp T f52r1 e h Q = wpI (cW T) i52r1 e h (regQ (some [3]) Q) := wq_reg ..
theorem xb52 : wp T b52 e h Q = wp T (.seq f52r0 (.seq f52r1 .ret)) e h Q := rfl
theorem e52 : (type_of% @f52.eq_1) ∧ (type_of% @xb52) ∧ (type_of% @xf52r0) ∧ (type_of% @xf52r1) ∧ (type_of% @i52r0.eq_1) ∧ (type_of% @i52r1.eq_1) := ⟨@f52.eq_1, @xb52, @xf52r0, @xf52r1, @i52r0.eq_1, @i52r1.eq_1⟩
theorem xf53r0 : wp T f53r0 e h Q = wpI (cW T) i53r0 e h (regQ (some [0, 1]) Q) := wq_reg ..
theorem xf53r1 : wp T f53r1 e h Q = wpI (cW T) i53r1 e h (regQ (some [0, 1, 7, 8]) Q) := wq_reg ..
theorem xf53r2 : wp T f53r2 e h Q = wpI (cW T) i53r2 e h (regQ (some [0, 1, 7, 8, 9]) Q) := wq_reg ..
theorem xf53r3 : wp T f53r3 e h Q = wpI (cW T) i53r3 e h (regQ (some [0, 1, 5, 7, 8]) Q) := wq_reg ..
theorem xf53r4 : wp T f53r4 e h Q = wpI (cW T) i53r4 e h (regQ (some [0, 1, 5, 7, 8, 16]) Q) := wq_reg ..
theorem xf53r5 : wp T f53r5 e h Q = wpI (cW T) i53r5 e h (regQ (some [4]) Q) := wq_reg ..
theorem xf53r6 : wp T f53r6 e h Q = wpI (cW T) i53r6 e h (regQ (some [0, 1, 7, 8]) Q) := wq_reg ..
theorem xf53l0 : wp T f53l0 e h Q = wp T (.seq f53r2 (.seq (.cond (.t 9) .skip (.exit 0)) (.seq (.blk 1 (.seq f53r3 (.seq f53r4 (.cond (.t 16) (.seq f53r5 .ret) .skip)))) f53r6))) e h Q := rfl
theorem xf53r7 : wp T f53r7 e h Q = wpI (cW T) i53r7 e h (regQ (some [4]) Q) := wq_reg ..
theorem xb53 : wp T b53 e h Q = wp T (.seq f53r0 (.seq (.seq f53r1 (.blk 0 (.loop f53l0))) (.seq f53r7 .ret))) e h Q := rfl
theorem e53 : (type_of% @f53.eq_1) ∧ (type_of% @xb53) ∧ (type_of% @xf53r0) ∧ (type_of% @xf53r1) ∧ (type_of% @xf53r2) ∧ (type_of% @xf53r3) ∧ (type_of% @xf53r4) ∧ (type_of% @xf53r5) ∧ (type_of% @xf53r6) ∧ (type_of% @xf53l0) ∧ (type_of% @xf53r7) ∧ (type_of% @i53r0.eq_1) ∧ (type_of% @i53r1.eq_1) ∧ (type_of% @i53r2.eq_1) ∧ (type_of% @i53r3.eq_1) ∧ (type_of% @i53r4.eq_1) ∧ (type_of% @i53r5.eq_1) ∧ (type_of% @i53r6.eq_1) ∧ (type_of% @i53r7.eq_1) := ⟨@f53.eq_1, @xb53, @xf53r0, @xf53r1, @xf53r2, @xf53r3, @xf53r4, @xf53r5, @xf53r6, @xf53l0, @xf53r7, @i53r0.eq_1, @i53r1.eq_1, @i53r2.eq_1, @i53r3.eq_1, @i53r4.eq_1, @i53r5.eq_1, @i53r6.eq_1, @i53r7.eq_1⟩
theorem xf54r0 : wp T f54r0 e h Q = wpI (cW T) i54r0 e h (regQ (some [1, 2]) Q) := wq_reg ..
theorem xf54r1 : wp T f54r1 e h Q = wpI (cW T) i54r1 e h (regQ (some [3]) Q) := wq_reg ..
theorem xb54 : wp T b54 e h Q = wp T (.seq f54r0 (.seq f54r1 .ret)) e h Q := rfl
theorem e54 : (type_of% @f54.eq_1) ∧ (type_of% @xb54) ∧ (type_of% @xf54r0) ∧ (type_of% @xf54r1) ∧ (type_of% @i54r0.eq_1) ∧ (type_of% @i54r1.eq_1) := ⟨@f54.eq_1, @xb54, @xf54r0, @xf54r1, @i54r0.eq_1, @i54r1.eq_1⟩
theorem xf58r0 : wp T f58r0 e h Q = wpI (cW T) i58r0 e h (regQ (some [0, 1]) Q) := wq_reg ..
theorem xf58r1 : wp T f58r1 e h Q = wpI (cW T) i58r1 e h (regQ (some [0, 1, 7, 8]) Q) := wq_reg ..
theorem xf58r2 : wp T f58r2 e h Q = wpI (cW T) i58r2 e h (regQ (some [0, 1, 7, 8, 9]) Q) := wq_reg ..
theorem xf58r3 : wp T f58r3 e h Q = wpI (cW T) i58r3 e h (regQ (some [0, 1, 5, 7, 8]) Q) := wq_reg ..
theorem xf58r4 : wp T f58r4 e h Q = wpI (cW T) i58r4 e h (regQ (some [0, 1, 5, 7, 8, 16]) Q) := wq_reg ..
theorem xf58r5 : wp T f58r5 e h Q = wpI (cW T) i58r5 e h (regQ (some [4]) Q) := wq_reg ..
theorem xf58r6 : wp T f58r6 e h Q = wpI (cW T) i58r6 e h (regQ (some [0, 1, 7, 8]) Q) := wq_reg ..
theorem xf58l0 : wp T f58l0 e h Q = wp T (.seq f58r2 (.seq (.cond (.t 9) .skip (.exit 0)) (.seq (.blk 1 (.seq f58r3 (.seq f58r4 (.cond (.t 16) (.seq f58r5 .ret) .skip)))) f58r6))) e h Q := rfl
theorem xf58r7 : wp T f58r7 e h Q = wpI (cW T) i58r7 e h (regQ (some [4]) Q) := wq_reg ..
theorem xb58 : wp T b58 e h Q = wp T (.seq f58r0 (.seq (.seq f58r1 (.blk 0 (.loop f58l0))) (.seq f58r7 .ret))) e h Q := rfl
theorem e58 : (type_of% @f58.eq_1) ∧ (type_of% @xb58) ∧ (type_of% @xf58r0) ∧ (type_of% @xf58r1) ∧ (type_of% @xf58r2) ∧ (type_of% @xf58r3) ∧ (type_of% @xf58r4) ∧ (type_of% @xf58r5) ∧ (type_of% @xf58r6) ∧ (type_of% @xf58l0) ∧ (type_of% @xf58r7) ∧ (type_of% @i58r0.eq_1) ∧ (type_of% @i58r1.eq_1) ∧ (type_of% @i58r2.eq_1) ∧ (type_of% @i58r3.eq_1) ∧ (type_of% @i58r4.eq_1) ∧ (type_of% @i58r5.eq_1) ∧ (type_of% @i58r6.eq_1) ∧ (type_of% @i58r7.eq_1) := ⟨@f58.eq_1, @xb58, @xf58r0, @xf58r1, @xf58r2, @xf58r3, @xf58r4, @xf58r5, @xf58r6, @xf58l0, @xf58r7, @i58r0.eq_1, @i58r1.eq_1, @i58r2.eq_1, @i58r3.eq_1, @i58r4.eq_1, @i58r5.eq_1, @i58r6.eq_1, @i58r7.eq_1⟩
end Zc17
