/-
  What each part of the code does, as an equation.
-/
import Derived.Test.YtlncinhieeopmaaTab
import Derived.Test.YtlncinhieeopmaaZvWp
namespace Zc55
open Go Zv Zs
variable (T : Tab) (e : Env) (h : Hp) (Q : Out → Prop)
theorem xf3r0 : wp T f3r0 e h Q = wpI (cW T) i3r0 e h (regQ (some [0, 1]) Q) := wq_reg ..
theorem xf3r1 : wp T f3r1 e h Q = wpI (cW T) i3r1 e h (regQ (some [1, 5]) Q) := wq_reg ..
theorem xf3r2 : wp T f3r2 e h Q = wpI (cW T) i3r2 e h (regQ (some [1, 5, 6, 7]) Q) := wq_reg ..
theorem xf3r3 : wp T f3r3 e h Q = wpI (cW T) i3r3 e h (regQ (some [1, 5, 6, 39]) Q) := wq_reg ..
theorem xf3r4 : wp T f3r4 e h Q = wpI (cW T) i3r4 e h (regQ (some [4]) Q) := wq_reg ..
theorem xf3r5 : wp T f3r5 e h Q = wpI (cW T) i3r5 e h (regQ (some [1, 5, 6, 8, 9]) Q) := wq_reg ..
theorem xf3r6 : wp T f3r6 e h Q = wpI (cW T) i3r6 e h (regQ (some [1, 5, 6, 8, 9, 10]) Q) := wq_reg ..
theorem xf3r7 : wp T f3r7 e h Q = wpI (cW T) i3r7 e h (regQ (some [1, 5, 6, 8, 9, 10, 51]) Q) := wq_reg ..
theorem xf3r8 : wp T f3r8 e h Q = wpI (cW T) i3r8 e h (regQ (some [1, 5, 6, 8, 9, 10]) Q) := wq_reg ..
theorem xf3r9 : wp T f3r9 e h Q = wpI (cW T) i3r9 e h (regQ (some [1, 5, 6, 8, 9, 10]) Q) := wq_reg ..
theorem xf3l0 : wp T f3l0 e h Q = wp T (.seq (.seq f3r7 (.cond (.t 51) .skip (.exit 0))) (.seq (.blk 1 f3r8) f3r9)) e h Q := rfl
theorem xf3r10 : wp T f3r10 e h Q = wpI (cW T) i3r10 e h (regQ (some [1, 5, 6, 8, 66]) Q) := wq_reg ..
theorem xf3r11 : wp T f3r11 e h Q = wpI (cW T) i3r11 e h (regQ (some [4]) Q) := wq_reg ..
theorem xf3r12 : wp T f3r12 e h Q = wpI (cW T) i3r12 e h (regQ (some [1, 5, 6, 11]) Q) := wq_reg ..
theorem xf3r13 : wp T f3r13 e h Q = wpI (cW T) i3r13 e h (regQ (some [1, 5, 6, 11, 12, 13]) Q) := wq_reg ..
theorem xf3r14 : wp T f3r14 e h Q = wpI (cW T) i3r14 e h (regQ (some [5, 6, 11, 12, 13, 14]) Q) := wq_reg ..
theorem xf3r15 : wp T f3r15 e h Q = wpI (cW T) i3r15 e h (regQ (some [5, 6, 11, 12, 13, 14, 16]) Q) := wq_reg ..
theorem xf3r16 : wp T f3r16 e h Q = wpI (cW T) i3r16 e h (regQ (some [5, 6, 11, 12, 13, 14, 16, 18]) Q) := wq_reg ..
theorem xf3r17 : wp T f3r17 e h Q = wpI (cW T) i3r17 e h (regQ (some [5, 6, 11, 12, 13, 14, 16, 18, 20]) Q) := wq_reg ..
theorem xf3r18 : wp T f3r18 e h Q = wpI (cW T) i3r18 e h (regQ (some [5, 6, 11, 12, 13, 16, 18, 20, 21]) Q) := wq_reg ..
theorem xf3r19 : wp T f3r19 e h Q = wpI (cW T) i3r19 e h (regQ (some [5, 12, 13, 16, 18, 20, 21, 23]) Q) := wq_reg ..
theorem xf3r20 : wp T f3r20 e h Q = wpI (cW T) i3r20 e h (regQ (some [4]) Q) := wq_reg ..
theorem xb3 : wp T b3 e h Q = wp T (.seq f3r0 (.seq f3r1 (.seq f3r2 (.seq (.seq f3r3 (.cond (.t 39) (.seq f3r4 .ret) .skip)) (.seq f3r5 (.seq (.seq f3r6 (.blk 0 (.loop f3l0))) (.seq (.seq f3r10 (.cond (.t 66) (.seq f3r11 .ret) .skip)) (.seq f3r12 (.seq f3r13 (.seq f3r14 (.seq f3r15 (.seq f3r16 (.seq f3r17 (.seq f3r18 (.seq f3r19 (.seq f3r20 .ret)))))))))))))))) e h Q := rfl
theorem e3 : (type_of% @f3.eq_1) ∧ (type_of% @xb3) ∧ (type_of% @xf3r0) ∧ (type_of% @xf3r1) ∧ (type_of% @xf3r2) ∧ (type_of% @xf3r3) ∧ (type_of% @xf3r4) ∧ (type_of% @xf3r5) ∧ (type_of% @xf3r6) ∧ (type_of% @xf3r7) ∧ (type_of% @xf3r8) ∧ (type_of% @xf3r9) ∧ (type_of% @xf3l0) ∧ (type_of% @xf3r10) ∧ (type_of% @xf3r11) ∧ (type_of% @xf3r12) ∧ (type_of% @xf3r13) ∧ (type_of% @xf3r14) ∧ (type_of% @xf3r15) ∧ (type_of% @xf3r16) ∧ (type_of% @xf3r17) ∧ (type_of% @xf3r18) ∧ (type_of% @xf3r19) ∧ (type_of% @xf3r20) ∧ (type_of% @i3r0.eq_1) ∧ (type_of% @i3r1.eq_1) ∧ (type_of% @i3r2.eq_1) ∧ (type_of% @i3r3.eq_1) ∧ (type_of% @i3r4.eq_1) ∧ (type_of% @i3r5.eq_1) ∧ (type_of% @i3r6.eq_1) ∧ (type_of% @i3r7.eq_1) ∧ (type_of% @i3r8.eq_1) ∧ (type_of% @i3r9.eq_1) ∧ (type_of% @i3r10.eq_1) ∧ (type_of% @i3r11.eq_1) ∧ (type_of% @i3r12.eq_1) ∧ (type_of% @i3r13.eq_1) ∧ (type_of% @i3r14.eq_1) ∧ (type_of% @i3r15.eq_1) ∧ (type_of% @i3r16.eq_1) ∧ (type_of% @i3r17.eq_1) ∧ (type_of% @i3r18.eq_1) ∧ (type_of% @i3r19.eq_1) ∧ (type_of% @i3r20.eq_1) := ⟨@f3.eq_1, @xb3, @xf3r0, @xf3r1, @xf3r2, @xf3r3, @xf3r4, @xf3r5, @xf3r6, @xf3r7, @xf3r8, @xf3r9, @xf3l0, @xf3r10, @xf3r11, @xf3r12, @xf3r13, @xf3r14, @xf3r15, @xf3r16, @xf3r17, @xf3r18, @xf3r19, @xf3r20, @i3r0.eq_1, @i3r1.eq_1, @i3r2.eq_1, @i3r3.eq_1, @i3r4.eq_1, @i3r5.eq_1, @i3r6.eq_1, @i3r7.eq_1, @i3r8.eq_1, @i3r9.eq_1, @i3r10.eq_1, @i3r11.eq_1, @i3r12.eq_1, @i3r13.eq_1, @i3r14.eq_1, @i3r15.eq_1, @i3r16.eq_1, @i3r17.eq_1, @i3r18.eq_1, @i3r19.eq_1, @i3r20.eq_1⟩
theorem xf9r0 : wp T f9r0 e h Q = wpI (cW T) i9r0 e h (regQ (some [0, 3]) Q) := wq_reg ..
theorem xf9r1 : wp T f9r1 e h Q = wpI (cW T) i9r1 e h (regQ (some [0, 3, 5]) Q) := wq_reg ..
theorem xf9r2 : wp T f9r2 e h Q = wpI (cW T) i9r2 e h (regQ (some [0, 5, 6]) Q) := wq_reg ..
theorem xf9r3 : wp T f9r3 e h Q = wpI (cW T) i9r3 e h (regQ (some [0, 5, 6, 8]) Q) := wq_reg ..
theorem xf9r4 : wp T f9r4 e h Q = wpI (cW T) i9r4 e h (regQ (some [0, 5, 6, 8, 10, 11]) Q) := wq_reg ..
theorem xf9r5 : wp T f9r5 e h Q = wpI (cW T) i9r5 e h (regQ (some [0, 5, 6, 8, 10, 11, 12, 13]) Q) := wq_reg ..
theorem xf9r6 : wp T f9r6 e h Q = wpI (cW T) i9r6 e h (regQ (some [4]) Q) := wq_reg ..
theorem xb9 : wp T b9 e h Q = wp T (.seq f9r0 (.seq f9r1 (.seq f9r2 (.seq f9r3 (.seq f9r4 (.seq f9r5 (.seq f9r6 .ret))))))) e h Q := rfl
theorem e9 : (type_of% @f9.eq_1) ∧ (type_of% @xb9) ∧ (type_of% @xf9r0) ∧ (type_of% @xf9r1) ∧ (type_of% @xf9r2) ∧ (type_of% @xf9r3) ∧ (type_of% @xf9r4) ∧ (type_of% @xf9r5) ∧ (type_of% @xf9r6) ∧ (type_of% @i9r0.eq_1) ∧ (type_of% @i9r1.eq_1) ∧ (type_of% @i9r2.eq_1) ∧ (type_of% @i9r3.eq_1) ∧ (type_of% @i9r4.eq_1) ∧ (type_of% @i9r5.eq_1) ∧ (type_of% @i9r6.eq_1) := ⟨@f9.eq_1, @xb9, @xf9r0, @xf9r1, @xf9r2, @xf9r3, @xf9r4, @xf9r5, @xf9r6, @i9r0.eq_1, @i9r1.eq_1, @i9r2.eq_1, @i9r3.eq_1, @i9r4.eq_1, @i9r5.eq_1, @i9r6.eq_1⟩
end Zc55
