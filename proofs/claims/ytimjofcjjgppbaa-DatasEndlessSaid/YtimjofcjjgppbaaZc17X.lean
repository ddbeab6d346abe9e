/-
  What each part of the code does, as an equation.
-/
import Derived.Test.YtimjofcjjgppbaaTab
import Derived.Test.YtimjofcjjgppbaaZvWp
namespace Zc17
open Go Zv Zs
variable (T : Tab) (e : Env) (h : Hp) (Q : Out → Prop)
theorem xf3r0 : wp T f3r0 e h Q = wpI (cW T) i3r0 e h (regQ (some [0]) Q) := wq_reg ..
theorem xf3r1 : wp T f3r1 e h Q = wpI (cW T) i3r1 e h (regQ (some [0, 4]) Q) := wq_reg ..
theorem xf3r2 : wp T f3r2 e h Q = wpI (cW T) i3r2 e h (regQ (some [2]) Q) := wq_reg ..
theorem xf3r3 : wp T f3r3 e h Q = wpI (cW T) i3r3 e h (regQ (some [2]) Q) := wq_reg ..
theorem xb3 : wp T b3 e h Q = wp T (.seq f3r0 (.seq (.seq f3r1 (.cond (.t 4) (.seq f3r2 .ret) .skip)) (.seq f3r3 .ret))) e h Q := rfl
theorem e3 : (type_of% @f3.eq_1) ∧ (type_of% @xb3) ∧ (type_of% @xf3r0) ∧ (type_of% @xf3r1) ∧ (type_of% @xf3r2) ∧ (type_of% @xf3r3) ∧ (type_of% @i3r0.eq_1) ∧ (type_of% @i3r1.eq_1) ∧ (type_of% @i3r2.eq_1) ∧ (type_of% @i3r3.eq_1) := ⟨@f3.eq_1, @xb3, @xf3r0, @xf3r1, @xf3r2, @xf3r3, @i3r0.eq_1, @i3r1.eq_1, @i3r2.eq_1, @i3r3.eq_1⟩
theorem xf6r0 : wp T f6r0 e h Q = wpI (cW T) i6r0 e h (regQ (some [0, 1]) Q) := wq_reg ..
theorem xf6r1 : wp T f6r1 e h Q = wpI (cW T) i6r1 e h (regQ (some [0, 1, 11]) Q) := wq_reg ..
theorem xf6r2 : wp T f6r2 e h Q = wpI (cW T) i6r2 e h (regQ (some [4]) Q) := wq_reg ..
theorem xf6r3 : wp T f6r3 e h Q = wpI (cW T) i6r3 e h (regQ (some [0, 1, 19]) Q) := wq_reg ..
theorem xf6r4 : wp T f6r4 e h Q = wpI (cW T) i6r4 e h (regQ (some [4]) Q) := wq_reg ..
theorem xf6r5 : wp T f6r5 e h Q = wpI (cW T) i6r5 e h (regQ (some [0, 1, 5]) Q) := wq_reg ..
theorem xf6r6 : wp T f6r6 e h Q = wpI (cW T) i6r6 e h (regQ (some [0, 1, 5, 30]) Q) := wq_reg ..
theorem xf6r7 : wp T f6r7 e h Q = wpI (cW T) i6r7 e h (regQ (some [4]) Q) := wq_reg ..
theorem xf6r8 : wp T f6r8 e h Q = wpI (cW T) i6r8 e h (regQ (some [0, 5, 43]) Q) := wq_reg ..
theorem xf6r9 : wp T f6r9 e h Q = wpI (cW T) i6r9 e h (regQ (some [4]) Q) := wq_reg ..
theorem xf6r10 : wp T f6r10 e h Q = wpI (cW T) i6r10 e h (regQ (some [0, 5, 6]) Q) := wq_reg ..
theorem xf6r11 : wp T f6r11 e h Q = wpI (cW T) i6r11 e h (regQ (some [0, 5, 6, 47]) Q) := wq_reg ..
theorem xf6r12 : wp T f6r12 e h Q = wpI (cW T) i6r12 e h (regQ (some [0, 5, 6, 73]) Q) := wq_reg ..
theorem xf6r13 : wp T f6r13 e h Q = wpI (cW T) i6r13 e h (regQ (some [4]) Q) := wq_reg ..
theorem xf6r14 : wp T f6r14 e h Q = wpI (cW T) i6r14 e h (regQ (some [0, 5, 6, 78]) Q) := wq_reg ..
theorem xf6r15 : wp T f6r15 e h Q = wpI (cW T) i6r15 e h (regQ (some [0, 5, 6, 7]) Q) := wq_reg ..
theorem xf6r16 : wp T f6r16 e h Q = wpI (cW T) i6r16 e h (regQ (some [0, 5, 6, 7, 8]) Q) := wq_reg ..
theorem xf6r17 : wp T f6r17 e h Q = wpI (cW T) i6r17 e h (regQ (some [0, 5, 6, 7, 8, 91]) Q) := wq_reg ..
theorem xf6r18 : wp T f6r18 e h Q = wpI (cW T) i6r18 e h (regQ (some [0, 5, 6, 7, 8, 9]) Q) := wq_reg ..
theorem xf6r19 : wp T f6r19 e h Q = wpI (cW T) i6r19 e h (regQ (some [0, 5, 6, 7, 8, 9, 101]) Q) := wq_reg ..
theorem xf6r20 : wp T f6r20 e h Q = wpI (cW T) i6r20 e h (regQ (some [0, 5, 6, 7, 8, 9, 114]) Q) := wq_reg ..
theorem xf6r21 : wp T f6r21 e h Q = wpI (cW T) i6r21 e h (regQ (some [4]) Q) := wq_reg ..
theorem xf6r22 : wp T f6r22 e h Q = wpI (cW T) i6r22 e h (regQ (some [0, 5, 6, 7, 8, 9]) Q) := wq_reg ..
theorem xf6l0 : wp T f6l0 e h Q = wp T (.seq (.seq f6r19 (.cond (.t 101) .skip (.exit 4))) (.seq (.blk 5 (.seq f6r20 (.cond (.t 114) (.seq f6r21 .ret) .skip))) f6r22)) e h Q := rfl
theorem xf6r23 : wp T f6r23 e h Q = wpI (cW T) i6r23 e h (regQ (some [0, 5, 6, 7, 8]) Q) := wq_reg ..
theorem xf6l1 : wp T f6l1 e h Q = wp T (.seq (.seq f6r17 (.cond (.t 91) .skip (.exit 2))) (.seq (.blk 3 (.seq f6r18 (.blk 4 (.loop f6l0)))) f6r23)) e h Q := rfl
theorem xf6r24 : wp T f6r24 e h Q = wpI (cW T) i6r24 e h (regQ (some [0, 5, 6]) Q) := wq_reg ..
theorem xf6l2 : wp T f6l2 e h Q = wp T (.seq (.seq f6r11 (.cond (.t 47) .skip (.exit 0))) (.seq (.blk 1 (.seq (.seq f6r12 (.cond (.t 73) (.seq f6r13 .ret) .skip)) (.seq (.seq f6r14 (.cond (.t 78) (.exit 1) .skip)) (.seq f6r15 (.seq f6r16 (.blk 2 (.loop f6l1))))))) f6r24)) e h Q := rfl
theorem xf6r25 : wp T f6r25 e h Q = wpI (cW T) i6r25 e h (regQ (some [4]) Q) := wq_reg ..
theorem xb6 : wp T b6 e h Q = wp T (.seq f6r0 (.seq (.seq f6r1 (.cond (.t 11) (.seq f6r2 .ret) .skip)) (.seq (.seq f6r3 (.cond (.t 19) (.seq f6r4 .ret) .skip)) (.seq f6r5 (.seq (.seq f6r6 (.cond (.t 30) (.seq f6r7 .ret) .skip)) (.seq (.seq f6r8 (.cond (.t 43) (.seq f6r9 .ret) .skip)) (.seq (.seq f6r10 (.blk 0 (.loop f6l2))) (.seq f6r25 .ret)))))))) e h Q := rfl
theorem e6 : (type_of% @f6.eq_1) ∧ (type_of% @xb6) ∧ (type_of% @xf6r0) ∧ (type_of% @xf6r1) ∧ (type_of% @xf6r2) ∧ (type_of% @xf6r3) ∧ (type_of% @xf6r4) ∧ (type_of% @xf6r5) ∧ (type_of% @xf6r6) ∧ (type_of% @xf6r7) ∧ (type_of% @xf6r8) ∧ (type_of% @xf6r9) ∧ (type_of% @xf6r10) ∧ (type_of% @xf6r11) ∧ (type_of% @xf6r12) ∧ (type_of% @xf6r13) ∧ (type_of% @xf6r14) ∧ (type_of% @xf6r15) ∧ (type_of% @xf6r16) ∧ (type_of% @xf6r17) ∧ (type_of% @xf6r18) ∧ (type_of% @xf6r19) ∧ (type_of% @xf6r20) ∧ (type_of% @xf6r21) ∧ (type_of% @xf6r22) ∧ (type_of% @xf6l0) ∧ (type_of% @xf6r23) ∧ (type_of% @xf6l1) ∧ (type_of% @xf6r24) ∧ (type_of% @xf6l2) ∧ (type_of% @xf6r25) ∧ (type_of% @i6r0.eq_1) ∧ (type_of% @i6r1.eq_1) ∧ (type_of% @i6r2.eq_1) ∧ (type_of% @i6r3.eq_1) ∧ (type_of% @i6r4.eq_1) ∧ (type_of% @i6r5.eq_1) ∧ (type_of% @i6r6.eq_1) ∧ (type_of% @i6r7.eq_1) ∧ (type_of% @i6r8.eq_1) ∧ (type_of% @i6r9.eq_1) ∧ (type_of% @i6r10.eq_1) ∧ (type_of% @i6r11.eq_1) ∧ (type_of% @i6r12.eq_1) ∧ (type_of% @i6r13.eq_1) ∧ (type_of% @i6r14.eq_1) ∧ (type_of% @i6r15.eq_1) ∧ (type_of% @i6r16.eq_1) ∧ (type_of% @i6r17.eq_1) ∧ (type_of% @i6r18.eq_1) ∧ (type_of% @i6r19.eq_1) ∧ (type_of% @i6r20.eq_1) ∧ (type_of% @i6r21.eq_1) ∧ (type_of% @i6r22.eq_1) ∧ (type_of% @i6r23.eq_1) ∧ (type_of% @i6r24.eq_1) ∧ (type_of% @i6r25.eq_1) := ⟨@f6.eq_1, @xb6, @xf6r0, @xf6r1, @xf6r2, @xf6r3, @xf6r4, @xf6r5, @xf6r6, @xf6r7, @xf6r8, @xf6r9, @xf6r10, @xf6r11, @xf6r12, @xf6r13, @xf6r14, @xf6r15, @xf6r16, @xf6r17, @xf6r18, @xf6r19, @xf6r20, @xf6r21, @xf6r22, @xf6l0, @xf6r23, @xf6l1, @xf6r24, @xf6l2, @xf6r25, @i6r0.eq_1, @i6r1.eq_1, @i6r2.eq_1, @i6r3.eq_1, @i6r4.eq_1, @i6r5.eq_1, @i6r6.eq_1, @i6r7.eq_1, @i6r8.eq_1, @i6r9.eq_1, @i6r10.eq_1, @i6r11.eq_1, @i6r12.eq_1, @i6r13.eq_1, @i6r14.eq_1, @i6r15.eq_1, @i6r16.eq_1, @i6r17.eq_1, @i6r18.eq_1, @i6r19.eq_1, @i6r20.eq_1, @i6r21.eq_1, @i6r22.eq_1, @i6r23.eq_1, @i6r24.eq_1, @i6r25.eq_1⟩
theorem xf7r0 : wp T f7r0 e h Q = wpI (cW T) i7r0 e h (regQ (some [0]) Q) := wq_reg ..
theorem xf7r1 : wp T f7r1 e h Q = wpI (cW T) i7r1 e h (regQ (some [0, 15]) Q) := wq_reg ..
theorem xf7r2 : wp T f7r2 e h Q = wpI (cW T) i7r2 e h (regQ (some [2]) Q) := wq_reg ..
theorem xf7r3 : wp T f7r3 e h Q = wpI (cW T) i7r3 e h (regQ (some [0, 28]) Q) := wq_reg ..
theorem xf7r4 : wp T f7r4 e h Q = wpI (cW T) i7r4 e h (regQ (some [2]) Q) := wq_reg ..
theorem xf7r5 : wp T f7r5 e h Q = wpI (cW T) i7r5 e h (regQ (some [0, 4]) Q) := wq_reg ..
theorem xf7r6 : wp T f7r6 e h Q = wpI (cW T) i7r6 e h (regQ (some [0, 34]) Q) := wq_reg ..
theorem xf7r7 : wp T f7r7 e h Q = wpI (cW T) i7r7 e h (regQ (some [2]) Q) := wq_reg ..
theorem xf7r8 : wp T f7r8 e h Q = wpI (cW T) i7r8 e h (regQ (some [0, 7]) Q) := wq_reg ..
theorem xf7r9 : wp T f7r9 e h Q = wpI (cW T) i7r9 e h (regQ (some [0, 7, 10]) Q) := wq_reg ..
theorem xf7r10 : wp T f7r10 e h Q = wpI (cW T) i7r10 e h (regQ (some [0, 50]) Q) := wq_reg ..
theorem xf7r11 : wp T f7r11 e h Q = wpI (cW T) i7r11 e h (regQ (some [2]) Q) := wq_reg ..
theorem xf7r12 : wp T f7r12 e h Q = wpI (cW T) i7r12 e h (regQ (some [0, 11]) Q) := wq_reg ..
theorem xf7r13 : wp T f7r13 e h Q = wpI (cW T) i7r13 e h (regQ (some [0, 11, 12]) Q) := wq_reg ..
theorem xf7r14 : wp T f7r14 e h Q = wpI (cW T) i7r14 e h (regQ (some [12, 13]) Q) := wq_reg ..
theorem xf7r15 : wp T f7r15 e h Q = wpI (cW T) i7r15 e h (regQ (some [2]) Q) := wq_reg ..
theorem xb7 : wp T b7 e h Q = wp T (.seq f7r0 (.seq (.seq f7r1 (.cond (.t 15) (.seq f7r2 .ret) .skip)) (.seq (.seq f7r3 (.cond (.t 28) (.seq f7r4 .ret) .skip)) (.seq (.seq f7r5 (.seq f7r6 (.cond (.t 34) (.seq f7r7 .ret) .skip))) (.seq f7r8 (.seq f7r9 (.seq (.seq f7r10 (.cond (.t 50) (.seq f7r11 .ret) .skip)) (.seq f7r12 (.seq f7r13 (.seq f7r14 (.seq f7r15 .ret))))))))))) e h Q := rfl
theorem e7 : (type_of% @f7.eq_1) ∧ (type_of% @xb7) ∧ (type_of% @xf7r0) ∧ (type_of% @xf7r1) ∧ (type_of% @xf7r2) ∧ (type_of% @xf7r3) ∧ (type_of% @xf7r4) ∧ (type_of% @xf7r5) ∧ (type_of% @xf7r6) ∧ (type_of% @xf7r7) ∧ (type_of% @xf7r8) ∧ (type_of% @xf7r9) ∧ (type_of% @xf7r10) ∧ (type_of% @xf7r11) ∧ (type_of% @xf7r12) ∧ (type_of% @xf7r13) ∧ (type_of% @xf7r14) ∧ (type_of% @xf7r15) ∧ (type_of% @i7r0.eq_1) ∧ (type_of% @i7r1.eq_1) ∧ (type_of% @i7r2.eq_1) ∧ (type_of% @i7r3.eq_1) ∧ (type_of% @i7r4.eq_1) ∧ (type_of% @i7r5.eq_1) ∧ (type_of% @i7r6.eq_1) ∧ (type_of% @i7r7.eq_1) ∧ (type_of% @i7r8.eq_1) ∧ (type_of% @i7r9.eq_1) ∧ (type_of% @i7r10.eq_1) ∧ (type_of% @i7r11.eq_1) ∧ (type_of% @i7r12.eq_1) ∧ (type_of% @i7r13.eq_1) ∧ (type_of% @i7r14.eq_1) ∧ (type_of% @i7r15.eq_1) := ⟨@f7.eq_1, @xb7, @xf7r0, @xf7r1, @xf7r2, @xf7r3, @xf7r4, @xf7r5, @xf7r6, @xf7r7, @xf7r8, @xf7r9, @xf7r10, @xf7r11, @xf7r12, @xf7r13, @xf7r14, @xf7r15, @i7r0.eq_1, @i7r1.eq_1, @i7r2.eq_1, @i7r3.eq_1, @i7r4.eq_1, @i7r5.eq_1, @i7r6.eq_1, @i7r7.eq_1, @i7r8.eq_1, @i7r9.eq_1, @i7r10.eq_1, @i7r11.eq_1, @i7r12.eq_1, @i7r13.eq_1, @i7r14.eq_1, @i7r15.eq_1⟩
theorem xf9r0 : wp T f9r0 e h Q = wpI (cW T) i9r0 e h (regQ (some [0]) Q) := wq_reg ..
theorem xf9r1 : wp T f9r1 e h Q = wpI (cW T) i9r1 e h (regQ (some [0, 11]) Q) := wq_reg ..
theorem xf9r2 : wp T f9r2 e h Q = wpI (cW T) i9r2 e h (regQ (some [2]) Q) := wq_reg ..
theorem xf9r3 : wp T f9r3 e h Q = wpI (cW T) i9r3 e h (regQ (some [0, 19]) Q) := wq_reg ..
theorem xf9r4 : wp T f9r4 e h Q = wpI (cW T) i9r4 e h (regQ (some [2]) Q) := wq_reg ..
theorem xf9r5 : wp T f9r5 e h Q = wpI (cW T) i9r5 e h (regQ (some [0, 3]) Q) := wq_reg ..
theorem xf9r6 : wp T f9r6 e h Q = wpI (cW T) i9r6 e h (regQ (some [0, 3, 23]) Q) := wq_reg ..
theorem xf9r7 : wp T f9r7 e h Q = wpI (cW T) i9r7 e h (regQ (some [0, 3, 4, 5]) Q) := wq_reg ..
theorem xf9r8 : wp T f9r8 e h Q = wpI (cW T) i9r8 e h (regQ (some [0, 3, 4, 54]) Q) := wq_reg ..
theorem xf9r9 : wp T f9r9 e h Q = wpI (cW T) i9r9 e h (regQ (some [2]) Q) := wq_reg ..
theorem xf9r10 : wp T f9r10 e h Q = wpI (cW T) i9r10 e h (regQ (some [0, 3, 4, 6]) Q) := wq_reg ..
theorem xf9r11 : wp T f9r11 e h Q = wpI (cW T) i9r11 e h (regQ (some [0, 3, 4, 6, 62]) Q) := wq_reg ..
theorem xf9r12 : wp T f9r12 e h Q = wpI (cW T) i9r12 e h (regQ (some [0, 3, 4, 6, 7, 8, 9]) Q) := wq_reg ..
theorem xf9r13 : wp T f9r13 e h Q = wpI (cW T) i9r13 e h (regQ (some [0, 3, 4, 6, 91]) Q) := wq_reg ..
theorem xf9r14 : wp T f9r14 e h Q = wpI (cW T) i9r14 e h (regQ (some [2]) Q) := wq_reg ..
theorem xf9r15 : wp T f9r15 e h Q = wpI (cW T) i9r15 e h (regQ (some [0, 3, 4, 6]) Q) := wq_reg ..
theorem xf9l0 : wp T f9l0 e h Q = wp T (.seq (.seq f9r11 (.cond (.t 62) .skip (.exit 2))) (.seq (.blk 3 (.seq f9r12 (.seq f9r13 (.cond (.t 91) (.seq f9r14 .ret) .skip)))) f9r15)) e h Q := rfl
theorem xf9r16 : wp T f9r16 e h Q = wpI (cW T) i9r16 e h (regQ (some [0, 3]) Q) := wq_reg ..
theorem xf9l1 : wp T f9l1 e h Q = wp T (.seq (.seq f9r6 (.cond (.t 23) .skip (.exit 0))) (.seq (.blk 1 (.seq f9r7 (.seq (.seq f9r8 (.cond (.t 54) (.seq f9r9 .ret) .skip)) (.seq f9r10 (.blk 2 (.loop f9l0)))))) f9r16)) e h Q := rfl
theorem xf9r17 : wp T f9r17 e h Q = wpI (cW T) i9r17 e h (regQ (some [2]) Q) := wq_reg ..
theorem xb9 : wp T b9 e h Q = wp T (.seq f9r0 (.seq (.seq f9r1 (.cond (.t 11) (.seq f9r2 .ret) .skip)) (.seq (.seq f9r3 (.cond (.t 19) (.seq f9r4 .ret) .skip)) (.seq (.seq f9r5 (.blk 0 (.loop f9l1))) (.seq f9r17 .ret))))) e h Q := rfl
theorem e9 : (type_of% @f9.eq_1) ∧ (type_of% @xb9) ∧ (type_of% @xf9r0) ∧ (type_of% @xf9r1) ∧ (type_of% @xf9r2) ∧ (type_of% @xf9r3) ∧ (type_of% @xf9r4) ∧ (type_of% @xf9r5) ∧ (type_of% @xf9r6) ∧ (type_of% @xf9r7) ∧ (type_of% @xf9r8) ∧ (type_of% @xf9r9) ∧ (type_of% @xf9r10) ∧ (type_of% @xf9r11) ∧ (type_of% @xf9r12) ∧ (type_of% @xf9r13) ∧ (type_of% @xf9r14) ∧ (type_of% @xf9r15) ∧ (type_of% @xf9l0) ∧ (type_of% @xf9r16) ∧ (type_of% @xf9l1) ∧ (type_of% @xf9r17) ∧ (type_of% @i9r0.eq_1) ∧ (type_of% @i9r1.eq_1) ∧ (type_of% @i9r2.eq_1) ∧ (type_of% @i9r3.eq_1) ∧ (type_of% @i9r4.eq_1) ∧ (type_of% @i9r5.eq_1) ∧ (type_of% @i9r6.eq_1) ∧ (type_of% @i9r7.eq_1) ∧ (type_of% @i9r8.eq_1) ∧ (type_of% @i9r9.eq_1) ∧ (type_of% @i9r10.eq_1) ∧ (type_of% @i9r11.eq_1) ∧ (type_of% @i9r12.eq_1) ∧ (type_of% @i9r13.eq_1) ∧ (type_of% @i9r14.eq_1) ∧ (type_of% @i9r15.eq_1) ∧ (type_of% @i9r16.eq_1) ∧ (type_of% @i9r17.eq_1) := ⟨@f9.eq_1, @xb9, @xf9r0, @xf9r1, @xf9r2, @xf9r3, @xf9r4, @xf9r5, @xf9r6, @xf9r7, @xf9r8, @xf9r9, @xf9r10, @xf9r11, @xf9r12, @xf9r13, @xf9r14, @xf9r15, @xf9l0, @xf9r16, @xf9l1, @xf9r17, @i9r0.eq_1, @i9r1.eq_1, @i9r2.eq_1, @i9r3.eq_1, @i9r4.eq_1, @i9r5.eq_1, @i9r6.eq_1, @i9r7.eq_1, @i9r8.eq_1, @i9r9.eq_1, @i9r10.eq_1, @i9r11.eq_1, @i9r12.eq_1, @i9r13.eq_1, @i9r14.eq_1, @i9r15.eq_1, @i9r16.eq_1, @i9r17.eq_1⟩
theorem xf11r0 : wp T f11r0 e h Q = wpI (cW T) i11r0 e h (regQ (some [0]) Q) := wq_reg ..
theorem xf11r1 : wp T f11r1 e h Q = wpI (cW T) i11r1 e h (regQ (some [0, 8]) Q) := wq_reg ..
theorem xf11r2 : wp T f11r2 e h Q = wpI (cW T) i11r2 e h (regQ (some [2]) Q) := wq_reg ..
theorem xf11r3 : wp T f11r3 e h Q = wpI (cW T) i11r3 e h (regQ (some [0, 3]) Q) := wq_reg ..
theorem xf11r4 : wp T f11r4 e h Q = wpI (cW T) i11r4 e h (regQ (some [0, 3, 4]) Q) := wq_reg ..
theorem xf11r5 : wp T f11r5 e h Q = wpI (cW T) i11r5 e h (regQ (some [0, 3, 4, 12]) Q) := wq_reg ..
theorem xf11r6 : wp T f11r6 e h Q = wpI (cW T) i11r6 e h (regQ (some [0, 3, 4]) Q) := wq_reg ..
theorem xf11r7 : wp T f11r7 e h Q = wpI (cW T) i11r7 e h (regQ (some [0, 3, 4, 39]) Q) := wq_reg ..
theorem xf11r8 : wp T f11r8 e h Q = wpI (cW T) i11r8 e h (regQ (some [2]) Q) := wq_reg ..
theorem xf11r9 : wp T f11r9 e h Q = wpI (cW T) i11r9 e h (regQ (some [0, 3, 4, 5]) Q) := wq_reg ..
theorem xf11r10 : wp T f11r10 e h Q = wpI (cW T) i11r10 e h (regQ (some [0, 3, 4, 5, 47]) Q) := wq_reg ..
theorem xf11r11 : wp T f11r11 e h Q = wpI (cW T) i11r11 e h (regQ (some [0, 3, 4, 5]) Q) := wq_reg ..
theorem xf11r12 : wp T f11r12 e h Q = wpI (cW T) i11r12 e h (regQ (some [0, 3, 4, 5, 85]) Q) := wq_reg ..
theorem xf11r13 : wp T f11r13 e h Q = wpI (cW T) i11r13 e h (regQ (some [2]) Q) := wq_reg ..
theorem xf11r14 : wp T f11r14 e h Q = wpI (cW T) i11r14 e h (regQ (some [0, 3, 4, 5]) Q) := wq_reg ..
theorem xf11l0 : wp T f11l0 e h Q = wp T (.seq (.seq f11r10 (.cond (.t 47) .skip (.exit 2))) (.seq (.blk 3 (.seq f11r11 (.seq f11r12 (.cond (.t 85) (.seq f11r13 .ret) .skip)))) f11r14)) e h Q := rfl
theorem xf11r15 : wp T f11r15 e h Q = wpI (cW T) i11r15 e h (regQ (some [0, 3, 4]) Q) := wq_reg ..
theorem xf11l1 : wp T f11l1 e h Q = wp T (.seq (.seq f11r5 (.cond (.t 12) .skip (.exit 0))) (.seq (.blk 1 (.seq f11r6 (.seq (.seq f11r7 (.cond (.t 39) (.seq f11r8 .ret) .skip)) (.seq f11r9 (.blk 2 (.loop f11l0)))))) f11r15)) e h Q := rfl
theorem xf11r16 : wp T f11r16 e h Q = wpI (cW T) i11r16 e h (regQ (some [2]) Q) := wq_reg ..
theorem xb11 : wp T b11 e h Q = wp T (.seq f11r0 (.seq (.seq f11r1 (.cond (.t 8) (.seq f11r2 .ret) .skip)) (.seq f11r3 (.seq (.seq f11r4 (.blk 0 (.loop f11l1))) (.seq f11r16 .ret))))) e h Q := rfl
theorem e11 : (type_of% @f11.eq_1) ∧ (type_of% @xb11) ∧ (type_of% @xf11r0) ∧ (type_of% @xf11r1) ∧ (type_of% @xf11r2) ∧ (type_of% @xf11r3) ∧ (type_of% @xf11r4) ∧ (type_of% @xf11r5) ∧ (type_of% @xf11r6) ∧ (type_of% @xf11r7) ∧ (type_of% @xf11r8) ∧ (type_of% @xf11r9) ∧ (type_of% @xf11r10) ∧ (type_of% @xf11r11) ∧ (type_of% @xf11r12) ∧ (type_of% @xf11r13) ∧ (type_of% @xf11r14) ∧ (type_of% @xf11l0) ∧ (type_of% @xf11r15) ∧ (type_of% @xf11l1) ∧ (type_of% @xf11r16) ∧ (type_of% @i11r0.eq_1) ∧ (type_of% @i11r1.eq_1) ∧ (type_of% @i11r2.eq_1) ∧ (type_of% @i11r3.eq_1) ∧ (type_of% @i11r4.eq_1) ∧ (type_of% @i11r5.eq_1) ∧ (type_of% @i11r6.eq_1) ∧ (type_of% @i11r7.eq_1) ∧ (type_of% @i11r8.eq_1) ∧ (type_of% @i11r9.eq_1) ∧ (type_of% @i11r10.eq_1) ∧ (type_of% @i11r11.eq_1) ∧ (type_of% @i11r12.eq_1) ∧ (type_of% @i11r13.eq_1) ∧ (type_of% @i11r14.eq_1) ∧ (type_of% @i11r15.eq_1) ∧ (type_of% @i11r16.eq_1) := ⟨@f11.eq_1, @xb11, @xf11r0, @xf11r1, @xf11r2, @xf11r3, @xf11r4, @xf11r5, @xf11r6, @xf11r7, @xf11r8, @xf11r9, @xf11r10, @xf11r11, @xf11r12, @xf11r13, @xf11r14, @xf11l0, @xf11r15, @xf11l1, @xf11r16, @i11r0.eq_1, @i11r1.eq_1, @i11r2.eq_1, @i11r3.eq_1, @i11r4.eq_1, @i11r5.eq_1, @i11r6.eq_1, @i11r7.eq_1, @i11r8.eq_1, @i11r9.eq_1, @i11r10.eq_1, @i11r11.eq_1, @i11r12.eq_1, @i11r13.eq_1, @i11r14.eq_1, @i11r15.eq_1, @i11r16.eq_1⟩
theorem xf12r0 : wp T f12r0 e h Q = wpI (cW T) i12r0 e h (regQ (some [1]) Q) := wq_reg ..
theorem xf12r1 : wp T f12r1 e h Q = wpI (cW T) i12r1 e h (regQ (some [1, 8]) Q) := wq_reg ..
theorem xf12r2 : wp T f12r2 e h Q = wpI (cW T) i12r2 e h (regQ (some [2]) Q) := wq_reg ..
theorem xf12r3 : wp T f12r3 e h Q = wpI (cW T) i12r3 e h (regQ (some [1, 11]) Q) := wq_reg ..
theorem xf12r4 : wp T f12r4 e h Q = wpI (cW T) i12r4 e h (regQ (some [2]) Q) := wq_reg ..
theorem xf12r5 : wp T f12r5 e h Q = wpI (cW T) i12r5 e h (regQ (some [1, 13]) Q) := wq_reg ..
theorem xf12r6 : wp T f12r6 e h Q = wpI (cW T) i12r6 e h (regQ (some [2]) Q) := wq_reg ..
theorem xf12r7 : wp T f12r7 e h Q = wpI (cW T) i12r7 e h (regQ (some [1, 14, 15, 16]) Q) := wq_reg ..
theorem xf12r8 : wp T f12r8 e h Q = wpI (cW T) i12r8 e h (regQ (some [1, 14, 15, 16, 17]) Q) := wq_reg ..
theorem xf12r9 : wp T f12r9 e h Q = wpI (cW T) i12r9 e h (regQ (some [1, 4, 14, 15, 16]) Q) := wq_reg ..
theorem xf12r10 : wp T f12r10 e h Q = wpI (cW T) i12r10 e h (regQ (some [1, 14, 15, 16, 21, 22, 23]) Q) := wq_reg ..
theorem xf12r11 : wp T f12r11 e h Q = wpI (cW T) i12r11 e h (regQ (some [1, 14, 15, 16, 21, 22, 23, 24]) Q) := wq_reg ..
theorem xf12r12 : wp T f12r12 e h Q = wpI (cW T) i12r12 e h (regQ (some [1, 6, 14, 15, 16, 21, 22, 23]) Q) := wq_reg ..
theorem xf12r13 : wp T f12r13 e h Q = wpI (cW T) i12r13 e h (regQ (some [1, 14, 15, 16, 21, 22, 23, 30]) Q) := wq_reg ..
theorem xf12r14 : wp T f12r14 e h Q = wpI (cW T) i12r14 e h (regQ (some [2]) Q) := wq_reg ..
theorem xf12r15 : wp T f12r15 e h Q = wpI (cW T) i12r15 e h (regQ (some [1, 14, 15, 16, 21, 22, 23]) Q) := wq_reg ..
theorem xf12l0 : wp T f12l0 e h Q = wp T (.seq f12r11 (.seq (.cond (.t 24) .skip (.exit 2)) (.seq (.blk 3 (.seq f12r12 (.seq f12r13 (.cond (.t 30) (.seq f12r14 .ret) .skip)))) f12r15))) e h Q := rfl
theorem xf12r16 : wp T f12r16 e h Q = wpI (cW T) i12r16 e h (regQ (some [1, 14, 15, 16]) Q) := wq_reg ..
theorem xf12l1 : wp T f12l1 e h Q = wp T (.seq f12r8 (.seq (.cond (.t 17) .skip (.exit 0)) (.seq (.blk 1 (.seq f12r9 (.seq f12r10 (.blk 2 (.loop f12l0))))) f12r16))) e h Q := rfl
theorem xf12r17 : wp T f12r17 e h Q = wpI (cW T) i12r17 e h (regQ (some [35]) Q) := wq_reg ..
theorem xf12r18 : wp T f12r18 e h Q = wpI (cW T) i12r18 e h (regQ (some [2]) Q) := wq_reg ..
theorem xf12r19 : wp T f12r19 e h Q = wpI (cW T) i12r19 e h (regQ (some [2]) Q) := wq_reg ..
theorem xb12 : wp T b12 e h Q = wp T (.seq f12r0 (.seq (.seq f12r1 (.cond (.t 8) (.seq f12r2 .ret) .skip)) (.seq (.seq f12r3 (.cond (.t 11) (.seq f12r4 .ret) .skip)) (.seq (.seq f12r5 (.cond (.t 13) (.seq f12r6 .ret) .skip)) (.seq (.seq f12r7 (.blk 0 (.loop f12l1))) (.seq (.seq f12r17 (.cond (.t 35) (.seq f12r18 .ret) .skip)) (.seq f12r19 .ret))))))) e h Q := rfl
theorem e12 : (type_of% @f12.eq_1) ∧ (type_of% @xb12) ∧ (type_of% @xf12r0) ∧ (type_of% @xf12r1) ∧ (type_of% @xf12r2) ∧ (type_of% @xf12r3) ∧ (type_of% @xf12r4) ∧ (type_of% @xf12r5) ∧ (type_of% @xf12r6) ∧ (type_of% @xf12r7) ∧ (type_of% @xf12r8) ∧ (type_of% @xf12r9) ∧ (type_of% @xf12r10) ∧ (type_of% @xf12r11) ∧ (type_of% @xf12r12) ∧ (type_of% @xf12r13) ∧ (type_of% @xf12r14) ∧ (type_of% @xf12r15) ∧ (type_of% @xf12l0) ∧ (type_of% @xf12r16) ∧ (type_of% @xf12l1) ∧ (type_of% @xf12r17) ∧ (type_of% @xf12r18) ∧ (type_of% @xf12r19) ∧ (type_of% @i12r0.eq_1) ∧ (type_of% @i12r1.eq_1) ∧ (type_of% @i12r2.eq_1) ∧ (type_of% @i12r3.eq_1) ∧ (type_of% @i12r4.eq_1) ∧ (type_of% @i12r5.eq_1) ∧ (type_of% @i12r6.eq_1) ∧ (type_of% @i12r7.eq_1) ∧ (type_of% @i12r8.eq_1) ∧ (type_of% @i12r9.eq_1) ∧ (type_of% @i12r10.eq_1) ∧ (type_of% @i12r11.eq_1) ∧ (type_of% @i12r12.eq_1) ∧ (type_of% @i12r13.eq_1) ∧ (type_of% @i12r14.eq_1) ∧ (type_of% @i12r15.eq_1) ∧ (type_of% @i12r16.eq_1) ∧ (type_of% @i12r17.eq_1) ∧ (type_of% @i12r18.eq_1) ∧ (type_of% @i12r19.eq_1) := ⟨@f12.eq_1, @xb12, @xf12r0, @xf12r1, @xf12r2, @xf12r3, @xf12r4, @xf12r5, @xf12r6, @xf12r7, @xf12r8, @xf12r9, @xf12r10, @xf12r11, @xf12r12, @xf12r13, @xf12r14, @xf12r15, @xf12l0, @xf12r16, @xf12l1, @xf12r17, @xf12r18, @xf12r19, @i12r0.eq_1, @i12r1.eq_1, @i12r2.eq_1, @i12r3.eq_1, @i12r4.eq_1, @i12r5.eq_1, @i12r6.eq_1, @i12r7.eq_1, @i12r8.eq_1, @i12r9.eq_1, @i12r10.eq_1, @i12r11.eq_1, @i12r12.eq_1, @i12r13.eq_1, @i12r14.eq_1, @i12r15.eq_1, @i12r16.eq_1, @i12r17.eq_1, @i12r18.eq_1, @i12r19.eq_1⟩
theorem xf13r0 : wp T f13r0 e h Q = wpI (cW T) i13r0 e h (regQ (some [0]) Q) := wq_reg ..
theorem xf13r1 : wp T f13r1 e h Q = wpI (cW T) i13r1 e h (regQ (some [0, 3]) Q) := wq_reg ..
theorem xf13r2 : wp T f13r2 e h Q = wpI (cW T) i13r2 e h (regQ (some [2]) Q) := wq_reg ..
theorem xf13r3 : wp T f13r3 e h Q = wpI (cW T) i13r3 e h (regQ (some [0, 6]) Q) := wq_reg ..
theorem xf13r4 : wp T f13r4 e h Q = wpI (cW T) i13r4 e h (regQ (some [2]) Q) := wq_reg ..
theorem xf13r5 : wp T f13r5 e h Q = wpI (cW T) i13r5 e h (regQ (some [0, 10]) Q) := wq_reg ..
theorem xf13r6 : wp T f13r6 e h Q = wpI (cW T) i13r6 e h (regQ (some [2]) Q) := wq_reg ..
theorem xf13r7 : wp T f13r7 e h Q = wpI (cW T) i13r7 e h (regQ (some [0, 13]) Q) := wq_reg ..
theorem xf13r8 : wp T f13r8 e h Q = wpI (cW T) i13r8 e h (regQ (some [2]) Q) := wq_reg ..
theorem xf13r9 : wp T f13r9 e h Q = wpI (cW T) i13r9 e h (regQ (some [17]) Q) := wq_reg ..
theorem xf13r10 : wp T f13r10 e h Q = wpI (cW T) i13r10 e h (regQ (some [2]) Q) := wq_reg ..
theorem xf13r11 : wp T f13r11 e h Q = wpI (cW T) i13r11 e h (regQ (some [2]) Q) := wq_reg ..
theorem xb13 : wp T b13 e h Q = wp T (.seq f13r0 (.seq (.blk 0 (.seq f13r1 (.cond (.t 3) (.seq f13r2 .ret) (.seq f13r3 (.cond (.t 6) (.seq f13r4 .ret) (.seq f13r5 (.cond (.t 10) (.seq f13r6 .ret) (.seq f13r7 (.cond (.t 13) (.seq f13r8 .ret) (.seq f13r9 (.cond (.t 17) (.seq f13r10 .ret) .skip))))))))))) (.seq f13r11 .ret))) e h Q := rfl
theorem e13 : (type_of% @f13.eq_1) ∧ (type_of% @xb13) ∧ (type_of% @xf13r0) ∧ (type_of% @xf13r1) ∧ (type_of% @xf13r2) ∧ (type_of% @xf13r3) ∧ (type_of% @xf13r4) ∧ (type_of% @xf13r5) ∧ (type_of% @xf13r6) ∧ (type_of% @xf13r7) ∧ (type_of% @xf13r8) ∧ (type_of% @xf13r9) ∧ (type_of% @xf13r10) ∧ (type_of% @xf13r11) ∧ (type_of% @i13r0.eq_1) ∧ (type_of% @i13r1.eq_1) ∧ (type_of% @i13r2.eq_1) ∧ (type_of% @i13r3.eq_1) ∧ (type_of% @i13r4.eq_1) ∧ (type_of% @i13r5.eq_1) ∧ (type_of% @i13r6.eq_1) ∧ (type_of% @i13r7.eq_1) ∧ (type_of% @i13r8.eq_1) ∧ (type_of% @i13r9.eq_1) ∧ (type_of% @i13r10.eq_1) ∧ (type_of% @i13r11.eq_1) := ⟨@f13.eq_1, @xb13, @xf13r0, @xf13r1, @xf13r2, @xf13r3, @xf13r4, @xf13r5, @xf13r6, @xf13r7, @xf13r8, @xf13r9, @xf13r10, @xf13r11, @i13r0.eq_1, @i13r1.eq_1, @i13r2.eq_1, @i13r3.eq_1, @i13r4.eq_1, @i13r5.eq_1, @i13r6.eq_1, @i13r7.eq_1, @i13r8.eq_1, @i13r9.eq_1, @i13r10.eq_1, @i13r11.eq_1⟩
theorem xf14r0 : wp T f14r0 e h Q = wpI (cW T) i14r0 e h (regQ (some [0, 1]) Q) := wq_reg ..
theorem xf14r1 : wp T f14r1 e h Q = wpI (cW T) i14r1 e h (regQ (some [4]) Q) := wq_reg ..
theorem xb14 : wp T b14 e h Q = wp T (.seq f14r0 (.seq f14r1 .ret)) e h Q := rfl
theorem e14 : (type_of% @f14.eq_1) ∧ (type_of% @xb14) ∧ (type_of% @xf14r0) ∧ (type_of% @xf14r1) ∧ (type_of% @i14r0.eq_1) ∧ (type_of% @i14r1.eq_1) := ⟨@f14.eq_1, @xb14, @xf14r0, @xf14r1, @i14r0.eq_1, @i14r1.eq_1⟩
theorem xf15r0 : wp T f15r0 e h Q = wpI (cW T) i15r0 e h (regQ (some [0, 1]) Q) := wq_reg ..
theorem xf15r1 : wp T f15r1 e h Q = wpI (cW T) i15r1 e h (regQ (some [0, 1, 7]) Q) := wq_reg ..
theorem xf15r2 : wp T f15r2 e h Q = wpI (cW T) i15r2 e h (regQ (some [4]) Q) := wq_reg ..
theorem xf15r3 : wp T f15r3 e h Q = wpI (cW T) i15r3 e h (regQ (some [0, 1, 11]) Q) := wq_reg ..
theorem xf15r4 : wp T f15r4 e h Q = wpI (cW T) i15r4 e h (regQ (some [4]) Q) := wq_reg ..
theorem xf15r5 : wp T f15r5 e h Q = wpI (cW T) i15r5 e h (regQ (some [0, 1, 5]) Q) := wq_reg ..
theorem xf15r6 : wp T f15r6 e h Q = wpI (cW T) i15r6 e h (regQ (some [0, 1, 5, 20]) Q) := wq_reg ..
theorem xf15r7 : wp T f15r7 e h Q = wpI (cW T) i15r7 e h (regQ (some [0, 1, 5, 34]) Q) := wq_reg ..
theorem xf15r8 : wp T f15r8 e h Q = wpI (cW T) i15r8 e h (regQ (some [4]) Q) := wq_reg ..
theorem xf15r9 : wp T f15r9 e h Q = wpI (cW T) i15r9 e h (regQ (some [0, 1, 5]) Q) := wq_reg ..
theorem xf15l0 : wp T f15l0 e h Q = wp T (.seq (.seq f15r6 (.cond (.t 20) .skip (.exit 0))) (.seq (.blk 1 (.seq f15r7 (.cond (.t 34) (.seq f15r8 .ret) .skip))) f15r9)) e h Q := rfl
theorem xf15r10 : wp T f15r10 e h Q = wpI (cW T) i15r10 e h (regQ (some [4]) Q) := wq_reg ..
theorem xb15 : wp T b15 e h Q = wp T (.seq f15r0 (.seq (.seq f15r1 (.cond (.t 7) (.seq f15r2 .ret) .skip)) (.seq (.seq f15r3 (.cond (.t 11) (.seq f15r4 .ret) .skip)) (.seq (.seq f15r5 (.blk 0 (.loop f15l0))) (.seq f15r10 .ret))))) e h Q := rfl
theorem e15 : (type_of% @f15.eq_1) ∧ (type_of% @xb15) ∧ (type_of% @xf15r0) ∧ (type_of% @xf15r1) ∧ (type_of% @xf15r2) ∧ (type_of% @xf15r3) ∧ (type_of% @xf15r4) ∧ (type_of% @xf15r5) ∧ (type_of% @xf15r6) ∧ (type_of% @xf15r7) ∧ (type_of% @xf15r8) ∧ (type_of% @xf15r9) ∧ (type_of% @xf15l0) ∧ (type_of% @xf15r10) ∧ (type_of% @i15r0.eq_1) ∧ (type_of% @i15r1.eq_1) ∧ (type_of% @i15r2.eq_1) ∧ (type_of% @i15r3.eq_1) ∧ (type_of% @i15r4.eq_1) ∧ (type_of% @i15r5.eq_1) ∧ (type_of% @i15r6.eq_1) ∧ (type_of% @i15r7.eq_1) ∧ (type_of% @i15r8.eq_1) ∧ (type_of% @i15r9.eq_1) ∧ (type_of% @i15r10.eq_1) := ⟨@f15.eq_1, @xb15, @xf15r0, @xf15r1, @xf15r2, @xf15r3, @xf15r4, @xf15r5, @xf15r6, @xf15r7, @xf15r8, @xf15r9, @xf15l0, @xf15r10, @i15r0.eq_1, @i15r1.eq_1, @i15r2.eq_1, @i15r3.eq_1, @i15r4.eq_1, @i15r5.eq_1, @i15r6.eq_1, @i15r7.eq_1, @i15r8.eq_1, @i15r9.eq_1, @i15r10.eq_1⟩
theorem xf16r0 : wp T f16r0 e h Q = wpI (cW T) i16r0 e h (regQ (some [0, 1, 2]) Q) := wq_reg ..
theorem xf16r1 : wp T f16r1 e h Q = wpI (cW T) i16r1 e h (regQ (some [2, 7]) Q) := wq_reg ..
theorem xf16r2 : wp T f16r2 e h Q = wpI (cW T) i16r2 e h (regQ (some [27]) Q) := wq_reg ..
theorem xf16r3 : wp T f16r3 e h Q = wpI (cW T) i16r3 e h (regQ (some [6]) Q) := wq_reg ..
theorem xf16r4 : wp T f16r4 e h Q = wpI (cW T) i16r4 e h (regQ (some [6]) Q) := wq_reg ..
theorem xb16 : wp T b16 e h Q = wp T (.seq f16r0 (.seq f16r1 (.seq (.seq f16r2 (.cond (.t 27) (.seq f16r3 .ret) .skip)) (.seq f16r4 .ret)))) e h Q := rfl
theorem e16 : (type_of% @f16.eq_1) ∧ (type_of% @xb16) ∧ (type_of% @xf16r0) ∧ (type_of% @xf16r1) ∧ (type_of% @xf16r2) ∧ (type_of% @xf16r3) ∧ (type_of% @xf16r4) ∧ (type_of% @i16r0.eq_1) ∧ (type_of% @i16r1.eq_1) ∧ (type_of% @i16r2.eq_1) ∧ (type_of% @i16r3.eq_1) ∧ (type_of% @i16r4.eq_1) := ⟨@f16.eq_1, @xb16, @xf16r0, @xf16r1, @xf16r2, @xf16r3, @xf16r4, @i16r0.eq_1, @i16r1.eq_1, @i16r2.eq_1, @i16r3.eq_1, @i16r4.eq_1⟩
theorem xf17r0 : wp T f17r0 e h Q = wpI (cW T) i17r0 e h (regQ (some [0, 1, 2]) Q) := wq_reg ..
theorem xf17r1 : wp T f17r1 e h Q = wpI (cW T) i17r1 e h (regQ (some [43]) Q) := wq_reg ..
theorem xf17r2 : wp T f17r2 e h Q = wpI (cW T) i17r2 e h (regQ (some [6]) Q) := wq_reg ..
theorem xf17r3 : wp T f17r3 e h Q = wpI (cW T) i17r3 e h (regQ (some [6]) Q) := wq_reg ..
theorem xb17 : wp T b17 e h Q = wp T (.seq f17r0 (.seq (.seq f17r1 (.cond (.t 43) (.seq f17r2 .ret) .skip)) (.seq f17r3 .ret))) e h Q := rfl
theorem e17 : (type_of% @f17.eq_1) ∧ (type_of% @xb17) ∧ (type_of% @xf17r0) ∧ (type_of% @xf17r1) ∧ (type_of% @xf17r2) ∧ (type_of% @xf17r3) ∧ (type_of% @i17r0.eq_1) ∧ (type_of% @i17r1.eq_1) ∧ (type_of% @i17r2.eq_1) ∧ (type_of% @i17r3.eq_1) := ⟨@f17.eq_1, @xb17, @xf17r0, @xf17r1, @xf17r2, @xf17r3, @i17r0.eq_1, @i17r1.eq_1, @i17r2.eq_1, @i17r3.eq_1⟩
theorem xf18r0 : wp T f18r0 e h Q = wpI (cW T) i18r0 e h (regQ (some [0, 1]) Q) := wq_reg ..
theorem xf18r1 : wp T f18r1 e h Q = wpI (cW T) i18r1 e h (regQ (some [0, 1, 10]) Q) := wq_reg ..
theorem xf18r2 : wp T f18r2 e h Q = wpI (cW T) i18r2 e h (regQ (some [4]) Q) := wq_reg ..
theorem xf18r3 : wp T f18r3 e h Q = wpI (cW T) i18r3 e h (regQ (some [0, 1, 5]) Q) := wq_reg ..
theorem xf18r4 : wp T f18r4 e h Q = wpI (cW T) i18r4 e h (regQ (some [0, 1, 5, 14]) Q) := wq_reg ..
theorem xf18r5 : wp T f18r5 e h Q = wpI (cW T) i18r5 e h (regQ (some [0, 1, 5, 25]) Q) := wq_reg ..
theorem xf18r6 : wp T f18r6 e h Q = wpI (cW T) i18r6 e h (regQ (some [4]) Q) := wq_reg ..
theorem xf18r7 : wp T f18r7 e h Q = wpI (cW T) i18r7 e h (regQ (some [0, 1, 5]) Q) := wq_reg ..
theorem xf18l0 : wp T f18l0 e h Q = wp T (.seq (.seq f18r4 (.cond (.t 14) .skip (.exit 0))) (.seq (.blk 1 (.seq f18r5 (.cond (.t 25) (.seq f18r6 .ret) .skip))) f18r7)) e h Q := rfl
theorem xf18r8 : wp T f18r8 e h Q = wpI (cW T) i18r8 e h (regQ (some [4]) Q) := wq_reg ..
theorem xb18 : wp T b18 e h Q = wp T (.seq f18r0 (.seq (.seq f18r1 (.cond (.t 10) (.seq f18r2 .ret) .skip)) (.seq (.seq f18r3 (.blk 0 (.loop f18l0))) (.seq f18r8 .ret)))) e h Q := rfl
theorem e18 : (type_of% @f18.eq_1) ∧ (type_of% @xb18) ∧ (type_of% @xf18r0) ∧ (type_of% @xf18r1) ∧ (type_of% @xf18r2) ∧ (type_of% @xf18r3) ∧ (type_of% @xf18r4) ∧ (type_of% @xf18r5) ∧ (type_of% @xf18r6) ∧ (type_of% @xf18r7) ∧ (type_of% @xf18l0) ∧ (type_of% @xf18r8) ∧ (type_of% @i18r0.eq_1) ∧ (type_of% @i18r1.eq_1) ∧ (type_of% @i18r2.eq_1) ∧ (type_of% @i18r3.eq_1) ∧ (type_of% @i18r4.eq_1) ∧ (type_of% @i18r5.eq_1) ∧ (type_of% @i18r6.eq_1) ∧ (type_of% @i18r7.eq_1) ∧ (type_of% @i18r8.eq_1) := ⟨@f18.eq_1, @xb18, @xf18r0, @xf18r1, @xf18r2, @xf18r3, @xf18r4, @xf18r5, @xf18r6, @xf18r7, @xf18l0, @xf18r8, @i18r0.eq_1, @i18r1.eq_1, @i18r2.eq_1, @i18r3.eq_1, @i18r4.eq_1, @i18r5.eq_1, @i18r6.eq_1, @i18r7.eq_1, @i18r8.eq_1⟩
theorem xf19r0 : wp T f19r0 e h Q = wpI (cW T) i19r0 e h (regQ (some [1, 2]) Q) := wq_reg ..
theorem xf19r1 : wp T f19r1 e h Q = wpI (cW T) i19r1 e h (regQ (some [1, 2, 5]) Q) := wq_reg ..
theorem xf19r2 : wp T f19r2 e h Q = wpI (cW T) i19r2 e h (regQ (some [1, 2, 5, 6]) Q) := wq_reg ..
theorem xf19r3 : wp T f19r3 e h Q = wpI (cW T) i19r3 e h (regQ (some [1, 2, 5, 6, 7]) Q) := wq_reg ..
theorem xf19r4 : wp T f19r4 e h Q = wpI (cW T) i19r4 e h (regQ (some [1, 5, 7]) Q) := wq_reg ..
theorem xf19r5 : wp T f19r5 e h Q = wpI (cW T) i19r5 e h (regQ (some [5]) Q) := wq_reg ..
theorem xf19r6 : wp T f19r6 e h Q = wpI (cW T) i19r6 e h (regQ (some [4]) Q) := wq_reg ..
theorem xb19 : wp T b19 e h Q = wp T (.seq f19r0 (.seq f19r1 (.seq f19r2 (.seq f19r3 (.seq f19r4 (.seq f19r5 (.seq f19r6 .ret))))))) e h Q := rfl
theorem e19 : (type_of% @f19.eq_1) ∧ (type_of% @xb19) ∧ (type_of% @xf19r0) ∧ (type_of% @xf19r1) ∧ (type_of% @xf19r2) ∧ (type_of% @xf19r3) ∧ (type_of% @xf19r4) ∧ (type_of% @xf19r5) ∧ (type_of% @xf19r6) ∧ (type_of% @i19r0.eq_1) ∧ (type_of% @i19r1.eq_1) ∧ (type_of% @i19r2.eq_1) ∧ (type_of% @i19r3.eq_1) ∧ (type_of% @i19r4.eq_1) ∧ (type_of% @i19r5.eq_1) ∧ (type_of% @i19r6.eq_1) := ⟨@f19.eq_1, @xb19, @xf19r0, @xf19r1, @xf19r2, @xf19r3, @xf19r4, @xf19r5, @xf19r6, @i19r0.eq_1, @i19r1.eq_1, @i19r2.eq_1, @i19r3.eq_1, @i19r4.eq_1, @i19r5.eq_1, @i19r6.eq_1⟩
theorem xf20r0 : wp T f20r0 e h Q = wpI (cW T) i20r0 e h (regQ (some [0, 1]) Q) := wq_reg ..
theorem xf20r1 : wp T f20r1 e h Q = wpI (cW T) i20r1 e h (regQ (some [4]) Q) := wq_reg ..
theorem xb20 : wp T b20 e h Q = wp T (.seq f20r0 (.seq f20r1 .ret)) e h Q := rfl
theorem e20 : (type_of% @f20.eq_1) ∧ (type_of% @xb20) ∧ (type_of% @xf20r0) ∧ (type_of% @xf20r1) ∧ (type_of% @i20r0.eq_1) ∧ (type_of% @i20r1.eq_1) := ⟨@f20.eq_1, @xb20, @xf20r0, @xf20r1, @i20r0.eq_1, @i20r1.eq_1⟩
theorem xf21r0 : wp T f21r0 e h Q = wpI (cW T) i21r0 e h (regQ (some [0, 1]) Q) := wq_reg ..
theorem xf21r1 : wp T f21r1 e h Q = wpI (cW T) i21r1 e h (regQ (some [0, 1, 11, 12, 13]) Q) := wq_reg ..
theorem xf21r2 : wp T f21r2 e h Q = wpI (cW T) i21r2 e h (regQ (some [0, 1, 11, 12, 13, 14]) Q) := wq_reg ..
theorem xf21r3 : wp T f21r3 e h Q = wpI (cW T) i21r3 e h (regQ (some [0, 1, 6, 11, 12, 13]) Q) := wq_reg ..
theorem xf21r4 : wp T f21r4 e h Q = wpI (cW T) i21r4 e h (regQ (some [0, 1, 11, 12, 13, 18, 19, 20]) Q) := wq_reg ..
theorem xf21r5 : wp T f21r5 e h Q = wpI (cW T) i21r5 e h (regQ (some [0, 1, 11, 12, 13, 18, 19, 20, 21]) Q) := wq_reg ..
theorem xf21r6 : wp T f21r6 e h Q = wpI (cW T) i21r6 e h (regQ (some [0, 1, 8, 11, 12, 13, 18, 19, 20]) Q) := wq_reg ..
theorem xf21r7 : wp T f21r7 e h Q = wpI (cW T) i21r7 e h (regQ (some [0, 1, 11, 12, 13, 18, 19, 20, 28]) Q) := wq_reg ..
theorem xf21r8 : wp T f21r8 e h Q = wpI (cW T) i21r8 e h (regQ (some [4]) Q) := wq_reg ..
theorem xf21r9 : wp T f21r9 e h Q = wpI (cW T) i21r9 e h (regQ (some [0, 1, 11, 12, 13, 18, 19, 20]) Q) := wq_reg ..
theorem xf21l0 : wp T f21l0 e h Q = wp T (.seq f21r5 (.seq (.cond (.t 21) .skip (.exit 2)) (.seq (.blk 3 (.seq f21r6 (.seq f21r7 (.cond (.t 28) (.seq f21r8 .ret) .skip)))) f21r9))) e h Q := rfl
theorem xf21r10 : wp T f21r10 e h Q = wpI (cW T) i21r10 e h (regQ (some [0, 1, 11, 12, 13]) Q) := wq_reg ..
theorem xf21l1 : wp T f21l1 e h Q = wp T (.seq f21r2 (.seq (.cond (.t 14) .skip (.exit 0)) (.seq (.blk 1 (.seq f21r3 (.seq f21r4 (.blk 2 (.loop f21l0))))) f21r10))) e h Q := rfl
theorem xf21r11 : wp T f21r11 e h Q = wpI (cW T) i21r11 e h (regQ (some [4]) Q) := wq_reg ..
theorem xb21 : wp T b21 e h Q = wp T (.seq f21r0 (.seq (.seq f21r1 (.blk 0 (.loop f21l1))) (.seq f21r11 .ret))) e h Q := rfl
theorem e21 : (type_of% @f21.eq_1) ∧ (type_of% @xb21) ∧ (type_of% @xf21r0) ∧ (type_of% @xf21r1) ∧ (type_of% @xf21r2) ∧ (type_of% @xf21r3) ∧ (type_of% @xf21r4) ∧ (type_of% @xf21r5) ∧ (type_of% @xf21r6) ∧ (type_of% @xf21r7) ∧ (type_of% @xf21r8) ∧ (type_of% @xf21r9) ∧ (type_of% @xf21l0) ∧ (type_of% @xf21r10) ∧ (type_of% @xf21l1) ∧ (type_of% @xf21r11) ∧ (type_of% @i21r0.eq_1) ∧ (type_of% @i21r1.eq_1) ∧ (type_of% @i21r2.eq_1) ∧ (type_of% @i21r3.eq_1) ∧ (type_of% @i21r4.eq_1) ∧ (type_of% @i21r5.eq_1) ∧ (type_of% @i21r6.eq_1) ∧ (type_of% @i21r7.eq_1) ∧ (type_of% @i21r8.eq_1) ∧ (type_of% @i21r9.eq_1) ∧ (type_of% @i21r10.eq_1) ∧ (type_of% @i21r11.eq_1) := ⟨@f21.eq_1, @xb21, @xf21r0, @xf21r1, @xf21r2, @xf21r3, @xf21r4, @xf21r5, @xf21r6, @xf21r7, @xf21r8, @xf21r9, @xf21l0, @xf21r10, @xf21l1, @xf21r11, @i21r0.eq_1, @i21r1.eq_1, @i21r2.eq_1, @i21r3.eq_1, @i21r4.eq_1, @i21r5.eq_1, @i21r6.eq_1, @i21r7.eq_1, @i21r8.eq_1, @i21r9.eq_1, @i21r10.eq_1, @i21r11.eq_1⟩
theorem xf22r0 : wp T f22r0 e h Q = wpI (cW T) i22r0 e h (regQ (some [0, 1]) Q) := wq_reg ..
theorem xf22r1 : wp T f22r1 e h Q = wpI (cW T) i22r1 e h (regQ (some [0, 1, 15]) Q) := wq_reg ..
theorem xf22r2 : wp T f22r2 e h Q = wpI (cW T) i22r2 e h (regQ (some [4]) Q) := wq_reg ..
theorem xf22r3 : wp T f22r3 e h Q = wpI (cW T) i22r3 e h (regQ (some [0, 1, 5]) Q) := wq_reg ..
theorem xf22r4 : wp T f22r4 e h Q = wpI (cW T) i22r4 e h (regQ (some [0, 1, 5, 24]) Q) := wq_reg ..
theorem xf22r5 : wp T f22r5 e h Q = wpI (cW T) i22r5 e h (regQ (some [0, 1, 5, 6]) Q) := wq_reg ..
theorem xf22r6 : wp T f22r6 e h Q = wpI (cW T) i22r6 e h (regQ (some [0, 1, 5, 6, 7]) Q) := wq_reg ..
theorem xf22r7 : wp T f22r7 e h Q = wpI (cW T) i22r7 e h (regQ (some [0, 1, 5, 6, 7, 40]) Q) := wq_reg ..
theorem xf22r8 : wp T f22r8 e h Q = wpI (cW T) i22r8 e h (regQ (some [0, 1, 5, 6, 7, 50]) Q) := wq_reg ..
theorem xf22r9 : wp T f22r9 e h Q = wpI (cW T) i22r9 e h (regQ (some [4]) Q) := wq_reg ..
theorem xf22r10 : wp T f22r10 e h Q = wpI (cW T) i22r10 e h (regQ (some [0, 1, 5, 6, 7]) Q) := wq_reg ..
theorem xf22l0 : wp T f22l0 e h Q = wp T (.seq (.seq f22r7 (.cond (.t 40) .skip (.exit 2))) (.seq (.blk 3 (.seq f22r8 (.cond (.t 50) (.seq f22r9 .ret) .skip))) f22r10)) e h Q := rfl
theorem xf22r11 : wp T f22r11 e h Q = wpI (cW T) i22r11 e h (regQ (some [0, 1, 5]) Q) := wq_reg ..
theorem xf22l1 : wp T f22l1 e h Q = wp T (.seq (.seq f22r4 (.cond (.t 24) .skip (.exit 0))) (.seq (.blk 1 (.seq f22r5 (.seq f22r6 (.blk 2 (.loop f22l0))))) f22r11)) e h Q := rfl
theorem xf22r12 : wp T f22r12 e h Q = wpI (cW T) i22r12 e h (regQ (some [4]) Q) := wq_reg ..
theorem xb22 : wp T b22 e h Q = wp T (.seq f22r0 (.seq (.seq f22r1 (.cond (.t 15) (.seq f22r2 .ret) .skip)) (.seq (.seq f22r3 (.blk 0 (.loop f22l1))) (.seq f22r12 .ret)))) e h Q := rfl
theorem e22 : (type_of% @f22.eq_1) ∧ (type_of% @xb22) ∧ (type_of% @xf22r0) ∧ (type_of% @xf22r1) ∧ (type_of% @xf22r2) ∧ (type_of% @xf22r3) ∧ (type_of% @xf22r4) ∧ (type_of% @xf22r5) ∧ (type_of% @xf22r6) ∧ (type_of% @xf22r7) ∧ (type_of% @xf22r8) ∧ (type_of% @xf22r9) ∧ (type_of% @xf22r10) ∧ (type_of% @xf22l0) ∧ (type_of% @xf22r11) ∧ (type_of% @xf22l1) ∧ (type_of% @xf22r12) ∧ (type_of% @i22r0.eq_1) ∧ (type_of% @i22r1.eq_1) ∧ (type_of% @i22r2.eq_1) ∧ (type_of% @i22r3.eq_1) ∧ (type_of% @i22r4.eq_1) ∧ (type_of% @i22r5.eq_1) ∧ (type_of% @i22r6.eq_1) ∧ (type_of% @i22r7.eq_1) ∧ (type_of% @i22r8.eq_1) ∧ (type_of% @i22r9.eq_1) ∧ (type_of% @i22r10.eq_1) ∧ (type_of% @i22r11.eq_1) ∧ (type_of% @i22r12.eq_1) := ⟨@f22.eq_1, @xb22, @xf22r0, @xf22r1, @xf22r2, @xf22r3, @xf22r4, @xf22r5, @xf22r6, @xf22r7, @xf22r8, @xf22r9, @xf22r10, @xf22l0, @xf22r11, @xf22l1, @xf22r12, @i22r0.eq_1, @i22r1.eq_1, @i22r2.eq_1, @i22r3.eq_1, @i22r4.eq_1, @i22r5.eq_1, @i22r6.eq_1, @i22r7.eq_1, @i22r8.eq_1, @i22r9.eq_1, @i22r10.eq_1, @i22r11.eq_1, @i22r12.eq_1⟩
theorem xf23r0 : wp T f23r0 e h Q = wpI (cW T) i23r0 e h (regQ (some [0, 1]) Q) := wq_reg ..
theorem xf23r1 : wp T f23r1 e h Q = wpI (cW T) i23r1 e h (regQ (some [0, 1, 5]) Q) := wq_reg ..
theorem xf23r2 : wp T f23r2 e h Q = wpI (cW T) i23r2 e h (regQ (some [0, 1, 5, 9]) Q) := wq_reg ..
theorem xf23r3 : wp T f23r3 e h Q = wpI (cW T) i23r3 e h (regQ (some [0, 1, 5, 17]) Q) := wq_reg ..
theorem xf23r4 : wp T f23r4 e h Q = wpI (cW T) i23r4 e h (regQ (some [4]) Q) := wq_reg ..
theorem xf23r5 : wp T f23r5 e h Q = wpI (cW T) i23r5 e h (regQ (some [0, 1, 5]) Q) := wq_reg ..
theorem xf23l0 : wp T f23l0 e h Q = wp T (.seq (.seq f23r2 (.cond (.t 9) .skip (.exit 0))) (.seq (.blk 1 (.seq f23r3 (.cond (.t 17) (.seq f23r4 .ret) .skip))) f23r5)) e h Q := rfl
theorem xf23r6 : wp T f23r6 e h Q = wpI (cW T) i23r6 e h (regQ (some [4]) Q) := wq_reg ..
theorem xb23 : wp T b23 e h Q = wp T (.seq f23r0 (.seq (.seq f23r1 (.blk 0 (.loop f23l0))) (.seq f23r6 .ret))) e h Q := rfl
theorem e23 : (type_of% @f23.eq_1) ∧ (type_of% @xb23) ∧ (type_of% @xf23r0) ∧ (type_of% @xf23r1) ∧ (type_of% @xf23r2) ∧ (type_of% @xf23r3) ∧ (type_of% @xf23r4) ∧ (type_of% @xf23r5) ∧ (type_of% @xf23l0) ∧ (type_of% @xf23r6) ∧ (type_of% @i23r0.eq_1) ∧ (type_of% @i23r1.eq_1) ∧ (type_of% @i23r2.eq_1) ∧ (type_of% @i23r3.eq_1) ∧ (type_of% @i23r4.eq_1) ∧ (type_of% @i23r5.eq_1) ∧ (type_of% @i23r6.eq_1) := ⟨@f23.eq_1, @xb23, @xf23r0, @xf23r1, @xf23r2, @xf23r3, @xf23r4, @xf23r5, @xf23l0, @xf23r6, @i23r0.eq_1, @i23r1.eq_1, @i23r2.eq_1, @i23r3.eq_1, @i23r4.eq_1, @i23r5.eq_1, @i23r6.eq_1⟩
theorem xf24r0 : wp T f24r0 e h Q = wpI (cW T) i24r0 e h (regQ (some [0, 3]) Q) := wq_reg ..
theorem xf24r1 : wp T f24r1 e h Q = wpI (cW T) i24r1 e h (regQ (some [0, 3, 8]) Q) := wq_reg ..
theorem xf24r2 : wp T f24r2 e h Q = wpI (cW T) i24r2 e h (regQ (some [4, 5]) Q) := wq_reg ..
theorem xf24r3 : wp T f24r3 e h Q = wpI (cW T) i24r3 e h (regQ (some [6]) Q) := wq_reg ..
theorem xf24r4 : wp T f24r4 e h Q = wpI (cW T) i24r4 e h (regQ (some [4, 5]) Q) := wq_reg ..
theorem xb24 : wp T b24 e h Q = wp T (.seq f24r0 (.seq (.seq f24r1 (.cond (.t 8) (.seq f24r2 .ret) .skip)) (.seq f24r3 (.seq f24r4 .ret)))) e h Q := rfl
theorem e24 : (type_of% @f24.eq_1) ∧ (type_of% @xb24) ∧ (type_of% @xf24r0) ∧ (type_of% @xf24r1) ∧ (type_of% @xf24r2) ∧ (type_of% @xf24r3) ∧ (type_of% @xf24r4) ∧ (type_of% @i24r0.eq_1) ∧ (type_of% @i24r1.eq_1) ∧ (type_of% @i24r2.eq_1) ∧ (type_of% @i24r3.eq_1) ∧ (type_of% @i24r4.eq_1) := ⟨@f24.eq_1, @xb24, @xf24r0, @xf24r1, @xf24r2, @xf24r3, @xf24r4, @i24r0.eq_1, @i24r1.eq_1, @i24r2.eq_1, @i24r3.eq_1, @i24r4.eq_1⟩
theorem xf25r0 : wp T f25r0 e h Q = wpI (cW T) i25r0 e h (regQ (some [0, 3]) Q) := wq_reg ..
theorem xf25r1 : wp T f25r1 e h Q = wpI (cW T) i25r1 e h (regQ (some [3, 10, 11, 12]) Q) := wq_reg ..
theorem xf25r2 : wp T f25r2 e h Q = wpI (cW T) i25r2 e h (regQ (some [3, 10, 11, 12, 13]) Q) := wq_reg ..
theorem xf25r3 : wp T f25r3 e h Q = wpI (cW T) i25r3 e h (regQ (some [3, 7, 8, 10, 11, 12]) Q) := wq_reg ..
theorem xf25r4 : wp T f25r4 e h Q = wpI (cW T) i25r4 e h (regQ (some [3, 7, 9, 10, 11, 12]) Q) := wq_reg ..
theorem xf25r5 : wp T f25r5 e h Q = wpI (cW T) i25r5 e h (regQ (some [3, 7, 9, 10, 11, 12, 22]) Q) := wq_reg ..
theorem xf25r6 : wp T f25r6 e h Q = wpI (cW T) i25r6 e h (regQ (some [4, 5, 6]) Q) := wq_reg ..
theorem xf25r7 : wp T f25r7 e h Q = wpI (cW T) i25r7 e h (regQ (some [3, 10, 11, 12]) Q) := wq_reg ..
theorem xf25l0 : wp T f25l0 e h Q = wp T (.seq f25r2 (.seq (.cond (.t 13) .skip (.exit 0)) (.seq (.blk 1 (.seq f25r3 (.seq f25r4 (.seq f25r5 (.cond (.t 22) (.seq f25r6 .ret) .skip))))) f25r7))) e h Q := rfl
theorem xf25r8 : wp T f25r8 e h Q = wpI (cW T) i25r8 e h (regQ (some [4, 5, 6]) Q) := wq_reg ..
theorem xb25 : wp T b25 e h Q = wp T (.seq f25r0 (.seq (.seq f25r1 (.blk 0 (.loop f25l0))) (.seq f25r8 .ret))) e h Q := rfl
theorem e25 : (type_of% @f25.eq_1) ∧ (type_of% @xb25) ∧ (type_of% @xf25r0) ∧ (type_of% @xf25r1) ∧ (type_of% @xf25r2) ∧ (type_of% @xf25r3) ∧ (type_of% @xf25r4) ∧ (type_of% @xf25r5) ∧ (type_of% @xf25r6) ∧ (type_of% @xf25r7) ∧ (type_of% @xf25l0) ∧ (type_of% @xf25r8) ∧ (type_of% @i25r0.eq_1) ∧ (type_of% @i25r1.eq_1) ∧ (type_of% @i25r2.eq_1) ∧ (type_of% @i25r3.eq_1) ∧ (type_of% @i25r4.eq_1) ∧ (type_of% @i25r5.eq_1) ∧ (type_of% @i25r6.eq_1) ∧ (type_of% @i25r7.eq_1) ∧ (type_of% @i25r8.eq_1) := ⟨@f25.eq_1, @xb25, @xf25r0, @xf25r1, @xf25r2, @xf25r3, @xf25r4, @xf25r5, @xf25r6, @xf25r7, @xf25l0, @xf25r8, @i25r0.eq_1, @i25r1.eq_1, @i25r2.eq_1, @i25r3.eq_1, @i25r4.eq_1, @i25r5.eq_1, @i25r6.eq_1, @i25r7.eq_1, @i25r8.eq_1⟩
theorem xf26r0 : wp T f26r0 e h Q = wpI (cW T) i26r0 e h (regQ (some [0, 1]) Q) := wq_reg ..
theorem xf26r1 : wp T f26r1 e h Q = wpI (cW T) i26r1 e h (regQ (some [0, 1, 8]) Q) := wq_reg ..
theorem xf26r2 : wp T f26r2 e h Q = wpI (cW T) i26r2 e h (regQ (some [4, 5]) Q) := wq_reg ..
theorem xf26r3 : wp T f26r3 e h Q = wpI (cW T) i26r3 e h (regQ (some [0, 1, 6]) Q) := wq_reg ..
theorem xf26r4 : wp T f26r4 e h Q = wpI (cW T) i26r4 e h (regQ (some [0, 1, 6, 12]) Q) := wq_reg ..
theorem xf26r5 : wp T f26r5 e h Q = wpI (cW T) i26r5 e h (regQ (some [0, 1, 6, 21]) Q) := wq_reg ..
theorem xf26r6 : wp T f26r6 e h Q = wpI (cW T) i26r6 e h (regQ (some [4, 5]) Q) := wq_reg ..
theorem xf26r7 : wp T f26r7 e h Q = wpI (cW T) i26r7 e h (regQ (some [0, 1, 6]) Q) := wq_reg ..
theorem xf26l0 : wp T f26l0 e h Q = wp T (.seq (.seq f26r4 (.cond (.t 12) .skip (.exit 0))) (.seq (.blk 1 (.seq f26r5 (.cond (.t 21) (.seq f26r6 .ret) .skip))) f26r7)) e h Q := rfl
theorem xf26r8 : wp T f26r8 e h Q = wpI (cW T) i26r8 e h (regQ (some [4, 5]) Q) := wq_reg ..
theorem xb26 : wp T b26 e h Q = wp T (.seq f26r0 (.seq (.seq f26r1 (.cond (.t 8) (.seq f26r2 .ret) .skip)) (.seq (.seq f26r3 (.blk 0 (.loop f26l0))) (.seq f26r8 .ret)))) e h Q := rfl
theorem e26 : (type_of% @f26.eq_1) ∧ (type_of% @xb26) ∧ (type_of% @xf26r0) ∧ (type_of% @xf26r1) ∧ (type_of% @xf26r2) ∧ (type_of% @xf26r3) ∧ (type_of% @xf26r4) ∧ (type_of% @xf26r5) ∧ (type_of% @xf26r6) ∧ (type_of% @xf26r7) ∧ (type_of% @xf26l0) ∧ (type_of% @xf26r8) ∧ (type_of% @i26r0.eq_1) ∧ (type_of% @i26r1.eq_1) ∧ (type_of% @i26r2.eq_1) ∧ (type_of% @i26r3.eq_1) ∧ (type_of% @i26r4.eq_1) ∧ (type_of% @i26r5.eq_1) ∧ (type_of% @i26r6.eq_1) ∧ (type_of% @i26r7.eq_1) ∧ (type_of% @i26r8.eq_1) := ⟨@f26.eq_1, @xb26, @xf26r0, @xf26r1, @xf26r2, @xf26r3, @xf26r4, @xf26r5, @xf26r6, @xf26r7, @xf26l0, @xf26r8, @i26r0.eq_1, @i26r1.eq_1, @i26r2.eq_1, @i26r3.eq_1, @i26r4.eq_1, @i26r5.eq_1, @i26r6.eq_1, @i26r7.eq_1, @i26r8.eq_1⟩
theorem xf27r0 : wp T f27r0 e h Q = wpI (cW T) i27r0 e h (regQ (some [0, 1]) Q) := wq_reg ..
theorem xf27r1 : wp T f27r1 e h Q = wpI (cW T) i27r1 e h (regQ (some [0, 1, 7]) Q) := wq_reg ..
theorem xf27r2 : wp T f27r2 e h Q = wpI (cW T) i27r2 e h (regQ (some [0, 1, 7, 12]) Q) := wq_reg ..
theorem xf27r3 : wp T f27r3 e h Q = wpI (cW T) i27r3 e h (regQ (some [0, 1, 7, 8]) Q) := wq_reg ..
theorem xf27r4 : wp T f27r4 e h Q = wpI (cW T) i27r4 e h (regQ (some [0, 1, 7, 8, 22]) Q) := wq_reg ..
theorem xf27r5 : wp T f27r5 e h Q = wpI (cW T) i27r5 e h (regQ (some [0, 1, 7, 8, 35]) Q) := wq_reg ..
theorem xf27r6 : wp T f27r6 e h Q = wpI (cW T) i27r6 e h (regQ (some [4, 5, 6]) Q) := wq_reg ..
theorem xf27r7 : wp T f27r7 e h Q = wpI (cW T) i27r7 e h (regQ (some [0, 1, 7, 8]) Q) := wq_reg ..
theorem xf27l0 : wp T f27l0 e h Q = wp T (.seq (.seq f27r4 (.cond (.t 22) .skip (.exit 2))) (.seq (.blk 3 (.seq f27r5 (.cond (.t 35) (.seq f27r6 .ret) .skip))) f27r7)) e h Q := rfl
theorem xf27r8 : wp T f27r8 e h Q = wpI (cW T) i27r8 e h (regQ (some [0, 1, 7]) Q) := wq_reg ..
theorem xf27l1 : wp T f27l1 e h Q = wp T (.seq (.seq f27r2 (.cond (.t 12) .skip (.exit 0))) (.seq (.blk 1 (.seq f27r3 (.blk 2 (.loop f27l0)))) f27r8)) e h Q := rfl
theorem xf27r9 : wp T f27r9 e h Q = wpI (cW T) i27r9 e h (regQ (some [4, 5, 6]) Q) := wq_reg ..
theorem xb27 : wp T b27 e h Q = wp T (.seq f27r0 (.seq (.seq f27r1 (.blk 0 (.loop f27l1))) (.seq f27r9 .ret))) e h Q := rfl
theorem e27 : (type_of% @f27.eq_1) ∧ (type_of% @xb27) ∧ (type_of% @xf27r0) ∧ (type_of% @xf27r1) ∧ (type_of% @xf27r2) ∧ (type_of% @xf27r3) ∧ (type_of% @xf27r4) ∧ (type_of% @xf27r5) ∧ (type_of% @xf27r6) ∧ (type_of% @xf27r7) ∧ (type_of% @xf27l0) ∧ (type_of% @xf27r8) ∧ (type_of% @xf27l1) ∧ (type_of% @xf27r9) ∧ (type_of% @i27r0.eq_1) ∧ (type_of% @i27r1.eq_1) ∧ (type_of% @i27r2.eq_1) ∧ (type_of% @i27r3.eq_1) ∧ (type_of% @i27r4.eq_1) ∧ (type_of% @i27r5.eq_1) ∧ (type_of% @i27r6.eq_1) ∧ (type_of% @i27r7.eq_1) ∧ (type_of% @i27r8.eq_1) ∧ (type_of% @i27r9.eq_1) := ⟨@f27.eq_1, @xb27, @xf27r0, @xf27r1, @xf27r2, @xf27r3, @xf27r4, @xf27r5, @xf27r6, @xf27r7, @xf27l0, @xf27r8, @xf27l1, @xf27r9, @i27r0.eq_1, @i27r1.eq_1, @i27r2.eq_1, @i27r3.eq_1, @i27r4.eq_1, @i27r5.eq_1, @i27r6.eq_1, @i27r7.eq_1, @i27r8.eq_1, @i27r9.eq_1⟩
theorem xf28r0 : wp T f28r0 e h Q = wpI (cW T) i28r0 e h (regQ (some [0, 1]) Q) := wq_reg ..
theorem xf28r1 : wp T f28r1 e h Q = wpI (cW T) i28r1 e h (regQ (some [0, 1, 6]) Q) := wq_reg ..
theorem xf28r2 : wp T f28r2 e h Q = wpI (cW T) i28r2 e h (regQ (some [4]) Q) := wq_reg ..
theorem xf28r3 : wp T f28r3 e h Q = wpI (cW T) i28r3 e h (regQ (some [0, 1, 10]) Q) := wq_reg ..
theorem xf28r4 : wp T f28r4 e h Q = wpI (cW T) i28r4 e h (regQ (some [4]) Q) := wq_reg ..
theorem xf28r5 : wp T f28r5 e h Q = wpI (cW T) i28r5 e h (regQ (some [4]) Q) := wq_reg ..
theorem xb28 : wp T b28 e h Q = wp T (.seq f28r0 (.seq (.seq f28r1 (.cond (.t 6) (.seq f28r2 .ret) .skip)) (.seq (.seq f28r3 (.cond (.t 10) (.seq f28r4 .ret) .skip)) (.seq f28r5 .ret)))) e h Q := rfl
theorem e28 : (type_of% @f28.eq_1) ∧ (type_of% @xb28) ∧ (type_of% @xf28r0) ∧ (type_of% @xf28r1) ∧ (type_of% @xf28r2) ∧ (type_of% @xf28r3) ∧ (type_of% @xf28r4) ∧ (type_of% @xf28r5) ∧ (type_of% @i28r0.eq_1) ∧ (type_of% @i28r1.eq_1) ∧ (type_of% @i28r2.eq_1) ∧ (type_of% @i28r3.eq_1) ∧ (type_of% @i28r4.eq_1) ∧ (type_of% @i28r5.eq_1) := ⟨@f28.eq_1, @xb28, @xf28r0, @xf28r1, @xf28r2, @xf28r3, @xf28r4, @xf28r5, @i28r0.eq_1, @i28r1.eq_1, @i28r2.eq_1, @i28r3.eq_1, @i28r4.eq_1, @i28r5.eq_1⟩
theorem xf29r0 : wp T f29r0 e h Q = wpI (cW T) i29r0 e h (regQ (some [0, 1]) Q) := wq_reg ..
theorem xf29r1 : wp T f29r1 e h Q = wpI (cW T) i29r1 e h (regQ (some [0, 1, 6]) Q) := wq_reg ..
theorem xf29r2 : wp T f29r2 e h Q = wpI (cW T) i29r2 e h (regQ (some [4]) Q) := wq_reg ..
theorem xf29r3 : wp T f29r3 e h Q = wpI (cW T) i29r3 e h (regQ (some [0, 1, 10]) Q) := wq_reg ..
theorem xf29r4 : wp T f29r4 e h Q = wpI (cW T) i29r4 e h (regQ (some [4]) Q) := wq_reg ..
theorem xf29r5 : wp T f29r5 e h Q = wpI (cW T) i29r5 e h (regQ (some [4]) Q) := wq_reg ..
theorem xb29 : wp T b29 e h Q = wp T (.seq f29r0 (.seq (.seq f29r1 (.cond (.t 6) (.seq f29r2 .ret) .skip)) (.seq (.seq f29r3 (.cond (.t 10) (.seq f29r4 .ret) .skip)) (.seq f29r5 .ret)))) e h Q := rfl
theorem e29 : (type_of% @f29.eq_1) ∧ (type_of% @xb29) ∧ (type_of% @xf29r0) ∧ (type_of% @xf29r1) ∧ (type_of% @xf29r2) ∧ (type_of% @xf29r3) ∧ (type_of% @xf29r4) ∧ (type_of% @xf29r5) ∧ (type_of% @i29r0.eq_1) ∧ (type_of% @i29r1.eq_1) ∧ (type_of% @i29r2.eq_1) ∧ (type_of% @i29r3.eq_1) ∧ (type_of% @i29r4.eq_1) ∧ (type_of% @i29r5.eq_1) := ⟨@f29.eq_1, @xb29, @xf29r0, @xf29r1, @xf29r2, @xf29r3, @xf29r4, @xf29r5, @i29r0.eq_1, @i29r1.eq_1, @i29r2.eq_1, @i29r3.eq_1, @i29r4.eq_1, @i29r5.eq_1⟩
theorem xf31r0 : wp T f31r0 e h Q = wpI (cW T) i31r0 e h (regQ (some [0]) Q) := wq_reg ..
theorem xf31r1 : wp T f31r1 e h Q = wpI (cW T) i31r1 e h (regQ (some [0, 7]) Q) := wq_reg ..
theorem xf31r2 : wp T f31r2 e h Q = wpI (cW T) i31r2 e h (regQ (some [2]) Q) := wq_reg ..
theorem xf31r3 : wp T f31r3 e h Q = wpI (cW T) i31r3 e h (regQ (some [8, 9, 10]) Q) := wq_reg ..
theorem xf31r4 : wp T f31r4 e h Q = wpI (cW T) i31r4 e h (regQ (some [8, 9, 10, 11]) Q) := wq_reg ..
theorem xf31r5 : wp T f31r5 e h Q = wpI (cW T) i31r5 e h (regQ (some [4, 8, 9, 10]) Q) := wq_reg ..
theorem xf31r6 : wp T f31r6 e h Q = wpI (cW T) i31r6 e h (regQ (some [8, 9, 10, 22]) Q) := wq_reg ..
theorem xf31r7 : wp T f31r7 e h Q = wpI (cW T) i31r7 e h (regQ (some [2]) Q) := wq_reg ..
theorem xf31r8 : wp T f31r8 e h Q = wpI (cW T) i31r8 e h (regQ (some [8, 9, 10]) Q) := wq_reg ..
theorem xf31l0 : wp T f31l0 e h Q = wp T (.seq f31r4 (.seq (.cond (.t 11) .skip (.exit 0)) (.seq (.blk 1 (.seq f31r5 (.seq f31r6 (.cond (.t 22) (.seq f31r7 .ret) .skip)))) f31r8))) e h Q := rfl
theorem xf31r9 : wp T f31r9 e h Q = wpI (cW T) i31r9 e h (regQ (some [2]) Q) := wq_reg ..
theorem xb31 : wp T b31 e h Q = wp T (.seq f31r0 (.seq (.seq f31r1 (.cond (.t 7) (.seq f31r2 .ret) .skip)) (.seq (.seq f31r3 (.blk 0 (.loop f31l0))) (.seq f31r9 .ret)))) e h Q := rfl
theorem e31 : (type_of% @f31.eq_1) ∧ (type_of% @xb31) ∧ (type_of% @xf31r0) ∧ (type_of% @xf31r1) ∧ (type_of% @xf31r2) ∧ (type_of% @xf31r3) ∧ (type_of% @xf31r4) ∧ (type_of% @xf31r5) ∧ (type_of% @xf31r6) ∧ (type_of% @xf31r7) ∧ (type_of% @xf31r8) ∧ (type_of% @xf31l0) ∧ (type_of% @xf31r9) ∧ (type_of% @i31r0.eq_1) ∧ (type_of% @i31r1.eq_1) ∧ (type_of% @i31r2.eq_1) ∧ (type_of% @i31r3.eq_1) ∧ (type_of% @i31r4.eq_1) ∧ (type_of% @i31r5.eq_1) ∧ (type_of% @i31r6.eq_1) ∧ (type_of% @i31r7.eq_1) ∧ (type_of% @i31r8.eq_1) ∧ (type_of% @i31r9.eq_1) := ⟨@f31.eq_1, @xb31, @xf31r0, @xf31r1, @xf31r2, @xf31r3, @xf31r4, @xf31r5, @xf31r6, @xf31r7, @xf31r8, @xf31l0, @xf31r9, @i31r0.eq_1, @i31r1.eq_1, @i31r2.eq_1, @i31r3.eq_1, @i31r4.eq_1, @i31r5.eq_1, @i31r6.eq_1, @i31r7.eq_1, @i31r8.eq_1, @i31r9.eq_1⟩
theorem xf32r0 : wp T f32r0 e h Q = wpI (cW T) i32r0 e h (regQ (some [0]) Q) := wq_reg ..
theorem xf32r1 : wp T f32r1 e h Q = wpI (cW T) i32r1 e h (regQ (some [0, 24]) Q) := wq_reg ..
theorem xf32r2 : wp T f32r2 e h Q = wpI (cW T) i32r2 e h (regQ (some [2]) Q) := wq_reg ..
theorem xf32r3 : wp T f32r3 e h Q = wpI (cW T) i32r3 e h (regQ (some [0, 3, 4]) Q) := wq_reg ..
theorem xf32r4 : wp T f32r4 e h Q = wpI (cW T) i32r4 e h (regQ (some [0, 54]) Q) := wq_reg ..
theorem xf32r5 : wp T f32r5 e h Q = wpI (cW T) i32r5 e h (regQ (some [2]) Q) := wq_reg ..
theorem xf32r6 : wp T f32r6 e h Q = wpI (cW T) i32r6 e h (regQ (some [55, 56, 57]) Q) := wq_reg ..
theorem xf32r7 : wp T f32r7 e h Q = wpI (cW T) i32r7 e h (regQ (some [55, 56, 57, 58]) Q) := wq_reg ..
theorem xf32r8 : wp T f32r8 e h Q = wpI (cW T) i32r8 e h (regQ (some [6, 55, 56, 57]) Q) := wq_reg ..
theorem xf32r9 : wp T f32r9 e h Q = wpI (cW T) i32r9 e h (regQ (some [55, 56, 57, 75]) Q) := wq_reg ..
theorem xf32r10 : wp T f32r10 e h Q = wpI (cW T) i32r10 e h (regQ (some [2]) Q) := wq_reg ..
theorem xf32r11 : wp T f32r11 e h Q = wpI (cW T) i32r11 e h (regQ (some [55, 56, 57]) Q) := wq_reg ..
theorem xf32l0 : wp T f32l0 e h Q = wp T (.seq f32r7 (.seq (.cond (.t 58) .skip (.exit 0)) (.seq (.blk 1 (.seq f32r8 (.seq f32r9 (.cond (.t 75) (.seq f32r10 .ret) .skip)))) f32r11))) e h Q := rfl
theorem xf32r12 : wp T f32r12 e h Q = wpI (cW T) i32r12 e h (regQ (some [2]) Q) := wq_reg ..
theorem xb32 : wp T b32 e h Q = wp T (.seq f32r0 (.seq (.seq f32r1 (.cond (.t 24) (.seq f32r2 .ret) .skip)) (.seq f32r3 (.seq (.seq f32r4 (.cond (.t 54) (.seq f32r5 .ret) .skip)) (.seq (.seq f32r6 (.blk 0 (.loop f32l0))) (.seq f32r12 .ret)))))) e h Q := rfl
theorem e32 : (type_of% @f32.eq_1) ∧ (type_of% @xb32) ∧ (type_of% @xf32r0) ∧ (type_of% @xf32r1) ∧ (type_of% @xf32r2) ∧ (type_of% @xf32r3) ∧ (type_of% @xf32r4) ∧ (type_of% @xf32r5) ∧ (type_of% @xf32r6) ∧ (type_of% @xf32r7) ∧ (type_of% @xf32r8) ∧ (type_of% @xf32r9) ∧ (type_of% @xf32r10) ∧ (type_of% @xf32r11) ∧ (type_of% @xf32l0) ∧ (type_of% @xf32r12) ∧ (type_of% @i32r0.eq_1) ∧ (type_of% @i32r1.eq_1) ∧ (type_of% @i32r2.eq_1) ∧ (type_of% @i32r3.eq_1) ∧ (type_of% @i32r4.eq_1) ∧ (type_of% @i32r5.eq_1) ∧ (type_of% @i32r6.eq_1) ∧ (type_of% @i32r7.eq_1) ∧ (type_of% @i32r8.eq_1) ∧ (type_of% @i32r9.eq_1) ∧ (type_of% @i32r10.eq_1) ∧ (type_of% @i32r11.eq_1) ∧ (type_of% @i32r12.eq_1) := ⟨@f32.eq_1, @xb32, @xf32r0, @xf32r1, @xf32r2, @xf32r3, @xf32r4, @xf32r5, @xf32r6, @xf32r7, @xf32r8, @xf32r9, @xf32r10, @xf32r11, @xf32l0, @xf32r12, @i32r0.eq_1, @i32r1.eq_1, @i32r2.eq_1, @i32r3.eq_1, @i32r4.eq_1, @i32r5.eq_1, @i32r6.eq_1, @i32r7.eq_1, @i32r8.eq_1, @i32r9.eq_1, @i32r10.eq_1, @i32r11.eq_1, @i32r12.eq_1⟩
theorem xf33r0 : wp T f33r0 e h Q = wpI (cW T) i33r0 e h (regQ (some [0]) Q) := wq_reg ..
theorem xf33r1 : wp T f33r1 e h Q = wpI (cW T) i33r1 e h (regQ (some [0, 3, 4]) Q) := wq_reg ..
theorem xf33r2 : wp T f33r2 e h Q = wpI (cW T) i33r2 e h (regQ (some [3, 4, 12, 13, 14]) Q) := wq_reg ..
theorem xf33r3 : wp T f33r3 e h Q = wpI (cW T) i33r3 e h (regQ (some [3, 4, 12, 13, 14, 15]) Q) := wq_reg ..
theorem xf33r4 : wp T f33r4 e h Q = wpI (cW T) i33r4 e h (regQ (some [3, 4, 6, 12, 13, 14]) Q) := wq_reg ..
theorem xf33r5 : wp T f33r5 e h Q = wpI (cW T) i33r5 e h (regQ (some [3, 4, 6, 12, 13, 14, 21]) Q) := wq_reg ..
theorem xf33r6 : wp T f33r6 e h Q = wpI (cW T) i33r6 e h (regQ (some [2]) Q) := wq_reg ..
theorem xf33r7 : wp T f33r7 e h Q = wpI (cW T) i33r7 e h (regQ (some [3, 4, 6, 12, 13, 14]) Q) := wq_reg ..
theorem xf33r8 : wp T f33r8 e h Q = wpI (cW T) i33r8 e h (regQ (some [3, 4, 12, 13, 14, 26, 27, 28]) Q) := wq_reg ..
theorem xf33r9 : wp T f33r9 e h Q = wpI (cW T) i33r9 e h (regQ (some [3, 4, 12, 13, 14, 26, 27, 28, 29]) Q) := wq_reg ..
theorem xf33r10 : wp T f33r10 e h Q = wpI (cW T) i33r10 e h (regQ (some [3, 4, 8, 12, 13, 14, 26, 27, 28]) Q) := wq_reg ..
theorem xf33r11 : wp T f33r11 e h Q = wpI (cW T) i33r11 e h (regQ (some [3, 4, 8, 12, 13, 14, 26, 27, 28, 35]) Q) := wq_reg ..
theorem xf33r12 : wp T f33r12 e h Q = wpI (cW T) i33r12 e h (regQ (some [2]) Q) := wq_reg ..
theorem xf33r13 : wp T f33r13 e h Q = wpI (cW T) i33r13 e h (regQ (some [3, 4, 12, 13, 14, 26, 27, 28]) Q) := wq_reg ..
theorem xf33r14 : wp T f33r14 e h Q = wpI (cW T) i33r14 e h (regQ (some [3, 4, 12, 13, 14, 26, 27, 28]) Q) := wq_reg ..
theorem xf33l0 : wp T f33l0 e h Q = wp T (.seq f33r9 (.seq (.cond (.t 29) .skip (.exit 2)) (.seq (.blk 3 (.seq f33r10 (.seq (.seq f33r11 (.cond (.t 35) (.seq f33r12 .ret) .skip)) f33r13))) f33r14))) e h Q := rfl
theorem xf33r15 : wp T f33r15 e h Q = wpI (cW T) i33r15 e h (regQ (some [3, 4, 12, 13, 14]) Q) := wq_reg ..
theorem xf33l1 : wp T f33l1 e h Q = wp T (.seq f33r3 (.seq (.cond (.t 15) .skip (.exit 0)) (.seq (.blk 1 (.seq f33r4 (.seq (.seq f33r5 (.cond (.t 21) (.seq f33r6 .ret) .skip)) (.seq f33r7 (.seq f33r8 (.blk 2 (.loop f33l0))))))) f33r15))) e h Q := rfl
theorem xf33r16 : wp T f33r16 e h Q = wpI (cW T) i33r16 e h (regQ (some [2]) Q) := wq_reg ..
theorem xb33 : wp T b33 e h Q = wp T (.seq f33r0 (.seq f33r1 (.seq (.seq f33r2 (.blk 0 (.loop f33l1))) (.seq f33r16 .ret)))) e h Q := rfl
theorem e33 : (type_of% @f33.eq_1) ∧ (type_of% @xb33) ∧ (type_of% @xf33r0) ∧ (type_of% @xf33r1) ∧ (type_of% @xf33r2) ∧ (type_of% @xf33r3) ∧ (type_of% @xf33r4) ∧ (type_of% @xf33r5) ∧ (type_of% @xf33r6) ∧ (type_of% @xf33r7) ∧ (type_of% @xf33r8) ∧ (type_of% @xf33r9) ∧ (type_of% @xf33r10) ∧ (type_of% @xf33r11) ∧ (type_of% @xf33r12) ∧ (type_of% @xf33r13) ∧ (type_of% @xf33r14) ∧ (type_of% @xf33l0) ∧ (type_of% @xf33r15) ∧ (type_of% @xf33l1) ∧ (type_of% @xf33r16) ∧ (type_of% @i33r0.eq_1) ∧ (type_of% @i33r1.eq_1) ∧ (type_of% @i33r2.eq_1) ∧ (type_of% @i33r3.eq_1) ∧ (type_of% @i33r4.eq_1) ∧ (type_of% @i33r5.eq_1) ∧ (type_of% @i33r6.eq_1) ∧ (type_of% @i33r7.eq_1) ∧ (type_of% @i33r8.eq_1) ∧ (type_of% @i33r9.eq_1) ∧ (type_of% @i33r10.eq_1) ∧ (type_of% @i33r11.eq_1) ∧ (type_of% @i33r12.eq_1) ∧ (type_of% @i33r13.eq_1) ∧ (type_of% @i33r14.eq_1) ∧ (type_of% @i33r15.eq_1) ∧ (type_of% @i33r16.eq_1) := ⟨@f33.eq_1, @xb33, @xf33r0, @xf33r1, @xf33r2, @xf33r3, @xf33r4, @xf33r5, @xf33r6, @xf33r7, @xf33r8, @xf33r9, @xf33r10, @xf33r11, @xf33r12, @xf33r13, @xf33r14, @xf33l0, @xf33r15, @xf33l1, @xf33r16, @i33r0.eq_1, @i33r1.eq_1, @i33r2.eq_1, @i33r3.eq_1, @i33r4.eq_1, @i33r5.eq_1, @i33r6.eq_1, @i33r7.eq_1, @i33r8.eq_1, @i33r9.eq_1, @i33r10.eq_1, @i33r11.eq_1, @i33r12.eq_1, @i33r13.eq_1, @i33r14.eq_1, @i33r15.eq_1, @i33r16.eq_1⟩
theorem xf34r0 : wp T f34r0 e h Q = wpI (cW T) i34r0 e h (regQ (some [0, 1]) Q) := wq_reg ..
theorem xf34r1 : wp T f34r1 e h Q = wpI (cW T) i34r1 e h (regQ (some [4]) Q) := wq_reg ..
theorem xb34 : wp T b34 e h Q = wp T (.seq f34r0 (.seq f34r1 .ret)) e h Q := rfl
theorem e34 : (type_of% @f34.eq_1) ∧ (type_of% @xb34) ∧ (type_of% @xf34r0) ∧ (type_of% @xf34r1) ∧ (type_of% @i34r0.eq_1) ∧ (type_of% @i34r1.eq_1) := ⟨@f34.eq_1, @xb34, @xf34r0, @xf34r1, @i34r0.eq_1, @i34r1.eq_1⟩
theorem xf35r0 : wp T f35r0 e h Q = wpI (cW T) i35r0 e h (regQ (some [0, 1]) Q) := wq_reg ..
theorem xf35r1 : wp T f35r1 e h Q = wpI (cW T) i35r1 e h (regQ (some [3]) Q) := wq_reg ..
theorem xb35 : wp T b35 e h Q = wp T (.seq f35r0 (.seq f35r1 .ret)) e h Q := rfl
theorem e35 : (type_of% @f35.eq_1) ∧ (type_of% @xb35) ∧ (type_of% @xf35r0) ∧ (type_of% @xf35r1) ∧ (type_of% @i35r0.eq_1) ∧ (type_of% @i35r1.eq_1) := ⟨@f35.eq_1, @xb35, @xf35r0, @xf35r1, @i35r0.eq_1, @i35r1.eq_1⟩
theorem xf36r0 : wp T f36r0 e h Q = wpI (cW T) i36r0 e h (regQ (some [0, 1]) Q) := wq_reg ..
theorem xf36r1 : wp T f36r1 e h Q = wpI (cW T) i36r1 e h (regQ (some [4]) Q) := wq_reg ..
theorem xb36 : wp T b36 e h Q = wp T (.seq f36r0 (.seq f36r1 .ret)) e h Q := rfl
theorem e36 : (type_of% @f36.eq_1) ∧ (type_of% @xb36) ∧ (type_of% @xf36r0) ∧ (type_of% @xf36r1) ∧ (type_of% @i36r0.eq_1) ∧ (type_of% @i36r1.eq_1) := ⟨@f36.eq_1, @xb36, @xf36r0, @xf36r1, @i36r0.eq_1, @i36r1.eq_1⟩
theorem xf37r0 : wp T f37r0 e h Q = wpI (cW T) i37r0 e h (regQ (some [0]) Q) := wq_reg ..
theorem xf37r1 : wp T f37r1 e h Q = wpI (cW T) i37r1 e h (regQ (some [0, 3]) Q) := wq_reg ..
theorem xf37r2 : wp T f37r2 e h Q = wpI (cW T) i37r2 e h (regQ (some [0, 3]) Q) := wq_reg ..
theorem xf37r3 : wp T f37r3 e h Q = wpI (cW T) i37r3 e h (regQ (some [0, 3, 4]) Q) := wq_reg ..
theorem xf37r4 : wp T f37r4 e h Q = wpI (cW T) i37r4 e h (regQ (some [0, 3, 13]) Q) := wq_reg ..
theorem xf37r5 : wp T f37r5 e h Q = wpI (cW T) i37r5 e h (regQ (some [0, 3, 4]) Q) := wq_reg ..
theorem xf37r6 : wp T f37r6 e h Q = wpI (cW T) i37r6 e h (regQ (some [0, 3, 4, 15, 16]) Q) := wq_reg ..
theorem xf37r7 : wp T f37r7 e h Q = wpI (cW T) i37r7 e h (regQ (some [0, 3, 4, 15, 16, 17]) Q) := wq_reg ..
theorem xf37r8 : wp T f37r8 e h Q = wpI (cW T) i37r8 e h (regQ (some [0, 3, 4, 5, 15, 16]) Q) := wq_reg ..
theorem xf37r9 : wp T f37r9 e h Q = wpI (cW T) i37r9 e h (regQ (some [0, 3, 4, 5, 6, 15, 16]) Q) := wq_reg ..
theorem xf37r10 : wp T f37r10 e h Q = wpI (cW T) i37r10 e h (regQ (some [0, 3, 4, 5, 15, 16, 34]) Q) := wq_reg ..
theorem xf37r11 : wp T f37r11 e h Q = wpI (cW T) i37r11 e h (regQ (some [0, 3, 4, 15, 16]) Q) := wq_reg ..
theorem xf37r12 : wp T f37r12 e h Q = wpI (cW T) i37r12 e h (regQ (some [0, 3, 4, 15, 16]) Q) := wq_reg ..
theorem xf37l0 : wp T f37l0 e h Q = wp T (.seq f37r7 (.seq (.cond (.t 17) .skip (.exit 2)) (.seq (.blk 3 (.seq f37r8 (.seq f37r9 (.seq f37r10 (.cond (.t 34) f37r11 .skip))))) f37r12))) e h Q := rfl
theorem xf37l1 : wp T f37l1 e h Q = wp T (.seq (.seq f37r4 (.cond (.t 13) .skip (.exit 0))) (.blk 1 (.seq f37r5 (.seq f37r6 (.blk 2 (.loop f37l0)))))) e h Q := rfl
theorem xf37r13 : wp T f37r13 e h Q = wpI (cW T) i37r13 e h (regQ (some [2]) Q) := wq_reg ..
theorem xb37 : wp T b37 e h Q = wp T (.seq f37r0 (.seq f37r1 (.seq f37r2 (.seq (.seq f37r3 (.blk 0 (.loop f37l1))) (.seq f37r13 .ret))))) e h Q := rfl
theorem e37 : (type_of% @f37.eq_1) ∧ (type_of% @xb37) ∧ (type_of% @xf37r0) ∧ (type_of% @xf37r1) ∧ (type_of% @xf37r2) ∧ (type_of% @xf37r3) ∧ (type_of% @xf37r4) ∧ (type_of% @xf37r5) ∧ (type_of% @xf37r6) ∧ (type_of% @xf37r7) ∧ (type_of% @xf37r8) ∧ (type_of% @xf37r9) ∧ (type_of% @xf37r10) ∧ (type_of% @xf37r11) ∧ (type_of% @xf37r12) ∧ (type_of% @xf37l0) ∧ (type_of% @xf37l1) ∧ (type_of% @xf37r13) ∧ (type_of% @i37r0.eq_1) ∧ (type_of% @i37r1.eq_1) ∧ (type_of% @i37r2.eq_1) ∧ (type_of% @i37r3.eq_1) ∧ (type_of% @i37r4.eq_1) ∧ (type_of% @i37r5.eq_1) ∧ (type_of% @i37r6.eq_1) ∧ (type_of% @i37r7.eq_1) ∧ (type_of% @i37r8.eq_1) ∧ (type_of% @i37r9.eq_1) ∧ (type_of% @i37r10.eq_1) ∧ (type_of% @i37r11.eq_1) ∧ (type_of% @i37r12.eq_1) ∧ (type_of% @i37r13.eq_1) := ⟨@f37.eq_1, @xb37, @xf37r0, @xf37r1, @xf37r2, @xf37r3, @xf37r4, @xf37r5, @xf37r6, @xf37r7, @xf37r8, @xf37r9, @xf37r10, @xf37r11, @xf37r12, @xf37l0, @xf37l1, @xf37r13, @i37r0.eq_1, @i37r1.eq_1, @i37r2.eq_1, @i37r3.eq_1, @i37r4.eq_1, @i37r5.eq_1, @i37r6.eq_1, @i37r7.eq_1, @i37r8.eq_1, @i37r9.eq_1, @i37r10.eq_1, @i37r11.eq_1, @i37r12.eq_1, @i37r13.eq_1⟩
theorem xf38r0 : wp T f38r0 e h Q = wpI (cW T) i38r0 e h (regQ (some [0]) Q) := wq_reg ..
theorem xf38r1 : wp T f38r1 e h Q = wpI (cW T) i38r1 e h (regQ (some [0, 7]) Q) := wq_reg ..
theorem xf38r2 : wp T f38r2 e h Q = wpI (cW T) i38r2 e h (regQ (some [2]) Q) := wq_reg ..
theorem xf38r3 : wp T f38r3 e h Q = wpI (cW T) i38r3 e h (regQ (some [0, 3]) Q) := wq_reg ..
theorem xf38r4 : wp T f38r4 e h Q = wpI (cW T) i38r4 e h (regQ (some [0, 3, 11]) Q) := wq_reg ..
theorem xf38r5 : wp T f38r5 e h Q = wpI (cW T) i38r5 e h (regQ (some [0, 3, 20]) Q) := wq_reg ..
theorem xf38r6 : wp T f38r6 e h Q = wpI (cW T) i38r6 e h (regQ (some [2]) Q) := wq_reg ..
theorem xf38r7 : wp T f38r7 e h Q = wpI (cW T) i38r7 e h (regQ (some [0, 3, 4]) Q) := wq_reg ..
theorem xf38r8 : wp T f38r8 e h Q = wpI (cW T) i38r8 e h (regQ (some [0, 3, 4, 28]) Q) := wq_reg ..
theorem xf38r9 : wp T f38r9 e h Q = wpI (cW T) i38r9 e h (regQ (some [0, 3, 4, 41]) Q) := wq_reg ..
theorem xf38r10 : wp T f38r10 e h Q = wpI (cW T) i38r10 e h (regQ (some [2]) Q) := wq_reg ..
theorem xf38r11 : wp T f38r11 e h Q = wpI (cW T) i38r11 e h (regQ (some [0, 3, 4]) Q) := wq_reg ..
theorem xf38l0 : wp T f38l0 e h Q = wp T (.seq (.seq f38r8 (.cond (.t 28) .skip (.exit 2))) (.seq (.blk 3 (.seq f38r9 (.cond (.t 41) (.seq f38r10 .ret) .skip))) f38r11)) e h Q := rfl
theorem xf38r12 : wp T f38r12 e h Q = wpI (cW T) i38r12 e h (regQ (some [0, 3]) Q) := wq_reg ..
theorem xf38l1 : wp T f38l1 e h Q = wp T (.seq (.seq f38r4 (.cond (.t 11) .skip (.exit 0))) (.seq (.blk 1 (.seq (.seq f38r5 (.cond (.t 20) (.seq f38r6 .ret) .skip)) (.seq f38r7 (.blk 2 (.loop f38l0))))) f38r12)) e h Q := rfl
theorem xf38r13 : wp T f38r13 e h Q = wpI (cW T) i38r13 e h (regQ (some [2]) Q) := wq_reg ..
theorem xb38 : wp T b38 e h Q = wp T (.seq f38r0 (.seq (.seq f38r1 (.cond (.t 7) (.seq f38r2 .ret) .skip)) (.seq (.seq f38r3 (.blk 0 (.loop f38l1))) (.seq f38r13 .ret)))) e h Q := rfl
theorem e38 : (type_of% @f38.eq_1) ∧ (type_of% @xb38) ∧ (type_of% @xf38r0) ∧ (type_of% @xf38r1) ∧ (type_of% @xf38r2) ∧ (type_of% @xf38r3) ∧ (type_of% @xf38r4) ∧ (type_of% @xf38r5) ∧ (type_of% @xf38r6) ∧ (type_of% @xf38r7) ∧ (type_of% @xf38r8) ∧ (type_of% @xf38r9) ∧ (type_of% @xf38r10) ∧ (type_of% @xf38r11) ∧ (type_of% @xf38l0) ∧ (type_of% @xf38r12) ∧ (type_of% @xf38l1) ∧ (type_of% @xf38r13) ∧ (type_of% @i38r0.eq_1) ∧ (type_of% @i38r1.eq_1) ∧ (type_of% @i38r2.eq_1) ∧ (type_of% @i38r3.eq_1) ∧ (type_of% @i38r4.eq_1) ∧ (type_of% @i38r5.eq_1) ∧ (type_of% @i38r6.eq_1) ∧ (type_of% @i38r7.eq_1) ∧ (type_of% @i38r8.eq_1) ∧ (type_of% @i38r9.eq_1) ∧ (type_of% @i38r10.eq_1) ∧ (type_of% @i38r11.eq_1) ∧ (type_of% @i38r12.eq_1) ∧ (type_of% @i38r13.eq_1) := ⟨@f38.eq_1, @xb38, @xf38r0, @xf38r1, @xf38r2, @xf38r3, @xf38r4, @xf38r5, @xf38r6, @xf38r7, @xf38r8, @xf38r9, @xf38r10, @xf38r11, @xf38l0, @xf38r12, @xf38l1, @xf38r13, @i38r0.eq_1, @i38r1.eq_1, @i38r2.eq_1, @i38r3.eq_1, @i38r4.eq_1, @i38r5.eq_1, @i38r6.eq_1, @i38r7.eq_1, @i38r8.eq_1, @i38r9.eq_1, @i38r10.eq_1, @i38r11.eq_1, @i38r12.eq_1, @i38r13.eq_1⟩
theorem xf39r0 : wp T f39r0 e h Q = wpI (cW T) i39r0 e h (regQ (some [0]) Q) := wq_reg ..
theorem xf39r1 : wp T f39r1 e h Q = wpI (cW T) i39r1 e h (regQ (some [0, 24]) Q) := wq_reg ..
theorem xf39r2 : wp T f39r2 e h Q = wpI (cW T) i39r2 e h (regQ (some [2]) Q) := wq_reg ..
theorem xf39r3 : wp T f39r3 e h Q = wpI (cW T) i39r3 e h (regQ (some [0, 3, 4]) Q) := wq_reg ..
theorem xf39r4 : wp T f39r4 e h Q = wpI (cW T) i39r4 e h (regQ (some [0, 56]) Q) := wq_reg ..
theorem xf39r5 : wp T f39r5 e h Q = wpI (cW T) i39r5 e h (regQ (some [2]) Q) := wq_reg ..
theorem xf39r6 : wp T f39r6 e h Q = wpI (cW T) i39r6 e h (regQ (some [0, 5]) Q) := wq_reg ..
theorem xf39r7 : wp T f39r7 e h Q = wpI (cW T) i39r7 e h (regQ (some [0, 5, 60]) Q) := wq_reg ..
theorem xf39r8 : wp T f39r8 e h Q = wpI (cW T) i39r8 e h (regQ (some [0, 5, 78]) Q) := wq_reg ..
theorem xf39r9 : wp T f39r9 e h Q = wpI (cW T) i39r9 e h (regQ (some [2]) Q) := wq_reg ..
theorem xf39r10 : wp T f39r10 e h Q = wpI (cW T) i39r10 e h (regQ (some [0, 5, 6]) Q) := wq_reg ..
theorem xf39r11 : wp T f39r11 e h Q = wpI (cW T) i39r11 e h (regQ (some [0, 5, 6, 86]) Q) := wq_reg ..
theorem xf39r12 : wp T f39r12 e h Q = wpI (cW T) i39r12 e h (regQ (some [0, 5, 6, 99]) Q) := wq_reg ..
theorem xf39r13 : wp T f39r13 e h Q = wpI (cW T) i39r13 e h (regQ (some [2]) Q) := wq_reg ..
theorem xf39r14 : wp T f39r14 e h Q = wpI (cW T) i39r14 e h (regQ (some [0, 5, 6]) Q) := wq_reg ..
theorem xf39l0 : wp T f39l0 e h Q = wp T (.seq (.seq f39r11 (.cond (.t 86) .skip (.exit 2))) (.seq (.blk 3 (.seq f39r12 (.cond (.t 99) (.seq f39r13 .ret) .skip))) f39r14)) e h Q := rfl
theorem xf39r15 : wp T f39r15 e h Q = wpI (cW T) i39r15 e h (regQ (some [0, 5]) Q) := wq_reg ..
theorem xf39l1 : wp T f39l1 e h Q = wp T (.seq (.seq f39r7 (.cond (.t 60) .skip (.exit 0))) (.seq (.blk 1 (.seq (.seq f39r8 (.cond (.t 78) (.seq f39r9 .ret) .skip)) (.seq f39r10 (.blk 2 (.loop f39l0))))) f39r15)) e h Q := rfl
theorem xf39r16 : wp T f39r16 e h Q = wpI (cW T) i39r16 e h (regQ (some [2]) Q) := wq_reg ..
theorem xb39 : wp T b39 e h Q = wp T (.seq f39r0 (.seq (.seq f39r1 (.cond (.t 24) (.seq f39r2 .ret) .skip)) (.seq f39r3 (.seq (.seq f39r4 (.cond (.t 56) (.seq f39r5 .ret) .skip)) (.seq (.seq f39r6 (.blk 0 (.loop f39l1))) (.seq f39r16 .ret)))))) e h Q := rfl
theorem e39 : (type_of% @f39.eq_1) ∧ (type_of% @xb39) ∧ (type_of% @xf39r0) ∧ (type_of% @xf39r1) ∧ (type_of% @xf39r2) ∧ (type_of% @xf39r3) ∧ (type_of% @xf39r4) ∧ (type_of% @xf39r5) ∧ (type_of% @xf39r6) ∧ (type_of% @xf39r7) ∧ (type_of% @xf39r8) ∧ (type_of% @xf39r9) ∧ (type_of% @xf39r10) ∧ (type_of% @xf39r11) ∧ (type_of% @xf39r12) ∧ (type_of% @xf39r13) ∧ (type_of% @xf39r14) ∧ (type_of% @xf39l0) ∧ (type_of% @xf39r15) ∧ (type_of% @xf39l1) ∧ (type_of% @xf39r16) ∧ (type_of% @i39r0.eq_1) ∧ (type_of% @i39r1.eq_1) ∧ (type_of% @i39r2.eq_1) ∧ (type_of% @i39r3.eq_1) ∧ (type_of% @i39r4.eq_1) ∧ (type_of% @i39r5.eq_1) ∧ (type_of% @i39r6.eq_1) ∧ (type_of% @i39r7.eq_1) ∧ (type_of% @i39r8.eq_1) ∧ (type_of% @i39r9.eq_1) ∧ (type_of% @i39r10.eq_1) ∧ (type_of% @i39r11.eq_1) ∧ (type_of% @i39r12.eq_1) ∧ (type_of% @i39r13.eq_1) ∧ (type_of% @i39r14.eq_1) ∧ (type_of% @i39r15.eq_1) ∧ (type_of% @i39r16.eq_1) := ⟨@f39.eq_1, @xb39, @xf39r0, @xf39r1, @xf39r2, @xf39r3, @xf39r4, @xf39r5, @xf39r6, @xf39r7, @xf39r8, @xf39r9, @xf39r10, @xf39r11, @xf39r12, @xf39r13, @xf39r14, @xf39l0, @xf39r15, @xf39l1, @xf39r16, @i39r0.eq_1, @i39r1.eq_1, @i39r2.eq_1, @i39r3.eq_1, @i39r4.eq_1, @i39r5.eq_1, @i39r6.eq_1, @i39r7.eq_1, @i39r8.eq_1, @i39r9.eq_1, @i39r10.eq_1, @i39r11.eq_1, @i39r12.eq_1, @i39r13.eq_1, @i39r14.eq_1, @i39r15.eq_1, @i39r16.eq_1⟩
theorem xf40r0 : wp T f40r0 e h Q = wpI (cW T) i40r0 e h (regQ (some [0]) Q) := wq_reg ..
theorem xf40r1 : wp T f40r1 e h Q = wpI (cW T) i40r1 e h (regQ (some [0, 3, 4]) Q) := wq_reg ..
theorem xf40r2 : wp T f40r2 e h Q = wpI (cW T) i40r2 e h (regQ (some [0, 3, 4]) Q) := wq_reg ..
theorem xf40r3 : wp T f40r3 e h Q = wpI (cW T) i40r3 e h (regQ (some [0, 3, 4, 5]) Q) := wq_reg ..
theorem xf40r4 : wp T f40r4 e h Q = wpI (cW T) i40r4 e h (regQ (some [0, 3, 4, 5, 13]) Q) := wq_reg ..
theorem xf40r5 : wp T f40r5 e h Q = wpI (cW T) i40r5 e h (regQ (some [0, 3, 4, 5, 22]) Q) := wq_reg ..
theorem xf40r6 : wp T f40r6 e h Q = wpI (cW T) i40r6 e h (regQ (some [2]) Q) := wq_reg ..
theorem xf40r7 : wp T f40r7 e h Q = wpI (cW T) i40r7 e h (regQ (some [0, 3, 4, 5]) Q) := wq_reg ..
theorem xf40r8 : wp T f40r8 e h Q = wpI (cW T) i40r8 e h (regQ (some [0, 3, 4, 5, 6]) Q) := wq_reg ..
theorem xf40r9 : wp T f40r9 e h Q = wpI (cW T) i40r9 e h (regQ (some [0, 3, 4, 5, 6, 38]) Q) := wq_reg ..
theorem xf40r10 : wp T f40r10 e h Q = wpI (cW T) i40r10 e h (regQ (some [0, 3, 4, 5, 6, 51]) Q) := wq_reg ..
theorem xf40r11 : wp T f40r11 e h Q = wpI (cW T) i40r11 e h (regQ (some [2]) Q) := wq_reg ..
theorem xf40r12 : wp T f40r12 e h Q = wpI (cW T) i40r12 e h (regQ (some [0, 3, 4, 5, 6]) Q) := wq_reg ..
theorem xf40r13 : wp T f40r13 e h Q = wpI (cW T) i40r13 e h (regQ (some [0, 3, 4, 5, 6]) Q) := wq_reg ..
theorem xf40l0 : wp T f40l0 e h Q = wp T (.seq (.seq f40r9 (.cond (.t 38) .skip (.exit 2))) (.seq (.blk 3 (.seq (.seq f40r10 (.cond (.t 51) (.seq f40r11 .ret) .skip)) f40r12)) f40r13)) e h Q := rfl
theorem xf40r14 : wp T f40r14 e h Q = wpI (cW T) i40r14 e h (regQ (some [0, 3, 4, 5]) Q) := wq_reg ..
theorem xf40l1 : wp T f40l1 e h Q = wp T (.seq (.seq f40r4 (.cond (.t 13) .skip (.exit 0))) (.seq (.blk 1 (.seq (.seq f40r5 (.cond (.t 22) (.seq f40r6 .ret) .skip)) (.seq f40r7 (.seq f40r8 (.blk 2 (.loop f40l0)))))) f40r14)) e h Q := rfl
theorem xf40r15 : wp T f40r15 e h Q = wpI (cW T) i40r15 e h (regQ (some [2]) Q) := wq_reg ..
theorem xb40 : wp T b40 e h Q = wp T (.seq f40r0 (.seq f40r1 (.seq f40r2 (.seq (.seq f40r3 (.blk 0 (.loop f40l1))) (.seq f40r15 .ret))))) e h Q := rfl
theorem e40 : (type_of% @f40.eq_1) ∧ (type_of% @xb40) ∧ (type_of% @xf40r0) ∧ (type_of% @xf40r1) ∧ (type_of% @xf40r2) ∧ (type_of% @xf40r3) ∧ (type_of% @xf40r4) ∧ (type_of% @xf40r5) ∧ (type_of% @xf40r6) ∧ (type_of% @xf40r7) ∧ (type_of% @xf40r8) ∧ (type_of% @xf40r9) ∧ (type_of% @xf40r10) ∧ (type_of% @xf40r11) ∧ (type_of% @xf40r12) ∧ (type_of% @xf40r13) ∧ (type_of% @xf40l0) ∧ (type_of% @xf40r14) ∧ (type_of% @xf40l1) ∧ (type_of% @xf40r15) ∧ (type_of% @i40r0.eq_1) ∧ (type_of% @i40r1.eq_1) ∧ (type_of% @i40r2.eq_1) ∧ (type_of% @i40r3.eq_1) ∧ (type_of% @i40r4.eq_1) ∧ (type_of% @i40r5.eq_1) ∧ (type_of% @i40r6.eq_1) ∧ (type_of% @i40r7.eq_1) ∧ (type_of% @i40r8.eq_1) ∧ (type_of% @i40r9.eq_1) ∧ (type_of% @i40r10.eq_1) ∧ (type_of% @i40r11.eq_1) ∧ (type_of% @i40r12.eq_1) ∧ (type_of% @i40r13.eq_1) ∧ (type_of% @i40r14.eq_1) ∧ (type_of% @i40r15.eq_1) := ⟨@f40.eq_1, @xb40, @xf40r0, @xf40r1, @xf40r2, @xf40r3, @xf40r4, @xf40r5, @xf40r6, @xf40r7, @xf40r8, @xf40r9, @xf40r10, @xf40r11, @xf40r12, @xf40r13, @xf40l0, @xf40r14, @xf40l1, @xf40r15, @i40r0.eq_1, @i40r1.eq_1, @i40r2.eq_1, @i40r3.eq_1, @i40r4.eq_1, @i40r5.eq_1, @i40r6.eq_1, @i40r7.eq_1, @i40r8.eq_1, @i40r9.eq_1, @i40r10.eq_1, @i40r11.eq_1, @i40r12.eq_1, @i40r13.eq_1, @i40r14.eq_1, @i40r15.eq_1⟩
theorem xf41r0 : wp T f41r0 e h Q = wpI (cW T) i41r0 e h (regQ (some [0]) Q) := wq_reg ..
theorem xf41r1 : wp T f41r1 e h Q = wpI (cW T) i41r1 e h (regQ (some [0, 3]) Q) := wq_reg ..
theorem xf41r2 : wp T f41r2 e h Q = wpI (cW T) i41r2 e h (regQ (some [0, 3, 10]) Q) := wq_reg ..
theorem xf41r3 : wp T f41r3 e h Q = wpI (cW T) i41r3 e h (regQ (some [0, 3, 4]) Q) := wq_reg ..
theorem xf41r4 : wp T f41r4 e h Q = wpI (cW T) i41r4 e h (regQ (some [0, 3, 4, 20]) Q) := wq_reg ..
theorem xf41r5 : wp T f41r5 e h Q = wpI (cW T) i41r5 e h (regQ (some [0, 3, 4, 5]) Q) := wq_reg ..
theorem xf41r6 : wp T f41r6 e h Q = wpI (cW T) i41r6 e h (regQ (some [0, 3, 4, 5, 6]) Q) := wq_reg ..
theorem xf41r7 : wp T f41r7 e h Q = wpI (cW T) i41r7 e h (regQ (some [0, 3, 4, 5, 6, 35]) Q) := wq_reg ..
theorem xf41r8 : wp T f41r8 e h Q = wpI (cW T) i41r8 e h (regQ (some [0, 3, 4, 5, 6, 44]) Q) := wq_reg ..
theorem xf41r9 : wp T f41r9 e h Q = wpI (cW T) i41r9 e h (regQ (some [2]) Q) := wq_reg ..
theorem xf41r10 : wp T f41r10 e h Q = wpI (cW T) i41r10 e h (regQ (some [0, 3, 4, 5, 6]) Q) := wq_reg ..
theorem xf41l0 : wp T f41l0 e h Q = wp T (.seq (.seq f41r7 (.cond (.t 35) .skip (.exit 4))) (.seq (.blk 5 (.seq f41r8 (.cond (.t 44) (.seq f41r9 .ret) .skip))) f41r10)) e h Q := rfl
theorem xf41r11 : wp T f41r11 e h Q = wpI (cW T) i41r11 e h (regQ (some [0, 3, 4]) Q) := wq_reg ..
theorem xf41l1 : wp T f41l1 e h Q = wp T (.seq (.seq f41r4 (.cond (.t 20) .skip (.exit 2))) (.seq (.blk 3 (.seq f41r5 (.seq f41r6 (.blk 4 (.loop f41l0))))) f41r11)) e h Q := rfl
theorem xf41r12 : wp T f41r12 e h Q = wpI (cW T) i41r12 e h (regQ (some [0, 3]) Q) := wq_reg ..
theorem xf41l2 : wp T f41l2 e h Q = wp T (.seq (.seq f41r2 (.cond (.t 10) .skip (.exit 0))) (.seq (.blk 1 (.seq f41r3 (.blk 2 (.loop f41l1)))) f41r12)) e h Q := rfl
theorem xf41r13 : wp T f41r13 e h Q = wpI (cW T) i41r13 e h (regQ (some [2]) Q) := wq_reg ..
theorem xb41 : wp T b41 e h Q = wp T (.seq f41r0 (.seq (.seq f41r1 (.blk 0 (.loop f41l2))) (.seq f41r13 .ret))) e h Q := rfl
theorem e41 : (type_of% @f41.eq_1) ∧ (type_of% @xb41) ∧ (type_of% @xf41r0) ∧ (type_of% @xf41r1) ∧ (type_of% @xf41r2) ∧ (type_of% @xf41r3) ∧ (type_of% @xf41r4) ∧ (type_of% @xf41r5) ∧ (type_of% @xf41r6) ∧ (type_of% @xf41r7) ∧ (type_of% @xf41r8) ∧ (type_of% @xf41r9) ∧ (type_of% @xf41r10) ∧ (type_of% @xf41l0) ∧ (type_of% @xf41r11) ∧ (type_of% @xf41l1) ∧ (type_of% @xf41r12) ∧ (type_of% @xf41l2) ∧ (type_of% @xf41r13) ∧ (type_of% @i41r0.eq_1) ∧ (type_of% @i41r1.eq_1) ∧ (type_of% @i41r2.eq_1) ∧ (type_of% @i41r3.eq_1) ∧ (type_of% @i41r4.eq_1) ∧ (type_of% @i41r5.eq_1) ∧ (type_of% @i41r6.eq_1) ∧ (type_of% @i41r7.eq_1) ∧ (type_of% @i41r8.eq_1) ∧ (type_of% @i41r9.eq_1) ∧ (type_of% @i41r10.eq_1) ∧ (type_of% @i41r11.eq_1) ∧ (type_of% @i41r12.eq_1) ∧ (type_of% @i41r13.eq_1) := ⟨@f41.eq_1, @xb41, @xf41r0, @xf41r1, @xf41r2, @xf41r3, @xf41r4, @xf41r5, @xf41r6, @xf41r7, @xf41r8, @xf41r9, @xf41r10, @xf41l0, @xf41r11, @xf41l1, @xf41r12, @xf41l2, @xf41r13, @i41r0.eq_1, @i41r1.eq_1, @i41r2.eq_1, @i41r3.eq_1, @i41r4.eq_1, @i41r5.eq_1, @i41r6.eq_1, @i41r7.eq_1, @i41r8.eq_1, @i41r9.eq_1, @i41r10.eq_1, @i41r11.eq_1, @i41r12.eq_1, @i41r13.eq_1⟩
theorem xf42r0 : wp T f42r0 e h Q = wpI (cW T) i42r0 e h (regQ (some [0]) Q) := wq_reg ..
theorem xf42r1 : wp T f42r1 e h Q = wpI (cW T) i42r1 e h (regQ (some [0, 3]) Q) := wq_reg ..
theorem xf42r2 : wp T f42r2 e h Q = wpI (cW T) i42r2 e h (regQ (some [0, 3]) Q) := wq_reg ..
theorem xf42r3 : wp T f42r3 e h Q = wpI (cW T) i42r3 e h (regQ (some [0, 3, 4]) Q) := wq_reg ..
theorem xf42r4 : wp T f42r4 e h Q = wpI (cW T) i42r4 e h (regQ (some [0, 3, 4, 20]) Q) := wq_reg ..
theorem xf42r5 : wp T f42r5 e h Q = wpI (cW T) i42r5 e h (regQ (some [0, 3, 4, 5]) Q) := wq_reg ..
theorem xf42r6 : wp T f42r6 e h Q = wpI (cW T) i42r6 e h (regQ (some [0, 3, 4, 5, 26]) Q) := wq_reg ..
theorem xf42r7 : wp T f42r7 e h Q = wpI (cW T) i42r7 e h (regQ (some [0, 3, 4, 5, 6]) Q) := wq_reg ..
theorem xf42r8 : wp T f42r8 e h Q = wpI (cW T) i42r8 e h (regQ (some [0, 3, 4, 5, 6, 36]) Q) := wq_reg ..
theorem xf42r9 : wp T f42r9 e h Q = wpI (cW T) i42r9 e h (regQ (some [0, 3, 4, 5, 6, 7]) Q) := wq_reg ..
theorem xf42r10 : wp T f42r10 e h Q = wpI (cW T) i42r10 e h (regQ (some [0, 3, 4, 5, 6, 7, 8]) Q) := wq_reg ..
theorem xf42r11 : wp T f42r11 e h Q = wpI (cW T) i42r11 e h (regQ (some [0, 3, 4, 5, 6, 7, 8, 9]) Q) := wq_reg ..
theorem xf42r12 : wp T f42r12 e h Q = wpI (cW T) i42r12 e h (regQ (some [0, 3, 4, 5, 6, 7, 8, 9, 51]) Q) := wq_reg ..
theorem xf42r13 : wp T f42r13 e h Q = wpI (cW T) i42r13 e h (regQ (some [0, 3, 4, 5, 6, 7, 8, 9]) Q) := wq_reg ..
theorem xf42r14 : wp T f42r14 e h Q = wpI (cW T) i42r14 e h (regQ (some [0, 3, 4, 5, 6, 7, 8, 9]) Q) := wq_reg ..
theorem xf42l0 : wp T f42l0 e h Q = wp T (.seq (.seq f42r12 (.cond (.t 51) .skip (.exit 6))) (.seq (.blk 7 f42r13) f42r14)) e h Q := rfl
theorem xf42r15 : wp T f42r15 e h Q = wpI (cW T) i42r15 e h (regQ (some [0, 3, 4, 5, 6]) Q) := wq_reg ..
theorem xf42r16 : wp T f42r16 e h Q = wpI (cW T) i42r16 e h (regQ (some [0, 3, 4, 5, 6]) Q) := wq_reg ..
theorem xf42l1 : wp T f42l1 e h Q = wp T (.seq (.seq f42r8 (.cond (.t 36) .skip (.exit 4))) (.seq (.blk 5 (.seq f42r9 (.seq f42r10 (.seq (.seq f42r11 (.blk 6 (.loop f42l0))) f42r15)))) f42r16)) e h Q := rfl
theorem xf42r17 : wp T f42r17 e h Q = wpI (cW T) i42r17 e h (regQ (some [0, 3, 4, 5]) Q) := wq_reg ..
theorem xf42l2 : wp T f42l2 e h Q = wp T (.seq (.seq f42r6 (.cond (.t 26) .skip (.exit 2))) (.seq (.blk 3 (.seq f42r7 (.blk 4 (.loop f42l1)))) f42r17)) e h Q := rfl
theorem xf42r18 : wp T f42r18 e h Q = wpI (cW T) i42r18 e h (regQ (some [0, 3, 4]) Q) := wq_reg ..
theorem xf42l3 : wp T f42l3 e h Q = wp T (.seq (.seq f42r4 (.cond (.t 20) .skip (.exit 0))) (.seq (.blk 1 (.seq f42r5 (.blk 2 (.loop f42l2)))) f42r18)) e h Q := rfl
theorem xf42r19 : wp T f42r19 e h Q = wpI (cW T) i42r19 e h (regQ (some [3, 10]) Q) := wq_reg ..
theorem xf42r20 : wp T f42r20 e h Q = wpI (cW T) i42r20 e h (regQ (some [3, 10, 79]) Q) := wq_reg ..
theorem xf42r21 : wp T f42r21 e h Q = wpI (cW T) i42r21 e h (regQ (some [3, 10, 86]) Q) := wq_reg ..
theorem xf42r22 : wp T f42r22 e h Q = wpI (cW T) i42r22 e h (regQ (some [2]) Q) := wq_reg ..
theorem xf42r23 : wp T f42r23 e h Q = wpI (cW T) i42r23 e h (regQ (some [3, 10]) Q) := wq_reg ..
theorem xf42l4 : wp T f42l4 e h Q = wp T (.seq (.seq f42r20 (.cond (.t 79) .skip (.exit 8))) (.seq (.blk 9 (.seq f42r21 (.cond (.t 86) (.seq f42r22 .ret) .skip))) f42r23)) e h Q := rfl
theorem xf42r24 : wp T f42r24 e h Q = wpI (cW T) i42r24 e h (regQ (some [2]) Q) := wq_reg ..
theorem xb42 : wp T b42 e h Q = wp T (.seq f42r0 (.seq f42r1 (.seq f42r2 (.seq (.seq f42r3 (.blk 0 (.loop f42l3))) (.seq (.seq f42r19 (.blk 8 (.loop f42l4))) (.seq f42r24 .ret)))))) e h Q := rfl
theorem e42 : (type_of% @f42.eq_1) ∧ (type_of% @xb42) ∧ (type_of% @xf42r0) ∧ (type_of% @xf42r1) ∧ (type_of% @xf42r2) ∧ (type_of% @xf42r3) ∧ (type_of% @xf42r4) ∧ (type_of% @xf42r5) ∧ (type_of% @xf42r6) ∧ (type_of% @xf42r7) ∧ (type_of% @xf42r8) ∧ (type_of% @xf42r9) ∧ (type_of% @xf42r10) ∧ (type_of% @xf42r11) ∧ (type_of% @xf42r12) ∧ (type_of% @xf42r13) ∧ (type_of% @xf42r14) ∧ (type_of% @xf42l0) ∧ (type_of% @xf42r15) ∧ (type_of% @xf42r16) ∧ (type_of% @xf42l1) ∧ (type_of% @xf42r17) ∧ (type_of% @xf42l2) ∧ (type_of% @xf42r18) ∧ (type_of% @xf42l3) ∧ (type_of% @xf42r19) ∧ (type_of% @xf42r20) ∧ (type_of% @xf42r21) ∧ (type_of% @xf42r22) ∧ (type_of% @xf42r23) ∧ (type_of% @xf42l4) ∧ (type_of% @xf42r24) ∧ (type_of% @i42r0.eq_1) ∧ (type_of% @i42r1.eq_1) ∧ (type_of% @i42r2.eq_1) ∧ (type_of% @i42r3.eq_1) ∧ (type_of% @i42r4.eq_1) ∧ (type_of% @i42r5.eq_1) ∧ (type_of% @i42r6.eq_1) ∧ (type_of% @i42r7.eq_1) ∧ (type_of% @i42r8.eq_1) ∧ (type_of% @i42r9.eq_1) ∧ (type_of% @i42r10.eq_1) ∧ (type_of% @i42r11.eq_1) ∧ (type_of% @i42r12.eq_1) ∧ (type_of% @i42r13.eq_1) ∧ (type_of% @i42r14.eq_1) ∧ (type_of% @i42r15.eq_1) ∧ (type_of% @i42r16.eq_1) ∧ (type_of% @i42r17.eq_1) ∧ (type_of% @i42r18.eq_1) ∧ (type_of% @i42r19.eq_1) ∧ (type_of% @i42r20.eq_1) ∧ (type_of% @i42r21.eq_1) ∧ (type_of% @i42r22.eq_1) ∧ (type_of% @i42r23.eq_1) ∧ (type_of% @i42r24.eq_1) := ⟨@f42.eq_1, @xb42, @xf42r0, @xf42r1, @xf42r2, @xf42r3, @xf42r4, @xf42r5, @xf42r6, @xf42r7, @xf42r8, @xf42r9, @xf42r10, @xf42r11, @xf42r12, @xf42r13, @xf42r14, @xf42l0, @xf42r15, @xf42r16, @xf42l1, @xf42r17, @xf42l2, @xf42r18, @xf42l3, @xf42r19, @xf42r20, @xf42r21, @xf42r22, @xf42r23, @xf42l4, @xf42r24, @i42r0.eq_1, @i42r1.eq_1, @i42r2.eq_1, @i42r3.eq_1, @i42r4.eq_1, @i42r5.eq_1, @i42r6.eq_1, @i42r7.eq_1, @i42r8.eq_1, @i42r9.eq_1, @i42r10.eq_1, @i42r11.eq_1, @i42r12.eq_1, @i42r13.eq_1, @i42r14.eq_1, @i42r15.eq_1, @i42r16.eq_1, @i42r17.eq_1, @i42r18.eq_1, @i42r19.eq_1, @i42r20.eq_1, @i42r21.eq_1, @i42r22.eq_1, @i42r23.eq_1, @i42r24.eq_1⟩
theorem xf43r0 : wp T f43r0 e h Q = wpI (cW T) i43r0 e h (regQ (some [0, 1]) Q) := wq_reg ..
theorem xf43r1 : wp T f43r1 e h Q = wpI (cW T) i43r1 e h (regQ (some [4]) Q) := wq_reg ..
theorem xb43 : wp T b43 e h Q = wp T (.seq f43r0 (.seq f43r1 .ret)) e h Q := rfl
theorem e43 : (type_of% @f43.eq_1) ∧ (type_of% @xb43) ∧ (type_of% @xf43r0) ∧ (type_of% @xf43r1) ∧ (type_of% @i43r0.eq_1) ∧ (type_of% @i43r1.eq_1) := ⟨@f43.eq_1, @xb43, @xf43r0, @xf43r1, @i43r0.eq_1, @i43r1.eq_1⟩
theorem xf44r0 : wp T f44r0 e h Q = wpI (cW T) i44r0 e h (regQ (some [0, 1]) Q) := wq_reg ..
theorem xf44r1 : wp T f44r1 e h Q = wpI (cW T) i44r1 e h (regQ (some [0, 1, 12]) Q) := wq_reg ..
theorem xf44r2 : wp T f44r2 e h Q = wpI (cW T) i44r2 e h (regQ (some [4]) Q) := wq_reg ..
theorem xf44r3 : wp T f44r3 e h Q = wpI (cW T) i44r3 e h (regQ (some [4]) Q) := wq_reg ..
theorem xb44 : wp T b44 e h Q = wp T (.seq f44r0 (.seq (.seq f44r1 (.cond (.t 12) (.seq f44r2 .ret) .skip)) (.seq f44r3 .ret))) e h Q := rfl
theorem e44 : (type_of% @f44.eq_1) ∧ (type_of% @xb44) ∧ (type_of% @xf44r0) ∧ (type_of% @xf44r1) ∧ (type_of% @xf44r2) ∧ (type_of% @xf44r3) ∧ (type_of% @i44r0.eq_1) ∧ (type_of% @i44r1.eq_1) ∧ (type_of% @i44r2.eq_1) ∧ (type_of% @i44r3.eq_1) := ⟨@f44.eq_1, @xb44, @xf44r0, @xf44r1, @xf44r2, @xf44r3, @i44r0.eq_1, @i44r1.eq_1, @i44r2.eq_1, @i44r3.eq_1⟩
theorem xf45r0 : wp T f45r0 e h Q = wpI (cW T) i45r0 e h (regQ (some [1]) Q) := wq_reg ..
theorem xf45r1 : wp T f45r1 e h Q = wpI (cW T) i45r1 e h (regQ (some [2]) Q) := wq_reg ..
theorem xb45 : wp T b45 e h Q = wp T (.seq f45r0 (.seq f45r1 .ret)) e h Q := rfl
theorem e45 : (type_of% @f45.eq_1) ∧ (type_of% @xb45) ∧ (type_of% @xf45r0) ∧ (type_of% @xf45r1) ∧ (type_of% @i45r0.eq_1) ∧ (type_of% @i45r1.eq_1) := ⟨@f45.eq_1, @xb45, @xf45r0, @xf45r1, @i45r0.eq_1, @i45r1.eq_1⟩
theorem xf46r0 : wp T f46r0 e h Q = wpI (cW T) i46r0 e h (regQ (some [0, 1]) Q) := wq_reg ..
theorem xf46r1 : wp T f46r1 e h Q = wpI (cW T) i46r1 e h (regQ (some [4]) Q) := wq_reg ..
theorem xb46 : wp T b46 e h Q = wp T (.seq f46r0 (.seq f46r1 .ret)) e h Q := rfl
theorem e46 : (type_of% @f46.eq_1) ∧ (type_of% @xb46) ∧ (type_of% @xf46r0) ∧ (type_of% @xf46r1) ∧ (type_of% @i46r0.eq_1) ∧ (type_of% @i46r1.eq_1) := ⟨@f46.eq_1, @xb46, @xf46r0, @xf46r1, @i46r0.eq_1, @i46r1.eq_1⟩
theorem xf47r0 : wp T f47r0 e h Q = wpI (cW T) i47r0 e h (regQ (some [0, 1, 2, 3, 4, 7]) Q) := wq_reg ..
theorem xf47r1 : wp T f47r1 e h Q = wpI (cW T) i47r1 e h (regQ (some [0, 1, 2, 3, 4, 24]) Q) := wq_reg ..
theorem xf47r2 : wp T f47r2 e h Q = wpI (cW T) i47r2 e h (regQ (some [0, 2, 3, 4]) Q) := wq_reg ..
theorem xf47r3 : wp T f47r3 e h Q = wpI (cW T) i47r3 e h (regQ (some [0, 2, 4]) Q) := wq_reg ..
theorem xf47r4 : wp T f47r4 e h Q = wpI (cW T) i47r4 e h (regQ (some [4, 35, 36, 37]) Q) := wq_reg ..
theorem xf47r5 : wp T f47r5 e h Q = wpI (cW T) i47r5 e h (regQ (some [4, 35, 36, 37, 38]) Q) := wq_reg ..
theorem xf47r6 : wp T f47r6 e h Q = wpI (cW T) i47r6 e h (regQ (some [4, 9, 35, 36, 37]) Q) := wq_reg ..
theorem xf47r7 : wp T f47r7 e h Q = wpI (cW T) i47r7 e h (regQ (some [4, 35, 36, 37, 42, 43, 44]) Q) := wq_reg ..
theorem xf47r8 : wp T f47r8 e h Q = wpI (cW T) i47r8 e h (regQ (some [4, 35, 36, 37, 42, 43, 44, 45]) Q) := wq_reg ..
theorem xf47r9 : wp T f47r9 e h Q = wpI (cW T) i47r9 e h (regQ (some [4, 11, 35, 36, 37, 42, 43, 44]) Q) := wq_reg ..
theorem xf47r10 : wp T f47r10 e h Q = wpI (cW T) i47r10 e h (regQ (some [4, 35, 36, 37, 42, 43, 44]) Q) := wq_reg ..
theorem xf47r11 : wp T f47r11 e h Q = wpI (cW T) i47r11 e h (regQ (some [4, 35, 36, 37, 42, 43, 44]) Q) := wq_reg ..
theorem xf47l0 : wp T f47l0 e h Q = wp T (.seq f47r8 (.seq (.cond (.t 45) .skip (.exit 2)) (.seq (.blk 3 (.seq f47r9 f47r10)) f47r11))) e h Q := rfl
theorem xf47r12 : wp T f47r12 e h Q = wpI (cW T) i47r12 e h (regQ (some [4, 35, 36, 37]) Q) := wq_reg ..
theorem xf47l1 : wp T f47l1 e h Q = wp T (.seq f47r5 (.seq (.cond (.t 38) .skip (.exit 0)) (.seq (.blk 1 (.seq f47r6 (.seq f47r7 (.blk 2 (.loop f47l0))))) f47r12))) e h Q := rfl
theorem xb47 : wp T b47 e h Q = wp T (.seq (.seq f47r0 (.seq f47r1 (.cond (.t 24) .ret .skip))) (.seq f47r2 (.seq f47r3 (.seq f47r4 (.blk 0 (.loop f47l1)))))) e h Q := rfl
theorem e47 : (type_of% @f47.eq_1) ∧ (type_of% @xb47) ∧ (type_of% @xf47r0) ∧ (type_of% @xf47r1) ∧ (type_of% @xf47r2) ∧ (type_of% @xf47r3) ∧ (type_of% @xf47r4) ∧ (type_of% @xf47r5) ∧ (type_of% @xf47r6) ∧ (type_of% @xf47r7) ∧ (type_of% @xf47r8) ∧ (type_of% @xf47r9) ∧ (type_of% @xf47r10) ∧ (type_of% @xf47r11) ∧ (type_of% @xf47l0) ∧ (type_of% @xf47r12) ∧ (type_of% @xf47l1) ∧ (type_of% @i47r0.eq_1) ∧ (type_of% @i47r1.eq_1) ∧ (type_of% @i47r2.eq_1) ∧ (type_of% @i47r3.eq_1) ∧ (type_of% @i47r4.eq_1) ∧ (type_of% @i47r5.eq_1) ∧ (type_of% @i47r6.eq_1) ∧ (type_of% @i47r7.eq_1) ∧ (type_of% @i47r8.eq_1) ∧ (type_of% @i47r9.eq_1) ∧ (type_of% @i47r10.eq_1) ∧ (type_of% @i47r11.eq_1) ∧ (type_of% @i47r12.eq_1) := ⟨@f47.eq_1, @xb47, @xf47r0, @xf47r1, @xf47r2, @xf47r3, @xf47r4, @xf47r5, @xf47r6, @xf47r7, @xf47r8, @xf47r9, @xf47r10, @xf47r11, @xf47l0, @xf47r12, @xf47l1, @i47r0.eq_1, @i47r1.eq_1, @i47r2.eq_1, @i47r3.eq_1, @i47r4.eq_1, @i47r5.eq_1, @i47r6.eq_1, @i47r7.eq_1, @i47r8.eq_1, @i47r9.eq_1, @i47r10.eq_1, @i47r11.eq_1, @i47r12.eq_1⟩
theorem xf48r0 : wp T f48r0 e h Q = wpI (cW T) i48r0 e h (regQ (some [0, 1, 2]) Q) := wq_reg ..
theorem xf48r1 : wp T f48r1 e h Q = wpI (cW T) i48r1 e h (regQ (some [0, 1, 2, 18]) Q) := wq_reg ..
theorem xf48r2 : wp T f48r2 e h Q = wpI (cW T) i48r2 e h (regQ (some [6]) Q) := wq_reg ..
theorem xf48r3 : wp T f48r3 e h Q = wpI (cW T) i48r3 e h (regQ (some [0, 1, 2]) Q) := wq_reg ..
theorem xf48r4 : wp T f48r4 e h Q = wpI (cW T) i48r4 e h (regQ (some [0, 1, 2, 25]) Q) := wq_reg ..
theorem xf48r5 : wp T f48r5 e h Q = wpI (cW T) i48r5 e h (regQ (some [6]) Q) := wq_reg ..
theorem xf48r6 : wp T f48r6 e h Q = wpI (cW T) i48r6 e h (regQ (some [0, 1, 2, 7]) Q) := wq_reg ..
theorem xf48r7 : wp T f48r7 e h Q = wpI (cW T) i48r7 e h (regQ (some [0, 1, 2, 7, 35]) Q) := wq_reg ..
theorem xf48r8 : wp T f48r8 e h Q = wpI (cW T) i48r8 e h (regQ (some [0, 1, 2, 7, 8]) Q) := wq_reg ..
theorem xf48r9 : wp T f48r9 e h Q = wpI (cW T) i48r9 e h (regQ (some [0, 1, 2, 7, 8, 9]) Q) := wq_reg ..
theorem xf48r10 : wp T f48r10 e h Q = wpI (cW T) i48r10 e h (regQ (some [0, 1, 2, 7, 8, 9, 51]) Q) := wq_reg ..
theorem xf48r11 : wp T f48r11 e h Q = wpI (cW T) i48r11 e h (regQ (some [0, 1, 2, 7, 8, 9]) Q) := wq_reg ..
theorem xf48r12 : wp T f48r12 e h Q = wpI (cW T) i48r12 e h (regQ (some [0, 1, 2, 7, 8, 9]) Q) := wq_reg ..
theorem xf48l0 : wp T f48l0 e h Q = wp T (.seq (.seq f48r10 (.cond (.t 51) .skip (.exit 2))) (.seq (.blk 3 f48r11) f48r12)) e h Q := rfl
theorem xf48r13 : wp T f48r13 e h Q = wpI (cW T) i48r13 e h (regQ (some [0, 1, 2, 7]) Q) := wq_reg ..
theorem xf48l1 : wp T f48l1 e h Q = wp T (.seq (.seq f48r7 (.cond (.t 35) .skip (.exit 0))) (.seq (.blk 1 (.seq f48r8 (.seq f48r9 (.blk 2 (.loop f48l0))))) f48r13)) e h Q := rfl
theorem xf48r14 : wp T f48r14 e h Q = wpI (cW T) i48r14 e h (regQ (some [6]) Q) := wq_reg ..
theorem xb48 : wp T b48 e h Q = wp T (.seq f48r0 (.seq (.seq f48r1 (.cond (.t 18) (.seq f48r2 .ret) .skip)) (.seq f48r3 (.seq (.seq f48r4 (.cond (.t 25) (.seq f48r5 .ret) .skip)) (.seq (.seq f48r6 (.blk 0 (.loop f48l1))) (.seq f48r14 .ret)))))) e h Q := rfl
theorem e48 : (type_of% @f48.eq_1) ∧ (type_of% @xb48) ∧ (type_of% @xf48r0) ∧ (type_of% @xf48r1) ∧ (type_of% @xf48r2) ∧ (type_of% @xf48r3) ∧ (type_of% @xf48r4) ∧ (type_of% @xf48r5) ∧ (type_of% @xf48r6) ∧ (type_of% @xf48r7) ∧ (type_of% @xf48r8) ∧ (type_of% @xf48r9) ∧ (type_of% @xf48r10) ∧ (type_of% @xf48r11) ∧ (type_of% @xf48r12) ∧ (type_of% @xf48l0) ∧ (type_of% @xf48r13) ∧ (type_of% @xf48l1) ∧ (type_of% @xf48r14) ∧ (type_of% @i48r0.eq_1) ∧ (type_of% @i48r1.eq_1) ∧ (type_of% @i48r2.eq_1) ∧ (type_of% @i48r3.eq_1) ∧ (type_of% @i48r4.eq_1) ∧ (type_of% @i48r5.eq_1) ∧ (type_of% @i48r6.eq_1) ∧ (type_of% @i48r7.eq_1) ∧ (type_of% @i48r8.eq_1) ∧ (type_of% @i48r9.eq_1) ∧ (type_of% @i48r10.eq_1) ∧ (type_of% @i48r11.eq_1) ∧ (type_of% @i48r12.eq_1) ∧ (type_of% @i48r13.eq_1) ∧ (type_of% @i48r14.eq_1) := ⟨@f48.eq_1, @xb48, @xf48r0, @xf48r1, @xf48r2, @xf48r3, @xf48r4, @xf48r5, @xf48r6, @xf48r7, @xf48r8, @xf48r9, @xf48r10, @xf48r11, @xf48r12, @xf48l0, @xf48r13, @xf48l1, @xf48r14, @i48r0.eq_1, @i48r1.eq_1, @i48r2.eq_1, @i48r3.eq_1, @i48r4.eq_1, @i48r5.eq_1, @i48r6.eq_1, @i48r7.eq_1, @i48r8.eq_1, @i48r9.eq_1, @i48r10.eq_1, @i48r11.eq_1, @i48r12.eq_1, @i48r13.eq_1, @i48r14.eq_1⟩
theorem xf49r0 : wp T f49r0 e h Q = wpI (cW T) i49r0 e h (regQ (some [0, 1]) Q) := wq_reg ..
theorem xf49r1 : wp T f49r1 e h Q = wpI (cW T) i49r1 e h (regQ (some [4]) Q) := wq_reg ..
theorem xb49 : wp T b49 e h Q = wp T (.seq f49r0 (.seq f49r1 .ret)) e h Q := rfl
theorem e49 : (type_of% @f49.eq_1) ∧ (type_of% @xb49) ∧ (type_of% @xf49r0) ∧ (type_of% @xf49r1) ∧ (type_of% @i49r0.eq_1) ∧ (type_of% @i49r1.eq_1) := ⟨@f49.eq_1, @xb49, @xf49r0, @xf49r1, @i49r0.eq_1, @i49r1.eq_1⟩
theorem xf50r0 : wp T f50r0 e h Q = wpI (cW T) i50r0 e h (regQ (some [0, 1]) Q) := wq_reg ..
theorem xf50r1 : wp T f50r1 e h Q = wpI (cW T) i50r1 e h (regQ (some [0, 1, 5]) Q) := wq_reg ..
theorem xf50r2 : wp T f50r2 e h Q = wpI (cW T) i50r2 e h (regQ (some [0, 1, 5, 9]) Q) := wq_reg ..
theorem xf50r3 : wp T f50r3 e h Q = wpI (cW T) i50r3 e h (regQ (some [0, 1, 5, 17]) Q) := wq_reg ..
theorem xf50r4 : wp T f50r4 e h Q = wpI (cW T) i50r4 e h (regQ (some [4]) Q) := wq_reg ..
theorem xf50r5 : wp T f50r5 e h Q = wpI (cW T) i50r5 e h (regQ (some [0, 1, 5]) Q) := wq_reg ..
theorem xf50l0 : wp T f50l0 e h Q = wp T (.seq (.seq f50r2 (.cond (.t 9) .skip (.exit 0))) (.seq (.blk 1 (.seq f50r3 (.cond (.t 17) (.seq f50r4 .ret) .skip))) f50r5)) e h Q := rfl
theorem xf50r6 : wp T f50r6 e h Q = wpI (cW T) i50r6 e h (regQ (some [4]) Q) := wq_reg ..
theorem xb50 : wp T b50 e h Q = wp T (.seq f50r0 (.seq (.seq f50r1 (.blk 0 (.loop f50l0))) (.seq f50r6 .ret))) e h Q := rfl
theorem e50 : (type_of% @f50.eq_1) ∧ (type_of% @xb50) ∧ (type_of% @xf50r0) ∧ (type_of% @xf50r1) ∧ (type_of% @xf50r2) ∧ (type_of% @xf50r3) ∧ (type_of% @xf50r4) ∧ (type_of% @xf50r5) ∧ (type_of% @xf50l0) ∧ (type_of% @xf50r6) ∧ (type_of% @i50r0.eq_1) ∧ (type_of% @i50r1.eq_1) ∧ (type_of% @i50r2.eq_1) ∧ (type_of% @i50r3.eq_1) ∧ (type_of% @i50r4.eq_1) ∧ (type_of% @i50r5.eq_1) ∧ (type_of% @i50r6.eq_1) := ⟨@f50.eq_1, @xb50, @xf50r0, @xf50r1, @xf50r2, @xf50r3, @xf50r4, @xf50r5, @xf50l0, @xf50r6, @i50r0.eq_1, @i50r1.eq_1, @i50r2.eq_1, @i50r3.eq_1, @i50r4.eq_1, @i50r5.eq_1, @i50r6.eq_1⟩
theorem xf51r0 : wp T f51r0 e h Q = wpI (cW T) i51r0 e h (regQ (some [0, 1]) Q) := wq_reg ..
theorem xf51r1 : wp T f51r1 e h Q = wpI (cW T) i51r1 e h (regQ (some [0, 1, 7, 8]) Q) := wq_reg ..
theorem xf51r2 : wp T f51r2 e h Q = wpI (cW T) i51r2 e h (regQ (some [0, 1, 7, 8, 9]) Q) := wq_reg ..
theorem xf51r3 : wp T f51r3 e h Q = wpI (cW T) i51r3 e h (regQ (some [0, 1, 5, 7, 8]) Q) := wq_reg ..
theorem xf51r4 : wp T f51r4 e h Q = wpI (cW T) i51r4 e h (regQ (some [0, 1, 5, 7, 8, 16]) Q) := wq_reg ..
theorem xf51r5 : wp T f51r5 e h Q = wpI (cW T) i51r5 e h (regQ (some [4]) Q) := wq_reg ..
theorem xf51r6 : wp T f51r6 e h Q = wpI (cW T) i51r6 e h (regQ (some [0, 1, 7, 8]) Q) := wq_reg ..
theorem xf51l0 : wp T f51l0 e h Q = wp T (.seq f51r2 (.seq (.cond (.t 9) .skip (.exit 0)) (.seq (.blk 1 (.seq f51r3 (.seq f51r4 (.cond (.t 16) (.seq f51r5 .ret) .skip)))) f51r6))) e h Q := rfl
theorem xf51r7 : wp T f51r7 e h Q = wpI (cW T) i51r7 e h (regQ (some [4]) Q) := wq_reg ..
theorem xb51 : wp T b51 e h Q = wp T (.seq f51r0 (.seq (.seq f51r1 (.blk 0 (.loop f51l0))) (.seq f51r7 .ret))) e h Q := rfl
theorem e51 : (type_of% @f51.eq_1) ∧ (type_of% @xb51) ∧ (type_of% @xf51r0) ∧ (type_of% @xf51r1) ∧ (type_of% @xf51r2) ∧ (type_of% @xf51r3) ∧ (type_of% @xf51r4) ∧ (type_of% @xf51r5) ∧ (type_of% @xf51r6) ∧ (type_of% @xf51l0) ∧ (type_of% @xf51r7) ∧ (type_of% @i51r0.eq_1) ∧ (type_of% @i51r1.eq_1) ∧ (type_of% @i51r2.eq_1) ∧ (type_of% @i51r3.eq_1) ∧ (type_of% @i51r4.eq_1) ∧ (type_of% @i51r5.eq_1) ∧ (type_of% @i51r6.eq_1) ∧ (type_of% @i51r7.eq_1) := ⟨@f51.eq_1, @xb51, @xf51r0, @xf51r1, @xf51r2, @xf51r3, @xf51r4, @xf51r5, @xf51r6, @xf51l0, @xf51r7, @i51r0.eq_1, @i51r1.eq_1, @i51r2.eq_1, @i51r3.eq_1, @i51r4.eq_1, @i51r5.eq_1, @i51r6.eq_1, @i51r7.eq_1⟩
theorem xf52r0 : wp T f52r0 e h Q = wpI (cW T) i52r0 e h (regQ (some [1, 2]) Q) := wq_reg ..
theorem xf52r1 : wp T f52r1 e h Q = wpI (cW T) i52r1 e h (regQ (some [3]) Q) := wq_reg ..
theorem xb52 : wp T b52 e h Q = wp T (.seq f52r0 (.seq f52r1 .ret)) e h Q := rfl
theorem e52 : (type_of% @f52.eq_1) ∧ (type_of% @xb52) ∧ (type_of% @xf52r0) ∧ (type_of% @xf52r1) ∧ (type_of% @i52r0.eq_1) ∧ (type_of% @i52r1.eq_1) := ⟨@f52.eq_1, @xb52, @xf52r0, @xf52r1, @i52r0.eq_1, @i52r1.eq_1⟩
theorem xf53r0 : wp T f53r0 e h Q = wpI (cW T) i53r0 e h (regQ (some [0, 1]) Q) := wq_reg ..
theorem xf53r1 : wp T f53r1 e h Q = wpI (cW T) i53r1 e h (regQ (some [0, 1, 7, 8]) Q) := wq_reg ..
theorem xf53r2 : wp T f53r2 e h Q = wpI (cW T) i53r2 e h (regQ (some [0, 1, 7, 8, 9]) Q) := wq_reg ..
theorem xf53r3 : wp T f53r3 e h Q = wpI (cW T) i53r3 e h (regQ (some [0, 1, 5, 7, 8]) Q) := wq_reg ..
theorem xf53r4 : wp T f53r4 e h Q = wpI (cW T) i53r4 e h (regQ (some [0, 1, 5, 7, 8, 16]) Q) := wq_reg ..
theorem xf53r5 : wp T f53r5 e h Q = wpI (cW T) i53r5 e h (regQ (some [4]) Q) := wq_reg ..
theorem xf53r6 : wp T f53r6 e h Q = wpI (cW T) i53r6 e h (regQ (some [0, 1, 7, 8]) Q) := wq_reg ..
theorem xf53l0 : wp T f53l0 e h Q = wp T (.seq f53r2 (.seq (.cond (.t 9) .skip (.exit 0)) (.seq (.blk 1 (.seq f53r3 (.seq f53r4 (.cond (.t 16) (.seq f53r5 .ret) .skip)))) f53r6))) e h Q := rfl
theorem xf53r7 : wp T f53r7 e h Q = wpI (cW T) i53r7 e h (regQ (some [4]) Q) := wq_reg ..
theorem xb53 : wp T b53 e h Q = wp T (.seq f53r0 (.seq (.seq f53r1 (.blk 0 (.loop f53l0))) (.seq f53r7 .ret))) e h Q := rfl
theorem e53 : (type_of% @f53.eq_1) ∧ (type_of% @xb53) ∧ (type_of% @xf53r0) ∧ (type_of% @xf53r1) ∧ (type_of% @xf53r2) ∧ (type_of% @xf53r3) ∧ (type_of% @xf53r4) ∧ (type_of% @xf53r5) ∧ (type_of% @xf53r6) ∧ (type_of% @xf53l0) ∧ (type_of% @xf53r7) ∧ (type_of% @i53r0.eq_1) ∧ (type_of% @i53r1.eq_1) ∧ (type_of% @i53r2.eq_1) ∧ (type_of% @i53r3.eq_1) ∧ (type_of% @i53r4.eq_1) ∧ (type_of% @i53r5.eq_1) ∧ (type_of% @i53r6.eq_1) ∧ (type_of% @i53r7.eq_1) := ⟨@f53.eq_1, @xb53, @xf53r0, @xf53r1, @xf53r2, @xf53r3, @xf53r4, @xf53r5, @xf53r6, @xf53l0, @xf53r7, @i53r0.eq_1, @i53r1.eq_1, @i53r2.eq_1, @i53r3.eq_1, @i53r4.eq_1, @i53r5.eq_1, @i53r6.eq_1, @i53r7.eq_1⟩
theorem xf54r0 : wp T f54r0 e h Q = wpI (cW T) i54r0 e h (regQ (some [1, 2]) Q) := wq_reg ..
theorem xf54r1 : wp T f54r1 e h Q = wpI (cW T) i54r1 e h (regQ (some [3]) Q) := wq_reg ..
theorem xb54 : wp T b54 e h Q = wp T (.seq f54r0 (.seq f54r1 .ret)) e h Q := rfl
theorem e54 : (type_of% @f54.eq_1) ∧ (type_of% @xb54) ∧ (type_of% @xf54r0) ∧ (type_of% @xf54r1) ∧ (type_of% @i54r0.eq_1) ∧ (type_of% @i54r1.eq_1) := ⟨@f54.eq_1, @xb54, @xf54r0, @xf54r1, @i54r0.eq_1, @i54r1.eq_1⟩
theorem xf55r0 : wp T f55r0 e h Q = wpI (cW T) i55r0 e h (regQ (some [1]) Q) := wq_reg ..
theorem xf55r1 : wp T f55r1 e h Q = wpI (cW T) i55r1 e h (regQ (some [2]) Q) := wq_reg ..
theorem xb55 : wp T b55 e h Q = wp T (.seq f55r0 (.seq f55r1 .ret)) e h Q := rfl
theorem e55 : (type_of% @f55.eq_1) ∧ (type_of% @xb55) ∧ (type_of% @xf55r0) ∧ (type_of% @xf55r1) ∧ (type_of% @i55r0.eq_1) ∧ (type_of% @i55r1.eq_1) := ⟨@f55.eq_1, @xb55, @xf55r0, @xf55r1, @i55r0.eq_1, @i55r1.eq_1⟩
theorem xf56r0 : wp T f56r0 e h Q = wpI (cW T) i56r0 e h (regQ (some [0]) Q) := wq_reg ..
theorem xf56r1 : wp T f56r1 e h Q = wpI (cW T) i56r1 e h (regQ (some [0, 21]) Q) := wq_reg ..
theorem xf56r2 : wp T f56r2 e h Q = wpI (cW T) i56r2 e h (regQ (some [2]) Q) := wq_reg ..
theorem xf56r3 : wp T f56r3 e h Q = wpI (cW T) i56r3 e h (regQ (some [0, 23, 24]) Q) := wq_reg ..
theorem xf56r4 : wp T f56r4 e h Q = wpI (cW T) i56r4 e h (regQ (some [0, 23, 24, 25]) Q) := wq_reg ..
theorem xf56r5 : wp T f56r5 e h Q = wpI (cW T) i56r5 e h (regQ (some [0, 3, 23, 24]) Q) := wq_reg ..
theorem xf56r6 : wp T f56r6 e h Q = wpI (cW T) i56r6 e h (regQ (some [0, 4, 23, 24]) Q) := wq_reg ..
theorem xf56r7 : wp T f56r7 e h Q = wpI (cW T) i56r7 e h (regQ (some [0, 23, 24, 56]) Q) := wq_reg ..
theorem xf56r8 : wp T f56r8 e h Q = wpI (cW T) i56r8 e h (regQ (some [2]) Q) := wq_reg ..
theorem xf56r9 : wp T f56r9 e h Q = wpI (cW T) i56r9 e h (regQ (some [0, 23, 24]) Q) := wq_reg ..
theorem xf56l0 : wp T f56l0 e h Q = wp T (.seq f56r4 (.seq (.cond (.t 25) .skip (.exit 0)) (.seq (.blk 1 (.seq f56r5 (.seq f56r6 (.seq f56r7 (.cond (.t 56) (.seq f56r8 .ret) .skip))))) f56r9))) e h Q := rfl
theorem xf56r10 : wp T f56r10 e h Q = wpI (cW T) i56r10 e h (regQ (some [2]) Q) := wq_reg ..
theorem xb56 : wp T b56 e h Q = wp T (.seq f56r0 (.seq (.seq f56r1 (.cond (.t 21) (.seq f56r2 .ret) .skip)) (.seq (.seq f56r3 (.blk 0 (.loop f56l0))) (.seq f56r10 .ret)))) e h Q := rfl
theorem e56 : (type_of% @f56.eq_1) ∧ (type_of% @xb56) ∧ (type_of% @xf56r0) ∧ (type_of% @xf56r1) ∧ (type_of% @xf56r2) ∧ (type_of% @xf56r3) ∧ (type_of% @xf56r4) ∧ (type_of% @xf56r5) ∧ (type_of% @xf56r6) ∧ (type_of% @xf56r7) ∧ (type_of% @xf56r8) ∧ (type_of% @xf56r9) ∧ (type_of% @xf56l0) ∧ (type_of% @xf56r10) ∧ (type_of% @i56r0.eq_1) ∧ (type_of% @i56r1.eq_1) ∧ (type_of% @i56r2.eq_1) ∧ (type_of% @i56r3.eq_1) ∧ (type_of% @i56r4.eq_1) ∧ (type_of% @i56r5.eq_1) ∧ (type_of% @i56r6.eq_1) ∧ (type_of% @i56r7.eq_1) ∧ (type_of% @i56r8.eq_1) ∧ (type_of% @i56r9.eq_1) ∧ (type_of% @i56r10.eq_1) := ⟨@f56.eq_1, @xb56, @xf56r0, @xf56r1, @xf56r2, @xf56r3, @xf56r4, @xf56r5, @xf56r6, @xf56r7, @xf56r8, @xf56r9, @xf56l0, @xf56r10, @i56r0.eq_1, @i56r1.eq_1, @i56r2.eq_1, @i56r3.eq_1, @i56r4.eq_1, @i56r5.eq_1, @i56r6.eq_1, @i56r7.eq_1, @i56r8.eq_1, @i56r9.eq_1, @i56r10.eq_1⟩
theorem xf57r0 : wp T f57r0 e h Q = wpI (cW T) i57r0 e h (regQ (some [1]) Q) := wq_reg ..
theorem xf57r1 : wp T f57r1 e h Q = wpI (cW T) i57r1 e h (regQ (some [2]) Q) := wq_reg ..
theorem xb57 : wp T b57 e h Q = wp T (.seq f57r0 (.seq f57r1 .ret)) e h Q := rfl
theorem e57 : (type_of% @f57.eq_1) ∧ (type_of% @xb57) ∧ (type_of% @xf57r0) ∧ (type_of% @xf57r1) ∧ (type_of% @i57r0.eq_1) ∧ (type_of% @i57r1.eq_1) := ⟨@f57.eq_1, @xb57, @xf57r0, @xf57r1, @i57r0.eq_1, @i57r1.eq_1⟩
theorem xf58r0 : wp T f58r0 e h Q = wpI (cW T) i58r0 e h (regQ (some [0, 1]) Q) := wq_reg ..
theorem xf58r1 : wp T f58r1 e h Q = wpI (cW T) i58r1 e h (regQ (some [0, 1, 7, 8]) Q) := wq_reg ..
theorem xf58r2 : wp T f58r2 e h Q = wpI (cW T) i58r2 e h (regQ (some [0, 1, 7, 8, 9]) Q) := wq_reg ..
theorem xf58r3 : wp T f58r3 e h Q = wpI (cW T) i58r3 e h (regQ (some [0, 1, 5, 7, 8]) Q) := wq_reg ..
theorem xf58r4 : wp T f58r4 e h Q = wpI (cW T) i58r4 e h (regQ (some [0, 1, 5, 7, 8, 16]) Q) := wq_reg ..
theorem xf58r5 : wp T f58r5 e h Q = wpI (cW T) i58r5 e h (regQ (some [4]) Q) := wq_reg ..
theorem xf58r6 : wp T f58r6 e h Q = wpI (cW T) i58r6 e h (regQ (some [0, 1, 7, 8]) Q) := wq_reg ..
theorem xf58l0 : wp T f58l0 e h Q = wp T (.seq f58r2 (.seq (.cond (.t 9) .skip (.exit 0)) (.seq (.blk 1 (.seq f58r3 (.seq f58r4 (.cond (.t 16) (.seq f58r5 .ret) .skip)))) f58r6))) e h Q := rfl
theorem xf58r7 : wp T f58r7 e h Q = wpI (cW T) i58r7 e h (regQ (some [4]) Q) := wq_reg ..
theorem xb58 : wp T b58 e h Q = wp T (.seq f58r0 (.seq (.seq f58r1 (.blk 0 (.loop f58l0))) (.seq f58r7 .ret))) e h Q := rfl
theorem e58 : (type_of% @f58.eq_1) ∧ (type_of% @xb58) ∧ (type_of% @xf58r0) ∧ (type_of% @xf58r1) ∧ (type_of% @xf58r2) ∧ (type_of% @xf58r3) ∧ (type_of% @xf58r4) ∧ (type_of% @xf58r5) ∧ (type_of% @xf58r6) ∧ (type_of% @xf58l0) ∧ (type_of% @xf58r7) ∧ (type_of% @i58r0.eq_1) ∧ (type_of% @i58r1.eq_1) ∧ (type_of% @i58r2.eq_1) ∧ (type_of% @i58r3.eq_1) ∧ (type_of% @i58r4.eq_1) ∧ (type_of% @i58r5.eq_1) ∧ (type_of% @i58r6.eq_1) ∧ (type_of% @i58r7.eq_1) := ⟨@f58.eq_1, @xb58, @xf58r0, @xf58r1, @xf58r2, @xf58r3, @xf58r4, @xf58r5, @xf58r6, @xf58l0, @xf58r7, @i58r0.eq_1, @i58r1.eq_1, @i58r2.eq_1, @i58r3.eq_1, @i58r4.eq_1, @i58r5.eq_1, @i58r6.eq_1, @i58r7.eq_1⟩
theorem xf59r0 : wp T f59r0 e h Q = wpI (cW T) i59r0 e h (regQ (some [1, 2]) Q) := wq_reg ..
theorem xf59r1 : wp T f59r1 e h Q = wpI (cW T) i59r1 e h (regQ (some [3]) Q) := wq_reg ..
theorem xb59 : wp T b59 e h Q = wp T (.seq f59r0 (.seq f59r1 .ret)) e h Q := rfl
theorem e59 : (type_of% @f59.eq_1) ∧ (type_of% @xb59) ∧ (type_of% @xf59r0) ∧ (type_of% @xf59r1) ∧ (type_of% @i59r0.eq_1) ∧ (type_of% @i59r1.eq_1) := ⟨@f59.eq_1, @xb59, @xf59r0, @xf59r1, @i59r0.eq_1, @i59r1.eq_1⟩
theorem xf60r0 : wp T f60r0 e h Q = wpI (cW T) i60r0 e h (regQ (some [0, 1]) Q) := wq_reg ..
theorem xf60r1 : wp T f60r1 e h Q = wpI (cW T) i60r1 e h (regQ (some [3]) Q) := wq_reg ..
theorem xb60 : wp T b60 e h Q = wp T (.seq f60r0 (.seq f60r1 .ret)) e h Q := rfl
theorem e60 : (type_of% @f60.eq_1) ∧ (type_of% @xb60) ∧ (type_of% @xf60r0) ∧ (type_of% @xf60r1) ∧ (type_of% @i60r0.eq_1) ∧ (type_of% @i60r1.eq_1) := ⟨@f60.eq_1, @xb60, @xf60r0, @xf60r1, @i60r0.eq_1, @i60r1.eq_1⟩
theorem xf61r0 : wp T f61r0 e h Q = wpI (cW T) i61r0 e h (regQ (some [0, 1]) Q) := wq_reg ..
theorem xf61r1 : wp T f61r1 e h Q = wpI (cW T) i61r1 e h (regQ (some [4]) Q) := wq_reg ..
theorem xb61 : wp T b61 e h Q = wp T (.seq f61r0 (.seq f61r1 .ret)) e h Q := rfl
theorem e61 : (type_of% @f61.eq_1) ∧ (type_of% @xb61) ∧ (type_of% @xf61r0) ∧ (type_of% @xf61r1) ∧ (type_of% @i61r0.eq_1) ∧ (type_of% @i61r1.eq_1) := ⟨@f61.eq_1, @xb61, @xf61r0, @xf61r1, @i61r0.eq_1, @i61r1.eq_1⟩
theorem xf62r0 : wp T f62r0 e h Q = wpI (cW T) i62r0 e h (regQ (some [0]) Q) := wq_reg ..
theorem xf62r1 : wp T f62r1 e h Q = wpI (cW T) i62r1 e h (regQ (some [0, 3]) Q) := wq_reg ..
theorem xf62r2 : wp T f62r2 e h Q = wpI (cW T) i62r2 e h (regQ (some [0, 3, 9]) Q) := wq_reg ..
theorem xf62r3 : wp T f62r3 e h Q = wpI (cW T) i62r3 e h (regQ (some [0, 3, 4]) Q) := wq_reg ..
theorem xf62r4 : wp T f62r4 e h Q = wpI (cW T) i62r4 e h (regQ (some [0, 3, 4, 5]) Q) := wq_reg ..
theorem xf62r5 : wp T f62r5 e h Q = wpI (cW T) i62r5 e h (regQ (some [0, 3, 47]) Q) := wq_reg ..
theorem xf62r6 : wp T f62r6 e h Q = wpI (cW T) i62r6 e h (regQ (some [2]) Q) := wq_reg ..
theorem xf62r7 : wp T f62r7 e h Q = wpI (cW T) i62r7 e h (regQ (some [0, 3]) Q) := wq_reg ..
theorem xf62l0 : wp T f62l0 e h Q = wp T (.seq (.seq f62r2 (.cond (.t 9) .skip (.exit 0))) (.seq (.blk 1 (.seq f62r3 (.seq f62r4 (.seq f62r5 (.cond (.t 47) (.seq f62r6 .ret) .skip))))) f62r7)) e h Q := rfl
theorem xf62r8 : wp T f62r8 e h Q = wpI (cW T) i62r8 e h (regQ (some [2]) Q) := wq_reg ..
theorem xb62 : wp T b62 e h Q = wp T (.seq f62r0 (.seq (.seq f62r1 (.blk 0 (.loop f62l0))) (.seq f62r8 .ret))) e h Q := rfl
theorem e62 : (type_of% @f62.eq_1) ∧ (type_of% @xb62) ∧ (type_of% @xf62r0) ∧ (type_of% @xf62r1) ∧ (type_of% @xf62r2) ∧ (type_of% @xf62r3) ∧ (type_of% @xf62r4) ∧ (type_of% @xf62r5) ∧ (type_of% @xf62r6) ∧ (type_of% @xf62r7) ∧ (type_of% @xf62l0) ∧ (type_of% @xf62r8) ∧ (type_of% @i62r0.eq_1) ∧ (type_of% @i62r1.eq_1) ∧ (type_of% @i62r2.eq_1) ∧ (type_of% @i62r3.eq_1) ∧ (type_of% @i62r4.eq_1) ∧ (type_of% @i62r5.eq_1) ∧ (type_of% @i62r6.eq_1) ∧ (type_of% @i62r7.eq_1) ∧ (type_of% @i62r8.eq_1) := ⟨@f62.eq_1, @xb62, @xf62r0, @xf62r1, @xf62r2, @xf62r3, @xf62r4, @xf62r5, @xf62r6, @xf62r7, @xf62l0, @xf62r8, @i62r0.eq_1, @i62r1.eq_1, @i62r2.eq_1, @i62r3.eq_1, @i62r4.eq_1, @i62r5.eq_1, @i62r6.eq_1, @i62r7.eq_1, @i62r8.eq_1⟩
theorem xf63r0 : wp T f63r0 e h Q = wpI (cW T) i63r0 e h (regQ (some [0, 1]) Q) := wq_reg ..
theorem xf63r1 : wp T f63r1 e h Q = wpI (cW T) i63r1 e h (regQ (some [0, 1, 5]) Q) := wq_reg ..
theorem xf63r2 : wp T f63r2 e h Q = wpI (cW T) i63r2 e h (regQ (some [0, 1, 5, 9]) Q) := wq_reg ..
theorem xf63r3 : wp T f63r3 e h Q = wpI (cW T) i63r3 e h (regQ (some [0, 1, 5, 17]) Q) := wq_reg ..
theorem xf63r4 : wp T f63r4 e h Q = wpI (cW T) i63r4 e h (regQ (some [4]) Q) := wq_reg ..
theorem xf63r5 : wp T f63r5 e h Q = wpI (cW T) i63r5 e h (regQ (some [0, 1, 5]) Q) := wq_reg ..
theorem xf63l0 : wp T f63l0 e h Q = wp T (.seq (.seq f63r2 (.cond (.t 9) .skip (.exit 0))) (.seq (.blk 1 (.seq f63r3 (.cond (.t 17) (.seq f63r4 .ret) .skip))) f63r5)) e h Q := rfl
theorem xf63r6 : wp T f63r6 e h Q = wpI (cW T) i63r6 e h (regQ (some [4]) Q) := wq_reg ..
theorem xb63 : wp T b63 e h Q = wp T (.seq f63r0 (.seq (.seq f63r1 (.blk 0 (.loop f63l0))) (.seq f63r6 .ret))) e h Q := rfl
theorem e63 : (type_of% @f63.eq_1) ∧ (type_of% @xb63) ∧ (type_of% @xf63r0) ∧ (type_of% @xf63r1) ∧ (type_of% @xf63r2) ∧ (type_of% @xf63r3) ∧ (type_of% @xf63r4) ∧ (type_of% @xf63r5) ∧ (type_of% @xf63l0) ∧ (type_of% @xf63r6) ∧ (type_of% @i63r0.eq_1) ∧ (type_of% @i63r1.eq_1) ∧ (type_of% @i63r2.eq_1) ∧ (type_of% @i63r3.eq_1) ∧ (type_of% @i63r4.eq_1) ∧ (type_of% @i63r5.eq_1) ∧ (type_of% @i63r6.eq_1) := ⟨@f63.eq_1, @xb63, @xf63r0, @xf63r1, @xf63r2, @xf63r3, @xf63r4, @xf63r5, @xf63l0, @xf63r6, @i63r0.eq_1, @i63r1.eq_1, @i63r2.eq_1, @i63r3.eq_1, @i63r4.eq_1, @i63r5.eq_1, @i63r6.eq_1⟩
theorem xf64r0 : wp T f64r0 e h Q = wpI (cW T) i64r0 e h (regQ (some [0, 1]) Q) := wq_reg ..
theorem xf64r1 : wp T f64r1 e h Q = wpI (cW T) i64r1 e h (regQ (some [0, 1, 7, 8]) Q) := wq_reg ..
theorem xf64r2 : wp T f64r2 e h Q = wpI (cW T) i64r2 e h (regQ (some [0, 1, 7, 8, 9]) Q) := wq_reg ..
theorem xf64r3 : wp T f64r3 e h Q = wpI (cW T) i64r3 e h (regQ (some [0, 1, 5, 7, 8]) Q) := wq_reg ..
theorem xf64r4 : wp T f64r4 e h Q = wpI (cW T) i64r4 e h (regQ (some [0, 1, 5, 7, 8, 16]) Q) := wq_reg ..
theorem xf64r5 : wp T f64r5 e h Q = wpI (cW T) i64r5 e h (regQ (some [4]) Q) := wq_reg ..
theorem xf64r6 : wp T f64r6 e h Q = wpI (cW T) i64r6 e h (regQ (some [0, 1, 7, 8]) Q) := wq_reg ..
theorem xf64l0 : wp T f64l0 e h Q = wp T (.seq f64r2 (.seq (.cond (.t 9) .skip (.exit 0)) (.seq (.blk 1 (.seq f64r3 (.seq f64r4 (.cond (.t 16) (.seq f64r5 .ret) .skip)))) f64r6))) e h Q := rfl
theorem xf64r7 : wp T f64r7 e h Q = wpI (cW T) i64r7 e h (regQ (some [4]) Q) := wq_reg ..
theorem xb64 : wp T b64 e h Q = wp T (.seq f64r0 (.seq (.seq f64r1 (.blk 0 (.loop f64l0))) (.seq f64r7 .ret))) e h Q := rfl
theorem e64 : (type_of% @f64.eq_1) ∧ (type_of% @xb64) ∧ (type_of% @xf64r0) ∧ (type_of% @xf64r1) ∧ (type_of% @xf64r2) ∧ (type_of% @xf64r3) ∧ (type_of% @xf64r4) ∧ (type_of% @xf64r5) ∧ (type_of% @xf64r6) ∧ (type_of% @xf64l0) ∧ (type_of% @xf64r7) ∧ (type_of% @i64r0.eq_1) ∧ (type_of% @i64r1.eq_1) ∧ (type_of% @i64r2.eq_1) ∧ (type_of% @i64r3.eq_1) ∧ (type_of% @i64r4.eq_1) ∧ (type_of% @i64r5.eq_1) ∧ (type_of% @i64r6.eq_1) ∧ (type_of% @i64r7.eq_1) := ⟨@f64.eq_1, @xb64, @xf64r0, @xf64r1, @xf64r2, @xf64r3, @xf64r4, @xf64r5, @xf64r6, @xf64l0, @xf64r7, @i64r0.eq_1, @i64r1.eq_1, @i64r2.eq_1, @i64r3.eq_1, @i64r4.eq_1, @i64r5.eq_1, @i64r6.eq_1, @i64r7.eq_1⟩
theorem xf65r0 : wp T f65r0 e h Q = wpI (cW T) i65r0 e h (regQ (some [0, 1]) Q) := wq_reg ..
theorem xf65r1 : wp T f65r1 e h Q = wpI (cW T) i65r1 e h (regQ (some [0, 1, 7, 8]) Q) := wq_reg ..
theorem xf65r2 : wp T f65r2 e h Q = wpI (cW T) i65r2 e h (regQ (some [0, 1, 7, 8, 9]) Q) := wq_reg ..
theorem xf65r3 : wp T f65r3 e h Q = wpI (cW T) i65r3 e h (regQ (some [0, 1, 5, 7, 8]) Q) := wq_reg ..
theorem xf65r4 : wp T f65r4 e h Q = wpI (cW T) i65r4 e h (regQ (some [0, 1, 5, 7, 8, 16]) Q) := wq_reg ..
theorem xf65r5 : wp T f65r5 e h Q = wpI (cW T) i65r5 e h (regQ (some [4]) Q) := wq_reg ..
theorem xf65r6 : wp T f65r6 e h Q = wpI (cW T) i65r6 e h (regQ (some [0, 1, 7, 8]) Q) := wq_reg ..
theorem xf65l0 : wp T f65l0 e h Q = wp T (.seq f65r2 (.seq (.cond (.t 9) .skip (.exit 0)) (.seq (.blk 1 (.seq f65r3 (.seq f65r4 (.cond (.t 16) (.seq f65r5 .ret) .skip)))) f65r6))) e h Q := rfl
theorem xf65r7 : wp T f65r7 e h Q = wpI (cW T) i65r7 e h (regQ (some [4]) Q) := wq_reg ..
theorem xb65 : wp T b65 e h Q = wp T (.seq f65r0 (.seq (.seq f65r1 (.blk 0 (.loop f65l0))) (.seq f65r7 .ret))) e h Q := rfl
theorem e65 : (type_of% @f65.eq_1) ∧ (type_of% @xb65) ∧ (type_of% @xf65r0) ∧ (type_of% @xf65r1) ∧ (type_of% @xf65r2) ∧ (type_of% @xf65r3) ∧ (type_of% @xf65r4) ∧ (type_of% @xf65r5) ∧ (type_of% @xf65r6) ∧ (type_of% @xf65l0) ∧ (type_of% @xf65r7) ∧ (type_of% @i65r0.eq_1) ∧ (type_of% @i65r1.eq_1) ∧ (type_of% @i65r2.eq_1) ∧ (type_of% @i65r3.eq_1) ∧ (type_of% @i65r4.eq_1) ∧ (type_of% @i65r5.eq_1) ∧ (type_of% @i65r6.eq_1) ∧ (type_of% @i65r7.eq_1) := ⟨@f65.eq_1, @xb65, @xf65r0, @xf65r1, @xf65r2, @xf65r3, @xf65r4, @xf65r5, @xf65r6, @xf65l0, @xf65r7, @i65r0.eq_1, @i65r1.eq_1, @i65r2.eq_1, @i65r3.eq_1, @i65r4.eq_1, @i65r5.eq_1, @i65r6.eq_1, @i65r7.eq_1⟩
end Zc17
