/-
  What each part of the code does, as an equation.
-/
import Derived.Test.YtimjofcjjgppbaaTab
import Derived.Test.YtimjofcjjgppbaaZvWp
namespace Zc17
open Go Zv Zs
theorem xf3r0 (T : Tab) (e : Env) (h : Hp) (Q : Out → Prop) : wp T f3r0 e h Q = wpI (cW T) i3r0 e h (regQ (some [0]) Q) := wq_reg ..
theorem xf3r1 (T : Tab) (e : Env) (h : Hp) (Q : Out → Prop) : wp T f3r1 e h Q = wpI (cW T) i3r1 e h (regQ (some [0, 4]) Q) := wq_reg ..
theorem xf3r2 (T : Tab) (e : Env) (h : Hp) (Q : Out → Prop) : wp T f3r2 e h Q = wpI (cW T) i3r2 e h (regQ (some [2]) Q) := wq_reg ..
theorem xf3r3 (T : Tab) (e : Env) (h : Hp) (Q : Out → Prop) : wp T f3r3 e h Q = wpI (cW T) i3r3 e h (regQ (some [2]) Q) := wq_reg ..
theorem xb3 (T : Tab) (e : Env) (h : Hp) (Q : Out → Prop) : wp T b3 e h Q = wp T (.seq f3r0 (.seq (.seq f3r1 (.cond (.t 4) (.seq f3r2 .ret) .skip)) (.seq f3r3 .ret))) e h Q := rfl
theorem xf4r0 (T : Tab) (e : Env) (h : Hp) (Q : Out → Prop) : wp T f4r0 e h Q = wpI (cW T) i4r0 e h (regQ (some [0, 1, 2]) Q) := wq_reg ..
theorem xf4r1 (T : Tab) (e : Env) (h : Hp) (Q : Out → Prop) : wp T f4r1 e h Q = wpI (cW T) i4r1 e h (regQ (some [0, 1, 2, 8]) Q) := wq_reg ..
theorem xf4r2 (T : Tab) (e : Env) (h : Hp) (Q : Out → Prop) : wp T f4r2 e h Q = wpI (cW T) i4r2 e h (regQ (some [6]) Q) := wq_reg ..
theorem xf4r3 (T : Tab) (e : Env) (h : Hp) (Q : Out → Prop) : wp T f4r3 e h Q = wpI (cW T) i4r3 e h (regQ (some [6]) Q) := wq_reg ..
theorem xb4 (T : Tab) (e : Env) (h : Hp) (Q : Out → Prop) : wp T b4 e h Q = wp T (.seq f4r0 (.seq (.seq f4r1 (.cond (.t 8) (.seq f4r2 .ret) .skip)) (.seq f4r3 .ret))) e h Q := rfl
theorem xf5r0 (T : Tab) (e : Env) (h : Hp) (Q : Out → Prop) : wp T f5r0 e h Q = wpI (cW T) i5r0 e h (regQ (some [0, 1]) Q) := wq_reg ..
theorem xf5r1 (T : Tab) (e : Env) (h : Hp) (Q : Out → Prop) : wp T f5r1 e h Q = wpI (cW T) i5r1 e h (regQ (some [0, 1, 6]) Q) := wq_reg ..
theorem xf5r2 (T : Tab) (e : Env) (h : Hp) (Q : Out → Prop) : wp T f5r2 e h Q = wpI (cW T) i5r2 e h (regQ (some [4]) Q) := wq_reg ..
theorem xf5r3 (T : Tab) (e : Env) (h : Hp) (Q : Out → Prop) : wp T f5r3 e h Q = wpI (cW T) i5r3 e h (regQ (some [4]) Q) := wq_reg ..
theorem xb5 (T : Tab) (e : Env) (h : Hp) (Q : Out → Prop) : wp T b5 e h Q = wp T (.seq f5r0 (.seq (.seq f5r1 (.cond (.t 6) (.seq f5r2 .ret) .skip)) (.seq f5r3 .ret))) e h Q := rfl
theorem xf6r0 (T : Tab) (e : Env) (h : Hp) (Q : Out → Prop) : wp T f6r0 e h Q = wpI (cW T) i6r0 e h (regQ (some [0, 1]) Q) := wq_reg ..
theorem xf6r1 (T : Tab) (e : Env) (h : Hp) (Q : Out → Prop) : wp T f6r1 e h Q = wpI (cW T) i6r1 e h (regQ (some [0, 1, 11]) Q) := wq_reg ..
theorem xf6r2 (T : Tab) (e : Env) (h : Hp) (Q : Out → Prop) : wp T f6r2 e h Q = wpI (cW T) i6r2 e h (regQ (some [4]) Q) := wq_reg ..
theorem xf6r3 (T : Tab) (e : Env) (h : Hp) (Q : Out → Prop) : wp T f6r3 e h Q = wpI (cW T) i6r3 e h (regQ (some [0, 1, 19]) Q) := wq_reg ..
theorem xf6r4 (T : Tab) (e : Env) (h : Hp) (Q : Out → Prop) : wp T f6r4 e h Q = wpI (cW T) i6r4 e h (regQ (some [4]) Q) := wq_reg ..
theorem xf6r5 (T : Tab) (e : Env) (h : Hp) (Q : Out → Prop) : wp T f6r5 e h Q = wpI (cW T) i6r5 e h (regQ (some [0, 1, 5]) Q) := wq_reg ..
theorem xf6r6 (T : Tab) (e : Env) (h : Hp) (Q : Out → Prop) : wp T f6r6 e h Q = wpI (cW T) i6r6 e h (regQ (some [0, 1, 5, 30]) Q) := wq_reg ..
theorem xf6r7 (T : Tab) (e : Env) (h : Hp) (Q : Out → Prop) : wp T f6r7 e h Q = wpI (cW T) i6r7 e h (regQ (some [4]) Q) := wq_reg ..
theorem xf6r8 (T : Tab) (e : Env) (h : Hp) (Q : Out → Prop) : wp T f6r8 e h Q = wpI (cW T) i6r8 e h (regQ (some [0, 5, 43]) Q) := wq_reg ..
theorem xf6r9 (T : Tab) (e : Env) (h : Hp) (Q : Out → Prop) : wp T f6r9 e h Q = wpI (cW T) i6r9 e h (regQ (some [4]) Q) := wq_reg ..
theorem xf6r10 (T : Tab) (e : Env) (h : Hp) (Q : Out → Prop) : wp T f6r10 e h Q = wpI (cW T) i6r10 e h (regQ (some [0, 5, 6]) Q) := wq_reg ..
theorem xf6r11 (T : Tab) (e : Env) (h : Hp) (Q : Out → Prop) : wp T f6r11 e h Q = wpI (cW T) i6r11 e h (regQ (some [0, 5, 6, 47]) Q) := wq_reg ..
theorem xf6r12 (T : Tab) (e : Env) (h : Hp) (Q : Out → Prop) : wp T f6r12 e h Q = wpI (cW T) i6r12 e h (regQ (some [0, 5, 6, 73]) Q) := wq_reg ..
theorem xf6r13 (T : Tab) (e : Env) (h : Hp) (Q : Out → Prop) : wp T f6r13 e h Q = wpI (cW T) i6r13 e h (regQ (some [4]) Q) := wq_reg ..
theorem xf6r14 (T : Tab) (e : Env) (h : Hp) (Q : Out → Prop) : wp T f6r14 e h Q = wpI (cW T) i6r14 e h (regQ (some [0, 5, 6, 78]) Q) := wq_reg ..
theorem xf6r15 (T : Tab) (e : Env) (h : Hp) (Q : Out → Prop) : wp T f6r15 e h Q = wpI (cW T) i6r15 e h (regQ (some [0, 5, 6, 7]) Q) := wq_reg ..
theorem xf6r16 (T : Tab) (e : Env) (h : Hp) (Q : Out → Prop) : wp T f6r16 e h Q = wpI (cW T) i6r16 e h (regQ (some [0, 5, 6, 7, 8]) Q) := wq_reg ..
theorem xf6r17 (T : Tab) (e : Env) (h : Hp) (Q : Out → Prop) : wp T f6r17 e h Q = wpI (cW T) i6r17 e h (regQ (some [0, 5, 6, 7, 8, 91]) Q) := wq_reg ..
theorem xf6r18 (T : Tab) (e : Env) (h : Hp) (Q : Out → Prop) : wp T f6r18 e h Q = wpI (cW T) i6r18 e h (regQ (some [0, 5, 6, 7, 8, 9]) Q) := wq_reg ..
theorem xf6r19 (T : Tab) (e : Env) (h : Hp) (Q : Out → Prop) : wp T f6r19 e h Q = wpI (cW T) i6r19 e h (regQ (some [0, 5, 6, 7, 8, 9, 101]) Q) := wq_reg ..
theorem xf6r20 (T : Tab) (e : Env) (h : Hp) (Q : Out → Prop) : wp T f6r20 e h Q = wpI (cW T) i6r20 e h (regQ (some [0, 5, 6, 7, 8, 9, 114]) Q) := wq_reg ..
theorem xf6r21 (T : Tab) (e : Env) (h : Hp) (Q : Out → Prop) : wp T f6r21 e h Q = wpI (cW T) i6r21 e h (regQ (some [4]) Q) := wq_reg ..
theorem xf6r22 (T : Tab) (e : Env) (h : Hp) (Q : Out → Prop) : wp T f6r22 e h Q = wpI (cW T) i6r22 e h (regQ (some [0, 5, 6, 7, 8, 9]) Q) := wq_reg ..
theorem xf6l0 (T : Tab) (e : Env) (h : Hp) (Q : Out → Prop) : wp T f6l0 e h Q = wp T (.seq (.seq f6r19 (.cond (.t 101) .skip (.exit 4))) (.seq (.blk 5 (.seq f6r20 (.cond (.t 114) (.seq f6r21 .ret) .skip))) f6r22)) e h Q := rfl
theorem xf6r23 (T : Tab) (e : Env) (h : Hp) (Q : Out → Prop) : wp T f6r23 e h Q = wpI (cW T) i6r23 e h (regQ (some [0, 5, 6, 7, 8]) Q) := wq_reg ..
theorem xf6l1 (T : Tab) (e : Env) (h : Hp) (Q : Out → Prop) : wp T f6l1 e h Q = wp T (.seq (.seq f6r17 (.cond (.t 91) .skip (.exit 2))) (.seq (.blk 3 (.seq f6r18 (.blk 4 (.loop f6l0)))) f6r23)) e h Q := rfl
theorem xf6r24 (T : Tab) (e : Env) (h : Hp) (Q : Out → Prop) : wp T f6r24 e h Q = wpI (cW T) i6r24 e h (regQ (some [0, 5, 6]) Q) := wq_reg ..
theorem xf6l2 (T : Tab) (e : Env) (h : Hp) (Q : Out → Prop) : wp T f6l2 e h Q = wp T (.seq (.seq f6r11 (.cond (.t 47) .skip (.exit 0))) (.seq (.blk 1 (.seq (.seq f6r12 (.cond (.t 73) (.seq f6r13 .ret) .skip)) (.seq (.seq f6r14 (.cond (.t 78) (.exit 1) .skip)) (.seq f6r15 (.seq f6r16 (.blk 2 (.loop f6l1))))))) f6r24)) e h Q := rfl
theorem xf6r25 (T : Tab) (e : Env) (h : Hp) (Q : Out → Prop) : wp T f6r25 e h Q = wpI (cW T) i6r25 e h (regQ (some [4]) Q) := wq_reg ..
theorem xb6 (T : Tab) (e : Env) (h : Hp) (Q : Out → Prop) : wp T b6 e h Q = wp T (.seq f6r0 (.seq (.seq f6r1 (.cond (.t 11) (.seq f6r2 .ret) .skip)) (.seq (.seq f6r3 (.cond (.t 19) (.seq f6r4 .ret) .skip)) (.seq f6r5 (.seq (.seq f6r6 (.cond (.t 30) (.seq f6r7 .ret) .skip)) (.seq (.seq f6r8 (.cond (.t 43) (.seq f6r9 .ret) .skip)) (.seq (.seq f6r10 (.blk 0 (.loop f6l2))) (.seq f6r25 .ret)))))))) e h Q := rfl
theorem xf7r0 (T : Tab) (e : Env) (h : Hp) (Q : Out → Prop) : wp T f7r0 e h Q = wpI (cW T) i7r0 e h (regQ (some [0]) Q) := wq_reg ..
theorem xf7r1 (T : Tab) (e : Env) (h : Hp) (Q : Out → Prop) : wp T f7r1 e h Q = wpI (cW T) i7r1 e h (regQ (some [0, 15]) Q) := wq_reg ..
theorem xf7r2 (T : Tab) (e : Env) (h : Hp) (Q : Out → Prop) : wp T f7r2 e h Q = wpI (cW T) i7r2 e h (regQ (some [2]) Q) := wq_reg ..
theorem xf7r3 (T : Tab) (e : Env) (h : Hp) (Q : Out → Prop) : wp T f7r3 e h Q = wpI (cW T) i7r3 e h (regQ (some [0, 28]) Q) := wq_reg ..
theorem xf7r4 (T : Tab) (e : Env) (h : Hp) (Q : Out → Prop) : wp T f7r4 e h Q = wpI (cW T) i7r4 e h (regQ (some [2]) Q) := wq_reg ..
theorem xf7r5 (T : Tab) (e : Env) (h : Hp) (Q : Out → Prop) : wp T f7r5 e h Q = wpI (cW T) i7r5 e h (regQ (some [0, 4]) Q) := wq_reg ..
theorem xf7r6 (T : Tab) (e : Env) (h : Hp) (Q : Out → Prop) : wp T f7r6 e h Q = wpI (cW T) i7r6 e h (regQ (some [0, 34]) Q) := wq_reg ..
theorem xf7r7 (T : Tab) (e : Env) (h : Hp) (Q : Out → Prop) : wp T f7r7 e h Q = wpI (cW T) i7r7 e h (regQ (some [2]) Q) := wq_reg ..
theorem xf7r8 (T : Tab) (e : Env) (h : Hp) (Q : Out → Prop) : wp T f7r8 e h Q = wpI (cW T) i7r8 e h (regQ (some [0, 7]) Q) := wq_reg ..
theorem xf7r9 (T : Tab) (e : Env) (h : Hp) (Q : Out → Prop) : wp T f7r9 e h Q = wpI (cW T) i7r9 e h (regQ (some [0, 7, 10]) Q) := wq_reg ..
theorem xf7r10 (T : Tab) (e : Env) (h : Hp) (Q : Out → Prop) : wp T f7r10 e h Q = wpI (cW T) i7r10 e h (regQ (some [0, 50]) Q) := wq_reg ..
theorem xf7r11 (T : Tab) (e : Env) (h : Hp) (Q : Out → Prop) : wp T f7r11 e h Q = wpI (cW T) i7r11 e h (regQ (some [2]) Q) := wq_reg ..
theorem xf7r12 (T : Tab) (e : Env) (h : Hp) (Q : Out → Prop) : wp T f7r12 e h Q = wpI (cW T) i7r12 e h (regQ (some [0, 11]) Q) := wq_reg ..
theorem xf7r13 (T : Tab) (e : Env) (h : Hp) (Q : Out → Prop) : wp T f7r13 e h Q = wpI (cW T) i7r13 e h (regQ (some [0, 11, 12]) Q) := wq_reg ..
theorem xf7r14 (T : Tab) (e : Env) (h : Hp) (Q : Out → Prop) : wp T f7r14 e h Q = wpI (cW T) i7r14 e h (regQ (some [12, 13]) Q) := wq_reg ..
theorem xf7r15 (T : Tab) (e : Env) (h : Hp) (Q : Out → Prop) : wp T f7r15 e h Q = wpI (cW T) i7r15 e h (regQ (some [2]) Q) := wq_reg ..
theorem xb7 (T : Tab) (e : Env) (h : Hp) (Q : Out → Prop) : wp T b7 e h Q = wp T (.seq f7r0 (.seq (.seq f7r1 (.cond (.t 15) (.seq f7r2 .ret) .skip)) (.seq (.seq f7r3 (.cond (.t 28) (.seq f7r4 .ret) .skip)) (.seq (.seq f7r5 (.seq f7r6 (.cond (.t 34) (.seq f7r7 .ret) .skip))) (.seq f7r8 (.seq f7r9 (.seq (.seq f7r10 (.cond (.t 50) (.seq f7r11 .ret) .skip)) (.seq f7r12 (.seq f7r13 (.seq f7r14 (.seq f7r15 .ret))))))))))) e h Q := rfl
theorem xf8r0 (T : Tab) (e : Env) (h : Hp) (Q : Out → Prop) : wp T f8r0 e h Q = wpI (cW T) i8r0 e h (regQ (some [0, 1, 2]) Q) := wq_reg ..
theorem xf8r1 (T : Tab) (e : Env) (h : Hp) (Q : Out → Prop) : wp T f8r1 e h Q = wpI (cW T) i8r1 e h (regQ (some [0, 1, 2, 18]) Q) := wq_reg ..
theorem xf8r2 (T : Tab) (e : Env) (h : Hp) (Q : Out → Prop) : wp T f8r2 e h Q = wpI (cW T) i8r2 e h (regQ (some [6]) Q) := wq_reg ..
theorem xf8r3 (T : Tab) (e : Env) (h : Hp) (Q : Out → Prop) : wp T f8r3 e h Q = wpI (cW T) i8r3 e h (regQ (some [0, 1, 2, 26]) Q) := wq_reg ..
theorem xf8r4 (T : Tab) (e : Env) (h : Hp) (Q : Out → Prop) : wp T f8r4 e h Q = wpI (cW T) i8r4 e h (regQ (some [6]) Q) := wq_reg ..
theorem xf8r5 (T : Tab) (e : Env) (h : Hp) (Q : Out → Prop) : wp T f8r5 e h Q = wpI (cW T) i8r5 e h (regQ (some [0, 1, 2, 7, 8]) Q) := wq_reg ..
theorem xf8r6 (T : Tab) (e : Env) (h : Hp) (Q : Out → Prop) : wp T f8r6 e h Q = wpI (cW T) i8r6 e h (regQ (some [0, 1, 2, 7, 8, 9, 10]) Q) := wq_reg ..
theorem xf8r7 (T : Tab) (e : Env) (h : Hp) (Q : Out → Prop) : wp T f8r7 e h Q = wpI (cW T) i8r7 e h (regQ (some [0, 1, 2, 7, 8, 9, 10, 11, 12, 13]) Q) := wq_reg ..
theorem xf8r8 (T : Tab) (e : Env) (h : Hp) (Q : Out → Prop) : wp T f8r8 e h Q = wpI (cW T) i8r8 e h (regQ (some [0, 2, 7, 8, 9, 10, 11, 12, 13, 14, 15, 16]) Q) := wq_reg ..
theorem xf8r9 (T : Tab) (e : Env) (h : Hp) (Q : Out → Prop) : wp T f8r9 e h Q = wpI (cW T) i8r9 e h (regQ (some [6]) Q) := wq_reg ..
theorem xb8 (T : Tab) (e : Env) (h : Hp) (Q : Out → Prop) : wp T b8 e h Q = wp T (.seq f8r0 (.seq (.seq f8r1 (.cond (.t 18) (.seq f8r2 .ret) .skip)) (.seq (.seq f8r3 (.cond (.t 26) (.seq f8r4 .ret) .skip)) (.seq f8r5 (.seq f8r6 (.seq f8r7 (.seq f8r8 (.seq f8r9 .ret)))))))) e h Q := rfl
theorem xf9r0 (T : Tab) (e : Env) (h : Hp) (Q : Out → Prop) : wp T f9r0 e h Q = wpI (cW T) i9r0 e h (regQ (some [0]) Q) := wq_reg ..
theorem xf9r1 (T : Tab) (e : Env) (h : Hp) (Q : Out → Prop) : wp T f9r1 e h Q = wpI (cW T) i9r1 e h (regQ (some [0, 11]) Q) := wq_reg ..
theorem xf9r2 (T : Tab) (e : Env) (h : Hp) (Q : Out → Prop) : wp T f9r2 e h Q = wpI (cW T) i9r2 e h (regQ (some [2]) Q) := wq_reg ..
theorem xf9r3 (T : Tab) (e : Env) (h : Hp) (Q : Out → Prop) : wp T f9r3 e h Q = wpI (cW T) i9r3 e h (regQ (some [0, 19]) Q) := wq_reg ..
theorem xf9r4 (T : Tab) (e : Env) (h : Hp) (Q : Out → Prop) : wp T f9r4 e h Q = wpI (cW T) i9r4 e h (regQ (some [2]) Q) := wq_reg ..
theorem xf9r5 (T : Tab) (e : Env) (h : Hp) (Q : Out → Prop) : wp T f9r5 e h Q = wpI (cW T) i9r5 e h (regQ (some [0, 3]) Q) := wq_reg ..
theorem xf9r6 (T : Tab) (e : Env) (h : Hp) (Q : Out → Prop) : wp T f9r6 e h Q = wpI (cW T) i9r6 e h (regQ (some [0, 3, 23]) Q) := wq_reg ..
theorem xf9r7 (T : Tab) (e : Env) (h : Hp) (Q : Out → Prop) : wp T f9r7 e h Q = wpI (cW T) i9r7 e h (regQ (some [0, 3, 4, 5]) Q) := wq_reg ..
theorem xf9r8 (T : Tab) (e : Env) (h : Hp) (Q : Out → Prop) : wp T f9r8 e h Q = wpI (cW T) i9r8 e h (regQ (some [0, 3, 4, 54]) Q) := wq_reg ..
theorem xf9r9 (T : Tab) (e : Env) (h : Hp) (Q : Out → Prop) : wp T f9r9 e h Q = wpI (cW T) i9r9 e h (regQ (some [2]) Q) := wq_reg ..
theorem xf9r10 (T : Tab) (e : Env) (h : Hp) (Q : Out → Prop) : wp T f9r10 e h Q = wpI (cW T) i9r10 e h (regQ (some [0, 3, 4, 6]) Q) := wq_reg ..
theorem xf9r11 (T : Tab) (e : Env) (h : Hp) (Q : Out → Prop) : wp T f9r11 e h Q = wpI (cW T) i9r11 e h (regQ (some [0, 3, 4, 6, 62]) Q) := wq_reg ..
theorem xf9r12 (T : Tab) (e : Env) (h : Hp) (Q : Out → Prop) : wp T f9r12 e h Q = wpI (cW T) i9r12 e h (regQ (some [0, 3, 4, 6, 7, 8, 9]) Q) := wq_reg ..
theorem xf9r13 (T : Tab) (e : Env) (h : Hp) (Q : Out → Prop) : wp T f9r13 e h Q = wpI (cW T) i9r13 e h (regQ (some [0, 3, 4, 6, 91]) Q) := wq_reg ..
theorem xf9r14 (T : Tab) (e : Env) (h : Hp) (Q : Out → Prop) : wp T f9r14 e h Q = wpI (cW T) i9r14 e h (regQ (some [2]) Q) := wq_reg ..
theorem xf9r15 (T : Tab) (e : Env) (h : Hp) (Q : Out → Prop) : wp T f9r15 e h Q = wpI (cW T) i9r15 e h (regQ (some [0, 3, 4, 6]) Q) := wq_reg ..
theorem xf9l0 (T : Tab) (e : Env) (h : Hp) (Q : Out → Prop) : wp T f9l0 e h Q = wp T (.seq (.seq f9r11 (.cond (.t 62) .skip (.exit 2))) (.seq (.blk 3 (.seq f9r12 (.seq f9r13 (.cond (.t 91) (.seq f9r14 .ret) .skip)))) f9r15)) e h Q := rfl
theorem xf9r16 (T : Tab) (e : Env) (h : Hp) (Q : Out → Prop) : wp T f9r16 e h Q = wpI (cW T) i9r16 e h (regQ (some [0, 3]) Q) := wq_reg ..
theorem xf9l1 (T : Tab) (e : Env) (h : Hp) (Q : Out → Prop) : wp T f9l1 e h Q = wp T (.seq (.seq f9r6 (.cond (.t 23) .skip (.exit 0))) (.seq (.blk 1 (.seq f9r7 (.seq (.seq f9r8 (.cond (.t 54) (.seq f9r9 .ret) .skip)) (.seq f9r10 (.blk 2 (.loop f9l0)))))) f9r16)) e h Q := rfl
theorem xf9r17 (T : Tab) (e : Env) (h : Hp) (Q : Out → Prop) : wp T f9r17 e h Q = wpI (cW T) i9r17 e h (regQ (some [2]) Q) := wq_reg ..
theorem xb9 (T : Tab) (e : Env) (h : Hp) (Q : Out → Prop) : wp T b9 e h Q = wp T (.seq f9r0 (.seq (.seq f9r1 (.cond (.t 11) (.seq f9r2 .ret) .skip)) (.seq (.seq f9r3 (.cond (.t 19) (.seq f9r4 .ret) .skip)) (.seq (.seq f9r5 (.blk 0 (.loop f9l1))) (.seq f9r17 .ret))))) e h Q := rfl
theorem xf10r0 (T : Tab) (e : Env) (h : Hp) (Q : Out → Prop) : wp T f10r0 e h Q = wpI (cW T) i10r0 e h (regQ (some []) Q) := wq_reg ..
theorem xf10r1 (T : Tab) (e : Env) (h : Hp) (Q : Out → Prop) : wp T f10r1 e h Q = wpI (cW T) i10r1 e h (regQ (some [1]) Q) := wq_reg ..
theorem xf10r2 (T : Tab) (e : Env) (h : Hp) (Q : Out → Prop) : wp T f10r2 e h Q = wpI (cW T) i10r2 e h (regQ (some [1, 2]) Q) := wq_reg ..
theorem xf10r3 (T : Tab) (e : Env) (h : Hp) (Q : Out → Prop) : wp T f10r3 e h Q = wpI (cW T) i10r3 e h (regQ (some [0]) Q) := wq_reg ..
theorem xb10 (T : Tab) (e : Env) (h : Hp) (Q : Out → Prop) : wp T b10 e h Q = wp T (.seq f10r0 (.seq f10r1 (.seq f10r2 (.seq f10r3 .ret)))) e h Q := rfl
theorem xf11r0 (T : Tab) (e : Env) (h : Hp) (Q : Out → Prop) : wp T f11r0 e h Q = wpI (cW T) i11r0 e h (regQ (some [0]) Q) := wq_reg ..
theorem xf11r1 (T : Tab) (e : Env) (h : Hp) (Q : Out → Prop) : wp T f11r1 e h Q = wpI (cW T) i11r1 e h (regQ (some [0, 8]) Q) := wq_reg ..
theorem xf11r2 (T : Tab) (e : Env) (h : Hp) (Q : Out → Prop) : wp T f11r2 e h Q = wpI (cW T) i11r2 e h (regQ (some [2]) Q) := wq_reg ..
theorem xf11r3 (T : Tab) (e : Env) (h : Hp) (Q : Out → Prop) : wp T f11r3 e h Q = wpI (cW T) i11r3 e h (regQ (some [0, 3]) Q) := wq_reg ..
theorem xf11r4 (T : Tab) (e : Env) (h : Hp) (Q : Out → Prop) : wp T f11r4 e h Q = wpI (cW T) i11r4 e h (regQ (some [0, 3, 4]) Q) := wq_reg ..
theorem xf11r5 (T : Tab) (e : Env) (h : Hp) (Q : Out → Prop) : wp T f11r5 e h Q = wpI (cW T) i11r5 e h (regQ (some [0, 3, 4, 12]) Q) := wq_reg ..
theorem xf11r6 (T : Tab) (e : Env) (h : Hp) (Q : Out → Prop) : wp T f11r6 e h Q = wpI (cW T) i11r6 e h (regQ (some [0, 3, 4]) Q) := wq_reg ..
theorem xf11r7 (T : Tab) (e : Env) (h : Hp) (Q : Out → Prop) : wp T f11r7 e h Q = wpI (cW T) i11r7 e h (regQ (some [0, 3, 4, 39]) Q) := wq_reg ..
theorem xf11r8 (T : Tab) (e : Env) (h : Hp) (Q : Out → Prop) : wp T f11r8 e h Q = wpI (cW T) i11r8 e h (regQ (some [2]) Q) := wq_reg ..
theorem xf11r9 (T : Tab) (e : Env) (h : Hp) (Q : Out → Prop) : wp T f11r9 e h Q = wpI (cW T) i11r9 e h (regQ (some [0, 3, 4, 5]) Q) := wq_reg ..
theorem xf11r10 (T : Tab) (e : Env) (h : Hp) (Q : Out → Prop) : wp T f11r10 e h Q = wpI (cW T) i11r10 e h (regQ (some [0, 3, 4, 5, 47]) Q) := wq_reg ..
theorem xf11r11 (T : Tab) (e : Env) (h : Hp) (Q : Out → Prop) : wp T f11r11 e h Q = wpI (cW T) i11r11 e h (regQ (some [0, 3, 4, 5]) Q) := wq_reg ..
theorem xf11r12 (T : Tab) (e : Env) (h : Hp) (Q : Out → Prop) : wp T f11r12 e h Q = wpI (cW T) i11r12 e h (regQ (some [0, 3, 4, 5, 85]) Q) := wq_reg ..
theorem xf11r13 (T : Tab) (e : Env) (h : Hp) (Q : Out → Prop) : wp T f11r13 e h Q = wpI (cW T) i11r13 e h (regQ (some [2]) Q) := wq_reg ..
theorem xf11r14 (T : Tab) (e : Env) (h : Hp) (Q : Out → Prop) : wp T f11r14 e h Q = wpI (cW T) i11r14 e h (regQ (some [0, 3, 4, 5]) Q) := wq_reg ..
theorem xf11l0 (T : Tab) (e : Env) (h : Hp) (Q : Out → Prop) : wp T f11l0 e h Q = wp T (.seq (.seq f11r10 (.cond (.t 47) .skip (.exit 2))) (.seq (.blk 3 (.seq f11r11 (.seq f11r12 (.cond (.t 85) (.seq f11r13 .ret) .skip)))) f11r14)) e h Q := rfl
theorem xf11r15 (T : Tab) (e : Env) (h : Hp) (Q : Out → Prop) : wp T f11r15 e h Q = wpI (cW T) i11r15 e h (regQ (some [0, 3, 4]) Q) := wq_reg ..
theorem xf11l1 (T : Tab) (e : Env) (h : Hp) (Q : Out → Prop) : wp T f11l1 e h Q = wp T (.seq (.seq f11r5 (.cond (.t 12) .skip (.exit 0))) (.seq (.blk 1 (.seq f11r6 (.seq (.seq f11r7 (.cond (.t 39) (.seq f11r8 .ret) .skip)) (.seq f11r9 (.blk 2 (.loop f11l0)))))) f11r15)) e h Q := rfl
theorem xf11r16 (T : Tab) (e : Env) (h : Hp) (Q : Out → Prop) : wp T f11r16 e h Q = wpI (cW T) i11r16 e h (regQ (some [2]) Q) := wq_reg ..
theorem xb11 (T : Tab) (e : Env) (h : Hp) (Q : Out → Prop) : wp T b11 e h Q = wp T (.seq f11r0 (.seq (.seq f11r1 (.cond (.t 8) (.seq f11r2 .ret) .skip)) (.seq f11r3 (.seq (.seq f11r4 (.blk 0 (.loop f11l1))) (.seq f11r16 .ret))))) e h Q := rfl
theorem xf12r0 (T : Tab) (e : Env) (h : Hp) (Q : Out → Prop) : wp T f12r0 e h Q = wpI (cW T) i12r0 e h (regQ (some [1]) Q) := wq_reg ..
theorem xf12r1 (T : Tab) (e : Env) (h : Hp) (Q : Out → Prop) : wp T f12r1 e h Q = wpI (cW T) i12r1 e h (regQ (some [1, 8]) Q) := wq_reg ..
theorem xf12r2 (T : Tab) (e : Env) (h : Hp) (Q : Out → Prop) : wp T f12r2 e h Q = wpI (cW T) i12r2 e h (regQ (some [2]) Q) := wq_reg ..
theorem xf12r3 (T : Tab) (e : Env) (h : Hp) (Q : Out → Prop) : wp T f12r3 e h Q = wpI (cW T) i12r3 e h (regQ (some [1, 11]) Q) := wq_reg ..
theorem xf12r4 (T : Tab) (e : Env) (h : Hp) (Q : Out → Prop) : wp T f12r4 e h Q = wpI (cW T) i12r4 e h (regQ (some [2]) Q) := wq_reg ..
theorem xf12r5 (T : Tab) (e : Env) (h : Hp) (Q : Out → Prop) : wp T f12r5 e h Q = wpI (cW T) i12r5 e h (regQ (some [1, 13]) Q) := wq_reg ..
theorem xf12r6 (T : Tab) (e : Env) (h : Hp) (Q : Out → Prop) : wp T f12r6 e h Q = wpI (cW T) i12r6 e h (regQ (some [2]) Q) := wq_reg ..
theorem xf12r7 (T : Tab) (e : Env) (h : Hp) (Q : Out → Prop) : wp T f12r7 e h Q = wpI (cW T) i12r7 e h (regQ (some [1, 14, 15, 16]) Q) := wq_reg ..
theorem xf12r8 (T : Tab) (e : Env) (h : Hp) (Q : Out → Prop) : wp T f12r8 e h Q = wpI (cW T) i12r8 e h (regQ (some [1, 14, 15, 16, 17]) Q) := wq_reg ..
theorem xf12r9 (T : Tab) (e : Env) (h : Hp) (Q : Out → Prop) : wp T f12r9 e h Q = wpI (cW T) i12r9 e h (regQ (some [1, 4, 14, 15, 16]) Q) := wq_reg ..
theorem xf12r10 (T : Tab) (e : Env) (h : Hp) (Q : Out → Prop) : wp T f12r10 e h Q = wpI (cW T) i12r10 e h (regQ (some [1, 14, 15, 16, 21, 22, 23]) Q) := wq_reg ..
theorem xf12r11 (T : Tab) (e : Env) (h : Hp) (Q : Out → Prop) : wp T f12r11 e h Q = wpI (cW T) i12r11 e h (regQ (some [1, 14, 15, 16, 21, 22, 23, 24]) Q) := wq_reg ..
theorem xf12r12 (T : Tab) (e : Env) (h : Hp) (Q : Out → Prop) : wp T f12r12 e h Q = wpI (cW T) i12r12 e h (regQ (some [1, 6, 14, 15, 16, 21, 22, 23]) Q) := wq_reg ..
theorem xf12r13 (T : Tab) (e : Env) (h : Hp) (Q : Out → Prop) : wp T f12r13 e h Q = wpI (cW T) i12r13 e h (regQ (some [1, 14, 15, 16, 21, 22, 23, 30]) Q) := wq_reg ..
theorem xf12r14 (T : Tab) (e : Env) (h : Hp) (Q : Out → Prop) : wp T f12r14 e h Q = wpI (cW T) i12r14 e h (regQ (some [2]) Q) := wq_reg ..
theorem xf12r15 (T : Tab) (e : Env) (h : Hp) (Q : Out → Prop) : wp T f12r15 e h Q = wpI (cW T) i12r15 e h (regQ (some [1, 14, 15, 16, 21, 22, 23]) Q) := wq_reg ..
theorem xf12l0 (T : Tab) (e : Env) (h : Hp) (Q : Out → Prop) : wp T f12l0 e h Q = wp T (.seq f12r11 (.seq (.cond (.t 24) .skip (.exit 2)) (.seq (.blk 3 (.seq f12r12 (.seq f12r13 (.cond (.t 30) (.seq f12r14 .ret) .skip)))) f12r15))) e h Q := rfl
theorem xf12r16 (T : Tab) (e : Env) (h : Hp) (Q : Out → Prop) : wp T f12r16 e h Q = wpI (cW T) i12r16 e h (regQ (some [1, 14, 15, 16]) Q) := wq_reg ..
theorem xf12l1 (T : Tab) (e : Env) (h : Hp) (Q : Out → Prop) : wp T f12l1 e h Q = wp T (.seq f12r8 (.seq (.cond (.t 17) .skip (.exit 0)) (.seq (.blk 1 (.seq f12r9 (.seq f12r10 (.blk 2 (.loop f12l0))))) f12r16))) e h Q := rfl
theorem xf12r17 (T : Tab) (e : Env) (h : Hp) (Q : Out → Prop) : wp T f12r17 e h Q = wpI (cW T) i12r17 e h (regQ (some [35]) Q) := wq_reg ..
theorem xf12r18 (T : Tab) (e : Env) (h : Hp) (Q : Out → Prop) : wp T f12r18 e h Q = wpI (cW T) i12r18 e h (regQ (some [2]) Q) := wq_reg ..
theorem xf12r19 (T : Tab) (e : Env) (h : Hp) (Q : Out → Prop) : wp T f12r19 e h Q = wpI (cW T) i12r19 e h (regQ (some [2]) Q) := wq_reg ..
theorem xb12 (T : Tab) (e : Env) (h : Hp) (Q : Out → Prop) : wp T b12 e h Q = wp T (.seq f12r0 (.seq (.seq f12r1 (.cond (.t 8) (.seq f12r2 .ret) .skip)) (.seq (.seq f12r3 (.cond (.t 11) (.seq f12r4 .ret) .skip)) (.seq (.seq f12r5 (.cond (.t 13) (.seq f12r6 .ret) .skip)) (.seq (.seq f12r7 (.blk 0 (.loop f12l1))) (.seq (.seq f12r17 (.cond (.t 35) (.seq f12r18 .ret) .skip)) (.seq f12r19 .ret))))))) e h Q := rfl
theorem xf13r0 (T : Tab) (e : Env) (h : Hp) (Q : Out → Prop) : wp T f13r0 e h Q = wpI (cW T) i13r0 e h (regQ (some [0]) Q) := wq_reg ..
theorem xf13r1 (T : Tab) (e : Env) (h : Hp) (Q : Out → Prop) : wp T f13r1 e h Q = wpI (cW T) i13r1 e h (regQ (some [0, 3]) Q) := wq_reg ..
theorem xf13r2 (T : Tab) (e : Env) (h : Hp) (Q : Out → Prop) : wp T f13r2 e h Q = wpI (cW T) i13r2 e h (regQ (some [2]) Q) := wq_reg ..
theorem xf13r3 (T : Tab) (e : Env) (h : Hp) (Q : Out → Prop) : wp T f13r3 e h Q = wpI (cW T) i13r3 e h (regQ (some [0, 6]) Q) := wq_reg ..
theorem xf13r4 (T : Tab) (e : Env) (h : Hp) (Q : Out → Prop) : wp T f13r4 e h Q = wpI (cW T) i13r4 e h (regQ (some [2]) Q) := wq_reg ..
theorem xf13r5 (T : Tab) (e : Env) (h : Hp) (Q : Out → Prop) : wp T f13r5 e h Q = wpI (cW T) i13r5 e h (regQ (some [0, 10]) Q) := wq_reg ..
theorem xf13r6 (T : Tab) (e : Env) (h : Hp) (Q : Out → Prop) : wp T f13r6 e h Q = wpI (cW T) i13r6 e h (regQ (some [2]) Q) := wq_reg ..
theorem xf13r7 (T : Tab) (e : Env) (h : Hp) (Q : Out → Prop) : wp T f13r7 e h Q = wpI (cW T) i13r7 e h (regQ (some [0, 13]) Q) := wq_reg ..
theorem xf13r8 (T : Tab) (e : Env) (h : Hp) (Q : Out → Prop) : wp T f13r8 e h Q = wpI (cW T) i13r8 e h (regQ (some [2]) Q) := wq_reg ..
theorem xf13r9 (T : Tab) (e : Env) (h : Hp) (Q : Out → Prop) : wp T f13r9 e h Q = wpI (cW T) i13r9 e h (regQ (some [17]) Q) := wq_reg ..
theorem xf13r10 (T : Tab) (e : Env) (h : Hp) (Q : Out → Prop) : wp T f13r10 e h Q = wpI (cW T) i13r10 e h (regQ (some [2]) Q) := wq_reg ..
theorem xf13r11 (T : Tab) (e : Env) (h : Hp) (Q : Out → Prop) : wp T f13r11 e h Q = wpI (cW T) i13r11 e h (regQ (some [2]) Q) := wq_reg ..
theorem xb13 (T : Tab) (e : Env) (h : Hp) (Q : Out → Prop) : wp T b13 e h Q = wp T (.seq f13r0 (.seq (.blk 0 (.seq f13r1 (.cond (.t 3) (.seq f13r2 .ret) (.seq f13r3 (.cond (.t 6) (.seq f13r4 .ret) (.seq f13r5 (.cond (.t 10) (.seq f13r6 .ret) (.seq f13r7 (.cond (.t 13) (.seq f13r8 .ret) (.seq f13r9 (.cond (.t 17) (.seq f13r10 .ret) .skip))))))))))) (.seq f13r11 .ret))) e h Q := rfl
theorem xf14r0 (T : Tab) (e : Env) (h : Hp) (Q : Out → Prop) : wp T f14r0 e h Q = wpI (cW T) i14r0 e h (regQ (some [0, 1]) Q) := wq_reg ..
theorem xf14r1 (T : Tab) (e : Env) (h : Hp) (Q : Out → Prop) : wp T f14r1 e h Q = wpI (cW T) i14r1 e h (regQ (some [4]) Q) := wq_reg ..
theorem xb14 (T : Tab) (e : Env) (h : Hp) (Q : Out → Prop) : wp T b14 e h Q = wp T (.seq f14r0 (.seq f14r1 .ret)) e h Q := rfl
theorem xf15r0 (T : Tab) (e : Env) (h : Hp) (Q : Out → Prop) : wp T f15r0 e h Q = wpI (cW T) i15r0 e h (regQ (some [0, 1]) Q) := wq_reg ..
theorem xf15r1 (T : Tab) (e : Env) (h : Hp) (Q : Out → Prop) : wp T f15r1 e h Q = wpI (cW T) i15r1 e h (regQ (some [0, 1, 7]) Q) := wq_reg ..
theorem xf15r2 (T : Tab) (e : Env) (h : Hp) (Q : Out → Prop) : wp T f15r2 e h Q = wpI (cW T) i15r2 e h (regQ (some [4]) Q) := wq_reg ..
theorem xf15r3 (T : Tab) (e : Env) (h : Hp) (Q : Out → Prop) : wp T f15r3 e h Q = wpI (cW T) i15r3 e h (regQ (some [0, 1, 11]) Q) := wq_reg ..
theorem xf15r4 (T : Tab) (e : Env) (h : Hp) (Q : Out → Prop) : wp T f15r4 e h Q = wpI (cW T) i15r4 e h (regQ (some [4]) Q) := wq_reg ..
theorem xf15r5 (T : Tab) (e : Env) (h : Hp) (Q : Out → Prop) : wp T f15r5 e h Q = wpI (cW T) i15r5 e h (regQ (some [0, 1, 5]) Q) := wq_reg ..
theorem xf15r6 (T : Tab) (e : Env) (h : Hp) (Q : Out → Prop) : wp T f15r6 e h Q = wpI (cW T) i15r6 e h (regQ (some [0, 1, 5, 20]) Q) := wq_reg ..
theorem xf15r7 (T : Tab) (e : Env) (h : Hp) (Q : Out → Prop) : wp T f15r7 e h Q = wpI (cW T) i15r7 e h (regQ (some [0, 1, 5, 34]) Q) := wq_reg ..
theorem xf15r8 (T : Tab) (e : Env) (h : Hp) (Q : Out → Prop) : wp T f15r8 e h Q = wpI (cW T) i15r8 e h (regQ (some [4]) Q) := wq_reg ..
theorem xf15r9 (T : Tab) (e : Env) (h : Hp) (Q : Out → Prop) : wp T f15r9 e h Q = wpI (cW T) i15r9 e h (regQ (some [0, 1, 5]) Q) := wq_reg ..
theorem xf15l0 (T : Tab) (e : Env) (h : Hp) (Q : Out → Prop) : wp T f15l0 e h Q = wp T (.seq (.seq f15r6 (.cond (.t 20) .skip (.exit 0))) (.seq (.blk 1 (.seq f15r7 (.cond (.t 34) (.seq f15r8 .ret) .skip))) f15r9)) e h Q := rfl
theorem xf15r10 (T : Tab) (e : Env) (h : Hp) (Q : Out → Prop) : wp T f15r10 e h Q = wpI (cW T) i15r10 e h (regQ (some [4]) Q) := wq_reg ..
theorem xb15 (T : Tab) (e : Env) (h : Hp) (Q : Out → Prop) : wp T b15 e h Q = wp T (.seq f15r0 (.seq (.seq f15r1 (.cond (.t 7) (.seq f15r2 .ret) .skip)) (.seq (.seq f15r3 (.cond (.t 11) (.seq f15r4 .ret) .skip)) (.seq (.seq f15r5 (.blk 0 (.loop f15l0))) (.seq f15r10 .ret))))) e h Q := rfl
theorem xf16r0 (T : Tab) (e : Env) (h : Hp) (Q : Out → Prop) : wp T f16r0 e h Q = wpI (cW T) i16r0 e h (regQ (some [0, 1, 2]) Q) := wq_reg ..
theorem xf16r1 (T : Tab) (e : Env) (h : Hp) (Q : Out → Prop) : wp T f16r1 e h Q = wpI (cW T) i16r1 e h (regQ (some [2, 7]) Q) := wq_reg ..
theorem xf16r2 (T : Tab) (e : Env) (h : Hp) (Q : Out → Prop) : wp T f16r2 e h Q = wpI (cW T) i16r2 e h (regQ (some [27]) Q) := wq_reg ..
theorem xf16r3 (T : Tab) (e : Env) (h : Hp) (Q : Out → Prop) : wp T f16r3 e h Q = wpI (cW T) i16r3 e h (regQ (some [6]) Q) := wq_reg ..
theorem xf16r4 (T : Tab) (e : Env) (h : Hp) (Q : Out → Prop) : wp T f16r4 e h Q = wpI (cW T) i16r4 e h (regQ (some [6]) Q) := wq_reg ..
theorem xb16 (T : Tab) (e : Env) (h : Hp) (Q : Out → Prop) : wp T b16 e h Q = wp T (.seq f16r0 (.seq f16r1 (.seq (.seq f16r2 (.cond (.t 27) (.seq f16r3 .ret) .skip)) (.seq f16r4 .ret)))) e h Q := rfl
theorem xf17r0 (T : Tab) (e : Env) (h : Hp) (Q : Out → Prop) : wp T f17r0 e h Q = wpI (cW T) i17r0 e h (regQ (some [0, 1, 2]) Q) := wq_reg ..
theorem xf17r1 (T : Tab) (e : Env) (h : Hp) (Q : Out → Prop) : wp T f17r1 e h Q = wpI (cW T) i17r1 e h (regQ (some [43]) Q) := wq_reg ..
theorem xf17r2 (T : Tab) (e : Env) (h : Hp) (Q : Out → Prop) : wp T f17r2 e h Q = wpI (cW T) i17r2 e h (regQ (some [6]) Q) := wq_reg ..
theorem xf17r3 (T : Tab) (e : Env) (h : Hp) (Q : Out → Prop) : wp T f17r3 e h Q = wpI (cW T) i17r3 e h (regQ (some [6]) Q) := wq_reg ..
theorem xb17 (T : Tab) (e : Env) (h : Hp) (Q : Out → Prop) : wp T b17 e h Q = wp T (.seq f17r0 (.seq (.seq f17r1 (.cond (.t 43) (.seq f17r2 .ret) .skip)) (.seq f17r3 .ret))) e h Q := rfl
theorem xf18r0 (T : Tab) (e : Env) (h : Hp) (Q : Out → Prop) : wp T f18r0 e h Q = wpI (cW T) i18r0 e h (regQ (some [0, 1]) Q) := wq_reg ..
theorem xf18r1 (T : Tab) (e : Env) (h : Hp) (Q : Out → Prop) : wp T f18r1 e h Q = wpI (cW T) i18r1 e h (regQ (some [0, 1, 10]) Q) := wq_reg ..
theorem xf18r2 (T : Tab) (e : Env) (h : Hp) (Q : Out → Prop) : wp T f18r2 e h Q = wpI (cW T) i18r2 e h (regQ (some [4]) Q) := wq_reg ..
theorem xf18r3 (T : Tab) (e : Env) (h : Hp) (Q : Out → Prop) : wp T f18r3 e h Q = wpI (cW T) i18r3 e h (regQ (some [0, 1, 5]) Q) := wq_reg ..
theorem xf18r4 (T : Tab) (e : Env) (h : Hp) (Q : Out → Prop) : wp T f18r4 e h Q = wpI (cW T) i18r4 e h (regQ (some [0, 1, 5, 14]) Q) := wq_reg ..
theorem xf18r5 (T : Tab) (e : Env) (h : Hp) (Q : Out → Prop) : wp T f18r5 e h Q = wpI (cW T) i18r5 e h (regQ (some [0, 1, 5, 25]) Q) := wq_reg ..
theorem xf18r6 (T : Tab) (e : Env) (h : Hp) (Q : Out → Prop) : wp T f18r6 e h Q = wpI (cW T) i18r6 e h (regQ (some [4]) Q) := wq_reg ..
theorem xf18r7 (T : Tab) (e : Env) (h : Hp) (Q : Out → Prop) : wp T f18r7 e h Q = wpI (cW T) i18r7 e h (regQ (some [0, 1, 5]) Q) := wq_reg ..
theorem xf18l0 (T : Tab) (e : Env) (h : Hp) (Q : Out → Prop) : wp T f18l0 e h Q = wp T (.seq (.seq f18r4 (.cond (.t 14) .skip (.exit 0))) (.seq (.blk 1 (.seq f18r5 (.cond (.t 25) (.seq f18r6 .ret) .skip))) f18r7)) e h Q := rfl
theorem xf18r8 (T : Tab) (e : Env) (h : Hp) (Q : Out → Prop) : wp T f18r8 e h Q = wpI (cW T) i18r8 e h (regQ (some [4]) Q) := wq_reg ..
theorem xb18 (T : Tab) (e : Env) (h : Hp) (Q : Out → Prop) : wp T b18 e h Q = wp T (.seq f18r0 (.seq (.seq f18r1 (.cond (.t 10) (.seq f18r2 .ret) .skip)) (.seq (.seq f18r3 (.blk 0 (.loop f18l0))) (.seq f18r8 .ret)))) e h Q := rfl
theorem xf19r0 (T : Tab) (e : Env) (h : Hp) (Q : Out → Prop) : wp T f19r0 e h Q = wpI (cW T) i19r0 e h (regQ (some [1, 2]) Q) := wq_reg ..
theorem xf19r1 (T : Tab) (e : Env) (h : Hp) (Q : Out → Prop) : wp T f19r1 e h Q = wpI (cW T) i19r1 e h (regQ (some [1, 2, 5]) Q) := wq_reg ..
theorem xf19r2 (T : Tab) (e : Env) (h : Hp) (Q : Out → Prop) : wp T f19r2 e h Q = wpI (cW T) i19r2 e h (regQ (some [1, 2, 5, 6]) Q) := wq_reg ..
theorem xf19r3 (T : Tab) (e : Env) (h : Hp) (Q : Out → Prop) : wp T f19r3 e h Q = wpI (cW T) i19r3 e h (regQ (some [1, 2, 5, 6, 7]) Q) := wq_reg ..
theorem xf19r4 (T : Tab) (e : Env) (h : Hp) (Q : Out → Prop) : wp T f19r4 e h Q = wpI (cW T) i19r4 e h (regQ (some [1, 5, 7]) Q) := wq_reg ..
theorem xf19r5 (T : Tab) (e : Env) (h : Hp) (Q : Out → Prop) : wp T f19r5 e h Q = wpI (cW T) i19r5 e h (regQ (some [5]) Q) := wq_reg ..
theorem xf19r6 (T : Tab) (e : Env) (h : Hp) (Q : Out → Prop) : wp T f19r6 e h Q = wpI (cW T) i19r6 e h (regQ (some [4]) Q) := wq_reg ..
theorem xb19 (T : Tab) (e : Env) (h : Hp) (Q : Out → Prop) : wp T b19 e h Q = wp T (.seq f19r0 (.seq f19r1 (.seq f19r2 (.seq f19r3 (.seq f19r4 (.seq f19r5 (.seq f19r6 .ret))))))) e h Q := rfl
theorem xf20r0 (T : Tab) (e : Env) (h : Hp) (Q : Out → Prop) : wp T f20r0 e h Q = wpI (cW T) i20r0 e h (regQ (some [0, 1]) Q) := wq_reg ..
theorem xf20r1 (T : Tab) (e : Env) (h : Hp) (Q : Out → Prop) : wp T f20r1 e h Q = wpI (cW T) i20r1 e h (regQ (some [4]) Q) := wq_reg ..
theorem xb20 (T : Tab) (e : Env) (h : Hp) (Q : Out → Prop) : wp T b20 e h Q = wp T (.seq f20r0 (.seq f20r1 .ret)) e h Q := rfl
theorem xf21r0 (T : Tab) (e : Env) (h : Hp) (Q : Out → Prop) : wp T f21r0 e h Q = wpI (cW T) i21r0 e h (regQ (some [0, 1]) Q) := wq_reg ..
theorem xf21r1 (T : Tab) (e : Env) (h : Hp) (Q : Out → Prop) : wp T f21r1 e h Q = wpI (cW T) i21r1 e h (regQ (some [0, 1, 11, 12, 13]) Q) := wq_reg ..
theorem xf21r2 (T : Tab) (e : Env) (h : Hp) (Q : Out → Prop) : wp T f21r2 e h Q = wpI (cW T) i21r2 e h (regQ (some [0, 1, 11, 12, 13, 14]) Q) := wq_reg ..
theorem xf21r3 (T : Tab) (e : Env) (h : Hp) (Q : Out → Prop) : wp T f21r3 e h Q = wpI (cW T) i21r3 e h (regQ (some [0, 1, 6, 11, 12, 13]) Q) := wq_reg ..
theorem xf21r4 (T : Tab) (e : Env) (h : Hp) (Q : Out → Prop) : wp T f21r4 e h Q = wpI (cW T) i21r4 e h (regQ (some [0, 1, 11, 12, 13, 18, 19, 20]) Q) := wq_reg ..
theorem xf21r5 (T : Tab) (e : Env) (h : Hp) (Q : Out → Prop) : wp T f21r5 e h Q = wpI (cW T) i21r5 e h (regQ (some [0, 1, 11, 12, 13, 18, 19, 20, 21]) Q) := wq_reg ..
theorem xf21r6 (T : Tab) (e : Env) (h : Hp) (Q : Out → Prop) : wp T f21r6 e h Q = wpI (cW T) i21r6 e h (regQ (some [0, 1, 8, 11, 12, 13, 18, 19, 20]) Q) := wq_reg ..
theorem xf21r7 (T : Tab) (e : Env) (h : Hp) (Q : Out → Prop) : wp T f21r7 e h Q = wpI (cW T) i21r7 e h (regQ (some [0, 1, 11, 12, 13, 18, 19, 20, 28]) Q) := wq_reg ..
theorem xf21r8 (T : Tab) (e : Env) (h : Hp) (Q : Out → Prop) : wp T f21r8 e h Q = wpI (cW T) i21r8 e h (regQ (some [4]) Q) := wq_reg ..
theorem xf21r9 (T : Tab) (e : Env) (h : Hp) (Q : Out → Prop) : wp T f21r9 e h Q = wpI (cW T) i21r9 e h (regQ (some [0, 1, 11, 12, 13, 18, 19, 20]) Q) := wq_reg ..
theorem xf21l0 (T : Tab) (e : Env) (h : Hp) (Q : Out → Prop) : wp T f21l0 e h Q = wp T (.seq f21r5 (.seq (.cond (.t 21) .skip (.exit 2)) (.seq (.blk 3 (.seq f21r6 (.seq f21r7 (.cond (.t 28) (.seq f21r8 .ret) .skip)))) f21r9))) e h Q := rfl
theorem xf21r10 (T : Tab) (e : Env) (h : Hp) (Q : Out → Prop) : wp T f21r10 e h Q = wpI (cW T) i21r10 e h (regQ (some [0, 1, 11, 12, 13]) Q) := wq_reg ..
theorem xf21l1 (T : Tab) (e : Env) (h : Hp) (Q : Out → Prop) : wp T f21l1 e h Q = wp T (.seq f21r2 (.seq (.cond (.t 14) .skip (.exit 0)) (.seq (.blk 1 (.seq f21r3 (.seq f21r4 (.blk 2 (.loop f21l0))))) f21r10))) e h Q := rfl
theorem xf21r11 (T : Tab) (e : Env) (h : Hp) (Q : Out → Prop) : wp T f21r11 e h Q = wpI (cW T) i21r11 e h (regQ (some [4]) Q) := wq_reg ..
theorem xb21 (T : Tab) (e : Env) (h : Hp) (Q : Out → Prop) : wp T b21 e h Q = wp T (.seq f21r0 (.seq (.seq f21r1 (.blk 0 (.loop f21l1))) (.seq f21r11 .ret))) e h Q := rfl
theorem xf22r0 (T : Tab) (e : Env) (h : Hp) (Q : Out → Prop) : wp T f22r0 e h Q = wpI (cW T) i22r0 e h (regQ (some [0, 1]) Q) := wq_reg ..
theorem xf22r1 (T : Tab) (e : Env) (h : Hp) (Q : Out → Prop) : wp T f22r1 e h Q = wpI (cW T) i22r1 e h (regQ (some [0, 1, 15]) Q) := wq_reg ..
theorem xf22r2 (T : Tab) (e : Env) (h : Hp) (Q : Out → Prop) : wp T f22r2 e h Q = wpI (cW T) i22r2 e h (regQ (some [4]) Q) := wq_reg ..
theorem xf22r3 (T : Tab) (e : Env) (h : Hp) (Q : Out → Prop) : wp T f22r3 e h Q = wpI (cW T) i22r3 e h (regQ (some [0, 1, 5]) Q) := wq_reg ..
theorem xf22r4 (T : Tab) (e : Env) (h : Hp) (Q : Out → Prop) : wp T f22r4 e h Q = wpI (cW T) i22r4 e h (regQ (some [0, 1, 5, 24]) Q) := wq_reg ..
theorem xf22r5 (T : Tab) (e : Env) (h : Hp) (Q : Out → Prop) : wp T f22r5 e h Q = wpI (cW T) i22r5 e h (regQ (some [0, 1, 5, 6]) Q) := wq_reg ..
theorem xf22r6 (T : Tab) (e : Env) (h : Hp) (Q : Out → Prop) : wp T f22r6 e h Q = wpI (cW T) i22r6 e h (regQ (some [0, 1, 5, 6, 7]) Q) := wq_reg ..
theorem xf22r7 (T : Tab) (e : Env) (h : Hp) (Q : Out → Prop) : wp T f22r7 e h Q = wpI (cW T) i22r7 e h (regQ (some [0, 1, 5, 6, 7, 40]) Q) := wq_reg ..
theorem xf22r8 (T : Tab) (e : Env) (h : Hp) (Q : Out → Prop) : wp T f22r8 e h Q = wpI (cW T) i22r8 e h (regQ (some [0, 1, 5, 6, 7, 50]) Q) := wq_reg ..
theorem xf22r9 (T : Tab) (e : Env) (h : Hp) (Q : Out → Prop) : wp T f22r9 e h Q = wpI (cW T) i22r9 e h (regQ (some [4]) Q) := wq_reg ..
theorem xf22r10 (T : Tab) (e : Env) (h : Hp) (Q : Out → Prop) : wp T f22r10 e h Q = wpI (cW T) i22r10 e h (regQ (some [0, 1, 5, 6, 7]) Q) := wq_reg ..
theorem xf22l0 (T : Tab) (e : Env) (h : Hp) (Q : Out → Prop) : wp T f22l0 e h Q = wp T (.seq (.seq f22r7 (.cond (.t 40) .skip (.exit 2))) (.seq (.blk 3 (.seq f22r8 (.cond (.t 50) (.seq f22r9 .ret) .skip))) f22r10)) e h Q := rfl
theorem xf22r11 (T : Tab) (e : Env) (h : Hp) (Q : Out → Prop) : wp T f22r11 e h Q = wpI (cW T) i22r11 e h (regQ (some [0, 1, 5]) Q) := wq_reg ..
theorem xf22l1 (T : Tab) (e : Env) (h : Hp) (Q : Out → Prop) : wp T f22l1 e h Q = wp T (.seq (.seq f22r4 (.cond (.t 24) .skip (.exit 0))) (.seq (.blk 1 (.seq f22r5 (.seq f22r6 (.blk 2 (.loop f22l0))))) f22r11)) e h Q := rfl
theorem xf22r12 (T : Tab) (e : Env) (h : Hp) (Q : Out → Prop) : wp T f22r12 e h Q = wpI (cW T) i22r12 e h (regQ (some [4]) Q) := wq_reg ..
theorem xb22 (T : Tab) (e : Env) (h : Hp) (Q : Out → Prop) : wp T b22 e h Q = wp T (.seq f22r0 (.seq (.seq f22r1 (.cond (.t 15) (.seq f22r2 .ret) .skip)) (.seq (.seq f22r3 (.blk 0 (.loop f22l1))) (.seq f22r12 .ret)))) e h Q := rfl
theorem xf23r0 (T : Tab) (e : Env) (h : Hp) (Q : Out → Prop) : wp T f23r0 e h Q = wpI (cW T) i23r0 e h (regQ (some [0, 1]) Q) := wq_reg ..
theorem xf23r1 (T : Tab) (e : Env) (h : Hp) (Q : Out → Prop) : wp T f23r1 e h Q = wpI (cW T) i23r1 e h (regQ (some [0, 1, 5]) Q) := wq_reg ..
theorem xf23r2 (T : Tab) (e : Env) (h : Hp) (Q : Out → Prop) : wp T f23r2 e h Q = wpI (cW T) i23r2 e h (regQ (some [0, 1, 5, 9]) Q) := wq_reg ..
theorem xf23r3 (T : Tab) (e : Env) (h : Hp) (Q : Out → Prop) : wp T f23r3 e h Q = wpI (cW T) i23r3 e h (regQ (some [0, 1, 5, 17]) Q) := wq_reg ..
theorem xf23r4 (T : Tab) (e : Env) (h : Hp) (Q : Out → Prop) : wp T f23r4 e h Q = wpI (cW T) i23r4 e h (regQ (some [4]) Q) := wq_reg ..
theorem xf23r5 (T : Tab) (e : Env) (h : Hp) (Q : Out → Prop) : wp T f23r5 e h Q = wpI (cW T) i23r5 e h (regQ (some [0, 1, 5]) Q) := wq_reg ..
theorem xf23l0 (T : Tab) (e : Env) (h : Hp) (Q : Out → Prop) : wp T f23l0 e h Q = wp T (.seq (.seq f23r2 (.cond (.t 9) .skip (.exit 0))) (.seq (.blk 1 (.seq f23r3 (.cond (.t 17) (.seq f23r4 .ret) .skip))) f23r5)) e h Q := rfl
theorem xf23r6 (T : Tab) (e : Env) (h : Hp) (Q : Out → Prop) : wp T f23r6 e h Q = wpI (cW T) i23r6 e h (regQ (some [4]) Q) := wq_reg ..
theorem xb23 (T : Tab) (e : Env) (h : Hp) (Q : Out → Prop) : wp T b23 e h Q = wp T (.seq f23r0 (.seq (.seq f23r1 (.blk 0 (.loop f23l0))) (.seq f23r6 .ret))) e h Q := rfl
theorem xf24r0 (T : Tab) (e : Env) (h : Hp) (Q : Out → Prop) : wp T f24r0 e h Q = wpI (cW T) i24r0 e h (regQ (some [0, 3]) Q) := wq_reg ..
theorem xf24r1 (T : Tab) (e : Env) (h : Hp) (Q : Out → Prop) : wp T f24r1 e h Q = wpI (cW T) i24r1 e h (regQ (some [0, 3, 8]) Q) := wq_reg ..
theorem xf24r2 (T : Tab) (e : Env) (h : Hp) (Q : Out → Prop) : wp T f24r2 e h Q = wpI (cW T) i24r2 e h (regQ (some [4, 5]) Q) := wq_reg ..
theorem xf24r3 (T : Tab) (e : Env) (h : Hp) (Q : Out → Prop) : wp T f24r3 e h Q = wpI (cW T) i24r3 e h (regQ (some [6]) Q) := wq_reg ..
theorem xf24r4 (T : Tab) (e : Env) (h : Hp) (Q : Out → Prop) : wp T f24r4 e h Q = wpI (cW T) i24r4 e h (regQ (some [4, 5]) Q) := wq_reg ..
theorem xb24 (T : Tab) (e : Env) (h : Hp) (Q : Out → Prop) : wp T b24 e h Q = wp T (.seq f24r0 (.seq (.seq f24r1 (.cond (.t 8) (.seq f24r2 .ret) .skip)) (.seq f24r3 (.seq f24r4 .ret)))) e h Q := rfl
theorem xf25r0 (T : Tab) (e : Env) (h : Hp) (Q : Out → Prop) : wp T f25r0 e h Q = wpI (cW T) i25r0 e h (regQ (some [0, 3]) Q) := wq_reg ..
theorem xf25r1 (T : Tab) (e : Env) (h : Hp) (Q : Out → Prop) : wp T f25r1 e h Q = wpI (cW T) i25r1 e h (regQ (some [3, 10, 11, 12]) Q) := wq_reg ..
theorem xf25r2 (T : Tab) (e : Env) (h : Hp) (Q : Out → Prop) : wp T f25r2 e h Q = wpI (cW T) i25r2 e h (regQ (some [3, 10, 11, 12, 13]) Q) := wq_reg ..
theorem xf25r3 (T : Tab) (e : Env) (h : Hp) (Q : Out → Prop) : wp T f25r3 e h Q = wpI (cW T) i25r3 e h (regQ (some [3, 7, 8, 10, 11, 12]) Q) := wq_reg ..
theorem xf25r4 (T : Tab) (e : Env) (h : Hp) (Q : Out → Prop) : wp T f25r4 e h Q = wpI (cW T) i25r4 e h (regQ (some [3, 7, 9, 10, 11, 12]) Q) := wq_reg ..
theorem xf25r5 (T : Tab) (e : Env) (h : Hp) (Q : Out → Prop) : wp T f25r5 e h Q = wpI (cW T) i25r5 e h (regQ (some [3, 7, 9, 10, 11, 12, 22]) Q) := wq_reg ..
theorem xf25r6 (T : Tab) (e : Env) (h : Hp) (Q : Out → Prop) : wp T f25r6 e h Q = wpI (cW T) i25r6 e h (regQ (some [4, 5, 6]) Q) := wq_reg ..
theorem xf25r7 (T : Tab) (e : Env) (h : Hp) (Q : Out → Prop) : wp T f25r7 e h Q = wpI (cW T) i25r7 e h (regQ (some [3, 10, 11, 12]) Q) := wq_reg ..
theorem xf25l0 (T : Tab) (e : Env) (h : Hp) (Q : Out → Prop) : wp T f25l0 e h Q = wp T (.seq f25r2 (.seq (.cond (.t 13) .skip (.exit 0)) (.seq (.blk 1 (.seq f25r3 (.seq f25r4 (.seq f25r5 (.cond (.t 22) (.seq f25r6 .ret) .skip))))) f25r7))) e h Q := rfl
theorem xf25r8 (T : Tab) (e : Env) (h : Hp) (Q : Out → Prop) : wp T f25r8 e h Q = wpI (cW T) i25r8 e h (regQ (some [4, 5, 6]) Q) := wq_reg ..
theorem xb25 (T : Tab) (e : Env) (h : Hp) (Q : Out → Prop) : wp T b25 e h Q = wp T (.seq f25r0 (.seq (.seq f25r1 (.blk 0 (.loop f25l0))) (.seq f25r8 .ret))) e h Q := rfl
theorem xf26r0 (T : Tab) (e : Env) (h : Hp) (Q : Out → Prop) : wp T f26r0 e h Q = wpI (cW T) i26r0 e h (regQ (some [0, 1]) Q) := wq_reg ..
theorem xf26r1 (T : Tab) (e : Env) (h : Hp) (Q : Out → Prop) : wp T f26r1 e h Q = wpI (cW T) i26r1 e h (regQ (some [0, 1, 8]) Q) := wq_reg ..
theorem xf26r2 (T : Tab) (e : Env) (h : Hp) (Q : Out → Prop) : wp T f26r2 e h Q = wpI (cW T) i26r2 e h (regQ (some [4, 5]) Q) := wq_reg ..
theorem xf26r3 (T : Tab) (e : Env) (h : Hp) (Q : Out → Prop) : wp T f26r3 e h Q = wpI (cW T) i26r3 e h (regQ (some [0, 1, 6]) Q) := wq_reg ..
theorem xf26r4 (T : Tab) (e : Env) (h : Hp) (Q : Out → Prop) : wp T f26r4 e h Q = wpI (cW T) i26r4 e h (regQ (some [0, 1, 6, 12]) Q) := wq_reg ..
theorem xf26r5 (T : Tab) (e : Env) (h : Hp) (Q : Out → Prop) : wp T f26r5 e h Q = wpI (cW T) i26r5 e h (regQ (some [0, 1, 6, 21]) Q) := wq_reg ..
theorem xf26r6 (T : Tab) (e : Env) (h : Hp) (Q : Out → Prop) : wp T f26r6 e h Q = wpI (cW T) i26r6 e h (regQ (some [4, 5]) Q) := wq_reg ..
theorem xf26r7 (T : Tab) (e : Env) (h : Hp) (Q : Out → Prop) : wp T f26r7 e h Q = wpI (cW T) i26r7 e h (regQ (some [0, 1, 6]) Q) := wq_reg ..
theorem xf26l0 (T : Tab) (e : Env) (h : Hp) (Q : Out → Prop) : wp T f26l0 e h Q = wp T (.seq (.seq f26r4 (.cond (.t 12) .skip (.exit 0))) (.seq (.blk 1 (.seq f26r5 (.cond (.t 21) (.seq f26r6 .ret) .skip))) f26r7)) e h Q := rfl
theorem xf26r8 (T : Tab) (e : Env) (h : Hp) (Q : Out → Prop) : wp T f26r8 e h Q = wpI (cW T) i26r8 e h (regQ (some [4, 5]) Q) := wq_reg ..
theorem xb26 (T : Tab) (e : Env) (h : Hp) (Q : Out → Prop) : wp T b26 e h Q = wp T (.seq f26r0 (.seq (.seq f26r1 (.cond (.t 8) (.seq f26r2 .ret) .skip)) (.seq (.seq f26r3 (.blk 0 (.loop f26l0))) (.seq f26r8 .ret)))) e h Q := rfl
theorem xf27r0 (T : Tab) (e : Env) (h : Hp) (Q : Out → Prop) : wp T f27r0 e h Q = wpI (cW T) i27r0 e h (regQ (some [0, 1]) Q) := wq_reg ..
theorem xf27r1 (T : Tab) (e : Env) (h : Hp) (Q : Out → Prop) : wp T f27r1 e h Q = wpI (cW T) i27r1 e h (regQ (some [0, 1, 7]) Q) := wq_reg ..
theorem xf27r2 (T : Tab) (e : Env) (h : Hp) (Q : Out → Prop) : wp T f27r2 e h Q = wpI (cW T) i27r2 e h (regQ (some [0, 1, 7, 12]) Q) := wq_reg ..
theorem xf27r3 (T : Tab) (e : Env) (h : Hp) (Q : Out → Prop) : wp T f27r3 e h Q = wpI (cW T) i27r3 e h (regQ (some [0, 1, 7, 8]) Q) := wq_reg ..
theorem xf27r4 (T : Tab) (e : Env) (h : Hp) (Q : Out → Prop) : wp T f27r4 e h Q = wpI (cW T) i27r4 e h (regQ (some [0, 1, 7, 8, 22]) Q) := wq_reg ..
theorem xf27r5 (T : Tab) (e : Env) (h : Hp) (Q : Out → Prop) : wp T f27r5 e h Q = wpI (cW T) i27r5 e h (regQ (some [0, 1, 7, 8, 35]) Q) := wq_reg ..
theorem xf27r6 (T : Tab) (e : Env) (h : Hp) (Q : Out → Prop) : wp T f27r6 e h Q = wpI (cW T) i27r6 e h (regQ (some [4, 5, 6]) Q) := wq_reg ..
theorem xf27r7 (T : Tab) (e : Env) (h : Hp) (Q : Out → Prop) : wp T f27r7 e h Q = wpI (cW T) i27r7 e h (regQ (some [0, 1, 7, 8]) Q) := wq_reg ..
theorem xf27l0 (T : Tab) (e : Env) (h : Hp) (Q : Out → Prop) : wp T f27l0 e h Q = wp T (.seq (.seq f27r4 (.cond (.t 22) .skip (.exit 2))) (.seq (.blk 3 (.seq f27r5 (.cond (.t 35) (.seq f27r6 .ret) .skip))) f27r7)) e h Q := rfl
theorem xf27r8 (T : Tab) (e : Env) (h : Hp) (Q : Out → Prop) : wp T f27r8 e h Q = wpI (cW T) i27r8 e h (regQ (some [0, 1, 7]) Q) := wq_reg ..
theorem xf27l1 (T : Tab) (e : Env) (h : Hp) (Q : Out → Prop) : wp T f27l1 e h Q = wp T (.seq (.seq f27r2 (.cond (.t 12) .skip (.exit 0))) (.seq (.blk 1 (.seq f27r3 (.blk 2 (.loop f27l0)))) f27r8)) e h Q := rfl
theorem xf27r9 (T : Tab) (e : Env) (h : Hp) (Q : Out → Prop) : wp T f27r9 e h Q = wpI (cW T) i27r9 e h (regQ (some [4, 5, 6]) Q) := wq_reg ..
theorem xb27 (T : Tab) (e : Env) (h : Hp) (Q : Out → Prop) : wp T b27 e h Q = wp T (.seq f27r0 (.seq (.seq f27r1 (.blk 0 (.loop f27l1))) (.seq f27r9 .ret))) e h Q := rfl
theorem xf28r0 (T : Tab) (e : Env) (h : Hp) (Q : Out → Prop) : wp T f28r0 e h Q = wpI (cW T) i28r0 e h (regQ (some [0, 1]) Q) := wq_reg ..
theorem xf28r1 (T : Tab) (e : Env) (h : Hp) (Q : Out → Prop) : wp T f28r1 e h Q = wpI (cW T) i28r1 e h (regQ (some [0, 1, 6]) Q) := wq_reg ..
theorem xf28r2 (T : Tab) (e : Env) (h : Hp) (Q : Out → Prop) : wp T f28r2 e h Q = wpI (cW T) i28r2 e h (regQ (some [4]) Q) := wq_reg ..
theorem xf28r3 (T : Tab) (e : Env) (h : Hp) (Q : Out → Prop) : wp T f28r3 e h Q = wpI (cW T) i28r3 e h (regQ (some [0, 1, 10]) Q) := wq_reg ..
theorem xf28r4 (T : Tab) (e : Env) (h : Hp) (Q : Out → Prop) : wp T f28r4 e h Q = wpI (cW T) i28r4 e h (regQ (some [4]) Q) := wq_reg ..
theorem xf28r5 (T : Tab) (e : Env) (h : Hp) (Q : Out → Prop) : wp T f28r5 e h Q = wpI (cW T) i28r5 e h (regQ (some [4]) Q) := wq_reg ..
theorem xb28 (T : Tab) (e : Env) (h : Hp) (Q : Out → Prop) : wp T b28 e h Q = wp T (.seq f28r0 (.seq (.seq f28r1 (.cond (.t 6) (.seq f28r2 .ret) .skip)) (.seq (.seq f28r3 (.cond (.t 10) (.seq f28r4 .ret) .skip)) (.seq f28r5 .ret)))) e h Q := rfl
theorem xf29r0 (T : Tab) (e : Env) (h : Hp) (Q : Out → Prop) : wp T f29r0 e h Q = wpI (cW T) i29r0 e h (regQ (some [0, 1]) Q) := wq_reg ..
theorem xf29r1 (T : Tab) (e : Env) (h : Hp) (Q : Out → Prop) : wp T f29r1 e h Q = wpI (cW T) i29r1 e h (regQ (some [0, 1, 6]) Q) := wq_reg ..
theorem xf29r2 (T : Tab) (e : Env) (h : Hp) (Q : Out → Prop) : wp T f29r2 e h Q = wpI (cW T) i29r2 e h (regQ (some [4]) Q) := wq_reg ..
theorem xf29r3 (T : Tab) (e : Env) (h : Hp) (Q : Out → Prop) : wp T f29r3 e h Q = wpI (cW T) i29r3 e h (regQ (some [0, 1, 10]) Q) := wq_reg ..
theorem xf29r4 (T : Tab) (e : Env) (h : Hp) (Q : Out → Prop) : wp T f29r4 e h Q = wpI (cW T) i29r4 e h (regQ (some [4]) Q) := wq_reg ..
theorem xf29r5 (T : Tab) (e : Env) (h : Hp) (Q : Out → Prop) : wp T f29r5 e h Q = wpI (cW T) i29r5 e h (regQ (some [4]) Q) := wq_reg ..
theorem xb29 (T : Tab) (e : Env) (h : Hp) (Q : Out → Prop) : wp T b29 e h Q = wp T (.seq f29r0 (.seq (.seq f29r1 (.cond (.t 6) (.seq f29r2 .ret) .skip)) (.seq (.seq f29r3 (.cond (.t 10) (.seq f29r4 .ret) .skip)) (.seq f29r5 .ret)))) e h Q := rfl
theorem xf30r0 (T : Tab) (e : Env) (h : Hp) (Q : Out → Prop) : wp T f30r0 e h Q = wpI (cW T) i30r0 e h (regQ (some []) Q) := wq_reg ..
theorem xf30r1 (T : Tab) (e : Env) (h : Hp) (Q : Out → Prop) : wp T f30r1 e h Q = wpI (cW T) i30r1 e h (regQ (some [0]) Q) := wq_reg ..
theorem xb30 (T : Tab) (e : Env) (h : Hp) (Q : Out → Prop) : wp T b30 e h Q = wp T (.seq f30r0 (.seq f30r1 .ret)) e h Q := rfl
theorem xf31r0 (T : Tab) (e : Env) (h : Hp) (Q : Out → Prop) : wp T f31r0 e h Q = wpI (cW T) i31r0 e h (regQ (some [0]) Q) := wq_reg ..
theorem xf31r1 (T : Tab) (e : Env) (h : Hp) (Q : Out → Prop) : wp T f31r1 e h Q = wpI (cW T) i31r1 e h (regQ (some [0, 7]) Q) := wq_reg ..
theorem xf31r2 (T : Tab) (e : Env) (h : Hp) (Q : Out → Prop) : wp T f31r2 e h Q = wpI (cW T) i31r2 e h (regQ (some [2]) Q) := wq_reg ..
theorem xf31r3 (T : Tab) (e : Env) (h : Hp) (Q : Out → Prop) : wp T f31r3 e h Q = wpI (cW T) i31r3 e h (regQ (some [8, 9, 10]) Q) := wq_reg ..
theorem xf31r4 (T : Tab) (e : Env) (h : Hp) (Q : Out → Prop) : wp T f31r4 e h Q = wpI (cW T) i31r4 e h (regQ (some [8, 9, 10, 11]) Q) := wq_reg ..
theorem xf31r5 (T : Tab) (e : Env) (h : Hp) (Q : Out → Prop) : wp T f31r5 e h Q = wpI (cW T) i31r5 e h (regQ (some [4, 8, 9, 10]) Q) := wq_reg ..
theorem xf31r6 (T : Tab) (e : Env) (h : Hp) (Q : Out → Prop) : wp T f31r6 e h Q = wpI (cW T) i31r6 e h (regQ (some [8, 9, 10, 22]) Q) := wq_reg ..
theorem xf31r7 (T : Tab) (e : Env) (h : Hp) (Q : Out → Prop) : wp T f31r7 e h Q = wpI (cW T) i31r7 e h (regQ (some [2]) Q) := wq_reg ..
theorem xf31r8 (T : Tab) (e : Env) (h : Hp) (Q : Out → Prop) : wp T f31r8 e h Q = wpI (cW T) i31r8 e h (regQ (some [8, 9, 10]) Q) := wq_reg ..
theorem xf31l0 (T : Tab) (e : Env) (h : Hp) (Q : Out → Prop) : wp T f31l0 e h Q = wp T (.seq f31r4 (.seq (.cond (.t 11) .skip (.exit 0)) (.seq (.blk 1 (.seq f31r5 (.seq f31r6 (.cond (.t 22) (.seq f31r7 .ret) .skip)))) f31r8))) e h Q := rfl
theorem xf31r9 (T : Tab) (e : Env) (h : Hp) (Q : Out → Prop) : wp T f31r9 e h Q = wpI (cW T) i31r9 e h (regQ (some [2]) Q) := wq_reg ..
theorem xb31 (T : Tab) (e : Env) (h : Hp) (Q : Out → Prop) : wp T b31 e h Q = wp T (.seq f31r0 (.seq (.seq f31r1 (.cond (.t 7) (.seq f31r2 .ret) .skip)) (.seq (.seq f31r3 (.blk 0 (.loop f31l0))) (.seq f31r9 .ret)))) e h Q := rfl
theorem xf32r0 (T : Tab) (e : Env) (h : Hp) (Q : Out → Prop) : wp T f32r0 e h Q = wpI (cW T) i32r0 e h (regQ (some [0]) Q) := wq_reg ..
theorem xf32r1 (T : Tab) (e : Env) (h : Hp) (Q : Out → Prop) : wp T f32r1 e h Q = wpI (cW T) i32r1 e h (regQ (some [0, 24]) Q) := wq_reg ..
theorem xf32r2 (T : Tab) (e : Env) (h : Hp) (Q : Out → Prop) : wp T f32r2 e h Q = wpI (cW T) i32r2 e h (regQ (some [2]) Q) := wq_reg ..
theorem xf32r3 (T : Tab) (e : Env) (h : Hp) (Q : Out → Prop) : wp T f32r3 e h Q = wpI (cW T) i32r3 e h (regQ (some [0, 3, 4]) Q) := wq_reg ..
theorem xf32r4 (T : Tab) (e : Env) (h : Hp) (Q : Out → Prop) : wp T f32r4 e h Q = wpI (cW T) i32r4 e h (regQ (some [0, 54]) Q) := wq_reg ..
theorem xf32r5 (T : Tab) (e : Env) (h : Hp) (Q : Out → Prop) : wp T f32r5 e h Q = wpI (cW T) i32r5 e h (regQ (some [2]) Q) := wq_reg ..
theorem xf32r6 (T : Tab) (e : Env) (h : Hp) (Q : Out → Prop) : wp T f32r6 e h Q = wpI (cW T) i32r6 e h (regQ (some [55, 56, 57]) Q) := wq_reg ..
theorem xf32r7 (T : Tab) (e : Env) (h : Hp) (Q : Out → Prop) : wp T f32r7 e h Q = wpI (cW T) i32r7 e h (regQ (some [55, 56, 57, 58]) Q) := wq_reg ..
theorem xf32r8 (T : Tab) (e : Env) (h : Hp) (Q : Out → Prop) : wp T f32r8 e h Q = wpI (cW T) i32r8 e h (regQ (some [6, 55, 56, 57]) Q) := wq_reg ..
theorem xf32r9 (T : Tab) (e : Env) (h : Hp) (Q : Out → Prop) : wp T f32r9 e h Q = wpI (cW T) i32r9 e h (regQ (some [55, 56, 57, 75]) Q) := wq_reg ..
theorem xf32r10 (T : Tab) (e : Env) (h : Hp) (Q : Out → Prop) : wp T f32r10 e h Q = wpI (cW T) i32r10 e h (regQ (some [2]) Q) := wq_reg ..
theorem xf32r11 (T : Tab) (e : Env) (h : Hp) (Q : Out → Prop) : wp T f32r11 e h Q = wpI (cW T) i32r11 e h (regQ (some [55, 56, 57]) Q) := wq_reg ..
theorem xf32l0 (T : Tab) (e : Env) (h : Hp) (Q : Out → Prop) : wp T f32l0 e h Q = wp T (.seq f32r7 (.seq (.cond (.t 58) .skip (.exit 0)) (.seq (.blk 1 (.seq f32r8 (.seq f32r9 (.cond (.t 75) (.seq f32r10 .ret) .skip)))) f32r11))) e h Q := rfl
theorem xf32r12 (T : Tab) (e : Env) (h : Hp) (Q : Out → Prop) : wp T f32r12 e h Q = wpI (cW T) i32r12 e h (regQ (some [2]) Q) := wq_reg ..
theorem xb32 (T : Tab) (e : Env) (h : Hp) (Q : Out → Prop) : wp T b32 e h Q = wp T (.seq f32r0 (.seq (.seq f32r1 (.cond (.t 24) (.seq f32r2 .ret) .skip)) (.seq f32r3 (.seq (.seq f32r4 (.cond (.t 54) (.seq f32r5 .ret) .skip)) (.seq (.seq f32r6 (.blk 0 (.loop f32l0))) (.seq f32r12 .ret)))))) e h Q := rfl
theorem xf33r0 (T : Tab) (e : Env) (h : Hp) (Q : Out → Prop) : wp T f33r0 e h Q = wpI (cW T) i33r0 e h (regQ (some [0]) Q) := wq_reg ..
theorem xf33r1 (T : Tab) (e : Env) (h : Hp) (Q : Out → Prop) : wp T f33r1 e h Q = wpI (cW T) i33r1 e h (regQ (some [0, 3, 4]) Q) := wq_reg ..
theorem xf33r2 (T : Tab) (e : Env) (h : Hp) (Q : Out → Prop) : wp T f33r2 e h Q = wpI (cW T) i33r2 e h (regQ (some [3, 4, 12, 13, 14]) Q) := wq_reg ..
theorem xf33r3 (T : Tab) (e : Env) (h : Hp) (Q : Out → Prop) : wp T f33r3 e h Q = wpI (cW T) i33r3 e h (regQ (some [3, 4, 12, 13, 14, 15]) Q) := wq_reg ..
theorem xf33r4 (T : Tab) (e : Env) (h : Hp) (Q : Out → Prop) : wp T f33r4 e h Q = wpI (cW T) i33r4 e h (regQ (some [3, 4, 6, 12, 13, 14]) Q) := wq_reg ..
theorem xf33r5 (T : Tab) (e : Env) (h : Hp) (Q : Out → Prop) : wp T f33r5 e h Q = wpI (cW T) i33r5 e h (regQ (some [3, 4, 6, 12, 13, 14, 21]) Q) := wq_reg ..
theorem xf33r6 (T : Tab) (e : Env) (h : Hp) (Q : Out → Prop) : wp T f33r6 e h Q = wpI (cW T) i33r6 e h (regQ (some [2]) Q) := wq_reg ..
theorem xf33r7 (T : Tab) (e : Env) (h : Hp) (Q : Out → Prop) : wp T f33r7 e h Q = wpI (cW T) i33r7 e h (regQ (some [3, 4, 6, 12, 13, 14]) Q) := wq_reg ..
theorem xf33r8 (T : Tab) (e : Env) (h : Hp) (Q : Out → Prop) : wp T f33r8 e h Q = wpI (cW T) i33r8 e h (regQ (some [3, 4, 12, 13, 14, 26, 27, 28]) Q) := wq_reg ..
theorem xf33r9 (T : Tab) (e : Env) (h : Hp) (Q : Out → Prop) : wp T f33r9 e h Q = wpI (cW T) i33r9 e h (regQ (some [3, 4, 12, 13, 14, 26, 27, 28, 29]) Q) := wq_reg ..
theorem xf33r10 (T : Tab) (e : Env) (h : Hp) (Q : Out → Prop) : wp T f33r10 e h Q = wpI (cW T) i33r10 e h (regQ (some [3, 4, 8, 12, 13, 14, 26, 27, 28]) Q) := wq_reg ..
theorem xf33r11 (T : Tab) (e : Env) (h : Hp) (Q : Out → Prop) : wp T f33r11 e h Q = wpI (cW T) i33r11 e h (regQ (some [3, 4, 8, 12, 13, 14, 26, 27, 28, 35]) Q) := wq_reg ..
theorem xf33r12 (T : Tab) (e : Env) (h : Hp) (Q : Out → Prop) : wp T f33r12 e h Q = wpI (cW T) i33r12 e h (regQ (some [2]) Q) := wq_reg ..
theorem xf33r13 (T : Tab) (e : Env) (h : Hp) (Q : Out → Prop) : wp T f33r13 e h Q = wpI (cW T) i33r13 e h (regQ (some [3, 4, 12, 13, 14, 26, 27, 28]) Q) := wq_reg ..
theorem xf33r14 (T : Tab) (e : Env) (h : Hp) (Q : Out → Prop) : wp T f33r14 e h Q = wpI (cW T) i33r14 e h (regQ (some [3, 4, 12, 13, 14, 26, 27, 28]) Q) := wq_reg ..
theorem xf33l0 (T : Tab) (e : Env) (h : Hp) (Q : Out → Prop) : wp T f33l0 e h Q = wp T (.seq f33r9 (.seq (.cond (.t 29) .skip (.exit 2)) (.seq (.blk 3 (.seq f33r10 (.seq (.seq f33r11 (.cond (.t 35) (.seq f33r12 .ret) .skip)) f33r13))) f33r14))) e h Q := rfl
theorem xf33r15 (T : Tab) (e : Env) (h : Hp) (Q : Out → Prop) : wp T f33r15 e h Q = wpI (cW T) i33r15 e h (regQ (some [3, 4, 12, 13, 14]) Q) := wq_reg ..
theorem xf33l1 (T : Tab) (e : Env) (h : Hp) (Q : Out → Prop) : wp T f33l1 e h Q = wp T (.seq f33r3 (.seq (.cond (.t 15) .skip (.exit 0)) (.seq (.blk 1 (.seq f33r4 (.seq (.seq f33r5 (.cond (.t 21) (.seq f33r6 .ret) .skip)) (.seq f33r7 (.seq f33r8 (.blk 2 (.loop f33l0))))))) f33r15))) e h Q := rfl
theorem xf33r16 (T : Tab) (e : Env) (h : Hp) (Q : Out → Prop) : wp T f33r16 e h Q = wpI (cW T) i33r16 e h (regQ (some [2]) Q) := wq_reg ..
theorem xb33 (T : Tab) (e : Env) (h : Hp) (Q : Out → Prop) : wp T b33 e h Q = wp T (.seq f33r0 (.seq f33r1 (.seq (.seq f33r2 (.blk 0 (.loop f33l1))) (.seq f33r16 .ret)))) e h Q := rfl
theorem xf34r0 (T : Tab) (e : Env) (h : Hp) (Q : Out → Prop) : wp T f34r0 e h Q = wpI (cW T) i34r0 e h (regQ (some [0, 1]) Q) := wq_reg ..
theorem xf34r1 (T : Tab) (e : Env) (h : Hp) (Q : Out → Prop) : wp T f34r1 e h Q = wpI (cW T) i34r1 e h (regQ (some [4]) Q) := wq_reg ..
theorem xb34 (T : Tab) (e : Env) (h : Hp) (Q : Out → Prop) : wp T b34 e h Q = wp T (.seq f34r0 (.seq f34r1 .ret)) e h Q := rfl
theorem xf35r0 (T : Tab) (e : Env) (h : Hp) (Q : Out → Prop) : wp T f35r0 e h Q = wpI (cW T) i35r0 e h (regQ (some [0, 1]) Q) := wq_reg ..
theorem xf35r1 (T : Tab) (e : Env) (h : Hp) (Q : Out → Prop) : wp T f35r1 e h Q = wpI (cW T) i35r1 e h (regQ (some [3]) Q) := wq_reg ..
theorem xb35 (T : Tab) (e : Env) (h : Hp) (Q : Out → Prop) : wp T b35 e h Q = wp T (.seq f35r0 (.seq f35r1 .ret)) e h Q := rfl
theorem xf36r0 (T : Tab) (e : Env) (h : Hp) (Q : Out → Prop) : wp T f36r0 e h Q = wpI (cW T) i36r0 e h (regQ (some [0, 1]) Q) := wq_reg ..
theorem xf36r1 (T : Tab) (e : Env) (h : Hp) (Q : Out → Prop) : wp T f36r1 e h Q = wpI (cW T) i36r1 e h (regQ (some [4]) Q) := wq_reg ..
theorem xb36 (T : Tab) (e : Env) (h : Hp) (Q : Out → Prop) : wp T b36 e h Q = wp T (.seq f36r0 (.seq f36r1 .ret)) e h Q := rfl
theorem xf37r0 (T : Tab) (e : Env) (h : Hp) (Q : Out → Prop) : wp T f37r0 e h Q = wpI (cW T) i37r0 e h (regQ (some [0]) Q) := wq_reg ..
theorem xf37r1 (T : Tab) (e : Env) (h : Hp) (Q : Out → Prop) : wp T f37r1 e h Q = wpI (cW T) i37r1 e h (regQ (some [0, 3]) Q) := wq_reg ..
theorem xf37r2 (T : Tab) (e : Env) (h : Hp) (Q : Out → Prop) : wp T f37r2 e h Q = wpI (cW T) i37r2 e h (regQ (some [0, 3]) Q) := wq_reg ..
theorem xf37r3 (T : Tab) (e : Env) (h : Hp) (Q : Out → Prop) : wp T f37r3 e h Q = wpI (cW T) i37r3 e h (regQ (some [0, 3, 4]) Q) := wq_reg ..
theorem xf37r4 (T : Tab) (e : Env) (h : Hp) (Q : Out → Prop) : wp T f37r4 e h Q = wpI (cW T) i37r4 e h (regQ (some [0, 3, 13]) Q) := wq_reg ..
theorem xf37r5 (T : Tab) (e : Env) (h : Hp) (Q : Out → Prop) : wp T f37r5 e h Q = wpI (cW T) i37r5 e h (regQ (some [0, 3, 4]) Q) := wq_reg ..
theorem xf37r6 (T : Tab) (e : Env) (h : Hp) (Q : Out → Prop) : wp T f37r6 e h Q = wpI (cW T) i37r6 e h (regQ (some [0, 3, 4, 15, 16]) Q) := wq_reg ..
theorem xf37r7 (T : Tab) (e : Env) (h : Hp) (Q : Out → Prop) : wp T f37r7 e h Q = wpI (cW T) i37r7 e h (regQ (some [0, 3, 4, 15, 16, 17]) Q) := wq_reg ..
theorem xf37r8 (T : Tab) (e : Env) (h : Hp) (Q : Out → Prop) : wp T f37r8 e h Q = wpI (cW T) i37r8 e h (regQ (some [0, 3, 4, 5, 15, 16]) Q) := wq_reg ..
theorem xf37r9 (T : Tab) (e : Env) (h : Hp) (Q : Out → Prop) : wp T f37r9 e h Q = wpI (cW T) i37r9 e h (regQ (some [0, 3, 4, 5, 6, 15, 16]) Q) := wq_reg ..
theorem xf37r10 (T : Tab) (e : Env) (h : Hp) (Q : Out → Prop) : wp T f37r10 e h Q = wpI (cW T) i37r10 e h (regQ (some [0, 3, 4, 5, 15, 16, 34]) Q) := wq_reg ..
theorem xf37r11 (T : Tab) (e : Env) (h : Hp) (Q : Out → Prop) : wp T f37r11 e h Q = wpI (cW T) i37r11 e h (regQ (some [0, 3, 4, 15, 16]) Q) := wq_reg ..
theorem xf37r12 (T : Tab) (e : Env) (h : Hp) (Q : Out → Prop) : wp T f37r12 e h Q = wpI (cW T) i37r12 e h (regQ (some [0, 3, 4, 15, 16]) Q) := wq_reg ..
theorem xf37l0 (T : Tab) (e : Env) (h : Hp) (Q : Out → Prop) : wp T f37l0 e h Q = wp T (.seq f37r7 (.seq (.cond (.t 17) .skip (.exit 2)) (.seq (.blk 3 (.seq f37r8 (.seq f37r9 (.seq f37r10 (.cond (.t 34) f37r11 .skip))))) f37r12))) e h Q := rfl
theorem xf37l1 (T : Tab) (e : Env) (h : Hp) (Q : Out → Prop) : wp T f37l1 e h Q = wp T (.seq (.seq f37r4 (.cond (.t 13) .skip (.exit 0))) (.blk 1 (.seq f37r5 (.seq f37r6 (.blk 2 (.loop f37l0)))))) e h Q := rfl
theorem xf37r13 (T : Tab) (e : Env) (h : Hp) (Q : Out → Prop) : wp T f37r13 e h Q = wpI (cW T) i37r13 e h (regQ (some [2]) Q) := wq_reg ..
theorem xb37 (T : Tab) (e : Env) (h : Hp) (Q : Out → Prop) : wp T b37 e h Q = wp T (.seq f37r0 (.seq f37r1 (.seq f37r2 (.seq (.seq f37r3 (.blk 0 (.loop f37l1))) (.seq f37r13 .ret))))) e h Q := rfl
theorem xf38r0 (T : Tab) (e : Env) (h : Hp) (Q : Out → Prop) : wp T f38r0 e h Q = wpI (cW T) i38r0 e h (regQ (some [0]) Q) := wq_reg ..
theorem xf38r1 (T : Tab) (e : Env) (h : Hp) (Q : Out → Prop) : wp T f38r1 e h Q = wpI (cW T) i38r1 e h (regQ (some [0, 7]) Q) := wq_reg ..
theorem xf38r2 (T : Tab) (e : Env) (h : Hp) (Q : Out → Prop) : wp T f38r2 e h Q = wpI (cW T) i38r2 e h (regQ (some [2]) Q) := wq_reg ..
theorem xf38r3 (T : Tab) (e : Env) (h : Hp) (Q : Out → Prop) : wp T f38r3 e h Q = wpI (cW T) i38r3 e h (regQ (some [0, 3]) Q) := wq_reg ..
theorem xf38r4 (T : Tab) (e : Env) (h : Hp) (Q : Out → Prop) : wp T f38r4 e h Q = wpI (cW T) i38r4 e h (regQ (some [0, 3, 11]) Q) := wq_reg ..
theorem xf38r5 (T : Tab) (e : Env) (h : Hp) (Q : Out → Prop) : wp T f38r5 e h Q = wpI (cW T) i38r5 e h (regQ (some [0, 3, 20]) Q) := wq_reg ..
theorem xf38r6 (T : Tab) (e : Env) (h : Hp) (Q : Out → Prop) : wp T f38r6 e h Q = wpI (cW T) i38r6 e h (regQ (some [2]) Q) := wq_reg ..
theorem xf38r7 (T : Tab) (e : Env) (h : Hp) (Q : Out → Prop) : wp T f38r7 e h Q = wpI (cW T) i38r7 e h (regQ (some [0, 3, 4]) Q) := wq_reg ..
theorem xf38r8 (T : Tab) (e : Env) (h : Hp) (Q : Out → Prop) : wp T f38r8 e h Q = wpI (cW T) i38r8 e h (regQ (some [0, 3, 4, 28]) Q) := wq_reg ..
theorem xf38r9 (T : Tab) (e : Env) (h : Hp) (Q : Out → Prop) : wp T f38r9 e h Q = wpI (cW T) i38r9 e h (regQ (some [0, 3, 4, 41]) Q) := wq_reg ..
theorem xf38r10 (T : Tab) (e : Env) (h : Hp) (Q : Out → Prop) : wp T f38r10 e h Q = wpI (cW T) i38r10 e h (regQ (some [2]) Q) := wq_reg ..
theorem xf38r11 (T : Tab) (e : Env) (h : Hp) (Q : Out → Prop) : wp T f38r11 e h Q = wpI (cW T) i38r11 e h (regQ (some [0, 3, 4]) Q) := wq_reg ..
theorem xf38l0 (T : Tab) (e : Env) (h : Hp) (Q : Out → Prop) : wp T f38l0 e h Q = wp T (.seq (.seq f38r8 (.cond (.t 28) .skip (.exit 2))) (.seq (.blk 3 (.seq f38r9 (.cond (.t 41) (.seq f38r10 .ret) .skip))) f38r11)) e h Q := rfl
theorem xf38r12 (T : Tab) (e : Env) (h : Hp) (Q : Out → Prop) : wp T f38r12 e h Q = wpI (cW T) i38r12 e h (regQ (some [0, 3]) Q) := wq_reg ..
theorem xf38l1 (T : Tab) (e : Env) (h : Hp) (Q : Out → Prop) : wp T f38l1 e h Q = wp T (.seq (.seq f38r4 (.cond (.t 11) .skip (.exit 0))) (.seq (.blk 1 (.seq (.seq f38r5 (.cond (.t 20) (.seq f38r6 .ret) .skip)) (.seq f38r7 (.blk 2 (.loop f38l0))))) f38r12)) e h Q := rfl
theorem xf38r13 (T : Tab) (e : Env) (h : Hp) (Q : Out → Prop) : wp T f38r13 e h Q = wpI (cW T) i38r13 e h (regQ (some [2]) Q) := wq_reg ..
theorem xb38 (T : Tab) (e : Env) (h : Hp) (Q : Out → Prop) : wp T b38 e h Q = wp T (.seq f38r0 (.seq (.seq f38r1 (.cond (.t 7) (.seq f38r2 .ret) .skip)) (.seq (.seq f38r3 (.blk 0 (.loop f38l1))) (.seq f38r13 .ret)))) e h Q := rfl
theorem xf39r0 (T : Tab) (e : Env) (h : Hp) (Q : Out → Prop) : wp T f39r0 e h Q = wpI (cW T) i39r0 e h (regQ (some [0]) Q) := wq_reg ..
theorem xf39r1 (T : Tab) (e : Env) (h : Hp) (Q : Out → Prop) : wp T f39r1 e h Q = wpI (cW T) i39r1 e h (regQ (some [0, 24]) Q) := wq_reg ..
theorem xf39r2 (T : Tab) (e : Env) (h : Hp) (Q : Out → Prop) : wp T f39r2 e h Q = wpI (cW T) i39r2 e h (regQ (some [2]) Q) := wq_reg ..
theorem xf39r3 (T : Tab) (e : Env) (h : Hp) (Q : Out → Prop) : wp T f39r3 e h Q = wpI (cW T) i39r3 e h (regQ (some [0, 3, 4]) Q) := wq_reg ..
theorem xf39r4 (T : Tab) (e : Env) (h : Hp) (Q : Out → Prop) : wp T f39r4 e h Q = wpI (cW T) i39r4 e h (regQ (some [0, 56]) Q) := wq_reg ..
theorem xf39r5 (T : Tab) (e : Env) (h : Hp) (Q : Out → Prop) : wp T f39r5 e h Q = wpI (cW T) i39r5 e h (regQ (some [2]) Q) := wq_reg ..
theorem xf39r6 (T : Tab) (e : Env) (h : Hp) (Q : Out → Prop) : wp T f39r6 e h Q = wpI (cW T) i39r6 e h (regQ (some [0, 5]) Q) := wq_reg ..
theorem xf39r7 (T : Tab) (e : Env) (h : Hp) (Q : Out → Prop) : wp T f39r7 e h Q = wpI (cW T) i39r7 e h (regQ (some [0, 5, 60]) Q) := wq_reg ..
theorem xf39r8 (T : Tab) (e : Env) (h : Hp) (Q : Out → Prop) : wp T f39r8 e h Q = wpI (cW T) i39r8 e h (regQ (some [0, 5, 78]) Q) := wq_reg ..
theorem xf39r9 (T : Tab) (e : Env) (h : Hp) (Q : Out → Prop) : wp T f39r9 e h Q = wpI (cW T) i39r9 e h (regQ (some [2]) Q) := wq_reg ..
theorem xf39r10 (T : Tab) (e : Env) (h : Hp) (Q : Out → Prop) : wp T f39r10 e h Q = wpI (cW T) i39r10 e h (regQ (some [0, 5, 6]) Q) := wq_reg ..
theorem xf39r11 (T : Tab) (e : Env) (h : Hp) (Q : Out → Prop) : wp T f39r11 e h Q = wpI (cW T) i39r11 e h (regQ (some [0, 5, 6, 86]) Q) := wq_reg ..
theorem xf39r12 (T : Tab) (e : Env) (h : Hp) (Q : Out → Prop) : wp T f39r12 e h Q = wpI (cW T) i39r12 e h (regQ (some [0, 5, 6, 99]) Q) := wq_reg ..
theorem xf39r13 (T : Tab) (e : Env) (h : Hp) (Q : Out → Prop) : wp T f39r13 e h Q = wpI (cW T) i39r13 e h (regQ (some [2]) Q) := wq_reg ..
theorem xf39r14 (T : Tab) (e : Env) (h : Hp) (Q : Out → Prop) : wp T f39r14 e h Q = wpI (cW T) i39r14 e h (regQ (some [0, 5, 6]) Q) := wq_reg ..
theorem xf39l0 (T : Tab) (e : Env) (h : Hp) (Q : Out → Prop) : wp T f39l0 e h Q = wp T (.seq (.seq f39r11 (.cond (.t 86) .skip (.exit 2))) (.seq (.blk 3 (.seq f39r12 (.cond (.t 99) (.seq f39r13 .ret) .skip))) f39r14)) e h Q := rfl
theorem xf39r15 (T : Tab) (e : Env) (h : Hp) (Q : Out → Prop) : wp T f39r15 e h Q = wpI (cW T) i39r15 e h (regQ (some [0, 5]) Q) := wq_reg ..
theorem xf39l1 (T : Tab) (e : Env) (h : Hp) (Q : Out → Prop) : wp T f39l1 e h Q = wp T (.seq (.seq f39r7 (.cond (.t 60) .skip (.exit 0))) (.seq (.blk 1 (.seq (.seq f39r8 (.cond (.t 78) (.seq f39r9 .ret) .skip)) (.seq f39r10 (.blk 2 (.loop f39l0))))) f39r15)) e h Q := rfl
theorem xf39r16 (T : Tab) (e : Env) (h : Hp) (Q : Out → Prop) : wp T f39r16 e h Q = wpI (cW T) i39r16 e h (regQ (some [2]) Q) := wq_reg ..
theorem xb39 (T : Tab) (e : Env) (h : Hp) (Q : Out → Prop) : wp T b39 e h Q = wp T (.seq f39r0 (.seq (.seq f39r1 (.cond (.t 24) (.seq f39r2 .ret) .skip)) (.seq f39r3 (.seq (.seq f39r4 (.cond (.t 56) (.seq f39r5 .ret) .skip)) (.seq (.seq f39r6 (.blk 0 (.loop f39l1))) (.seq f39r16 .ret)))))) e h Q := rfl
theorem xf40r0 (T : Tab) (e : Env) (h : Hp) (Q : Out → Prop) : wp T f40r0 e h Q = wpI (cW T) i40r0 e h (regQ (some [0]) Q) := wq_reg ..
theorem xf40r1 (T : Tab) (e : Env) (h : Hp) (Q : Out → Prop) : wp T f40r1 e h Q = wpI (cW T) i40r1 e h (regQ (some [0, 3, 4]) Q) := wq_reg ..
theorem xf40r2 (T : Tab) (e : Env) (h : Hp) (Q : Out → Prop) : wp T f40r2 e h Q = wpI (cW T) i40r2 e h (regQ (some [0, 3, 4]) Q) := wq_reg ..
theorem xf40r3 (T : Tab) (e : Env) (h : Hp) (Q : Out → Prop) : wp T f40r3 e h Q = wpI (cW T) i40r3 e h (regQ (some [0, 3, 4, 5]) Q) := wq_reg ..
theorem xf40r4 (T : Tab) (e : Env) (h : Hp) (Q : Out → Prop) : wp T f40r4 e h Q = wpI (cW T) i40r4 e h (regQ (some [0, 3, 4, 5, 13]) Q) := wq_reg ..
theorem xf40r5 (T : Tab) (e : Env) (h : Hp) (Q : Out → Prop) : wp T f40r5 e h Q = wpI (cW T) i40r5 e h (regQ (some [0, 3, 4, 5, 22]) Q) := wq_reg ..
theorem xf40r6 (T : Tab) (e : Env) (h : Hp) (Q : Out → Prop) : wp T f40r6 e h Q = wpI (cW T) i40r6 e h (regQ (some [2]) Q) := wq_reg ..
theorem xf40r7 (T : Tab) (e : Env) (h : Hp) (Q : Out → Prop) : wp T f40r7 e h Q = wpI (cW T) i40r7 e h (regQ (some [0, 3, 4, 5]) Q) := wq_reg ..
theorem xf40r8 (T : Tab) (e : Env) (h : Hp) (Q : Out → Prop) : wp T f40r8 e h Q = wpI (cW T) i40r8 e h (regQ (some [0, 3, 4, 5, 6]) Q) := wq_reg ..
theorem xf40r9 (T : Tab) (e : Env) (h : Hp) (Q : Out → Prop) : wp T f40r9 e h Q = wpI (cW T) i40r9 e h (regQ (some [0, 3, 4, 5, 6, 38]) Q) := wq_reg ..
theorem xf40r10 (T : Tab) (e : Env) (h : Hp) (Q : Out → Prop) : wp T f40r10 e h Q = wpI (cW T) i40r10 e h (regQ (some [0, 3, 4, 5, 6, 51]) Q) := wq_reg ..
theorem xf40r11 (T : Tab) (e : Env) (h : Hp) (Q : Out → Prop) : wp T f40r11 e h Q = wpI (cW T) i40r11 e h (regQ (some [2]) Q) := wq_reg ..
theorem xf40r12 (T : Tab) (e : Env) (h : Hp) (Q : Out → Prop) : wp T f40r12 e h Q = wpI (cW T) i40r12 e h (regQ (some [0, 3, 4, 5, 6]) Q) := wq_reg ..
theorem xf40r13 (T : Tab) (e : Env) (h : Hp) (Q : Out → Prop) : wp T f40r13 e h Q = wpI (cW T) i40r13 e h (regQ (some [0, 3, 4, 5, 6]) Q) := wq_reg ..
theorem xf40l0 (T : Tab) (e : Env) (h : Hp) (Q : Out → Prop) : wp T f40l0 e h Q = wp T (.seq (.seq f40r9 (.cond (.t 38) .skip (.exit 2))) (.seq (.blk 3 (.seq (.seq f40r10 (.cond (.t 51) (.seq f40r11 .ret) .skip)) f40r12)) f40r13)) e h Q := rfl
theorem xf40r14 (T : Tab) (e : Env) (h : Hp) (Q : Out → Prop) : wp T f40r14 e h Q = wpI (cW T) i40r14 e h (regQ (some [0, 3, 4, 5]) Q) := wq_reg ..
theorem xf40l1 (T : Tab) (e : Env) (h : Hp) (Q : Out → Prop) : wp T f40l1 e h Q = wp T (.seq (.seq f40r4 (.cond (.t 13) .skip (.exit 0))) (.seq (.blk 1 (.seq (.seq f40r5 (.cond (.t 22) (.seq f40r6 .ret) .skip)) (.seq f40r7 (.seq f40r8 (.blk 2 (.loop f40l0)))))) f40r14)) e h Q := rfl
theorem xf40r15 (T : Tab) (e : Env) (h : Hp) (Q : Out → Prop) : wp T f40r15 e h Q = wpI (cW T) i40r15 e h (regQ (some [2]) Q) := wq_reg ..
theorem xb40 (T : Tab) (e : Env) (h : Hp) (Q : Out → Prop) : wp T b40 e h Q = wp T (.seq f40r0 (.seq f40r1 (.seq f40r2 (.seq (.seq f40r3 (.blk 0 (.loop f40l1))) (.seq f40r15 .ret))))) e h Q := rfl
theorem xf41r0 (T : Tab) (e : Env) (h : Hp) (Q : Out → Prop) : wp T f41r0 e h Q = wpI (cW T) i41r0 e h (regQ (some [0]) Q) := wq_reg ..
theorem xf41r1 (T : Tab) (e : Env) (h : Hp) (Q : Out → Prop) : wp T f41r1 e h Q = wpI (cW T) i41r1 e h (regQ (some [0, 3]) Q) := wq_reg ..
theorem xf41r2 (T : Tab) (e : Env) (h : Hp) (Q : Out → Prop) : wp T f41r2 e h Q = wpI (cW T) i41r2 e h (regQ (some [0, 3, 10]) Q) := wq_reg ..
theorem xf41r3 (T : Tab) (e : Env) (h : Hp) (Q : Out → Prop) : wp T f41r3 e h Q = wpI (cW T) i41r3 e h (regQ (some [0, 3, 4]) Q) := wq_reg ..
theorem xf41r4 (T : Tab) (e : Env) (h : Hp) (Q : Out → Prop) : wp T f41r4 e h Q = wpI (cW T) i41r4 e h (regQ (some [0, 3, 4, 20]) Q) := wq_reg ..
theorem xf41r5 (T : Tab) (e : Env) (h : Hp) (Q : Out → Prop) : wp T f41r5 e h Q = wpI (cW T) i41r5 e h (regQ (some [0, 3, 4, 5]) Q) := wq_reg ..
theorem xf41r6 (T : Tab) (e : Env) (h : Hp) (Q : Out → Prop) : wp T f41r6 e h Q = wpI (cW T) i41r6 e h (regQ (some [0, 3, 4, 5, 6]) Q) := wq_reg ..
theorem xf41r7 (T : Tab) (e : Env) (h : Hp) (Q : Out → Prop) : wp T f41r7 e h Q = wpI (cW T) i41r7 e h (regQ (some [0, 3, 4, 5, 6, 35]) Q) := wq_reg ..
theorem xf41r8 (T : Tab) (e : Env) (h : Hp) (Q : Out → Prop) : wp T f41r8 e h Q = wpI (cW T) i41r8 e h (regQ (some [0, 3, 4, 5, 6, 44]) Q) := wq_reg ..
theorem xf41r9 (T : Tab) (e : Env) (h : Hp) (Q : Out → Prop) : wp T f41r9 e h Q = wpI (cW T) i41r9 e h (regQ (some [2]) Q) := wq_reg ..
theorem xf41r10 (T : Tab) (e : Env) (h : Hp) (Q : Out → Prop) : wp T f41r10 e h Q = wpI (cW T) i41r10 e h (regQ (some [0, 3, 4, 5, 6]) Q) := wq_reg ..
theorem xf41l0 (T : Tab) (e : Env) (h : Hp) (Q : Out → Prop) : wp T f41l0 e h Q = wp T (.seq (.seq f41r7 (.cond (.t 35) .skip (.exit 4))) (.seq (.blk 5 (.seq f41r8 (.cond (.t 44) (.seq f41r9 .ret) .skip))) f41r10)) e h Q := rfl
theorem xf41r11 (T : Tab) (e : Env) (h : Hp) (Q : Out → Prop) : wp T f41r11 e h Q = wpI (cW T) i41r11 e h (regQ (some [0, 3, 4]) Q) := wq_reg ..
theorem xf41l1 (T : Tab) (e : Env) (h : Hp) (Q : Out → Prop) : wp T f41l1 e h Q = wp T (.seq (.seq f41r4 (.cond (.t 20) .skip (.exit 2))) (.seq (.blk 3 (.seq f41r5 (.seq f41r6 (.blk 4 (.loop f41l0))))) f41r11)) e h Q := rfl
theorem xf41r12 (T : Tab) (e : Env) (h : Hp) (Q : Out → Prop) : wp T f41r12 e h Q = wpI (cW T) i41r12 e h (regQ (some [0, 3]) Q) := wq_reg ..
theorem xf41l2 (T : Tab) (e : Env) (h : Hp) (Q : Out → Prop) : wp T f41l2 e h Q = wp T (.seq (.seq f41r2 (.cond (.t 10) .skip (.exit 0))) (.seq (.blk 1 (.seq f41r3 (.blk 2 (.loop f41l1)))) f41r12)) e h Q := rfl
theorem xf41r13 (T : Tab) (e : Env) (h : Hp) (Q : Out → Prop) : wp T f41r13 e h Q = wpI (cW T) i41r13 e h (regQ (some [2]) Q) := wq_reg ..
theorem xb41 (T : Tab) (e : Env) (h : Hp) (Q : Out → Prop) : wp T b41 e h Q = wp T (.seq f41r0 (.seq (.seq f41r1 (.blk 0 (.loop f41l2))) (.seq f41r13 .ret))) e h Q := rfl
theorem xf42r0 (T : Tab) (e : Env) (h : Hp) (Q : Out → Prop) : wp T f42r0 e h Q = wpI (cW T) i42r0 e h (regQ (some [0]) Q) := wq_reg ..
theorem xf42r1 (T : Tab) (e : Env) (h : Hp) (Q : Out → Prop) : wp T f42r1 e h Q = wpI (cW T) i42r1 e h (regQ (some [0, 3]) Q) := wq_reg ..
theorem xf42r2 (T : Tab) (e : Env) (h : Hp) (Q : Out → Prop) : wp T f42r2 e h Q = wpI (cW T) i42r2 e h (regQ (some [0, 3]) Q) := wq_reg ..
theorem xf42r3 (T : Tab) (e : Env) (h : Hp) (Q : Out → Prop) : wp T f42r3 e h Q = wpI (cW T) i42r3 e h (regQ (some [0, 3, 4]) Q) := wq_reg ..
theorem xf42r4 (T : Tab) (e : Env) (h : Hp) (Q : Out → Prop) : wp T f42r4 e h Q = wpI (cW T) i42r4 e h (regQ (some [0, 3, 4, 20]) Q) := wq_reg ..
theorem xf42r5 (T : Tab) (e : Env) (h : Hp) (Q : Out → Prop) : wp T f42r5 e h Q = wpI (cW T) i42r5 e h (regQ (some [0, 3, 4, 5]) Q) := wq_reg ..
theorem xf42r6 (T : Tab) (e : Env) (h : Hp) (Q : Out → Prop) : wp T f42r6 e h Q = wpI (cW T) i42r6 e h (regQ (some [0, 3, 4, 5, 26]) Q) := wq_reg ..
theorem xf42r7 (T : Tab) (e : Env) (h : Hp) (Q : Out → Prop) : wp T f42r7 e h Q = wpI (cW T) i42r7 e h (regQ (some [0, 3, 4, 5, 6]) Q) := wq_reg ..
theorem xf42r8 (T : Tab) (e : Env) (h : Hp) (Q : Out → Prop) : wp T f42r8 e h Q = wpI (cW T) i42r8 e h (regQ (some [0, 3, 4, 5, 6, 36]) Q) := wq_reg ..
theorem xf42r9 (T : Tab) (e : Env) (h : Hp) (Q : Out → Prop) : wp T f42r9 e h Q = wpI (cW T) i42r9 e h (regQ (some [0, 3, 4, 5, 6, 7]) Q) := wq_reg ..
theorem xf42r10 (T : Tab) (e : Env) (h : Hp) (Q : Out → Prop) : wp T f42r10 e h Q = wpI (cW T) i42r10 e h (regQ (some [0, 3, 4, 5, 6, 7, 8]) Q) := wq_reg ..
theorem xf42r11 (T : Tab) (e : Env) (h : Hp) (Q : Out → Prop) : wp T f42r11 e h Q = wpI (cW T) i42r11 e h (regQ (some [0, 3, 4, 5, 6, 7, 8, 9]) Q) := wq_reg ..
theorem xf42r12 (T : Tab) (e : Env) (h : Hp) (Q : Out → Prop) : wp T f42r12 e h Q = wpI (cW T) i42r12 e h (regQ (some [0, 3, 4, 5, 6, 7, 8, 9, 51]) Q) := wq_reg ..
theorem xf42r13 (T : Tab) (e : Env) (h : Hp) (Q : Out → Prop) : wp T f42r13 e h Q = wpI (cW T) i42r13 e h (regQ (some [0, 3, 4, 5, 6, 7, 8, 9]) Q) := wq_reg ..
theorem xf42r14 (T : Tab) (e : Env) (h : Hp) (Q : Out → Prop) : wp T f42r14 e h Q = wpI (cW T) i42r14 e h (regQ (some [0, 3, 4, 5, 6, 7, 8, 9]) Q) := wq_reg ..
theorem xf42l0 (T : Tab) (e : Env) (h : Hp) (Q : Out → Prop) : wp T f42l0 e h Q = wp T (.seq (.seq f42r12 (.cond (.t 51) .skip (.exit 6))) (.seq (.blk 7 f42r13) f42r14)) e h Q := rfl
theorem xf42r15 (T : Tab) (e : Env) (h : Hp) (Q : Out → Prop) : wp T f42r15 e h Q = wpI (cW T) i42r15 e h (regQ (some [0, 3, 4, 5, 6]) Q) := wq_reg ..
theorem xf42r16 (T : Tab) (e : Env) (h : Hp) (Q : Out → Prop) : wp T f42r16 e h Q = wpI (cW T) i42r16 e h (regQ (some [0, 3, 4, 5, 6]) Q) := wq_reg ..
theorem xf42l1 (T : Tab) (e : Env) (h : Hp) (Q : Out → Prop) : wp T f42l1 e h Q = wp T (.seq (.seq f42r8 (.cond (.t 36) .skip (.exit 4))) (.seq (.blk 5 (.seq f42r9 (.seq f42r10 (.seq (.seq f42r11 (.blk 6 (.loop f42l0))) f42r15)))) f42r16)) e h Q := rfl
theorem xf42r17 (T : Tab) (e : Env) (h : Hp) (Q : Out → Prop) : wp T f42r17 e h Q = wpI (cW T) i42r17 e h (regQ (some [0, 3, 4, 5]) Q) := wq_reg ..
theorem xf42l2 (T : Tab) (e : Env) (h : Hp) (Q : Out → Prop) : wp T f42l2 e h Q = wp T (.seq (.seq f42r6 (.cond (.t 26) .skip (.exit 2))) (.seq (.blk 3 (.seq f42r7 (.blk 4 (.loop f42l1)))) f42r17)) e h Q := rfl
theorem xf42r18 (T : Tab) (e : Env) (h : Hp) (Q : Out → Prop) : wp T f42r18 e h Q = wpI (cW T) i42r18 e h (regQ (some [0, 3, 4]) Q) := wq_reg ..
theorem xf42l3 (T : Tab) (e : Env) (h : Hp) (Q : Out → Prop) : wp T f42l3 e h Q = wp T (.seq (.seq f42r4 (.cond (.t 20) .skip (.exit 0))) (.seq (.blk 1 (.seq f42r5 (.blk 2 (.loop f42l2)))) f42r18)) e h Q := rfl
theorem xf42r19 (T : Tab) (e : Env) (h : Hp) (Q : Out → Prop) : wp T f42r19 e h Q = wpI (cW T) i42r19 e h (regQ (some [3, 10]) Q) := wq_reg ..
theorem xf42r20 (T : Tab) (e : Env) (h : Hp) (Q : Out → Prop) : wp T f42r20 e h Q = wpI (cW T) i42r20 e h (regQ (some [3, 10, 79]) Q) := wq_reg ..
theorem xf42r21 (T : Tab) (e : Env) (h : Hp) (Q : Out → Prop) : wp T f42r21 e h Q = wpI (cW T) i42r21 e h (regQ (some [3, 10, 86]) Q) := wq_reg ..
theorem xf42r22 (T : Tab) (e : Env) (h : Hp) (Q : Out → Prop) : wp T f42r22 e h Q = wpI (cW T) i42r22 e h (regQ (some [2]) Q) := wq_reg ..
theorem xf42r23 (T : Tab) (e : Env) (h : Hp) (Q : Out → Prop) : wp T f42r23 e h Q = wpI (cW T) i42r23 e h (regQ (some [3, 10]) Q) := wq_reg ..
theorem xf42l4 (T : Tab) (e : Env) (h : Hp) (Q : Out → Prop) : wp T f42l4 e h Q = wp T (.seq (.seq f42r20 (.cond (.t 79) .skip (.exit 8))) (.seq (.blk 9 (.seq f42r21 (.cond (.t 86) (.seq f42r22 .ret) .skip))) f42r23)) e h Q := rfl
theorem xf42r24 (T : Tab) (e : Env) (h : Hp) (Q : Out → Prop) : wp T f42r24 e h Q = wpI (cW T) i42r24 e h (regQ (some [2]) Q) := wq_reg ..
theorem xb42 (T : Tab) (e : Env) (h : Hp) (Q : Out → Prop) : wp T b42 e h Q = wp T (.seq f42r0 (.seq f42r1 (.seq f42r2 (.seq (.seq f42r3 (.blk 0 (.loop f42l3))) (.seq (.seq f42r19 (.blk 8 (.loop f42l4))) (.seq f42r24 .ret)))))) e h Q := rfl
theorem xf43r0 (T : Tab) (e : Env) (h : Hp) (Q : Out → Prop) : wp T f43r0 e h Q = wpI (cW T) i43r0 e h (regQ (some [0, 1]) Q) := wq_reg ..
theorem xf43r1 (T : Tab) (e : Env) (h : Hp) (Q : Out → Prop) : wp T f43r1 e h Q = wpI (cW T) i43r1 e h (regQ (some [4]) Q) := wq_reg ..
theorem xb43 (T : Tab) (e : Env) (h : Hp) (Q : Out → Prop) : wp T b43 e h Q = wp T (.seq f43r0 (.seq f43r1 .ret)) e h Q := rfl
theorem xf44r0 (T : Tab) (e : Env) (h : Hp) (Q : Out → Prop) : wp T f44r0 e h Q = wpI (cW T) i44r0 e h (regQ (some [0, 1]) Q) := wq_reg ..
theorem xf44r1 (T : Tab) (e : Env) (h : Hp) (Q : Out → Prop) : wp T f44r1 e h Q = wpI (cW T) i44r1 e h (regQ (some [0, 1, 12]) Q) := wq_reg ..
theorem xf44r2 (T : Tab) (e : Env) (h : Hp) (Q : Out → Prop) : wp T f44r2 e h Q = wpI (cW T) i44r2 e h (regQ (some [4]) Q) := wq_reg ..
theorem xf44r3 (T : Tab) (e : Env) (h : Hp) (Q : Out → Prop) : wp T f44r3 e h Q = wpI (cW T) i44r3 e h (regQ (some [4]) Q) := wq_reg ..
theorem xb44 (T : Tab) (e : Env) (h : Hp) (Q : Out → Prop) : wp T b44 e h Q = wp T (.seq f44r0 (.seq (.seq f44r1 (.cond (.t 12) (.seq f44r2 .ret) .skip)) (.seq f44r3 .ret))) e h Q := rfl
theorem xf45r0 (T : Tab) (e : Env) (h : Hp) (Q : Out → Prop) : wp T f45r0 e h Q = wpI (cW T) i45r0 e h (regQ (some [1]) Q) := wq_reg ..
theorem xf45r1 (T : Tab) (e : Env) (h : Hp) (Q : Out → Prop) : wp T f45r1 e h Q = wpI (cW T) i45r1 e h (regQ (some [2]) Q) := wq_reg ..
theorem xb45 (T : Tab) (e : Env) (h : Hp) (Q : Out → Prop) : wp T b45 e h Q = wp T (.seq f45r0 (.seq f45r1 .ret)) e h Q := rfl
theorem xf46r0 (T : Tab) (e : Env) (h : Hp) (Q : Out → Prop) : wp T f46r0 e h Q = wpI (cW T) i46r0 e h (regQ (some [0, 1]) Q) := wq_reg ..
theorem xf46r1 (T : Tab) (e : Env) (h : Hp) (Q : Out → Prop) : wp T f46r1 e h Q = wpI (cW T) i46r1 e h (regQ (some [4]) Q) := wq_reg ..
theorem xb46 (T : Tab) (e : Env) (h : Hp) (Q : Out → Prop) : wp T b46 e h Q = wp T (.seq f46r0 (.seq f46r1 .ret)) e h Q := rfl
theorem xf47r0 (T : Tab) (e : Env) (h : Hp) (Q : Out → Prop) : wp T f47r0 e h Q = wpI (cW T) i47r0 e h (regQ (some [0, 1, 2, 3, 4, 7]) Q) := wq_reg ..
theorem xf47r1 (T : Tab) (e : Env) (h : Hp) (Q : Out → Prop) : wp T f47r1 e h Q = wpI (cW T) i47r1 e h (regQ (some [0, 1, 2, 3, 4, 24]) Q) := wq_reg ..
theorem xf47r2 (T : Tab) (e : Env) (h : Hp) (Q : Out → Prop) : wp T f47r2 e h Q = wpI (cW T) i47r2 e h (regQ (some [0, 2, 3, 4]) Q) := wq_reg ..
theorem xf47r3 (T : Tab) (e : Env) (h : Hp) (Q : Out → Prop) : wp T f47r3 e h Q = wpI (cW T) i47r3 e h (regQ (some [0, 2, 4]) Q) := wq_reg ..
theorem xf47r4 (T : Tab) (e : Env) (h : Hp) (Q : Out → Prop) : wp T f47r4 e h Q = wpI (cW T) i47r4 e h (regQ (some [4, 35, 36, 37]) Q) := wq_reg ..
theorem xf47r5 (T : Tab) (e : Env) (h : Hp) (Q : Out → Prop) : wp T f47r5 e h Q = wpI (cW T) i47r5 e h (regQ (some [4, 35, 36, 37, 38]) Q) := wq_reg ..
theorem xf47r6 (T : Tab) (e : Env) (h : Hp) (Q : Out → Prop) : wp T f47r6 e h Q = wpI (cW T) i47r6 e h (regQ (some [4, 9, 35, 36, 37]) Q) := wq_reg ..
theorem xf47r7 (T : Tab) (e : Env) (h : Hp) (Q : Out → Prop) : wp T f47r7 e h Q = wpI (cW T) i47r7 e h (regQ (some [4, 35, 36, 37, 42, 43, 44]) Q) := wq_reg ..
theorem xf47r8 (T : Tab) (e : Env) (h : Hp) (Q : Out → Prop) : wp T f47r8 e h Q = wpI (cW T) i47r8 e h (regQ (some [4, 35, 36, 37, 42, 43, 44, 45]) Q) := wq_reg ..
theorem xf47r9 (T : Tab) (e : Env) (h : Hp) (Q : Out → Prop) : wp T f47r9 e h Q = wpI (cW T) i47r9 e h (regQ (some [4, 11, 35, 36, 37, 42, 43, 44]) Q) := wq_reg ..
theorem xf47r10 (T : Tab) (e : Env) (h : Hp) (Q : Out → Prop) : wp T f47r10 e h Q = wpI (cW T) i47r10 e h (regQ (some [4, 35, 36, 37, 42, 43, 44]) Q) := wq_reg ..
theorem xf47r11 (T : Tab) (e : Env) (h : Hp) (Q : Out → Prop) : wp T f47r11 e h Q = wpI (cW T) i47r11 e h (regQ (some [4, 35, 36, 37, 42, 43, 44]) Q) := wq_reg ..
theorem xf47l0 (T : Tab) (e : Env) (h : Hp) (Q : Out → Prop) : wp T f47l0 e h Q = wp T (.seq f47r8 (.seq (.cond (.t 45) .skip (.exit 2)) (.seq (.blk 3 (.seq f47r9 f47r10)) f47r11))) e h Q := rfl
theorem xf47r12 (T : Tab) (e : Env) (h : Hp) (Q : Out → Prop) : wp T f47r12 e h Q = wpI (cW T) i47r12 e h (regQ (some [4, 35, 36, 37]) Q) := wq_reg ..
theorem xf47l1 (T : Tab) (e : Env) (h : Hp) (Q : Out → Prop) : wp T f47l1 e h Q = wp T (.seq f47r5 (.seq (.cond (.t 38) .skip (.exit 0)) (.seq (.blk 1 (.seq f47r6 (.seq f47r7 (.blk 2 (.loop f47l0))))) f47r12))) e h Q := rfl
theorem xb47 (T : Tab) (e : Env) (h : Hp) (Q : Out → Prop) : wp T b47 e h Q = wp T (.seq (.seq f47r0 (.seq f47r1 (.cond (.t 24) .ret .skip))) (.seq f47r2 (.seq f47r3 (.seq f47r4 (.blk 0 (.loop f47l1)))))) e h Q := rfl
theorem xf48r0 (T : Tab) (e : Env) (h : Hp) (Q : Out → Prop) : wp T f48r0 e h Q = wpI (cW T) i48r0 e h (regQ (some [0, 1, 2]) Q) := wq_reg ..
theorem xf48r1 (T : Tab) (e : Env) (h : Hp) (Q : Out → Prop) : wp T f48r1 e h Q = wpI (cW T) i48r1 e h (regQ (some [0, 1, 2, 18]) Q) := wq_reg ..
theorem xf48r2 (T : Tab) (e : Env) (h : Hp) (Q : Out → Prop) : wp T f48r2 e h Q = wpI (cW T) i48r2 e h (regQ (some [6]) Q) := wq_reg ..
theorem xf48r3 (T : Tab) (e : Env) (h : Hp) (Q : Out → Prop) : wp T f48r3 e h Q = wpI (cW T) i48r3 e h (regQ (some [0, 1, 2]) Q) := wq_reg ..
theorem xf48r4 (T : Tab) (e : Env) (h : Hp) (Q : Out → Prop) : wp T f48r4 e h Q = wpI (cW T) i48r4 e h (regQ (some [0, 1, 2, 25]) Q) := wq_reg ..
theorem xf48r5 (T : Tab) (e : Env) (h : Hp) (Q : Out → Prop) : wp T f48r5 e h Q = wpI (cW T) i48r5 e h (regQ (some [6]) Q) := wq_reg ..
theorem xf48r6 (T : Tab) (e : Env) (h : Hp) (Q : Out → Prop) : wp T f48r6 e h Q = wpI (cW T) i48r6 e h (regQ (some [0, 1, 2, 7]) Q) := wq_reg ..
theorem xf48r7 (T : Tab) (e : Env) (h : Hp) (Q : Out → Prop) : wp T f48r7 e h Q = wpI (cW T) i48r7 e h (regQ (some [0, 1, 2, 7, 35]) Q) := wq_reg ..
theorem xf48r8 (T : Tab) (e : Env) (h : Hp) (Q : Out → Prop) : wp T f48r8 e h Q = wpI (cW T) i48r8 e h (regQ (some [0, 1, 2, 7, 8]) Q) := wq_reg ..
theorem xf48r9 (T : Tab) (e : Env) (h : Hp) (Q : Out → Prop) : wp T f48r9 e h Q = wpI (cW T) i48r9 e h (regQ (some [0, 1, 2, 7, 8, 9]) Q) := wq_reg ..
theorem xf48r10 (T : Tab) (e : Env) (h : Hp) (Q : Out → Prop) : wp T f48r10 e h Q = wpI (cW T) i48r10 e h (regQ (some [0, 1, 2, 7, 8, 9, 51]) Q) := wq_reg ..
theorem xf48r11 (T : Tab) (e : Env) (h : Hp) (Q : Out → Prop) : wp T f48r11 e h Q = wpI (cW T) i48r11 e h (regQ (some [0, 1, 2, 7, 8, 9]) Q) := wq_reg ..
theorem xf48r12 (T : Tab) (e : Env) (h : Hp) (Q : Out → Prop) : wp T f48r12 e h Q = wpI (cW T) i48r12 e h (regQ (some [0, 1, 2, 7, 8, 9]) Q) := wq_reg ..
theorem xf48l0 (T : Tab) (e : Env) (h : Hp) (Q : Out → Prop) : wp T f48l0 e h Q = wp T (.seq (.seq f48r10 (.cond (.t 51) .skip (.exit 2))) (.seq (.blk 3 f48r11) f48r12)) e h Q := rfl
theorem xf48r13 (T : Tab) (e : Env) (h : Hp) (Q : Out → Prop) : wp T f48r13 e h Q = wpI (cW T) i48r13 e h (regQ (some [0, 1, 2, 7]) Q) := wq_reg ..
theorem xf48l1 (T : Tab) (e : Env) (h : Hp) (Q : Out → Prop) : wp T f48l1 e h Q = wp T (.seq (.seq f48r7 (.cond (.t 35) .skip (.exit 0))) (.seq (.blk 1 (.seq f48r8 (.seq f48r9 (.blk 2 (.loop f48l0))))) f48r13)) e h Q := rfl
theorem xf48r14 (T : Tab) (e : Env) (h : Hp) (Q : Out → Prop) : wp T f48r14 e h Q = wpI (cW T) i48r14 e h (regQ (some [6]) Q) := wq_reg ..
theorem xb48 (T : Tab) (e : Env) (h : Hp) (Q : Out → Prop) : wp T b48 e h Q = wp T (.seq f48r0 (.seq (.seq f48r1 (.cond (.t 18) (.seq f48r2 .ret) .skip)) (.seq f48r3 (.seq (.seq f48r4 (.cond (.t 25) (.seq f48r5 .ret) .skip)) (.seq (.seq f48r6 (.blk 0 (.loop f48l1))) (.seq f48r14 .ret)))))) e h Q := rfl
theorem xf49r0 (T : Tab) (e : Env) (h : Hp) (Q : Out → Prop) : wp T f49r0 e h Q = wpI (cW T) i49r0 e h (regQ (some [0, 1]) Q) := wq_reg ..
theorem xf49r1 (T : Tab) (e : Env) (h : Hp) (Q : Out → Prop) : wp T f49r1 e h Q = wpI (cW T) i49r1 e h (regQ (some [4]) Q) := wq_reg ..
theorem xb49 (T : Tab) (e : Env) (h : Hp) (Q : Out → Prop) : wp T b49 e h Q = wp T (.seq f49r0 (.seq f49r1 .ret)) e h Q := rfl
theorem xf50r0 (T : Tab) (e : Env) (h : Hp) (Q : Out → Prop) : wp T f50r0 e h Q = wpI (cW T) i50r0 e h (regQ (some [0, 1]) Q) := wq_reg ..
theorem xf50r1 (T : Tab) (e : Env) (h : Hp) (Q : Out → Prop) : wp T f50r1 e h Q = wpI (cW T) i50r1 e h (regQ (some [0, 1, 5]) Q) := wq_reg ..
theorem xf50r2 (T : Tab) (e : Env) (h : Hp) (Q : Out → Prop) : wp T f50r2 e h Q = wpI (cW T) i50r2 e h (regQ (some [0, 1, 5, 9]) Q) := wq_reg ..
theorem xf50r3 (T : Tab) (e : Env) (h : Hp) (Q : Out → Prop) : wp T f50r3 e h Q = wpI (cW T) i50r3 e h (regQ (some [0, 1, 5, 17]) Q) := wq_reg ..
theorem xf50r4 (T : Tab) (e : Env) (h : Hp) (Q : Out → Prop) : wp T f50r4 e h Q = wpI (cW T) i50r4 e h (regQ (some [4]) Q) := wq_reg ..
theorem xf50r5 (T : Tab) (e : Env) (h : Hp) (Q : Out → Prop) : wp T f50r5 e h Q = wpI (cW T) i50r5 e h (regQ (some [0, 1, 5]) Q) := wq_reg ..
theorem xf50l0 (T : Tab) (e : Env) (h : Hp) (Q : Out → Prop) : wp T f50l0 e h Q = wp T (.seq (.seq f50r2 (.cond (.t 9) .skip (.exit 0))) (.seq (.blk 1 (.seq f50r3 (.cond (.t 17) (.seq f50r4 .ret) .skip))) f50r5)) e h Q := rfl
theorem xf50r6 (T : Tab) (e : Env) (h : Hp) (Q : Out → Prop) : wp T f50r6 e h Q = wpI (cW T) i50r6 e h (regQ (some [4]) Q) := wq_reg ..
theorem xb50 (T : Tab) (e : Env) (h : Hp) (Q : Out → Prop) : wp T b50 e h Q = wp T (.seq f50r0 (.seq (.seq f50r1 (.blk 0 (.loop f50l0))) (.seq f50r6 .ret))) e h Q := rfl
theorem xf51r0 (T : Tab) (e : Env) (h : Hp) (Q : Out → Prop) : wp T f51r0 e h Q = wpI (cW T) i51r0 e h (regQ (some [0, 1]) Q) := wq_reg ..
theorem xf51r1 (T : Tab) (e : Env) (h : Hp) (Q : Out → Prop) : wp T f51r1 e h Q = wpI (cW T) i51r1 e h (regQ (some [0, 1, 7, 8]) Q) := wq_reg ..
theorem xf51r2 (T : Tab) (e : Env) (h : Hp) (Q : Out → Prop) : wp T f51r2 e h Q = wpI (cW T) i51r2 e h (regQ (some [0, 1, 7, 8, 9]) Q) := wq_reg ..
theorem xf51r3 (T : Tab) (e : Env) (h : Hp) (Q : Out → Prop) : wp T f51r3 e h Q = wpI (cW T) i51r3 e h (regQ (some [0, 1, 5, 7, 8]) Q) := wq_reg ..
theorem xf51r4 (T : Tab) (e : Env) (h : Hp) (Q : Out → Prop) : wp T f51r4 e h Q = wpI (cW T) i51r4 e h (regQ (some [0, 1, 5, 7, 8, 16]) Q) := wq_reg ..
theorem xf51r5 (T : Tab) (e : Env) (h : Hp) (Q : Out → Prop) : wp T f51r5 e h Q = wpI (cW T) i51r5 e h (regQ (some [4]) Q) := wq_reg ..
theorem xf51r6 (T : Tab) (e : Env) (h : Hp) (Q : Out → Prop) : wp T f51r6 e h Q = wpI (cW T) i51r6 e h (regQ (some [0, 1, 7, 8]) Q) := wq_reg ..
theorem xf51l0 (T : Tab) (e : Env) (h : Hp) (Q : Out → Prop) : wp T f51l0 e h Q = wp T (.seq f51r2 (.seq (.cond (.t 9) .skip (.exit 0)) (.seq (.blk 1 (.seq f51r3 (.seq f51r4 (.cond (.t 16) (.seq f51r5 .ret) .skip)))) f51r6))) e h Q := rfl
theorem xf51r7 (T : Tab) (e : Env) (h : Hp) (Q : Out → Prop) : wp T f51r7 e h Q = wpI (cW T) i51r7 e h (regQ (some [4]) Q) := wq_reg ..
theorem xb51 (T : Tab) (e : Env) (h : Hp) (Q : Out → Prop) : wp T b51 e h Q = wp T (.seq f51r0 (.seq (.seq f51r1 (.blk 0 (.loop f51l0))) (.seq f51r7 .ret))) e h Q := rfl
theorem xf52r0 (T : Tab) (e : Env) (h : Hp) (Q : Out → Prop) : wp T f52r0 e h Q = wpI (cW T) i52r0 e h (regQ (some [1, 2]) Q) := wq_reg ..
theorem xf52r1 (T : Tab) (e : Env) (h : Hp) (Q : Out → Prop) : wp T f52r1 e h Q = wpI (cW T) i52r1 e h (regQ (some [3]) Q) := wq_reg ..
theorem xb52 (T : Tab) (e : Env) (h : Hp) (Q : Out → Prop) : wp T b52 e h Q = wp T (.seq f52r0 (.seq f52r1 .ret)) e h Q := rfl
theorem xf53r0 (T : Tab) (e : Env) (h : Hp) (Q : Out → Prop) : wp T f53r0 e h Q = wpI (cW T) i53r0 e h (regQ (some [0, 1]) Q) := wq_reg ..
theorem xf53r1 (T : Tab) (e : Env) (h : Hp) (Q : Out → Prop) : wp T f53r1 e h Q = wpI (cW T) i53r1 e h (regQ (some [0, 1, 7, 8]) Q) := wq_reg ..
theorem xf53r2 (T : Tab) (e : Env) (h : Hp) (Q : Out → Prop) : wp T f53r2 e h Q = wpI (cW T) i53r2 e h (regQ (some [0, 1, 7, 8, 9]) Q) := wq_reg ..
theorem xf53r3 (T : Tab) (e : Env) (h : Hp) (Q : Out → Prop) : wp T f53r3 e h Q = wpI (cW T) i53r3 e h (regQ (some [0, 1, 5, 7, 8]) Q) := wq_reg ..
theorem xf53r4 (T : Tab) (e : Env) (h : Hp) (Q : Out → Prop) : wp T f53r4 e h Q = wpI (cW T) i53r4 e h (regQ (some [0, 1, 5, 7, 8, 16]) Q) := wq_reg ..
theorem xf53r5 (T : Tab) (e : Env) (h : Hp) (Q : Out → Prop) : wp T f53r5 e h Q = wpI (cW T) i53r5 e h (regQ (some [4]) Q) := wq_reg ..
theorem xf53r6 (T : Tab) (e : Env) (h : Hp) (Q : Out → Prop) : wp T f53r6 e h Q = wpI (cW T) i53r6 e h (regQ (some [0, 1, 7, 8]) Q) := wq_reg ..
theorem xf53l0 (T : Tab) (e : Env) (h : Hp) (Q : Out → Prop) : wp T f53l0 e h Q = wp T (.seq f53r2 (.seq (.cond (.t 9) .skip (.exit 0)) (.seq (.blk 1 (.seq f53r3 (.seq f53r4 (.cond (.t 16) (.seq f53r5 .ret) .skip)))) f53r6))) e h Q := rfl
theorem xf53r7 (T : Tab) (e : Env) (h : Hp) (Q : Out → Prop) : wp T f53r7 e h Q = wpI (cW T) i53r7 e h (regQ (some [4]) Q) := wq_reg ..
theorem xb53 (T : Tab) (e : Env) (h : Hp) (Q : Out → Prop) : wp T b53 e h Q = wp T (.seq f53r0 (.seq (.seq f53r1 (.blk 0 (.loop f53l0))) (.seq f53r7 .ret))) e h Q := rfl
theorem xf54r0 (T : Tab) (e : Env) (h : Hp) (Q : Out → Prop) : wp T f54r0 e h Q = wpI (cW T) i54r0 e h (regQ (some [1, 2]) Q) := wq_reg ..
theorem xf54r1 (T : Tab) (e : Env) (h : Hp) (Q : Out → Prop) : wp T f54r1 e h Q = wpI (cW T) i54r1 e h (regQ (some [3]) Q) := wq_reg ..
theorem xb54 (T : Tab) (e : Env) (h : Hp) (Q : Out → Prop) : wp T b54 e h Q = wp T (.seq f54r0 (.seq f54r1 .ret)) e h Q := rfl
theorem xf55r0 (T : Tab) (e : Env) (h : Hp) (Q : Out → Prop) : wp T f55r0 e h Q = wpI (cW T) i55r0 e h (regQ (some [1]) Q) := wq_reg ..
theorem xf55r1 (T : Tab) (e : Env) (h : Hp) (Q : Out → Prop) : wp T f55r1 e h Q = wpI (cW T) i55r1 e h (regQ (some [2]) Q) := wq_reg ..
theorem xb55 (T : Tab) (e : Env) (h : Hp) (Q : Out → Prop) : wp T b55 e h Q = wp T (.seq f55r0 (.seq f55r1 .ret)) e h Q := rfl
theorem xf56r0 (T : Tab) (e : Env) (h : Hp) (Q : Out → Prop) : wp T f56r0 e h Q = wpI (cW T) i56r0 e h (regQ (some [0]) Q) := wq_reg ..
theorem xf56r1 (T : Tab) (e : Env) (h : Hp) (Q : Out → Prop) : wp T f56r1 e h Q = wpI (cW T) i56r1 e h (regQ (some [0, 21]) Q) := wq_reg ..
theorem xf56r2 (T : Tab) (e : Env) (h : Hp) (Q : Out → Prop) : wp T f56r2 e h Q = wpI (cW T) i56r2 e h (regQ (some [2]) Q) := wq_reg ..
theorem xf56r3 (T : Tab) (e : Env) (h : Hp) (Q : Out → Prop) : wp T f56r3 e h Q = wpI (cW T) i56r3 e h (regQ (some [0, 23, 24]) Q) := wq_reg ..
theorem xf56r4 (T : Tab) (e : Env) (h : Hp) (Q : Out → Prop) : wp T f56r4 e h Q = wpI (cW T) i56r4 e h (regQ (some [0, 23, 24, 25]) Q) := wq_reg ..
theorem xf56r5 (T : Tab) (e : Env) (h : Hp) (Q : Out → Prop) : wp T f56r5 e h Q = wpI (cW T) i56r5 e h (regQ (some [0, 3, 23, 24]) Q) := wq_reg ..
theorem xf56r6 (T : Tab) (e : Env) (h : Hp) (Q : Out → Prop) : wp T f56r6 e h Q = wpI (cW T) i56r6 e h (regQ (some [0, 4, 23, 24]) Q) := wq_reg ..
theorem xf56r7 (T : Tab) (e : Env) (h : Hp) (Q : Out → Prop) : wp T f56r7 e h Q = wpI (cW T) i56r7 e h (regQ (some [0, 23, 24, 56]) Q) := wq_reg ..
theorem xf56r8 (T : Tab) (e : Env) (h : Hp) (Q : Out → Prop) : wp T f56r8 e h Q = wpI (cW T) i56r8 e h (regQ (some [2]) Q) := wq_reg ..
theorem xf56r9 (T : Tab) (e : Env) (h : Hp) (Q : Out → Prop) : wp T f56r9 e h Q = wpI (cW T) i56r9 e h (regQ (some [0, 23, 24]) Q) := wq_reg ..
theorem xf56l0 (T : Tab) (e : Env) (h : Hp) (Q : Out → Prop) : wp T f56l0 e h Q = wp T (.seq f56r4 (.seq (.cond (.t 25) .skip (.exit 0)) (.seq (.blk 1 (.seq f56r5 (.seq f56r6 (.seq f56r7 (.cond (.t 56) (.seq f56r8 .ret) .skip))))) f56r9))) e h Q := rfl
theorem xf56r10 (T : Tab) (e : Env) (h : Hp) (Q : Out → Prop) : wp T f56r10 e h Q = wpI (cW T) i56r10 e h (regQ (some [2]) Q) := wq_reg ..
theorem xb56 (T : Tab) (e : Env) (h : Hp) (Q : Out → Prop) : wp T b56 e h Q = wp T (.seq f56r0 (.seq (.seq f56r1 (.cond (.t 21) (.seq f56r2 .ret) .skip)) (.seq (.seq f56r3 (.blk 0 (.loop f56l0))) (.seq f56r10 .ret)))) e h Q := rfl
theorem xf57r0 (T : Tab) (e : Env) (h : Hp) (Q : Out → Prop) : wp T f57r0 e h Q = wpI (cW T) i57r0 e h (regQ (some [1]) Q) := wq_reg ..
theorem xf57r1 (T : Tab) (e : Env) (h : Hp) (Q : Out → Prop) : wp T f57r1 e h Q = wpI (cW T) i57r1 e h (regQ (some [2]) Q) := wq_reg ..
theorem xb57 (T : Tab) (e : Env) (h : Hp) (Q : Out → Prop) : wp T b57 e h Q = wp T (.seq f57r0 (.seq f57r1 .ret)) e h Q := rfl
theorem xf58r0 (T : Tab) (e : Env) (h : Hp) (Q : Out → Prop) : wp T f58r0 e h Q = wpI (cW T) i58r0 e h (regQ (some [0, 1]) Q) := wq_reg ..
theorem xf58r1 (T : Tab) (e : Env) (h : Hp) (Q : Out → Prop) : wp T f58r1 e h Q = wpI (cW T) i58r1 e h (regQ (some [0, 1, 7, 8]) Q) := wq_reg ..
theorem xf58r2 (T : Tab) (e : Env) (h : Hp) (Q : Out → Prop) : wp T f58r2 e h Q = wpI (cW T) i58r2 e h (regQ (some [0, 1, 7, 8, 9]) Q) := wq_reg ..
theorem xf58r3 (T : Tab) (e : Env) (h : Hp) (Q : Out → Prop) : wp T f58r3 e h Q = wpI (cW T) i58r3 e h (regQ (some [0, 1, 5, 7, 8]) Q) := wq_reg ..
theorem xf58r4 (T : Tab) (e : Env) (h : Hp) (Q : Out → Prop) : wp T f58r4 e h Q = wpI (cW T) i58r4 e h (regQ (some [0, 1, 5, 7, 8, 16]) Q) := wq_reg ..
theorem xf58r5 (T : Tab) (e : Env) (h : Hp) (Q : Out → Prop) : wp T f58r5 e h Q = wpI (cW T) i58r5 e h (regQ (some [4]) Q) := wq_reg ..
theorem xf58r6 (T : Tab) (e : Env) (h : Hp) (Q : Out → Prop) : wp T f58r6 e h Q = wpI (cW T) i58r6 e h (regQ (some [0, 1, 7, 8]) Q) := wq_reg ..
theorem xf58l0 (T : Tab) (e : Env) (h : Hp) (Q : Out → Prop) : wp T f58l0 e h Q = wp T (.seq f58r2 (.seq (.cond (.t 9) .skip (.exit 0)) (.seq (.blk 1 (.seq f58r3 (.seq f58r4 (.cond (.t 16) (.seq f58r5 .ret) .skip)))) f58r6))) e h Q := rfl
theorem xf58r7 (T : Tab) (e : Env) (h : Hp) (Q : Out → Prop) : wp T f58r7 e h Q = wpI (cW T) i58r7 e h (regQ (some [4]) Q) := wq_reg ..
theorem xb58 (T : Tab) (e : Env) (h : Hp) (Q : Out → Prop) : wp T b58 e h Q = wp T (.seq f58r0 (.seq (.seq f58r1 (.blk 0 (.loop f58l0))) (.seq f58r7 .ret))) e h Q := rfl
theorem xf59r0 (T : Tab) (e : Env) (h : Hp) (Q : Out → Prop) : wp T f59r0 e h Q = wpI (cW T) i59r0 e h (regQ (some [1, 2]) Q) := wq_reg ..
theorem xf59r1 (T : Tab) (e : Env) (h : Hp) (Q : Out → Prop) : wp T f59r1 e h Q = wpI (cW T) i59r1 e h (regQ (some [3]) Q) := wq_reg ..
theorem xb59 (T : Tab) (e : Env) (h : Hp) (Q : Out → Prop) : wp T b59 e h Q = wp T (.seq f59r0 (.seq f59r1 .ret)) e h Q := rfl
theorem xf60r0 (T : Tab) (e : Env) (h : Hp) (Q : Out → Prop) : wp T f60r0 e h Q = wpI (cW T) i60r0 e h (regQ (some [0, 1]) Q) := wq_reg ..
theorem xf60r1 (T : Tab) (e : Env) (h : Hp) (Q : Out → Prop) : wp T f60r1 e h Q = wpI (cW T) i60r1 e h (regQ (some [3]) Q) := wq_reg ..
theorem xb60 (T : Tab) (e : Env) (h : Hp) (Q : Out → Prop) : wp T b60 e h Q = wp T (.seq f60r0 (.seq f60r1 .ret)) e h Q := rfl
theorem xf61r0 (T : Tab) (e : Env) (h : Hp) (Q : Out → Prop) : wp T f61r0 e h Q = wpI (cW T) i61r0 e h (regQ (some [0, 1]) Q) := wq_reg ..
theorem xf61r1 (T : Tab) (e : Env) (h : Hp) (Q : Out → Prop) : wp T f61r1 e h Q = wpI (cW T) i61r1 e h (regQ (some [4]) Q) := wq_reg ..
theorem xb61 (T : Tab) (e : Env) (h : Hp) (Q : Out → Prop) : wp T b61 e h Q = wp T (.seq f61r0 (.seq f61r1 .ret)) e h Q := rfl
theorem xf62r0 (T : Tab) (e : Env) (h : Hp) (Q : Out → Prop) : wp T f62r0 e h Q = wpI (cW T) i62r0 e h (regQ (some [0]) Q) := wq_reg ..
theorem xf62r1 (T : Tab) (e : Env) (h : Hp) (Q : Out → Prop) : wp T f62r1 e h Q = wpI (cW T) i62r1 e h (regQ (some [0, 3]) Q) := wq_reg ..
theorem xf62r2 (T : Tab) (e : Env) (h : Hp) (Q : Out → Prop) : wp T f62r2 e h Q = wpI (cW T) i62r2 e h (regQ (some [0, 3, 9]) Q) := wq_reg ..
theorem xf62r3 (T : Tab) (e : Env) (h : Hp) (Q : Out → Prop) : wp T f62r3 e h Q = wpI (cW T) i62r3 e h (regQ (some [0, 3, 4]) Q) := wq_reg ..
theorem xf62r4 (T : Tab) (e : Env) (h : Hp) (Q : Out → Prop) : wp T f62r4 e h Q = wpI (cW T) i62r4 e h (regQ (some [0, 3, 4, 5]) Q) := wq_reg ..
theorem xf62r5 (T : Tab) (e : Env) (h : Hp) (Q : Out → Prop) : wp T f62r5 e h Q = wpI (cW T) i62r5 e h (regQ (some [0, 3, 47]) Q) := wq_reg ..
theorem xf62r6 (T : Tab) (e : Env) (h : Hp) (Q : Out → Prop) : wp T f62r6 e h Q = wpI (cW T) i62r6 e h (regQ (some [2]) Q) := wq_reg ..
theorem xf62r7 (T : Tab) (e : Env) (h : Hp) (Q : Out → Prop) : wp T f62r7 e h Q = wpI (cW T) i62r7 e h (regQ (some [0, 3]) Q) := wq_reg ..
theorem xf62l0 (T : Tab) (e : Env) (h : Hp) (Q : Out → Prop) : wp T f62l0 e h Q = wp T (.seq (.seq f62r2 (.cond (.t 9) .skip (.exit 0))) (.seq (.blk 1 (.seq f62r3 (.seq f62r4 (.seq f62r5 (.cond (.t 47) (.seq f62r6 .ret) .skip))))) f62r7)) e h Q := rfl
theorem xf62r8 (T : Tab) (e : Env) (h : Hp) (Q : Out → Prop) : wp T f62r8 e h Q = wpI (cW T) i62r8 e h (regQ (some [2]) Q) := wq_reg ..
theorem xb62 (T : Tab) (e : Env) (h : Hp) (Q : Out → Prop) : wp T b62 e h Q = wp T (.seq f62r0 (.seq (.seq f62r1 (.blk 0 (.loop f62l0))) (.seq f62r8 .ret))) e h Q := rfl
theorem xf63r0 (T : Tab) (e : Env) (h : Hp) (Q : Out → Prop) : wp T f63r0 e h Q = wpI (cW T) i63r0 e h (regQ (some [0, 1]) Q) := wq_reg ..
theorem xf63r1 (T : Tab) (e : Env) (h : Hp) (Q : Out → Prop) : wp T f63r1 e h Q = wpI (cW T) i63r1 e h (regQ (some [0, 1, 5]) Q) := wq_reg ..
theorem xf63r2 (T : Tab) (e : Env) (h : Hp) (Q : Out → Prop) : wp T f63r2 e h Q = wpI (cW T) i63r2 e h (regQ (some [0, 1, 5, 9]) Q) := wq_reg ..
theorem xf63r3 (T : Tab) (e : Env) (h : Hp) (Q : Out → Prop) : wp T f63r3 e h Q = wpI (cW T) i63r3 e h (regQ (some [0, 1, 5, 17]) Q) := wq_reg ..
theorem xf63r4 (T : Tab) (e : Env) (h : Hp) (Q : Out → Prop) : wp T f63r4 e h Q = wpI (cW T) i63r4 e h (regQ (some [4]) Q) := wq_reg ..
theorem xf63r5 (T : Tab) (e : Env) (h : Hp) (Q : Out → Prop) : wp T f63r5 e h Q = wpI (cW T) i63r5 e h (regQ (some [0, 1, 5]) Q) := wq_reg ..
theorem xf63l0 (T : Tab) (e : Env) (h : Hp) (Q : Out → Prop) : wp T f63l0 e h Q = wp T (.seq (.seq f63r2 (.cond (.t 9) .skip (.exit 0))) (.seq (.blk 1 (.seq f63r3 (.cond (.t 17) (.seq f63r4 .ret) .skip))) f63r5)) e h Q := rfl
theorem xf63r6 (T : Tab) (e : Env) (h : Hp) (Q : Out → Prop) : wp T f63r6 e h Q = wpI (cW T) i63r6 e h (regQ (some [4]) Q) := wq_reg ..
theorem xb63 (T : Tab) (e : Env) (h : Hp) (Q : Out → Prop) : wp T b63 e h Q = wp T (.seq f63r0 (.seq (.seq f63r1 (.blk 0 (.loop f63l0))) (.seq f63r6 .ret))) e h Q := rfl
theorem xf64r0 (T : Tab) (e : Env) (h : Hp) (Q : Out → Prop) : wp T f64r0 e h Q = wpI (cW T) i64r0 e h (regQ (some [0, 1]) Q) := wq_reg ..
theorem xf64r1 (T : Tab) (e : Env) (h : Hp) (Q : Out → Prop) : wp T f64r1 e h Q = wpI (cW T) i64r1 e h (regQ (some [0, 1, 7, 8]) Q) := wq_reg ..
theorem xf64r2 (T : Tab) (e : Env) (h : Hp) (Q : Out → Prop) : wp T f64r2 e h Q = wpI (cW T) i64r2 e h (regQ (some [0, 1, 7, 8, 9]) Q) := wq_reg ..
theorem xf64r3 (T : Tab) (e : Env) (h : Hp) (Q : Out → Prop) : wp T f64r3 e h Q = wpI (cW T) i64r3 e h (regQ (some [0, 1, 5, 7, 8]) Q) := wq_reg ..
theorem xf64r4 (T : Tab) (e : Env) (h : Hp) (Q : Out → Prop) : wp T f64r4 e h Q = wpI (cW T) i64r4 e h (regQ (some [0, 1, 5, 7, 8, 16]) Q) := wq_reg ..
theorem xf64r5 (T : Tab) (e : Env) (h : Hp) (Q : Out → Prop) : wp T f64r5 e h Q = wpI (cW T) i64r5 e h (regQ (some [4]) Q) := wq_reg ..
theorem xf64r6 (T : Tab) (e : Env) (h : Hp) (Q : Out → Prop) : wp T f64r6 e h Q = wpI (cW T) i64r6 e h (regQ (some [0, 1, 7, 8]) Q) := wq_reg ..
theorem xf64l0 (T : Tab) (e : Env) (h : Hp) (Q : Out → Prop) : wp T f64l0 e h Q = wp T (.seq f64r2 (.seq (.cond (.t 9) .skip (.exit 0)) (.seq (.blk 1 (.seq f64r3 (.seq f64r4 (.cond (.t 16) (.seq f64r5 .ret) .skip)))) f64r6))) e h Q := rfl
theorem xf64r7 (T : Tab) (e : Env) (h : Hp) (Q : Out → Prop) : wp T f64r7 e h Q = wpI (cW T) i64r7 e h (regQ (some [4]) Q) := wq_reg ..
theorem xb64 (T : Tab) (e : Env) (h : Hp) (Q : Out → Prop) : wp T b64 e h Q = wp T (.seq f64r0 (.seq (.seq f64r1 (.blk 0 (.loop f64l0))) (.seq f64r7 .ret))) e h Q := rfl
theorem xf65r0 (T : Tab) (e : Env) (h : Hp) (Q : Out → Prop) : wp T f65r0 e h Q = wpI (cW T) i65r0 e h (regQ (some [0, 1]) Q) := wq_reg ..
theorem xf65r1 (T : Tab) (e : Env) (h : Hp) (Q : Out → Prop) : wp T f65r1 e h Q = wpI (cW T) i65r1 e h (regQ (some [0, 1, 7, 8]) Q) := wq_reg ..
theorem xf65r2 (T : Tab) (e : Env) (h : Hp) (Q : Out → Prop) : wp T f65r2 e h Q = wpI (cW T) i65r2 e h (regQ (some [0, 1, 7, 8, 9]) Q) := wq_reg ..
theorem xf65r3 (T : Tab) (e : Env) (h : Hp) (Q : Out → Prop) : wp T f65r3 e h Q = wpI (cW T) i65r3 e h (regQ (some [0, 1, 5, 7, 8]) Q) := wq_reg ..
theorem xf65r4 (T : Tab) (e : Env) (h : Hp) (Q : Out → Prop) : wp T f65r4 e h Q = wpI (cW T) i65r4 e h (regQ (some [0, 1, 5, 7, 8, 16]) Q) := wq_reg ..
theorem xf65r5 (T : Tab) (e : Env) (h : Hp) (Q : Out → Prop) : wp T f65r5 e h Q = wpI (cW T) i65r5 e h (regQ (some [4]) Q) := wq_reg ..
theorem xf65r6 (T : Tab) (e : Env) (h : Hp) (Q : Out → Prop) : wp T f65r6 e h Q = wpI (cW T) i65r6 e h (regQ (some [0, 1, 7, 8]) Q) := wq_reg ..
theorem xf65l0 (T : Tab) (e : Env) (h : Hp) (Q : Out → Prop) : wp T f65l0 e h Q = wp T (.seq f65r2 (.seq (.cond (.t 9) .skip (.exit 0)) (.seq (.blk 1 (.seq f65r3 (.seq f65r4 (.cond (.t 16) (.seq f65r5 .ret) .skip)))) f65r6))) e h Q := rfl
theorem xf65r7 (T : Tab) (e : Env) (h : Hp) (Q : Out → Prop) : wp T f65r7 e h Q = wpI (cW T) i65r7 e h (regQ (some [4]) Q) := wq_reg ..
theorem xb65 (T : Tab) (e : Env) (h : Hp) (Q : Out → Prop) : wp T b65 e h Q = wp T (.seq f65r0 (.seq (.seq f65r1 (.blk 0 (.loop f65l0))) (.seq f65r7 .ret))) e h Q := rfl
end Zc17
