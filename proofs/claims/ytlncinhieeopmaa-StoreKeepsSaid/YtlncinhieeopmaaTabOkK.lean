/-
  The table's functions are the program's.
-/
import Derived.Test.YtlncinhieeopmaaTabK
import Derived.Test.YtlncinhieeopmaaZvFun
import Derived.Test.YtlncinhieeopmaaZvShift
import Derived.Test.YtlncinhieeopmaaChecked
namespace Zc55k
open Go Zv
theorem k3 : fnOk Go.Proofs.Try.prog 3 f3 = true := by kernel_rfl
theorem k4 : fnOk Go.Proofs.Try.prog 4 f4 = true := by kernel_rfl
theorem k5 : fnOk Go.Proofs.Try.prog 5 f5 = true := by kernel_rfl
theorem k6 : fnOk Go.Proofs.Try.prog 6 f6 = true := by kernel_rfl
theorem k7 : fnOk Go.Proofs.Try.prog 7 f7 = true := by kernel_rfl
theorem k8 : fnOk Go.Proofs.Try.prog 8 f8 = true := by kernel_rfl
theorem k9 : fnOk Go.Proofs.Try.prog 9 f9 = true := by kernel_rfl
theorem k10 : fnOk Go.Proofs.Try.prog 10 f10 = true := by kernel_rfl
theorem k11 : fnOk Go.Proofs.Try.prog 11 f11 = true := by kernel_rfl
theorem k12 : fnOk Go.Proofs.Try.prog 12 f12 = true := by kernel_rfl
theorem k13 : fnOk Go.Proofs.Try.prog 13 f13 = true := by kernel_rfl
theorem k14 : fnOk Go.Proofs.Try.prog 14 f14 = true := by kernel_rfl
theorem k15 : fnOk Go.Proofs.Try.prog 15 f15 = true := by kernel_rfl
theorem k16 : fnOk Go.Proofs.Try.prog 16 f16 = true := by kernel_rfl
theorem k17 : fnOk Go.Proofs.Try.prog 17 f17 = true := by kernel_rfl
theorem k18 : fnOk Go.Proofs.Try.prog 18 f18 = true := by kernel_rfl
theorem k19 : fnOk Go.Proofs.Try.prog 19 f19 = true := by kernel_rfl
theorem k20 : fnOk Go.Proofs.Try.prog 20 f20 = true := by kernel_rfl
theorem k21 : fnOk Go.Proofs.Try.prog 21 f21 = true := by kernel_rfl
theorem k22 : fnOk Go.Proofs.Try.prog 22 f22 = true := by kernel_rfl
theorem k23 : fnOk Go.Proofs.Try.prog 23 f23 = true := by kernel_rfl
theorem k24 : fnOk Go.Proofs.Try.prog 24 f24 = true := by kernel_rfl
theorem k25 : fnOk Go.Proofs.Try.prog 25 f25 = true := by kernel_rfl
theorem k26 : fnOk Go.Proofs.Try.prog 26 f26 = true := by kernel_rfl
theorem k27 : fnOk Go.Proofs.Try.prog 27 f27 = true := by kernel_rfl
theorem k28 : fnOk Go.Proofs.Try.prog 28 f28 = true := by kernel_rfl
theorem k29 : fnOk Go.Proofs.Try.prog 29 f29 = true := by kernel_rfl
theorem k30 : fnOk Go.Proofs.Try.prog 30 f30 = true := by kernel_rfl
theorem k31 : fnOk Go.Proofs.Try.prog 31 f31 = true := by kernel_rfl
theorem k32 : fnOk Go.Proofs.Try.prog 32 f32 = true := by kernel_rfl
theorem k33 : fnOk Go.Proofs.Try.prog 33 f33 = true := by kernel_rfl
theorem k34 : fnOk Go.Proofs.Try.prog 34 f34 = true := by kernel_rfl
theorem k35 : fnOk Go.Proofs.Try.prog 35 f35 = true := by kernel_rfl
theorem k36 : fnOk Go.Proofs.Try.prog 36 f36 = true := by kernel_rfl
theorem k37 : fnOk Go.Proofs.Try.prog 37 f37 = true := by kernel_rfl
theorem k38 : fnOk Go.Proofs.Try.prog 38 f38 = true := by kernel_rfl
theorem tabOk : TabOk Go.Proofs.Try.prog tab := by
  intro n fn h
  unfold tab at h
  split at h
  · cases h; exact k3
  · cases h; exact k4
  · cases h; exact k5
  · cases h; exact k6
  · cases h; exact k7
  · cases h; exact k8
  · cases h; exact k9
  · cases h; exact k10
  · cases h; exact k11
  · cases h; exact k12
  · cases h; exact k13
  · cases h; exact k14
  · cases h; exact k15
  · cases h; exact k16
  · cases h; exact k17
  · cases h; exact k18
  · cases h; exact k19
  · cases h; exact k20
  · cases h; exact k21
  · cases h; exact k22
  · cases h; exact k23
  · cases h; exact k24
  · cases h; exact k25
  · cases h; exact k26
  · cases h; exact k27
  · cases h; exact k28
  · cases h; exact k29
  · cases h; exact k30
  · cases h; exact k31
  · cases h; exact k32
  · cases h; exact k33
  · cases h; exact k34
  · cases h; exact k35
  · cases h; exact k36
  · cases h; exact k37
  · cases h; exact k38
  · cases h
theorem c3 : clC f3.body = true := by kernel_rfl
theorem c4 : clC f4.body = true := by kernel_rfl
theorem c5 : clC f5.body = true := by kernel_rfl
theorem c6 : clC f6.body = true := by kernel_rfl
theorem c7 : clC f7.body = true := by kernel_rfl
theorem c8 : clC f8.body = true := by kernel_rfl
theorem c9 : clC f9.body = true := by kernel_rfl
theorem c10 : clC f10.body = true := by kernel_rfl
theorem c11 : clC f11.body = true := by kernel_rfl
theorem c12 : clC f12.body = true := by kernel_rfl
theorem c13 : clC f13.body = true := by kernel_rfl
theorem c14 : clC f14.body = true := by kernel_rfl
theorem c15 : clC f15.body = true := by kernel_rfl
theorem c16 : clC f16.body = true := by kernel_rfl
theorem c17 : clC f17.body = true := by kernel_rfl
theorem c18 : clC f18.body = true := by kernel_rfl
theorem c19 : clC f19.body = true := by kernel_rfl
theorem c20 : clC f20.body = true := by kernel_rfl
theorem c21 : clC f21.body = true := by kernel_rfl
theorem c22 : clC f22.body = true := by kernel_rfl
theorem c23 : clC f23.body = true := by kernel_rfl
theorem c24 : clC f24.body = true := by kernel_rfl
theorem c25 : clC f25.body = true := by kernel_rfl
theorem c26 : clC f26.body = true := by kernel_rfl
theorem c27 : clC f27.body = true := by kernel_rfl
theorem c28 : clC f28.body = true := by kernel_rfl
theorem c29 : clC f29.body = true := by kernel_rfl
theorem c30 : clC f30.body = true := by kernel_rfl
theorem c31 : clC f31.body = true := by kernel_rfl
theorem c32 : clC f32.body = true := by kernel_rfl
theorem c33 : clC f33.body = true := by kernel_rfl
theorem c34 : clC f34.body = true := by kernel_rfl
theorem c35 : clC f35.body = true := by kernel_rfl
theorem c36 : clC f36.body = true := by kernel_rfl
theorem c37 : clC f37.body = true := by kernel_rfl
theorem c38 : clC f38.body = true := by kernel_rfl
theorem tabCl : TabCl tab := by
  intro n fn h
  unfold tab at h
  split at h
  · cases h; exact c3
  · cases h; exact c4
  · cases h; exact c5
  · cases h; exact c6
  · cases h; exact c7
  · cases h; exact c8
  · cases h; exact c9
  · cases h; exact c10
  · cases h; exact c11
  · cases h; exact c12
  · cases h; exact c13
  · cases h; exact c14
  · cases h; exact c15
  · cases h; exact c16
  · cases h; exact c17
  · cases h; exact c18
  · cases h; exact c19
  · cases h; exact c20
  · cases h; exact c21
  · cases h; exact c22
  · cases h; exact c23
  · cases h; exact c24
  · cases h; exact c25
  · cases h; exact c26
  · cases h; exact c27
  · cases h; exact c28
  · cases h; exact c29
  · cases h; exact c30
  · cases h; exact c31
  · cases h; exact c32
  · cases h; exact c33
  · cases h; exact c34
  · cases h; exact c35
  · cases h; exact c36
  · cases h; exact c37
  · cases h; exact c38
  · cases h
end Zc55k
