/-
  The table's functions are the program's.
-/
import Derived.Test.YtlncinhieeopmaaTab
import Derived.Test.YtlncinhieeopmaaZvFun
import Derived.Test.YtlncinhieeopmaaChecked
namespace Zc55
open Go Zv
theorem k3 : fnOk Go.Proofs.Try.prog 3 f3 = true := by kernel_rfl
theorem k4 : fnOk Go.Proofs.Try.prog 4 f4 = true := by kernel_rfl
theorem k5 : fnOk Go.Proofs.Try.prog 5 f5 = true := by kernel_rfl
theorem k6 : fnOk Go.Proofs.Try.prog 6 f6 = true := by kernel_rfl
theorem k7 : fnOk Go.Proofs.Try.prog 7 f7 = true := by kernel_rfl
theorem k8 : fnOk Go.Proofs.Try.prog 8 f8 = true := by kernel_rfl
theorem k9 : fnOk Go.Proofs.Try.prog 9 f9 = true := by kernel_rfl
theorem k10 : fnOk Go.Proofs.Try.prog 10 f10 = true := by kernel_rfl
theorem k11 : fnOk Go.Proofs.Try.prog 11 f11 = true := by kernel_rfl
theorem k12 : fnOk Go.Proofs.Try.prog 12 f12 = true := by kernel_rfl
theorem k13 : fnOk Go.Proofs.Try.prog 13 f13 = true := by kernel_rfl
theorem k14 : fnOk Go.Proofs.Try.prog 14 f14 = true := by kernel_rfl
theorem k15 : fnOk Go.Proofs.Try.prog 15 f15 = true := by kernel_rfl
theorem k16 : fnOk Go.Proofs.Try.prog 16 f16 = true := by kernel_rfl
theorem k17 : fnOk Go.Proofs.Try.prog 17 f17 = true := by kernel_rfl
theorem k18 : fnOk Go.Proofs.Try.prog 18 f18 = true := by kernel_rfl
theorem k19 : fnOk Go.Proofs.Try.prog 19 f19 = true := by kernel_rfl
theorem k20 : fnOk Go.Proofs.Try.prog 20 f20 = true := by kernel_rfl
theorem k21 : fnOk Go.Proofs.Try.prog 21 f21 = true := by kernel_rfl
theorem k22 : fnOk Go.Proofs.Try.prog 22 f22 = true := by kernel_rfl
theorem k23 : fnOk Go.Proofs.Try.prog 23 f23 = true := by kernel_rfl
theorem k24 : fnOk Go.Proofs.Try.prog 24 f24 = true := by kernel_rfl
theorem k25 : fnOk Go.Proofs.Try.prog 25 f25 = true := by kernel_rfl
theorem k26 : fnOk Go.Proofs.Try.prog 26 f26 = true := by kernel_rfl
theorem k27 : fnOk Go.Proofs.Try.prog 27 f27 = true := by kernel_rfl
theorem k28 : fnOk Go.Proofs.Try.prog 28 f28 = true := by kernel_rfl
theorem k29 : fnOk Go.Proofs.Try.prog 29 f29 = true := by kernel_rfl
theorem k30 : fnOk Go.Proofs.Try.prog 30 f30 = true := by kernel_rfl
theorem k31 : fnOk Go.Proofs.Try.prog 31 f31 = true := by kernel_rfl
theorem k32 : fnOk Go.Proofs.Try.prog 32 f32 = true := by kernel_rfl
theorem k33 : fnOk Go.Proofs.Try.prog 33 f33 = true := by kernel_rfl
theorem k34 : fnOk Go.Proofs.Try.prog 34 f34 = true := by kernel_rfl
theorem k35 : fnOk Go.Proofs.Try.prog 35 f35 = true := by kernel_rfl
theorem k36 : fnOk Go.Proofs.Try.prog 36 f36 = true := by kernel_rfl
theorem k37 : fnOk Go.Proofs.Try.prog 37 f37 = true := by kernel_rfl
theorem k38 : fnOk Go.Proofs.Try.prog 38 f38 = true := by kernel_rfl
theorem tabOk : TabOk Go.Proofs.Try.prog tab := by
  intro n fn h
  unfold tab at h
  split at h
  · cases h; exact k3
  · cases h; exact k4
  · cases h; exact k5
  · cases h; exact k6
  · cases h; exact k7
  · cases h; exact k8
  · cases h; exact k9
  · cases h; exact k10
  · cases h; exact k11
  · cases h; exact k12
  · cases h; exact k13
  · cases h; exact k14
  · cases h; exact k15
  · cases h; exact k16
  · cases h; exact k17
  · cases h; exact k18
  · cases h; exact k19
  · cases h; exact k20
  · cases h; exact k21
  · cases h; exact k22
  · cases h; exact k23
  · cases h; exact k24
  · cases h; exact k25
  · cases h; exact k26
  · cases h; exact k27
  · cases h; exact k28
  · cases h; exact k29
  · cases h; exact k30
  · cases h; exact k31
  · cases h; exact k32
  · cases h; exact k33
  · cases h; exact k34
  · cases h; exact k35
  · cases h; exact k36
  · cases h; exact k37
  · cases h; exact k38
  · cases h
end Zc55
