/-
  The table's functions are the program's.
-/
import Derived.Test.YtfbkbopmenilkaaTab
import Derived.Test.YtfbkbopmenilkaaZwFun
import Derived.Test.YtfbkbopmenilkaaZwShift
import Derived.Test.YtfbkbopmenilkaaChecked
namespace Zc27
open Go Zv
theorem k3 : fnOk Go.Proofs.Try.prog tab 3 f3 = true := by kernel_rfl
theorem k4 : fnOk Go.Proofs.Try.prog tab 4 f4 = true := by kernel_rfl
theorem k6 : fnOk Go.Proofs.Try.prog tab 6 f6 = true := by kernel_rfl
theorem k7 : fnOk Go.Proofs.Try.prog tab 7 f7 = true := by kernel_rfl
theorem k9 : fnOk Go.Proofs.Try.prog tab 9 f9 = true := by kernel_rfl
theorem k10 : fnOk Go.Proofs.Try.prog tab 10 f10 = true := by kernel_rfl
theorem k11 : fnOk Go.Proofs.Try.prog tab 11 f11 = true := by kernel_rfl
theorem k12 : fnOk Go.Proofs.Try.prog tab 12 f12 = true := by kernel_rfl
theorem k13 : fnOk Go.Proofs.Try.prog tab 13 f13 = true := by kernel_rfl
theorem k14 : fnOk Go.Proofs.Try.prog tab 14 f14 = true := by kernel_rfl
theorem k15 : fnOk Go.Proofs.Try.prog tab 15 f15 = true := by kernel_rfl
theorem k16 : fnOk Go.Proofs.Try.prog tab 16 f16 = true := by kernel_rfl
theorem k17 : fnOk Go.Proofs.Try.prog tab 17 f17 = true := by kernel_rfl
theorem k18 : fnOk Go.Proofs.Try.prog tab 18 f18 = true := by kernel_rfl
theorem k19 : fnOk Go.Proofs.Try.prog tab 19 f19 = true := by kernel_rfl
theorem k21 : fnOk Go.Proofs.Try.prog tab 21 f21 = true := by kernel_rfl
theorem k22 : fnOk Go.Proofs.Try.prog tab 22 f22 = true := by kernel_rfl
theorem k23 : fnOk Go.Proofs.Try.prog tab 23 f23 = true := by kernel_rfl
theorem k24 : fnOk Go.Proofs.Try.prog tab 24 f24 = true := by kernel_rfl
theorem k25 : fnOk Go.Proofs.Try.prog tab 25 f25 = true := by kernel_rfl
theorem k26 : fnOk Go.Proofs.Try.prog tab 26 f26 = true := by kernel_rfl
theorem k27 : fnOk Go.Proofs.Try.prog tab 27 f27 = true := by kernel_rfl
theorem k29 : fnOk Go.Proofs.Try.prog tab 29 f29 = true := by kernel_rfl
theorem k30 : fnOk Go.Proofs.Try.prog tab 30 f30 = true := by kernel_rfl
theorem k31 : fnOk Go.Proofs.Try.prog tab 31 f31 = true := by kernel_rfl
theorem k32 : fnOk Go.Proofs.Try.prog tab 32 f32 = true := by kernel_rfl
theorem k33 : fnOk Go.Proofs.Try.prog tab 33 f33 = true := by kernel_rfl
theorem k34 : fnOk Go.Proofs.Try.prog tab 34 f34 = true := by kernel_rfl
theorem k35 : fnOk Go.Proofs.Try.prog tab 35 f35 = true := by kernel_rfl
theorem k36 : fnOk Go.Proofs.Try.prog tab 36 f36 = true := by kernel_rfl
theorem k37 : fnOk Go.Proofs.Try.prog tab 37 f37 = true := by kernel_rfl
theorem k38 : fnOk Go.Proofs.Try.prog tab 38 f38 = true := by kernel_rfl
theorem k39 : fnOk Go.Proofs.Try.prog tab 39 f39 = true := by kernel_rfl
theorem k40 : fnOk Go.Proofs.Try.prog tab 40 f40 = true := by kernel_rfl
theorem k41 : fnOk Go.Proofs.Try.prog tab 41 f41 = true := by kernel_rfl
theorem k42 : fnOk Go.Proofs.Try.prog tab 42 f42 = true := by kernel_rfl
theorem k43 : fnOk Go.Proofs.Try.prog tab 43 f43 = true := by kernel_rfl
theorem k44 : fnOk Go.Proofs.Try.prog tab 44 f44 = true := by kernel_rfl
theorem k45 : fnOk Go.Proofs.Try.prog tab 45 f45 = true := by kernel_rfl
theorem k46 : fnOk Go.Proofs.Try.prog tab 46 f46 = true := by kernel_rfl
theorem k47 : fnOk Go.Proofs.Try.prog tab 47 f47 = true := by kernel_rfl
theorem k48 : fnOk Go.Proofs.Try.prog tab 48 f48 = true := by kernel_rfl
theorem k49 : fnOk Go.Proofs.Try.prog tab 49 f49 = true := by kernel_rfl
theorem k50 : fnOk Go.Proofs.Try.prog tab 50 f50 = true := by kernel_rfl
theorem k51 : fnOk Go.Proofs.Try.prog tab 51 f51 = true := by kernel_rfl
theorem k53 : fnOk Go.Proofs.Try.prog tab 53 f53 = true := by kernel_rfl
theorem k54 : fnOk Go.Proofs.Try.prog tab 54 f54 = true := by kernel_rfl
theorem k55 : fnOk Go.Proofs.Try.prog tab 55 f55 = true := by kernel_rfl
theorem k56 : fnOk Go.Proofs.Try.prog tab 56 f56 = true := by kernel_rfl
theorem k57 : fnOk Go.Proofs.Try.prog tab 57 f57 = true := by kernel_rfl
theorem k58 : fnOk Go.Proofs.Try.prog tab 58 f58 = true := by kernel_rfl
theorem k59 : fnOk Go.Proofs.Try.prog tab 59 f59 = true := by kernel_rfl
theorem k62 : fnOk Go.Proofs.Try.prog tab 62 f62 = true := by kernel_rfl
theorem k63 : fnOk Go.Proofs.Try.prog tab 63 f63 = true := by kernel_rfl
theorem k64 : fnOk Go.Proofs.Try.prog tab 64 f64 = true := by kernel_rfl
theorem k65 : fnOk Go.Proofs.Try.prog tab 65 f65 = true := by kernel_rfl
theorem k66 : fnOk Go.Proofs.Try.prog tab 66 f66 = true := by kernel_rfl
theorem k67 : fnOk Go.Proofs.Try.prog tab 67 f67 = true := by kernel_rfl
theorem k68 : fnOk Go.Proofs.Try.prog tab 68 f68 = true := by kernel_rfl
theorem k69 : fnOk Go.Proofs.Try.prog tab 69 f69 = true := by kernel_rfl
theorem k70 : fnOk Go.Proofs.Try.prog tab 70 f70 = true := by kernel_rfl
theorem k71 : fnOk Go.Proofs.Try.prog tab 71 f71 = true := by kernel_rfl
theorem k72 : fnOk Go.Proofs.Try.prog tab 72 f72 = true := by kernel_rfl
theorem k73 : fnOk Go.Proofs.Try.prog tab 73 f73 = true := by kernel_rfl
theorem k74 : fnOk Go.Proofs.Try.prog tab 74 f74 = true := by kernel_rfl
theorem k75 : fnOk Go.Proofs.Try.prog tab 75 f75 = true := by kernel_rfl
theorem k76 : fnOk Go.Proofs.Try.prog tab 76 f76 = true := by kernel_rfl
theorem k77 : fnOk Go.Proofs.Try.prog tab 77 f77 = true := by kernel_rfl
theorem k78 : fnOk Go.Proofs.Try.prog tab 78 f78 = true := by kernel_rfl
theorem k79 : fnOk Go.Proofs.Try.prog tab 79 f79 = true := by kernel_rfl
theorem k80 : fnOk Go.Proofs.Try.prog tab 80 f80 = true := by kernel_rfl
theorem k81 : fnOk Go.Proofs.Try.prog tab 81 f81 = true := by kernel_rfl
theorem k82 : fnOk Go.Proofs.Try.prog tab 82 f82 = true := by kernel_rfl
theorem k83 : fnOk Go.Proofs.Try.prog tab 83 f83 = true := by kernel_rfl
theorem k84 : fnOk Go.Proofs.Try.prog tab 84 f84 = true := by kernel_rfl
theorem k87 : fnOk Go.Proofs.Try.prog tab 87 f87 = true := by kernel_rfl
theorem k88 : fnOk Go.Proofs.Try.prog tab 88 f88 = true := by kernel_rfl
theorem k89 : fnOk Go.Proofs.Try.prog tab 89 f89 = true := by kernel_rfl
theorem k90 : fnOk Go.Proofs.Try.prog tab 90 f90 = true := by kernel_rfl
theorem k91 : fnOk Go.Proofs.Try.prog tab 91 f91 = true := by kernel_rfl
theorem k92 : fnOk Go.Proofs.Try.prog tab 92 f92 = true := by kernel_rfl
theorem k93 : fnOk Go.Proofs.Try.prog tab 93 f93 = true := by kernel_rfl
theorem k94 : fnOk Go.Proofs.Try.prog tab 94 f94 = true := by kernel_rfl
theorem k95 : fnOk Go.Proofs.Try.prog tab 95 f95 = true := by kernel_rfl
theorem k96 : fnOk Go.Proofs.Try.prog tab 96 f96 = true := by kernel_rfl
theorem k97 : fnOk Go.Proofs.Try.prog tab 97 f97 = true := by kernel_rfl
theorem k98 : fnOk Go.Proofs.Try.prog tab 98 f98 = true := by kernel_rfl
theorem k99 : fnOk Go.Proofs.Try.prog tab 99 f99 = true := by kernel_rfl
theorem k100 : fnOk Go.Proofs.Try.prog tab 100 f100 = true := by kernel_rfl
theorem tabOk : TabOk Go.Proofs.Try.prog tab := by
  intro n fn hlt h
  unfold tab at h
  split at h
  · cases h; exact .inl k3
  · cases h; exact .inl k4
  · cases h; exact .inl k6
  · cases h; exact .inl k7
  · cases h; exact .inl k9
  · cases h; exact .inl k10
  · cases h; exact .inl k11
  · cases h; exact .inl k12
  · cases h; exact .inl k13
  · cases h; exact .inl k14
  · cases h; exact .inl k15
  · cases h; exact .inl k16
  · cases h; exact .inl k17
  · cases h; exact .inl k18
  · cases h; exact .inl k19
  · cases h; exact .inl k21
  · cases h; exact .inl k22
  · cases h; exact .inl k23
  · cases h; exact .inl k24
  · cases h; exact .inl k25
  · cases h; exact .inl k26
  · cases h; exact .inl k27
  · cases h; exact .inl k29
  · cases h; exact .inl k30
  · cases h; exact .inl k31
  · cases h; exact .inl k32
  · cases h; exact .inl k33
  · cases h; exact .inl k34
  · cases h; exact .inl k35
  · cases h; exact .inl k36
  · cases h; exact .inl k37
  · cases h; exact .inl k38
  · cases h; exact .inl k39
  · cases h; exact .inl k40
  · cases h; exact .inl k41
  · cases h; exact .inl k42
  · cases h; exact .inl k43
  · cases h; exact .inl k44
  · exact absurd hlt (by decide)
  · cases h; exact .inl k45
  · cases h; exact .inl k46
  · cases h; exact .inl k47
  · cases h; exact .inl k48
  · cases h; exact .inl k49
  · cases h; exact .inl k50
  · cases h; exact .inl k51
  · exact absurd hlt (by decide)
  · cases h; exact .inl k53
  · cases h; exact .inl k54
  · cases h; exact .inl k55
  · cases h; exact .inl k56
  · cases h; exact .inl k57
  · cases h; exact .inl k58
  · cases h; exact .inl k59
  · cases h; exact .inl k62
  · cases h; exact .inl k63
  · cases h; exact .inl k64
  · cases h; exact .inl k65
  · cases h; exact .inl k66
  · cases h; exact .inl k67
  · cases h; exact .inl k68
  · cases h; exact .inl k69
  · cases h; exact .inl k70
  · cases h; exact .inl k71
  · cases h; exact .inl k72
  · cases h; exact .inl k73
  · cases h; exact .inl k74
  · cases h; exact .inl k75
  · cases h; exact .inl k76
  · cases h; exact .inl k77
  · cases h; exact .inl k78
  · cases h; exact .inl k79
  · cases h; exact .inl k80
  · cases h; exact .inl k81
  · cases h; exact .inl k82
  · cases h; exact .inl k83
  · cases h; exact .inl k84
  · cases h; exact .inl k87
  · cases h; exact .inl k88
  · cases h; exact .inl k89
  · cases h; exact .inl k90
  · cases h; exact .inl k91
  · cases h; exact .inl k92
  · cases h; exact .inl k93
  · cases h; exact .inl k94
  · cases h; exact .inl k95
  · cases h; exact .inl k96
  · cases h; exact .inl k97
  · cases h; exact .inl k98
  · cases h; exact .inl k99
  · cases h; exact .inl k100
  · cases h
theorem c3 : clC f3.body = true := by kernel_rfl
theorem c4 : clC f4.body = true := by kernel_rfl
theorem c6 : clC f6.body = true := by kernel_rfl
theorem c7 : clC f7.body = true := by kernel_rfl
theorem c9 : clC f9.body = true := by kernel_rfl
theorem c10 : clC f10.body = true := by kernel_rfl
theorem c11 : clC f11.body = true := by kernel_rfl
theorem c12 : clC f12.body = true := by kernel_rfl
theorem c13 : clC f13.body = true := by kernel_rfl
theorem c14 : clC f14.body = true := by kernel_rfl
theorem c15 : clC f15.body = true := by kernel_rfl
theorem c16 : clC f16.body = true := by kernel_rfl
theorem c17 : clC f17.body = true := by kernel_rfl
theorem c18 : clC f18.body = true := by kernel_rfl
theorem c19 : clC f19.body = true := by kernel_rfl
theorem c21 : clC f21.body = true := by kernel_rfl
theorem c22 : clC f22.body = true := by kernel_rfl
theorem c23 : clC f23.body = true := by kernel_rfl
theorem c24 : clC f24.body = true := by kernel_rfl
theorem c25 : clC f25.body = true := by kernel_rfl
theorem c26 : clC f26.body = true := by kernel_rfl
theorem c27 : clC f27.body = true := by kernel_rfl
theorem c29 : clC f29.body = true := by kernel_rfl
theorem c30 : clC f30.body = true := by kernel_rfl
theorem c31 : clC f31.body = true := by kernel_rfl
theorem c32 : clC f32.body = true := by kernel_rfl
theorem c33 : clC f33.body = true := by kernel_rfl
theorem c34 : clC f34.body = true := by kernel_rfl
theorem c35 : clC f35.body = true := by kernel_rfl
theorem c36 : clC f36.body = true := by kernel_rfl
theorem c37 : clC f37.body = true := by kernel_rfl
theorem c38 : clC f38.body = true := by kernel_rfl
theorem c39 : clC f39.body = true := by kernel_rfl
theorem c40 : clC f40.body = true := by kernel_rfl
theorem c41 : clC f41.body = true := by kernel_rfl
theorem c42 : clC f42.body = true := by kernel_rfl
theorem c43 : clC f43.body = true := by kernel_rfl
theorem c44 : clC f44.body = true := by kernel_rfl
theorem c1000704 : clC f1000704.body = true := by kernel_rfl
theorem c45 : clC f45.body = true := by kernel_rfl
theorem c46 : clC f46.body = true := by kernel_rfl
theorem c47 : clC f47.body = true := by kernel_rfl
theorem c48 : clC f48.body = true := by kernel_rfl
theorem c49 : clC f49.body = true := by kernel_rfl
theorem c50 : clC f50.body = true := by kernel_rfl
theorem c51 : clC f51.body = true := by kernel_rfl
theorem c1000816 : clC f1000816.body = true := by kernel_rfl
theorem c53 : clC f53.body = true := by kernel_rfl
theorem c54 : clC f54.body = true := by kernel_rfl
theorem c55 : clC f55.body = true := by kernel_rfl
theorem c56 : clC f56.body = true := by kernel_rfl
theorem c57 : clC f57.body = true := by kernel_rfl
theorem c58 : clC f58.body = true := by kernel_rfl
theorem c59 : clC f59.body = true := by kernel_rfl
theorem c62 : clC f62.body = true := by kernel_rfl
theorem c63 : clC f63.body = true := by kernel_rfl
theorem c64 : clC f64.body = true := by kernel_rfl
theorem c65 : clC f65.body = true := by kernel_rfl
theorem c66 : clC f66.body = true := by kernel_rfl
theorem c67 : clC f67.body = true := by kernel_rfl
theorem c68 : clC f68.body = true := by kernel_rfl
theorem c69 : clC f69.body = true := by kernel_rfl
theorem c70 : clC f70.body = true := by kernel_rfl
theorem c71 : clC f71.body = true := by kernel_rfl
theorem c72 : clC f72.body = true := by kernel_rfl
theorem c73 : clC f73.body = true := by kernel_rfl
theorem c74 : clC f74.body = true := by kernel_rfl
theorem c75 : clC f75.body = true := by kernel_rfl
theorem c76 : clC f76.body = true := by kernel_rfl
theorem c77 : clC f77.body = true := by kernel_rfl
theorem c78 : clC f78.body = true := by kernel_rfl
theorem c79 : clC f79.body = true := by kernel_rfl
theorem c80 : clC f80.body = true := by kernel_rfl
theorem c81 : clC f81.body = true := by kernel_rfl
theorem c82 : clC f82.body = true := by kernel_rfl
theorem c83 : clC f83.body = true := by kernel_rfl
theorem c84 : clC f84.body = true := by kernel_rfl
theorem c87 : clC f87.body = true := by kernel_rfl
theorem c88 : clC f88.body = true := by kernel_rfl
theorem c89 : clC f89.body = true := by kernel_rfl
theorem c90 : clC f90.body = true := by kernel_rfl
theorem c91 : clC f91.body = true := by kernel_rfl
theorem c92 : clC f92.body = true := by kernel_rfl
theorem c93 : clC f93.body = true := by kernel_rfl
theorem c94 : clC f94.body = true := by kernel_rfl
theorem c95 : clC f95.body = true := by kernel_rfl
theorem c96 : clC f96.body = true := by kernel_rfl
theorem c97 : clC f97.body = true := by kernel_rfl
theorem c98 : clC f98.body = true := by kernel_rfl
theorem c99 : clC f99.body = true := by kernel_rfl
theorem c100 : clC f100.body = true := by kernel_rfl
theorem tabCl : TabCl tab := by
  intro n fn h
  unfold tab at h
  split at h
  · cases h; exact c3
  · cases h; exact c4
  · cases h; exact c6
  · cases h; exact c7
  · cases h; exact c9
  · cases h; exact c10
  · cases h; exact c11
  · cases h; exact c12
  · cases h; exact c13
  · cases h; exact c14
  · cases h; exact c15
  · cases h; exact c16
  · cases h; exact c17
  · cases h; exact c18
  · cases h; exact c19
  · cases h; exact c21
  · cases h; exact c22
  · cases h; exact c23
  · cases h; exact c24
  · cases h; exact c25
  · cases h; exact c26
  · cases h; exact c27
  · cases h; exact c29
  · cases h; exact c30
  · cases h; exact c31
  · cases h; exact c32
  · cases h; exact c33
  · cases h; exact c34
  · cases h; exact c35
  · cases h; exact c36
  · cases h; exact c37
  · cases h; exact c38
  · cases h; exact c39
  · cases h; exact c40
  · cases h; exact c41
  · cases h; exact c42
  · cases h; exact c43
  · cases h; exact c44
  · cases h; exact c1000704
  · cases h; exact c45
  · cases h; exact c46
  · cases h; exact c47
  · cases h; exact c48
  · cases h; exact c49
  · cases h; exact c50
  · cases h; exact c51
  · cases h; exact c1000816
  · cases h; exact c53
  · cases h; exact c54
  · cases h; exact c55
  · cases h; exact c56
  · cases h; exact c57
  · cases h; exact c58
  · cases h; exact c59
  · cases h; exact c62
  · cases h; exact c63
  · cases h; exact c64
  · cases h; exact c65
  · cases h; exact c66
  · cases h; exact c67
  · cases h; exact c68
  · cases h; exact c69
  · cases h; exact c70
  · cases h; exact c71
  · cases h; exact c72
  · cases h; exact c73
  · cases h; exact c74
  · cases h; exact c75
  · cases h; exact c76
  · cases h; exact c77
  · cases h; exact c78
  · cases h; exact c79
  · cases h; exact c80
  · cases h; exact c81
  · cases h; exact c82
  · cases h; exact c83
  · cases h; exact c84
  · cases h; exact c87
  · cases h; exact c88
  · cases h; exact c89
  · cases h; exact c90
  · cases h; exact c91
  · cases h; exact c92
  · cases h; exact c93
  · cases h; exact c94
  · cases h; exact c95
  · cases h; exact c96
  · cases h; exact c97
  · cases h; exact c98
  · cases h; exact c99
  · cases h; exact c100
  · cases h
end Zc27
