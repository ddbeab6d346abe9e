/-
  The table's functions are the program's.
-/
import Derived.Test.YtfijkolejdkpdaaTab
import Derived.Test.YtfijkolejdkpdaaZvFun
import Derived.Test.YtfijkolejdkpdaaZvShift
import Derived.Test.YtfijkolejdkpdaaChecked
import Derived.Test.YtfijkolejdkpdaaZvJoin
namespace Go.Proofs
open Go.Shelf Go.RowKit
def Try.zLays0_ren : Ren where
  f := fun x => match x with
    | 156 => 27
    | 165 => 46
    | 166 => 47
    | 169 => 48
    | 240 => 62
    | 241 => 63
    | 276 => 65
    | 277 => 66
    | n => n
  t := fun x => match x with
    | 31 => 57
    | 9 => 9
    | 3 => 3
    | 4 => 4
    | 0 => 0
    | 20 => 20
    | 72 => 71
    | 76 => 75
    | 70 => 68
    | 37 => 69
    | 75 => 74
    | 127 => 86
    | 164 => 88
    | 5 => 5
    | 80 => 77
    | n => n
  g := fun x => x
theorem Try.zLays0 : Lays.n156 Try.prog Try.zLays0_ren where
  mixed := by kernel_rfl
  f156 := by kernel_rfl
  f165 := by kernel_rfl
  f166 := by kernel_rfl
  f169 := by kernel_rfl
  f240 := by kernel_rfl
  f241 := by kernel_rfl
  f276 := by kernel_rfl
  f277 := by kernel_rfl
  t0 := by kernel_rfl
  a0 := fun _ => by kernel_rfl
  z0 := fun _ => by kernel_rfl
  v0 := fun _ => by kernel_rfl
  t3 := by kernel_rfl
  a3 := fun _ => by kernel_rfl
  z3 := fun _ => by kernel_rfl
  v3 := fun _ => by kernel_rfl
  t4 := by kernel_rfl
  a4 := fun _ => by kernel_rfl
  z4 := fun _ => by kernel_rfl
  v4 := fun _ => by kernel_rfl
  t9 := by kernel_rfl
  a9 := fun _ => by kernel_rfl
  z9 := fun _ => by kernel_rfl
  v9 := fun _ => by kernel_rfl
  t20 := by kernel_rfl
  a20 := fun _ => by kernel_rfl
  z20 := fun _ => by kernel_rfl
  v20 := fun _ => by kernel_rfl
  t31 := by kernel_rfl
  a31 := fun _ => by kernel_rfl
  z31 := fun _ => by kernel_rfl
  v31 := fun _ => by kernel_rfl
  t37 := by kernel_rfl
  a37 := fun _ => by kernel_rfl
  z37 := fun _ => by kernel_rfl
  v37 := fun _ => by kernel_rfl
  t70 := by kernel_rfl
  a70 := fun _ => by kernel_rfl
  z70 := fun _ => by kernel_rfl
  v70 := fun _ => by kernel_rfl
  t72 := by kernel_rfl
  a72 := fun _ => by kernel_rfl
  z72 := fun _ => by kernel_rfl
  v72 := fun _ => by kernel_rfl
  t75 := by kernel_rfl
  a75 := fun _ => by kernel_rfl
  z75 := fun _ => by kernel_rfl
  v75 := fun _ => by kernel_rfl
  t76 := by kernel_rfl
  a76 := fun _ => by kernel_rfl
  z76 := fun _ => by kernel_rfl
  v76 := fun _ => by kernel_rfl
  t127 := by kernel_rfl
  a127 := fun _ => by kernel_rfl
  z127 := fun _ => by kernel_rfl
  v127 := fun _ => by kernel_rfl
  t164 := by kernel_rfl
  a164 := fun _ => by kernel_rfl
  z164 := fun _ => by kernel_rfl
  v164 := fun _ => by kernel_rfl
theorem Try.zExtra0 : Builder.Extra Try.prog Try.zLays0_ren where
  sizeBuilder := by kernel_rfl
  liesBuilder := by kernel_rfl
  t5 := by kernel_rfl
  a5 := fun _ => by kernel_rfl
  z5 := fun _ => by kernel_rfl
  v5 := fun _ => by kernel_rfl
  infoByte := by kernel_rfl
  cellsByte := by kernel_rfl
  sizeByte := by kernel_rfl
  neB5 := by decide
end Go.Proofs
namespace Zc18
open Go Zv
theorem k27 : PrimOk Go.Proofs.Try.prog 27 0 := prim_join Go.Proofs.Try.zLays0 Go.Proofs.Try.zExtra0
theorem k3 : fnOk Go.Proofs.Try.prog 3 f3 = true := by kernel_rfl
theorem k4 : fnOk Go.Proofs.Try.prog 4 f4 = true := by kernel_rfl
theorem k5 : fnOk Go.Proofs.Try.prog 5 f5 = true := by kernel_rfl
theorem k6 : fnOk Go.Proofs.Try.prog 6 f6 = true := by kernel_rfl
theorem k7 : fnOk Go.Proofs.Try.prog 7 f7 = true := by kernel_rfl
theorem k8 : fnOk Go.Proofs.Try.prog 8 f8 = true := by kernel_rfl
theorem k9 : fnOk Go.Proofs.Try.prog 9 f9 = true := by kernel_rfl
theorem k10 : fnOk Go.Proofs.Try.prog 10 f10 = true := by kernel_rfl
theorem k11 : fnOk Go.Proofs.Try.prog 11 f11 = true := by kernel_rfl
theorem k12 : fnOk Go.Proofs.Try.prog 12 f12 = true := by kernel_rfl
theorem k13 : fnOk Go.Proofs.Try.prog 13 f13 = true := by kernel_rfl
theorem k14 : fnOk Go.Proofs.Try.prog 14 f14 = true := by kernel_rfl
theorem k15 : fnOk Go.Proofs.Try.prog 15 f15 = true := by kernel_rfl
theorem k16 : fnOk Go.Proofs.Try.prog 16 f16 = true := by kernel_rfl
theorem k17 : fnOk Go.Proofs.Try.prog 17 f17 = true := by kernel_rfl
theorem k18 : fnOk Go.Proofs.Try.prog 18 f18 = true := by kernel_rfl
theorem k19 : fnOk Go.Proofs.Try.prog 19 f19 = true := by kernel_rfl
theorem k20 : fnOk Go.Proofs.Try.prog 20 f20 = true := by kernel_rfl
theorem k21 : fnOk Go.Proofs.Try.prog 21 f21 = true := by kernel_rfl
theorem k22 : fnOk Go.Proofs.Try.prog 22 f22 = true := by kernel_rfl
theorem k23 : fnOk Go.Proofs.Try.prog 23 f23 = true := by kernel_rfl
theorem k24 : fnOk Go.Proofs.Try.prog 24 f24 = true := by kernel_rfl
theorem k25 : fnOk Go.Proofs.Try.prog 25 f25 = true := by kernel_rfl
theorem k26 : fnOk Go.Proofs.Try.prog 26 f26 = true := by kernel_rfl
theorem k28 : fnOk Go.Proofs.Try.prog 28 f28 = true := by kernel_rfl
theorem k29 : fnOk Go.Proofs.Try.prog 29 f29 = true := by kernel_rfl
theorem k30 : fnOk Go.Proofs.Try.prog 30 f30 = true := by kernel_rfl
theorem k31 : fnOk Go.Proofs.Try.prog 31 f31 = true := by kernel_rfl
theorem k32 : fnOk Go.Proofs.Try.prog 32 f32 = true := by kernel_rfl
theorem k33 : fnOk Go.Proofs.Try.prog 33 f33 = true := by kernel_rfl
theorem k34 : fnOk Go.Proofs.Try.prog 34 f34 = true := by kernel_rfl
theorem k35 : fnOk Go.Proofs.Try.prog 35 f35 = true := by kernel_rfl
theorem k36 : fnOk Go.Proofs.Try.prog 36 f36 = true := by kernel_rfl
theorem k37 : fnOk Go.Proofs.Try.prog 37 f37 = true := by kernel_rfl
theorem k38 : fnOk Go.Proofs.Try.prog 38 f38 = true := by kernel_rfl
theorem k39 : fnOk Go.Proofs.Try.prog 39 f39 = true := by kernel_rfl
theorem k40 : fnOk Go.Proofs.Try.prog 40 f40 = true := by kernel_rfl
theorem k41 : fnOk Go.Proofs.Try.prog 41 f41 = true := by kernel_rfl
theorem k42 : fnOk Go.Proofs.Try.prog 42 f42 = true := by kernel_rfl
theorem k43 : fnOk Go.Proofs.Try.prog 43 f43 = true := by kernel_rfl
theorem k44 : fnOk Go.Proofs.Try.prog 44 f44 = true := by kernel_rfl
theorem k45 : fnOk Go.Proofs.Try.prog 45 f45 = true := by kernel_rfl
theorem k49 : fnOk Go.Proofs.Try.prog 49 f49 = true := by kernel_rfl
theorem k50 : fnOk Go.Proofs.Try.prog 50 f50 = true := by kernel_rfl
theorem k51 : fnOk Go.Proofs.Try.prog 51 f51 = true := by kernel_rfl
theorem k52 : fnOk Go.Proofs.Try.prog 52 f52 = true := by kernel_rfl
theorem k53 : fnOk Go.Proofs.Try.prog 53 f53 = true := by kernel_rfl
theorem k54 : fnOk Go.Proofs.Try.prog 54 f54 = true := by kernel_rfl
theorem k55 : fnOk Go.Proofs.Try.prog 55 f55 = true := by kernel_rfl
theorem k56 : fnOk Go.Proofs.Try.prog 56 f56 = true := by kernel_rfl
theorem k57 : fnOk Go.Proofs.Try.prog 57 f57 = true := by kernel_rfl
theorem k58 : fnOk Go.Proofs.Try.prog 58 f58 = true := by kernel_rfl
theorem k59 : fnOk Go.Proofs.Try.prog 59 f59 = true := by kernel_rfl
theorem k60 : fnOk Go.Proofs.Try.prog 60 f60 = true := by kernel_rfl
theorem k61 : fnOk Go.Proofs.Try.prog 61 f61 = true := by kernel_rfl
theorem k64 : fnOk Go.Proofs.Try.prog 64 f64 = true := by kernel_rfl
theorem tabOk : TabOk Go.Proofs.Try.prog tab := by
  intro n fn h
  unfold tab at h
  split at h
  · cases h; exact .inl k3
  · cases h; exact .inl k4
  · cases h; exact .inl k5
  · cases h; exact .inl k6
  · cases h; exact .inl k7
  · cases h; exact .inl k8
  · cases h; exact .inl k9
  · cases h; exact .inl k10
  · cases h; exact .inl k11
  · cases h; exact .inl k12
  · cases h; exact .inl k13
  · cases h; exact .inl k14
  · cases h; exact .inl k15
  · cases h; exact .inl k16
  · cases h; exact .inl k17
  · cases h; exact .inl k18
  · cases h; exact .inl k19
  · cases h; exact .inl k20
  · cases h; exact .inl k21
  · cases h; exact .inl k22
  · cases h; exact .inl k23
  · cases h; exact .inl k24
  · cases h; exact .inl k25
  · cases h; exact .inl k26
  · cases h; exact .inr ⟨0, rfl, k27⟩
  · cases h; exact .inl k28
  · cases h; exact .inl k29
  · cases h; exact .inl k30
  · cases h; exact .inl k31
  · cases h; exact .inl k32
  · cases h; exact .inl k33
  · cases h; exact .inl k34
  · cases h; exact .inl k35
  · cases h; exact .inl k36
  · cases h; exact .inl k37
  · cases h; exact .inl k38
  · cases h; exact .inl k39
  · cases h; exact .inl k40
  · cases h; exact .inl k41
  · cases h; exact .inl k42
  · cases h; exact .inl k43
  · cases h; exact .inl k44
  · cases h; exact .inl k45
  · cases h; exact .inl k49
  · cases h; exact .inl k50
  · cases h; exact .inl k51
  · cases h; exact .inl k52
  · cases h; exact .inl k53
  · cases h; exact .inl k54
  · cases h; exact .inl k55
  · cases h; exact .inl k56
  · cases h; exact .inl k57
  · cases h; exact .inl k58
  · cases h; exact .inl k59
  · cases h; exact .inl k60
  · cases h; exact .inl k61
  · cases h; exact .inl k64
  · cases h
theorem c3 : clC f3.body = true := by kernel_rfl
theorem c4 : clC f4.body = true := by kernel_rfl
theorem c5 : clC f5.body = true := by kernel_rfl
theorem c6 : clC f6.body = true := by kernel_rfl
theorem c7 : clC f7.body = true := by kernel_rfl
theorem c8 : clC f8.body = true := by kernel_rfl
theorem c9 : clC f9.body = true := by kernel_rfl
theorem c10 : clC f10.body = true := by kernel_rfl
theorem c11 : clC f11.body = true := by kernel_rfl
theorem c12 : clC f12.body = true := by kernel_rfl
theorem c13 : clC f13.body = true := by kernel_rfl
theorem c14 : clC f14.body = true := by kernel_rfl
theorem c15 : clC f15.body = true := by kernel_rfl
theorem c16 : clC f16.body = true := by kernel_rfl
theorem c17 : clC f17.body = true := by kernel_rfl
theorem c18 : clC f18.body = true := by kernel_rfl
theorem c19 : clC f19.body = true := by kernel_rfl
theorem c20 : clC f20.body = true := by kernel_rfl
theorem c21 : clC f21.body = true := by kernel_rfl
theorem c22 : clC f22.body = true := by kernel_rfl
theorem c23 : clC f23.body = true := by kernel_rfl
theorem c24 : clC f24.body = true := by kernel_rfl
theorem c25 : clC f25.body = true := by kernel_rfl
theorem c26 : clC f26.body = true := by kernel_rfl
theorem c27 : clC f27.body = true := by kernel_rfl
theorem c28 : clC f28.body = true := by kernel_rfl
theorem c29 : clC f29.body = true := by kernel_rfl
theorem c30 : clC f30.body = true := by kernel_rfl
theorem c31 : clC f31.body = true := by kernel_rfl
theorem c32 : clC f32.body = true := by kernel_rfl
theorem c33 : clC f33.body = true := by kernel_rfl
theorem c34 : clC f34.body = true := by kernel_rfl
theorem c35 : clC f35.body = true := by kernel_rfl
theorem c36 : clC f36.body = true := by kernel_rfl
theorem c37 : clC f37.body = true := by kernel_rfl
theorem c38 : clC f38.body = true := by kernel_rfl
theorem c39 : clC f39.body = true := by kernel_rfl
theorem c40 : clC f40.body = true := by kernel_rfl
theorem c41 : clC f41.body = true := by kernel_rfl
theorem c42 : clC f42.body = true := by kernel_rfl
theorem c43 : clC f43.body = true := by kernel_rfl
theorem c44 : clC f44.body = true := by kernel_rfl
theorem c45 : clC f45.body = true := by kernel_rfl
theorem c49 : clC f49.body = true := by kernel_rfl
theorem c50 : clC f50.body = true := by kernel_rfl
theorem c51 : clC f51.body = true := by kernel_rfl
theorem c52 : clC f52.body = true := by kernel_rfl
theorem c53 : clC f53.body = true := by kernel_rfl
theorem c54 : clC f54.body = true := by kernel_rfl
theorem c55 : clC f55.body = true := by kernel_rfl
theorem c56 : clC f56.body = true := by kernel_rfl
theorem c57 : clC f57.body = true := by kernel_rfl
theorem c58 : clC f58.body = true := by kernel_rfl
theorem c59 : clC f59.body = true := by kernel_rfl
theorem c60 : clC f60.body = true := by kernel_rfl
theorem c61 : clC f61.body = true := by kernel_rfl
theorem c64 : clC f64.body = true := by kernel_rfl
theorem tabCl : TabCl tab := by
  intro n fn h
  unfold tab at h
  split at h
  · cases h; exact c3
  · cases h; exact c4
  · cases h; exact c5
  · cases h; exact c6
  · cases h; exact c7
  · cases h; exact c8
  · cases h; exact c9
  · cases h; exact c10
  · cases h; exact c11
  · cases h; exact c12
  · cases h; exact c13
  · cases h; exact c14
  · cases h; exact c15
  · cases h; exact c16
  · cases h; exact c17
  · cases h; exact c18
  · cases h; exact c19
  · cases h; exact c20
  · cases h; exact c21
  · cases h; exact c22
  · cases h; exact c23
  · cases h; exact c24
  · cases h; exact c25
  · cases h; exact c26
  · cases h; exact c27
  · cases h; exact c28
  · cases h; exact c29
  · cases h; exact c30
  · cases h; exact c31
  · cases h; exact c32
  · cases h; exact c33
  · cases h; exact c34
  · cases h; exact c35
  · cases h; exact c36
  · cases h; exact c37
  · cases h; exact c38
  · cases h; exact c39
  · cases h; exact c40
  · cases h; exact c41
  · cases h; exact c42
  · cases h; exact c43
  · cases h; exact c44
  · cases h; exact c45
  · cases h; exact c49
  · cases h; exact c50
  · cases h; exact c51
  · cases h; exact c52
  · cases h; exact c53
  · cases h; exact c54
  · cases h; exact c55
  · cases h; exact c56
  · cases h; exact c57
  · cases h; exact c58
  · cases h; exact c59
  · cases h; exact c60
  · cases h; exact c61
  · cases h; exact c64
  · cases h
end Zc18
