/-
  The types of what the laws are given.
-/
import Derived.Test.YtfijkolejdkpdaaTabOk
import Derived.Test.YtfijkolejdkpdaaZvRow
namespace Zc18
open Go Zv
def tys : List TypeId := [51, 54, 23]
def es : List ET := [.st [.s, .l 1], .st [.s, .l 2], .one (.i .i64)]
theorem typesOk : mtEs Go.Proofs.Try.prog tys tys es = true := by kernel_rfl
-- 3 cellarer/cellarerlaw18.ShapeLists: .one (.l 0), .one (.i .i64)
-- 4 cellarer/cellarerlaw18.ShapeInsides: .one (.l 0), .one (.i .i64), .one (.i .i64)
-- 5 cellarer/cellarerlaw18.ShapeNests: .st [.l 0, .i .i64, .i .i64, .i .i64]
-- 6 cellarer/cellarerlaw18.ShapeIndexes: .one (.l 0), .one (.i .i64), .st [.i .i64, .i .i64]
-- 7 cellarer/cellarerlaw18.ShapeUnique: .one (.l 0), .one (.i .i64)
-- 8 cellarer/cellarerlaw18.ShapeCloses: .one (.l 0), .one (.i .i64)
end Zc18
