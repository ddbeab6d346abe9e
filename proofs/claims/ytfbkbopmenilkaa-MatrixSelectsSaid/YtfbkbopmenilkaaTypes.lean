/-
  The types of what the laws are given.
-/
import Derived.Test.YtfbkbopmenilkaaTabOk
import Derived.Test.YtfbkbopmenilkaaZwRow
namespace Zc27
open Go Zv
def tys : List TypeId := [89, 86, 60, 32, 70, 54]
def es : List ET := [.st [.s, .l 1], .st [.s, .l 2], .one (.i .i64), .one (.l 4), .st [.i .i64, .i .i64, .i .i64, .l 4], .st [.i .i64, .i .i64, .l 5]]
theorem typesOk : mtEs Go.Proofs.Try.prog tys tys es = true := by kernel_rfl
-- 3 cellarer/cellarerlaw27.MatrixChecks: .one (.l 0), .one (.l 2), .one (.l 3)
-- 4 cellarer/cellarerlaw27.MatrixUseful: .st [.l 0, .l 2, .l 3, .l 4]
-- 5 cellarer/cellarerlaw27.MatrixWitness: .one (.l 0), .one (.l 2), .one (.l 3)
-- 6 cellarer/cellarerlaw27.MatrixExhausts: .one (.l 0), .one (.l 2), .one (.l 3)
-- 7 cellarer/cellarerlaw27.MatrixSelects: .one (.l 3), .one (.l 5)
-- 8 cellarer/cellarerlaw27.MatrixValues: .st [.l 0, .l 2, .l 3, .l 4]
end Zc27
