/-
  The types of what the laws are given.
-/
import Derived.Test.YtimjofcjjgppbaaTabOk
import Derived.Test.YtimjofcjjgppbaaZvRow
namespace Zc17
open Go Zv
def tys : List TypeId := [38, 40, 28]
def es : List ET := [.st [.s, .l 1], .st [.s, .l 2], .one (.i .i64)]
theorem typesOk : mtEs Go.Proofs.Try.prog tys tys es = true := by kernel_rfl
-- 3 cellarer/cellarerlaw17.DatasChecks: .one (.l 0)
-- 4 cellarer/cellarerlaw17.DatasMeasures: .one (.l 0), .one (.i .i64), .one (.i .i64)
-- 5 cellarer/cellarerlaw17.DatasReaches: .one (.l 0), .one (.i .i64)
-- 6 cellarer/cellarerlaw17.DatasCloses: .one (.l 0), .one (.i .i64)
-- 7 cellarer/cellarerlaw17.DatasEndless: .one (.l 0)
-- 8 cellarer/cellarerlaw17.DatasFinds: .one (.l 0), .one (.s), .one (.i .i64)
-- 9 cellarer/cellarerlaw17.DatasNames: .one (.l 0)
end Zc17
