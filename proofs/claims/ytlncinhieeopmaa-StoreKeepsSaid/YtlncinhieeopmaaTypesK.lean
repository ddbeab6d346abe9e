/-
  The types of what the laws are given.
-/
import Derived.Test.YtlncinhieeopmaaTabOkK
import Derived.Test.YtlncinhieeopmaaZvRow
namespace Zc55k
open Go Zv
def tys : List TypeId := [5, 44, 59]
def es : List ET := [.one (.i .u8), .st [.i .i64, .i .i64, .i .i64, .i .i64, .l 2], .st [.i .i64, .i .i64]]
theorem typesOk : mtEs Go.Proofs.Try.prog tys tys es = true := by kernel_rfl
-- 3 cellarer/cellarerlaw55.StoreChains: .one (.i .u8), .one (.i .u8)
-- 4 cellarer/cellarerlaw55.StoreOrder: .one (.l 0)
-- 5 cellarer/cellarerlaw55.StoreTwice: .one (.i .u8), .one (.l 1)
-- 6 cellarer/cellarerlaw55.StoreKeeps: .one (.l 2), .one (.i .u8)
-- 7 cellarer/cellarerlaw55.StoreSizes: .one (.i .i64)
-- 8 cellarer/cellarerlaw55.StorePlays: .one (.i .u8), .one (.l 1)
-- 9 cellarer/cellarerlaw55.StoreNil: .one (.i .i64), .st [.i .i64, .i .i64]
end Zc55k
