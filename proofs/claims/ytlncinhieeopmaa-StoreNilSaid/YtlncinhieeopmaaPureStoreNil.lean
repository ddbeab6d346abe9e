/-
  The law of a nil store, in ZvVal's machine.
-/
import Derived.Test.YtlncinhieeopmaaTypes
import Derived.KernelRfl
namespace Zc55
open Go Zv
theorem storeNil : ∀ x0 x1 : D, ok (EE Zc55.es) (.one (.i .i64)) x0 → ok (EE Zc55.es) (.st [.i .i64, .i .i64]) x1 → ∃ h', callW Zc55.tab 9 [.d x0, .d x1] ⟨[], 0⟩ = some (.d (.bool true), h') := by
  intro x0 x1 h0 h1
  obtain ⟨n, rfl, _⟩ := ok_i h0
  obtain ⟨l, rfl, h1⟩ := ok_st h1
  obtain ⟨y, r, rfl, ha, h1⟩ := okCs_cons h1
  obtain ⟨z, r, rfl, hb, h1⟩ := okCs_cons h1
  obtain rfl := okCs_nil h1
  obtain ⟨a, rfl, _⟩ := ok_i ha
  obtain ⟨b, rfl, _⟩ := ok_i hb
  exact ⟨⟨[], 0⟩, callW_of tab 100 (by kernel_rfl)⟩
end Zc55
