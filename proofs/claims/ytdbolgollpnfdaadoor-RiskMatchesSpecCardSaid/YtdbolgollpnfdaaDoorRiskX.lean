/- PERILS, in plain terms: the example of the documentation. -/
import Derived.Test.YtdbolgollpnfdaaDoorRiskS
import Derived.Test.YtdbolgollpnfdaaDoorRiskE
import Derived.Test.YtdbolgollpnfdaaDoorRiskG
namespace Rk
open Go.Proofs.YtdbolgollpnfdaaDoor (firstB)
def ex : Pe := ⟨2, [], 1, [0, 1, 2], [1, 2, 4]⟩
def nowhere : Pe := ⟨2, [], 1, [0, 1, -1], [1, 2, 4]⟩
theorem ex_check : check ex = 0 := by kernel_rfl
theorem ex_total : total ex = 4096 := by kernel_rfl
theorem ex_lost1 : lost ex 1 = (false, 0) := by kernel_rfl
theorem ex_lost3 : lost ex 3 = (true, 0) := by kernel_rfl
theorem ex_loss : lossOf ex = 208 := by kernel_rfl
theorem ex_least : least firstB ex = 3 := by kernel_rfl
theorem ex_fails : check (given ex 0 true) = 0 := by kernel_rfl
theorem ex_stays : check (given ex 0 false) = 0 := by kernel_rfl
theorem ex_loss1 : lossOf (given ex 0 true) = 1408 := by kernel_rfl
theorem ex_loss2 : lossOf (given ex 0 false) = 128 := by kernel_rfl
theorem ex_mill : mill ex = 50782 := by kernel_rfl
theorem ex_nowhere0 : check nowhere = 0 := by kernel_rfl
theorem ex_nowhere : lossOf nowhere = 736 := by kernel_rfl
theorem ex_cmp : cmp ex nowhere = (-1, 0) := by kernel_rfl
end Rk
