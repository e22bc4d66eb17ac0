/- The statements' own examples ('awake') come to true, from any memory in which the program's variables hold what they hold. -/
import Derived.Test.YtkpjfibpaojelaaDoorLabD1
namespace Go.Proofs.YtkpjfibpaojelaaDoor
open Go Go.Abs
set_option maxRecDepth 100000
def tabA : Tab := [(4, [], .bool true)]
theorem tabA_run (c : Nat → CI) : tabB Tryd.prog plans (tabOv laidL []) (laidHeap c laidL) tabA = true := by kernel_rfl
theorem tabA_ok : TabOk Tryd.prog laidL tabA := TabOk.of_run pok plans_ok laidL_lt .nil tabA_run
end Go.Proofs.YtkpjfibpaojelaaDoor
