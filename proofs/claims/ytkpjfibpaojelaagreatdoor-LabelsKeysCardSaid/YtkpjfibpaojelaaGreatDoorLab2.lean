/- The statements' own examples ('awake') come to true, from any memory in which the program's variables hold what they hold. -/
import Derived.Test.YtkpjfibpaojelaaGreatDoorLab1
namespace Go.Proofs.YtkpjfibpaojelaaGreatDoor
open Go Go.Abs
set_option maxRecDepth 100000
def tabA : Tab := [(13, [], .bool true)]
theorem tabA_run (c : Nat → CI) : tabB Tryz.prog plans (tabOv laidL []) (laidHeap c laidL) tabA = true := by kernel_rfl
theorem tabA_ok : TabOk Tryz.prog laidL tabA := TabOk.of_run pok plans_ok laidL_lt .nil tabA_run
end Go.Proofs.YtkpjfibpaojelaaGreatDoor
