/-
  The examples of the chapter hold.
-/
import Derived.Test.YtjpjohchdfoeaaaTab
import Derived.Test.YtjpjohchdfoeaaaSimZ
namespace Go.Proofs.Ytjpjohchdfoeaaa
open Go Go.Sim
theorem ex_ran : (run tab 1000 R55 [.code R55.body] (mkEnv R55 []) []).map (·.1) = some (.bool true) := by kernel_rfl
theorem ex_eq {h : Heap} {R : Value → Heap → Prop} : Ret tab 55 [] h R = R (.bool true) h := iso_eq rfl rfl rfl ex_ran rfl
end Go.Proofs.Ytjpjohchdfoeaaa
