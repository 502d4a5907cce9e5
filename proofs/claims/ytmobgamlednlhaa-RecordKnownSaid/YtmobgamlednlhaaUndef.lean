/-
  A guard that reads a slot which nothing has written: the operation is passed over. No function of the program in sight.
-/
import Derived.WalkKit
namespace Go.Proofs.Ytmobgamlednlhaa
theorem match_undef : Go.yielded.match_1 (motive := fun _ => Option Bool) (some undef) (fun b => some b) (fun _ => none) = none := rfl
end Go.Proofs.Ytmobgamlednlhaa
