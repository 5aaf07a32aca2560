/- A loop's body out of a function's code. -/
import Derived.Test.YteoliifghhlinaaProg
namespace Go.Proofs.Yteoliifghhlinaa
def loopsIn : Code → List Code
  | .loop c => c :: loopsIn c
  | .seq a b => loopsIn a ++ loopsIn b
  | .block _ c => loopsIn c
  | .scope c => loopsIn c
  | .cond _ a b => loopsIn a ++ loopsIn b
  | _ => []
def loopAt (f : Func) (n : Nat) : Code := ((f.body.map loopsIn).getD []).getD n .skip
end Go.Proofs.Yteoliifghhlinaa
