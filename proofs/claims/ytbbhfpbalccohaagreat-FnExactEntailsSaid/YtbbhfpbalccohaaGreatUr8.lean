/- What the functions compute (printed by a program), and that they do. -/
import Derived.Test.YtbbhfpbalccohaaGreatUr7
namespace Go.Ve.D
open Go Go.Ve Go.Proofs Go.Proofs.Tryz
set_option maxRecDepth 100000
open IntKind
noncomputable section
end
end Go.Ve.D

