/- Forcing by one tuple: the law. -/
import Derived.Test.YtbbhfpbalccohaaGreatFga
import Derived.Test.YtbbhfpbalccohaaGreatUr8
namespace Go.Ve.D
open Go Go.Ve
noncomputable section
end
end Go.Ve.D

