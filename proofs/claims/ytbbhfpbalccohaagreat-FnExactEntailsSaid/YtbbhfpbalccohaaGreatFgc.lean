/- Forcing by one tuple: the law. -/
import Derived.Test.YtbbhfpbalccohaaGreatFga
import Derived.Test.YtbbhfpbalccohaaGreatUr8
namespace Go.Ve.D
open Go Go.Ve
noncomputable section
theorem Yl{s:St}{G:List Int}{x:Fl}(h:decide (cxC s G x=0)=true):DI s G x=bif !tyF s G x then 5 else bif !ftF s G x then 3 else 0:=by
 unfold DI;rw [h];rfl
end
end Go.Ve.D

