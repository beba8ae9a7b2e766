/- Copies of one's own; what is marked is held. -/
import Derived.Test.YtmmmafnkggaknaaGreatYna
set_option linter.all false
namespace Go.Ve.D
open Go Go.Ve
variable{i:Nat}{α:Type}
def Ur{x:List α}(d:α)(e:i<x.length):x.take i++[x.getD i d]=x.take (i+1):=by
 rw[List.take_add_one];simp[e]
def WX(x:List α):x.take x.length=x:=List.take_length
def DE{x:List α}(d:α)(e:i<x.length):x.getD i d∈x:=by
 rw[gDE,gEE e];exact List.getElem_mem e
end Go.Ve.D

