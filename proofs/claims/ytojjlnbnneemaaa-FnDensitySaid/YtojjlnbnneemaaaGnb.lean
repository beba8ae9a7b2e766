/- Copies of one's own; what is marked is held. -/
import Derived.Test.YtojjlnbnneemaaaGna
set_option linter.all false
namespace Go.Ve.D
open Go Go.Ve
variable{i n:Nat}
def CI{α:Type}{x:List α}(d:α)(u:i<x.length):x.take i++[x.getD i d]=x.take (i+1):=by
 rw[List.take_add_one];simp[u]
def IS(n:Nat):List Int:=(List.range n).map fun(i:Nat)=>(i:Int)
def Cm:(IS n).length=n:=by simp[IS]
def NN:IS (n+1)=IS n++[(n:Int)]:=by simp[IS,List.range_succ]
def IW(u:i<n):(IS n).getD i 0=(i:Int):=by simp[IS,u]
end Go.Ve.D

