/- Decided formulas: the law. -/
import Derived.Test.YtbbhfpbalccohaaGreatFgc
import Derived.Test.YtbbhfpbalccohaaGreatUr9
namespace Go.Ve.D
open Go Go.Ve
noncomputable section
theorem OE{α:Type}{p:Nat->Option α}: ∀l:List Nat,(l.findSome? p).isNone=l.all fun i=>(p i).isNone
 | []=>rfl
 |a::l=>by
  rw [List.findSome?_cons,List.all_cons];cases hp:p a with
  |some y=>rfl
  |none=>rw [OE l];rfl
theorem Ue(v:List (List Bool)):(L8 v).isNone=(List.range v.length).all fun x=>(List.range (v.getD x []).length).all fun n=>(v.getD x []).getD n false:=by
 unfold L8;rw [OE]
 congr 1
 funext x
 rw [Option.isNone_map];unfold Xv;rw [OE]
 congr 1
 funext n
 cases (v.getD x []).getD n false<;>rfl
end
end Go.Ve.D

