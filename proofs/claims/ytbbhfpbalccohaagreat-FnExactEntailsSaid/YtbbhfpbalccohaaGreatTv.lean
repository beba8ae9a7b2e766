/- The typed machine: what a function computes that writes its owned arguments; its contract. -/
import Derived.Test.YtbbhfpbalccohaaGreatTq
namespace Go.Ve
theorem CC{P:Program}: ∀e∈([]:List EnW),e.OK P:=fun _ h=>by cases h
end Go.Ve

