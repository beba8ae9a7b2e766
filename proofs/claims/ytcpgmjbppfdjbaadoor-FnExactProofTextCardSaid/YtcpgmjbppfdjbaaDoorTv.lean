/- The typed machine: what a function computes that writes its owned arguments; its contract. -/
import Derived.Test.YtcpgmjbppfdjbaaDoorTo
namespace Go.Ve
theorem AL{P:Program}: ∀e∈([]:List EnW),e.OK P:=by simp
end Go.Ve


namespace Go.Ve
end Go.Ve

