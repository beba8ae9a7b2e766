/- The typed machine: the contract of a function of the program. -/
import Derived.Test.YtcdekmccongjgaaTp
namespace Go.Ve
noncomputable def tfn (E : Env2) (fn : Func) (S : Sig) (x : (PT S.ps).T) : Option (RT S.rs).T:=match fn.body with
 | some b=>tfun E b fn.results.toList S x
 | none=>none
theorem FT_fn {P : Program} {E : Env2} {f : FuncId} {fn : Func} {S : Sig} (hΘ : Tab.OK P E.Θ) (hΓ : EnsOK P E.Γ) (hW : ∀ e ∈ E.W,e.OK P) (hN : ∀ e ∈ E.N,e.OK P) (hm : P.follows .mixedOrders = true) (hf : P.funcs[f]? = some fn) (hn : max S.ps.length fn.ntmps = E.h.n) {g : (PT S.ps).T→Option (RT S.rs).T} (hg : tfn E fn S = g) : FT P f S g:=by
 subst hg
 intro x y hxy
 unfold tfn at hxy
 cases hb : fn.body with
 | none=>rw [hb] at hxy; cases hxy
 | some b=>
  rw [hb] at hxy
  exact FT_intro ⟨hΘ,hΓ,hW,hN⟩ hm hf hb hn x y hxy
theorem enn_nil {P : Program} : ∀ e ∈ ([] : List EnN),e.OK P:=fun _ h=>by cases h
theorem ens_nil {P : Program} : EnsOK P []:=fun _ h=>by cases h
theorem ens_cons {P : Program} {e : En} {l : List En} (h1 : callable P e.f = true) (h2 : FT P e.f e.S e.g) (hl : EnsOK P l) : EnsOK P (e :: l):=by
 intro x hx
 rcases List.mem_cons.1 hx with rfl | hx
 ·exact ⟨h1,h2⟩
 ·exact hl x hx
end Go.Ve

