/- The typed machine: the contract of a function of the program. -/
import Derived.Test.YtbbhfpbalccohaaGreatTp
namespace Go.Ve
noncomputable def tfn(E:AA)(fn:Func)(S:Sig)(x:(PT S.ps).T):Option (RT S.rs).T:=match fn.body with
 |some b=>tfun E b fn.results.toList S x
 |none=>none
theorem Mj{P:Program}{E:AA}{f:FuncId}{fn:Func}{S:Sig}(hΘ:Tab.OK P E.Θ)(hΓ:It P E.Γ)(hW: ∀e∈E.W,e.OK P)(hN: ∀e∈E.N,e.OK P)(hm:P.follows .mixedOrders=true)(hf:P.funcs[f]? =some fn)(hn:max S.ps.length fn.ntmps=E.h.n){g:(PT S.ps).T->Option (RT S.rs).T}(hg:tfn E fn S=g):FT P f S g:=by
 subst hg;intro x y hxy;unfold tfn at hxy;cases hb:fn.body with
 |none=>rw [hb]at hxy;cases hxy
 |some b=>
  rw [hb]at hxy;exact Yu ⟨hΘ,hΓ,hW,hN⟩ hm hf hb hn x y hxy
noncomputable def tfnN(E:AA)(fn:Func)(S:Sig)(x:(PT S.ps).T):Option (Bool×(RT S.rs).T):=match fn.body with
 |some b=>tfunN E b fn.results.toList S x
 |none=>none
theorem FTN_fn{P:Program}{E:AA}{f:FuncId}{fn:Func}{S:Sig}(hΘ:Tab.OK P E.Θ)(hΓ:It P E.Γ)(hW: ∀e∈E.W,e.OK P)(hN: ∀e∈E.N,e.OK P)(hm:P.follows .mixedOrders=true)(hf:P.funcs[f]? =some fn)(hn:max S.ps.length fn.ntmps=E.h.n){g:(PT S.ps).T->Option (Bool×(RT S.rs).T)}(hg:tfnN E fn S=g):FTN P f S g:=by
 subst hg;intro x b y hxy;unfold tfnN at hxy;cases hb:fn.body with
 |none=>rw [hb]at hxy;cases hxy
 |some c=>
  rw [hb]at hxy;exact WT ⟨hΘ,hΓ,hW,hN⟩ hm hf hb hn x b y hxy
theorem CD{P:Program}: ∀e∈([]:List EnN),e.OK P:=fun _ h=>by cases h
theorem Yg{P:Program}{e:EnN}{l:List EnN}(h1:Bi P e.f=true)(h2:FTN P e.f e.S e.g)(hl: ∀e∈l,e.OK P): ∀x∈e::l,x.OK P:=by
 intro x hx;rcases List.mem_cons.1 hx with rfl|hx
 ·exact⟨h1,h2⟩
 ·exact hl x hx
theorem Ac{P:Program}:It P []:=fun _ h=>by cases h
theorem Yf{P:Program}{e:En}{l:List En}(h1:Bi P e.f=true)(h2:FT P e.f e.S e.g)(hl:It P l):It P (e::l):=by
 intro x hx;rcases List.mem_cons.1 hx with rfl|hx
 ·exact⟨h1,h2⟩
 ·exact hl x hx
end Go.Ve

