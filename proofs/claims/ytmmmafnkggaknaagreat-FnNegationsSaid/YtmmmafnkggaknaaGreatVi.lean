/- Calls by contract in the small machine. -/
import Derived.Test.YtmmmafnkggaknaaGreatVh
set_option linter.all false
namespace Go.Ve
variable{xs:Array Operand}{ats:Array TypeId}{f:FuncId}{vs:List V}{y:Operand}{name:String}{t:TypeId}{fv v:V}
def A5(P:Program)(f:FuncId):Bool:=
 match P.funcs[f]? with
 | some fn => !(fn.name == "runtime.NumGoroutine") && fn.body.isSome
 |none=>false
section ops
variable {P:Program}{o:Oper}{a:Act}{w:World}{σ:List V}{D:Nat->Prop}{ρ:Nat->Value}{F:Nat->Nat->Prop}{K:V->Prop}
theorem Nc{R:V->Value->Prop}{cv:Value}{fp:Nat->Prop}(h:AM v=false)(e:Rel D w R v cv fp):∀b,¬fp b:=by
 have:∀v,AM v=false->AL v=false:=by
  intro v
  induction v with
  |many t n f u=>
   intro h;unfold AM at h;unfold AL
   grind
  |nd s own sz n f _=>intro h;exact h
  |_=>intro _;rfl
 exact AE _ _ _ (this _ h) e
def Call(P:Program)(f:FuncId)(la:Bool)(vs:List V)(K:V->Prop):Prop:=
 ∃r,(A5 P f=true/\FC P f vs r)/\(la=true->BC r)/\K r
def Wz(σ:List V)(w:World)(D:Nat->Prop)(ρ:Nat->Value)(F:Nat->Nat->Prop)(vs:List V)(cs:Array Value):Prop:=
 cs.size=vs.length/\∀j,j<vs.length->OpR σ w D ρ F (vs.getD j .dead) (cs.getD j undef)
theorem Hd(hk:Wok w)(wr:BG σ w D ρ F){cvs:Array Value}(A:A5 P f=true->(execOp a.eval o).run P w=.ok (.enter f cvs) w)(hv:Wz σ w D ρ F vs cvs)
  (h:Call P f (vs.any AM) (vs.map (BR σ)) K):∃r,K r/\Aw P o a w σ D ρ r:=by
 obtain⟨r,⟨E,Z⟩,hla,hK⟩:=h;refine⟨r,hK,λnext Q hn=>?_⟩
 have A:=A E;unfold Oper.wp;rw[A,Oper.upon_enter]
 let D2:Nat->Prop:=λb=>D b\/(vs.any AM=true/\((∃j fp,j<vs.length/\Rel D w (Au σ ρ w) (vs.getD j .dead) (cvs.getD j undef) fp/\fp b)\/∃i,F i b))
 have J:∀i,i<(vs.map (BR σ)).length->Rel D2 w noR ((vs.map (BR σ)).getD i .dead) (cvs.getD i undef) noF:=by
  intro i W;simp at W;obtain⟨fp,B,hfD,hfF⟩:=hv.2 i W;have e1:(vs.map (BR σ)).getD i .dead=BR σ (vs.getD i .dead):=by simp[W]
  rw[e1]
  have U:AM (vs.getD i .dead)=true\/∀b,¬fp b:=by
   cases h:AM (vs.getD i .dead)with
   |true=>exact .inl rfl
   |false=>exact .inr (Nc h B)
  refine Rel.mono (λb u=>u.imp id fun⟨h1,h2⟩=>⟨?_,h2.imp (λh=>⟨i,fp,W,B,h⟩) id⟩) (λ_ _ h=>h) _ _ _ (λ_ _=>rfl) (Xt wr _ _ _ B U)
  grind
 have hD2:∀b,D2 b->b<w.heap.size:=by
  rintro b (u|⟨_,⟨j,fp,hj,B,u⟩|⟨i,u⟩⟩)
  .exact wr.Dlt b u
  .exact Rel.lt _ _ _ B b u
  .exact wr.lt i b u
 refine(Z w D2 cvs hk hD2 (by rw[hv.1];simp) J).mono ?_
 rintro e w' ⟨cv,fp,D',rfl,hB,B,hf,hd1,hd2,hd3⟩
 cases U:vs.any AM with
 |false=>
  refine hn cv w' D' fp hB (Rel.noR_mono B) hf (λb u=>hd1 b (.inl u)) (λb u=>?_) hd3
  rcases hd2 b u with(h|⟨h,_⟩)|h
  .exact .inl h
  .rw[U]at h;cases h
  .exact .inr h
 |true=>
  refine hn cv w' D fp hB (Rel.noR_mono (Rel.ownOnly' r _ _ _ _ (hla U) B)) hf (λ_ h=>h) (λ_ h=>.inl h) λb u=>⟨Nat.lt_of_lt_of_le (wr.Dlt b u) hB.size,λh=>?_⟩
  have:=wr.Dlt b u;have:=hf b h;omega
theorem Nr{cs:Array Value}(E:o.op=.call {callee:=.value y,args:=xs,argTypes:=ats})(B:a.eval y=.func (.func f) #[] cs)(e:A5 P f=true):
  (execOp a.eval o).run P w=.ok (.enter f (xs.map a.eval++cs)) w:=by
 unfold A5 at e;split at e
 .rename_i fn u
  have A:fn.body.isNone=false:=by simp_all
  unfold execOp;rw[E];simp[resolve,B,Deferred.ofValue,invoke,callFunc,u,A]
  grind
 grind
theorem Q2(A:Wok w)(wr:BG σ w D ρ F)(u:o.op=.call {callee:=.value (.func f),args:=xs,argTypes:=ats})(e:Wz σ w D ρ F vs (xs.map a.eval))
  (h:Call P f (vs.any AM) (vs.map (BR σ)) K):∃r,K r/\Aw P o a w σ D ρ r:=
 Hd A wr (λB=>by
  have:=Nr (a:=a) (w:=w) u rfl B
  grind) e h
def MP(P:Program)(σ:List V)(fv:V)(args:List V)(K:V->Prop):Prop:=match fv with
 |.many (.cl g) n f=>Nat.blt g 1000000=true/\Call P g ((args++tab n f).any AM) ((args++tab n f).map (BR σ)) K
 |_=>False
theorem MO(hk:Wok w)(wr:BG σ w D ρ F){vs:List V}(ho:o.op=.call {callee:=.value y,args:=xs,argTypes:=ats})(hy:OpR σ w D ρ F fv (a.eval y))
  (B:Wz σ w D ρ F vs (xs.map a.eval)) (h:MP P σ fv vs K):∃r,K r/\Aw P o a w σ D ρ r:=by
 unfold MP at h;split at h
 case h_2=>exact h.elim
 rename_i g n f;obtain⟨U,h⟩:=h;obtain⟨fp,hr,Z,W⟩:=hy;obtain⟨cs,G,u,hn,E,_,J⟩:=hr;have u:a.eval y=WF g cs:=u;rw[Wc U]at u;refine Hd hk wr (λhc=>Nr ho u hc) ⟨?_,λj hj=>?_⟩ h
 .rw[Array.size_append,List.length_append,B.1,DM,hn]
 .rw[List.length_append,DM]at hj
  by_cases A:j<vs.length
  .have:=B.2 j A
   have e1:(vs++tab n f).getD j .dead=vs.getD j .dead:=by simp[gAL A]
   have e2:(xs.map a.eval++cs).getD j undef=(xs.map a.eval).getD j undef:=by
    have:j<(xs.map a.eval).size:=by rw[B.1];exact A
    simp[Array.getElem?_append_left this]
   rw[e1,e2];exact this
  .have e:j-vs.length<n:=by omega
   have e1:(vs++tab n f).getD j .dead=f (j-vs.length):=by
    rw[<-K3 n f (j-vs.length) e]
    grind
   have e2:(xs.map a.eval++cs).getD j undef=cs.getD (j-vs.length) undef:=by
    have h2:(xs.map a.eval).size<=j:=by rw[B.1];omega
    have h3:(xs.map a.eval).size=vs.length:=B.1;rw[Array.getD_eq_getD_getElem?,Array.getD_eq_getD_getElem?,Array.getElem?_append_right h2,h3]
   rw[e1,e2];exact⟨G (j-vs.length),E _ e,λb hb=>Z b ((J b).2 ⟨_,e,hb⟩),λi b hF hb=>W i b hF ((J b).2 ⟨_,e,hb⟩)⟩
def qMkF(g:Nat)(cs:List V)(K:V->Prop):Prop:=(Nat.blt g 1000000=true/\cs.all (λv=>!AL v)=true)/\K (.many (.cl g) cs.length λk=>cs.getD k .dead)
theorem Qj(wr:BG σ w D ρ F){g:Nat}{cs:List V}(e:o.op=.makeFunc (.func g) #[] xs)(A:Wz σ w D ρ F cs (xs.map a.eval))(h:qMkF g cs K):∃r,K r/\Aw P o a w σ D ρ r:=by
 obtain⟨⟨u,E⟩,hK⟩:=h;refine⟨_,hK,Aw.pure wr ?_ ⟨xs.map a.eval,λ_=>noF,(Wc u).symm,A.1,λk J=>?_,λ_ _ _ _ _ _ h=>h.elim,λb=>⟨λh=>h.elim,fun⟨_,_,h⟩=>h⟩⟩⟩
 .unfold execOp;rw[e];simp[Instr.makeFunc]
 .obtain⟨fp,B,_,_⟩:=A.2 k J
  have e:AL (cs.getD k .dead)=false:=by
   grind
  exact Rel.fp_congr (λb=>⟨λh=>absurd h (AE _ _ _ e B b),λh=>h.elim⟩) B
def ZO(P:Program)(t:TypeId)(name:String):Option FuncId:=match P.info? t,P.underlying t with
 |some i,some (.pointer _)=>match i.methods.find? (·.name==name)with
  |some m=>match m.path.toList,m.func with
   |[],some (f,true)=>some f
   |_,_=>none
  |none=>none
 |_,_=>none
theorem Xo(h:ZO P t name=some f)(n:Nat)(v:Value)(w:World):(method (n+1) t v name).run P w=.ok (f,v) w/\∃e,P.underlying t=some (.pointer e):=by
 unfold ZO at h;split at h
 case h_2=>grind
 rename_i i e E u;split at h
 case h_2=>grind
 rename_i m B;split at h
 case h_2=>grind
 rename_i U A J;cases h;refine⟨?_,e,u⟩;unfold method;simp[typeInfo,E,B,A,follow,J,receiverAt,run_underlying u,Place.get]
def qMkI(P:Program)(t:TypeId)(v:V)(K:V->Prop):Prop:=(AL v=false/\∃e,P.underlying t=some (.pointer e))/\K (.many (.cl (1000000+t)) 1 λ_=>v)
theorem Qi(wr:BG σ w D ρ F){x:Operand}(J:o.op=.makeInterface t x)(B:OpR σ w D ρ F v (a.eval x))(h:qMkI P t v K):∃r,K r/\Aw P o a w σ D ρ r:=by
 obtain⟨⟨u,e,E⟩,hK⟩:=h;obtain⟨fp,A,_,_⟩:=B;refine⟨_,hK,Aw.pure wr (v':=.iface t (a.eval x)) ?_ ⟨#[a.eval x],λ_=>noF,?_,rfl,λk U=>?_,λ_ _ _ _ _ _ h=>h.elim,λb=>⟨λh=>h.elim,fun⟨_,_,h⟩=>h⟩⟩⟩
 .unfold execOp;rw[J];simp[Instr.makeInterface,run_underlying E]
 .show Value.iface t (a.eval x)=WF (1000000+t) #[a.eval x]
  rw[YH];rfl
 .obtain rfl:k=0:=by omega
  exact Rel.fp_congr (λb=>⟨λh=>absurd h (AE _ _ _ u A b),λh=>h.elim⟩) A
def MR(P:Program)(σ:List V)(fv:V)(name:String)(args:List V)(K:V->Prop):Prop:=match fv with
 |.many (.cl g) n f=>∃t fn,(g=1000000+t/\n=1/\ZO P t name=some fn)/\Call P fn ((tab n f++args).any AM) ((tab n f++args).map (BR σ)) K
 |_=>False
theorem MQ(hk:Wok w)(wr:BG σ w D ρ F){vs:List V}(ho:o.op=.call {callee:=.invoke y name,args:=xs,argTypes:=ats})(hy:OpR σ w D ρ F fv (a.eval y))
  (hv:Wz σ w D ρ F vs (xs.map a.eval)) (h:MR P σ fv name vs K):∃r,K r/\Aw P o a w σ D ρ r:=by
 unfold MR at h;split at h
 case h_2=>exact h.elim
 rename_i g n f;obtain⟨t,fn,⟨rfl,rfl,hm⟩,h⟩:=h;obtain⟨fp,hr,hfD,hfF⟩:=hy;obtain⟨cs,G,e,hn,B,_,E⟩:=hr;have e:a.eval y=WF (1000000+t) cs:=e;rw[YH]at e;have ht:tab 1 f=[f 0]:=rfl;rw[ht]at h;refine Hd hk wr (cvs:=#[cs.getD 0 undef]++xs.map a.eval) (λJ=>?_) ⟨?_,λj U=>?_⟩ h
 .unfold A5 at J
  split at J
  case h_2=>cases J
  rename_i fu Z;simp only[bAE,Bool.not_eq_true']at J;obtain⟨h1,h2⟩:=J;have h2':fu.body.isNone=false:=by cases A:fu.body<;>simp[A]at h2⊢
  have W:P.types.size+Made.depth=(P.types.size+99)+1:=rfl;obtain⟨u,_⟩:=Xo hm (P.types.size+99) (cs.getD 0 undef) w;generalize cs.getD 0 undef=c0 at e u;have he:((#[Value.iface t c0]++xs.map a.eval).extract 1 (#[Value.iface t c0]++xs.map a.eval).size)=xs.map a.eval:=by
   apply Array.ext';simp;exact List.take_of_length_le (by simp)
  have h0:(#[Value.iface t c0]++xs.map a.eval)[0]? =some (Value.iface t c0):=by
   rw[Array.getElem?_append_left (by simp)];rfl
  unfold execOp;rw[ho];simp at h1;simp only[resolve,e];show(invoke (.fn (.method name) #[]) (#[Value.iface t c0]++xs.map a.eval)).run P w=_;unfold invoke;simp only[h0,he];show(callMethod (Value.iface t c0) name (xs.map a.eval)).run P w=_;unfold callMethod;simp[W,u,callFunc,Z,h2',h1];intro A;simp[A]at h2
 .simp[hv.1];omega
 .cases j with
  |zero=>
   show OpR σ w D ρ F (f 0) _;have e2:(#[cs.getD 0 undef]++xs.map a.eval).getD 0 undef=cs.getD 0 undef:=by
    rw[Array.getD_eq_getD_getElem?,Array.getElem?_append_left (by simp)];rfl
   rw[e2];exact⟨G 0,B 0 (by omega),λb A=>hfD b ((E b).2 ⟨_,by omega,A⟩),λi b hF A=>hfF i b hF ((E b).2 ⟨_,by omega,A⟩)⟩
  |succ j=>
   have U:j<vs.length:=by simpa using U
   have:=hv.2 j U;have e1:([f 0]++vs).getD (j+1) .dead=vs.getD j .dead:=rfl
   have e2:(#[cs.getD 0 undef]++xs.map a.eval).getD (j+1) undef=(xs.map a.eval).getD j undef:=by
    simp[Array.getD_eq_getD_getElem?,Array.getElem?_append]
   rw[e1,e2];exact this
end ops
end Go.Ve


namespace Go.Ve
def A9:List (Nat×Nat)->List (Nat×Nat)->Bool
 |[],_=>true
 |(i,k)::p,(j,l)::q=>i==j&&k==l&&A9 p q
 |_::_,[]=>false
def DD:∀{p q:List (Nat×Nat)},A9 p q=true->q=p++q.drop p.length
 |[],_,_=>rfl
 |(i,k)::p,(j,l)::q,h=>by
  simp[A9,beq_iff_eq]at h;obtain⟨⟨rfl,rfl⟩,h⟩:=h;simp[<-DD h]
 |_::_,[],h=>by cases h
theorem At.split{w:World}:∀{p q:List (Nat×Nat)}{v:V}{cv:Value}{v':V}{A:Value}{J:V}{c1:Value},At w (p++q) v cv v' A->At w p v cv J c1->At w q J c1 v' A
 |[],_,_,_,_,_,_,_,h,u=>by obtain⟨rfl,rfl⟩:=u;grind
 |(i,k)::p,q,.nd s true sz n f,_,_,_,_,_,h,u=>by
  obtain⟨_,_,b,o,cap,x,E,W,h⟩:=h;obtain⟨_,_,b',o',U,Z,e,B,u⟩:=u;subst E;obtain⟨rfl,rfl,_⟩:=Az e;have:=Option.some.inj (B.symm.trans W);subst this;exact At.split h u
 |_::_,_,.nd _ false _ _ _,_,_,_,_,_,h,_=>h.elim
 |_::_,_,.c _,_,_,_,_,_,h,_=>h.elim
 |_::_,_,.dead,_,_,_,_,_,h,_=>h.elim
 |_::_,_,.many ..,_,_,_,_,_,h,_=>h.elim
 |_::_,_,.rs ..,_,_,_,_,_,h,_=>h.elim
 |_::_,_,.rp ..,_,_,_,_,_,h,_=>h.elim
theorem At.keep{w:World}{x:V}:∀(p q:List (Nat×Nat)) (v:V) (cv:Value) {s:Bool}{sz n:Nat}{f:Nat->Nat->V}{c:Value},KV p v->A9 p q=false->At w q v cv (.nd s true sz n f) c->
  ∃J,At w q (upd p v x) cv (.nd s true sz n J) c
 |[],_,_,_,_,_,_,_,_,_,h,_=>by cases h
 |(i,k)::p,[],.nd s0 o0 sz0 n0 f0,_,_,_,_,_,_,_,_,A=>by
  obtain⟨B,rfl⟩:=A;cases B;exact⟨_,rfl,rfl⟩
 |(i,k)::p,(i',k')::q,.nd s0 true sz0 n0 f0,cv,s,sz,n,f,c,e,hpre,A=>by
  obtain⟨B,W,b,o,cap,y,u,U,A⟩:=A;obtain⟨_,_,_,e⟩:=e;by_cases Z:i'=i/\k'=k
  .obtain⟨rfl,rfl⟩:=Z
   obtain⟨J,E⟩:=At.keep p q (f0 i' k') y e (by simpa [A9]using hpre) A
   exact⟨J,B,W,b,o,cap,y,u,U,by simpa using E⟩
  .exact⟨f,B,W,b,o,cap,y,u,U,by grind⟩
 |_::_,_::_,.nd _ false _ _ _,_,_,_,_,_,_,_,_,h=>h.elim
 |_::_,_,.c _,_,_,_,_,_,_,e,_,_=>e.elim
 |_::_,_,.dead,_,_,_,_,_,_,e,_,_=>e.elim
 |_::_,_,.many ..,_,_,_,_,_,_,e,_,_=>e.elim
 |_::_,_,.rs ..,_,_,_,_,_,_,e,_,_=>e.elim
 |_::_,_,.rp ..,_,_,_,_,_,_,e,_,_=>e.elim
theorem OD{sz i k i' k':Nat}(u:k<sz)(e:k'<sz)(h:¬ (i'=i/\k'=k)):i'*sz+k'≠i*sz+k:=by
 intro E;have B:(i'*sz+k') % sz=(i*sz+k) % sz:=by grind
 rw[Nat.mul_comm i',Nat.mul_comm i,Nat.mul_add_mod,Nat.mul_add_mod,Nat.mod_eq_of_lt e,Nat.mod_eq_of_lt u]at B;have A:(i'*sz+k')/sz=(i*sz+k)/sz:=by grind
 rw[Nat.mul_comm i',Nat.mul_comm i,Nat.mul_add_div (by omega),Nat.mul_add_div (by omega),Nat.div_eq_of_lt e,Nat.div_eq_of_lt u]at A
 omega
theorem At.store{D:Nat->Prop}{w w':World}{x:V}{s:Bool}{sz n:Nat}{f:Nat->Nat->V}{b o cap i k:Nat}(hi:i<n)(hk:k<sz)
  (hw:∀ad,ad≠(⟨b,o+i*sz+k,none⟩:Addr)->w'.cell? ad=w.cell? ad) (hb:∀c,c≠b->w'.heap[c]? =w.heap[c]?):
  ∀(p q:List (Nat×Nat)) (v:V) (cv:Value) (fp:Nat->Prop) {s1:Bool}{W n1:Nat}{f1:Nat->Nat->V}{c1:Value},Rel D w noR v cv fp->At w p v cv (.nd s true sz n f) (AC s b o n cap)->
   A9 (p++[(i,k)]) q=false->At w q v cv (.nd s1 true W n1 f1) c1->∃f1',At w' q (upd (p++[(i,k)]) v x) cv (.nd s1 true W n1 f1') c1
 |p,[],v,cv,fp,s1,W,n1,f1,c1,Z,hp,hpre,u=>by
  obtain⟨rfl,rfl⟩:=u;cases p with
  |nil=>exact⟨_,rfl,rfl⟩
  |cons a p=>exact⟨_,rfl,rfl⟩
 |[],(i',k')::q,v,cv,fp,s1,W,n1,f1,c1,Z,hp,hpre,u=>by
  obtain⟨rfl,rfl⟩:=hp
  have hne:¬ (i'=i/\k'=k):=by
   rintro ⟨rfl,rfl⟩
   simp[A9]at hpre
  obtain⟨h1,U,b0,o0,B,y,hcv,hy,u⟩:=u;obtain⟨rfl,rfl,_⟩:=Az hcv;have hroot:=Rel.root Z;rcases Z with⟨h0,_⟩|⟨b2,o2,cap2,F,A,hcap,hmax,hs1,hc,himm,ho⟩
  .omega
  obtain⟨rfl,rfl,_⟩:=Az A;obtain⟨y',E,J⟩:=hc i' k' h1 U;have:y'=y:=Option.some.inj (E.symm.trans hy);subst this;refine⟨f1,h1,U,b,o,B,y',hcv,by rw[hw _ (by have:=OD (i:=i) hk U hne;intro h;simp at h;try omega)];exact hy,?_⟩
  simp only[hne,if_false];exact At.same J u λc hcF=>hb c λe=>(ho rfl).2.1 i' k' h1 U (e▸hcF)
 |(i0,k0)::p,(i',k')::q,.nd s0 true sz0 n0 f0,cv,fp,s1,W,n1,f1,c1,Z,hp,hpre,u=>by
  obtain⟨h1,U,b0,o0,B,y,rfl,hy,u⟩:=u;obtain⟨h3,h4,b3,o3,cap3,z,hcv3,hz,hp⟩:=hp;obtain⟨rfl,rfl,_⟩:=Az hcv3;rcases Z with⟨h0,_⟩|⟨b2,o2,cap2,F,A,hcap,hmax,hs1,hc,himm,ho⟩
  .omega
  obtain⟨rfl,rfl,_⟩:=Az A;obtain⟨y',E,J⟩:=hc i' k' h1 U;have:y'=y:=Option.some.inj (E.symm.trans hy);subst this;obtain⟨z',hz',hrz⟩:=hc i0 k0 h3 h4;have:z'=z:=Option.some.inj (hz'.symm.trans hz);subst this
  obtain⟨fz,hrn,hsub,_⟩:∃fz,Rel D w noR (.nd s true sz n f) (AC s b o n cap) fz/\(∀c,fz c->F i0 k0 c)/\True:=by
   clear hw hb
   have:∀(p:List (Nat×Nat)) (v:V) (cv:Value) (fp:Nat->Prop) (v1:V) (c1:Value),Rel D w noR v cv fp->At w p v cv v1 c1->∃fz,Rel D w noR v1 c1 fz/\(∀c,fz c->fp c):=by
    intro p
    induction p with
    |nil=>intro v cv fp v1 c1 Z u;obtain⟨rfl,rfl⟩:=u;exact⟨fp,Z,λ_ h=>h⟩
    |cons a p ih=>
     intro v cv fp v1 c1 Z u;obtain⟨i,k⟩:=a
     match v,u,Z with
     |.nd s true sz n f,u,Z=>
      obtain⟨h1,U,b,o,cap,y,rfl,hy,u⟩:=u;rcases Z with⟨h0,_⟩|⟨b2,o2,cap2,F,A,hcap,hmax,hs1,hc,himm,ho⟩
      .omega
      obtain⟨rfl,rfl,_⟩:=Az A;obtain⟨y',E,J⟩:=hc i k h1 U;have:y'=y:=Option.some.inj (E.symm.trans hy);subst this;obtain⟨fz,h1',h2'⟩:=ih _ _ _ _ _ J u;exact⟨fz,h1',λc hc=>((ho rfl).2.2.2 c).2 (.inr ⟨i,k,h1,U,h2' c hc⟩)⟩
   obtain⟨fz,h1',h2'⟩:=this p _ _ _ _ _ hrz hp;exact⟨fz,h1',h2',trivial⟩
  have hbF:F i0 k0 b:=hsub b (Rel.root hrn);have hbne:b0≠b:=λe=>(ho rfl).2.1 i0 k0 h3 h4 (e▸hbF)
  have hcell:w'.cell? ⟨b0,o0+i'*sz0+k',none⟩=some y':=by rw[hw _ (by intro h;simp at h;try exact hbne h.1)];exact hy
  by_cases he:i'=i0/\k'=k0
  .obtain⟨rfl,rfl⟩:=he
   have:z'=y':=Option.some.inj (hz'.symm.trans E);subst this;obtain⟨f1',h1'⟩:=At.store hi hk hw hb p q (f0 i' k') z' _ J hp (by simpa [A9]using hpre) u
   exact⟨f1',h1,U,b0,o0,B,z',rfl,hcell,by simpa using h1'⟩
  .refine⟨f1,h1,U,b0,o0,B,y',rfl,hcell,?_⟩
   simp only[he,if_false];exact At.same J u λc hcF=>hb c λe=>(ho rfl).2.2.1 i' k' i0 k0 c h1 U h3 h4 (by omega) hcF (e▸hbF)
 |_::_,_::_,.nd _ false _ _ _,_,_,_,_,_,_,_,_,_,_,h=>h.elim
 |_::_,_::_,.c _,_,_,_,_,_,_,_,_,_,_,h=>h.elim
 |_::_,_::_,.dead,_,_,_,_,_,_,_,_,_,_,h=>h.elim
 |_::_,_::_,.many ..,_,_,_,_,_,_,_,_,_,_,h=>h.elim
 |_::_,_::_,.rs ..,_,_,_,_,_,_,_,_,_,_,h=>h.elim
 |_::_,_::_,.rp ..,_,_,_,_,_,_,_,_,_,_,h=>h.elim
end Go.Ve


namespace Go.Ve
variable{σ:List V}{F:Nat->Nat->Prop}{D fp:Nat->Prop}{ρ:Nat->Value}{w w':World}
structure Ctx where
 w0:World
 W:Nat->Prop
 D0:Nat->Prop
 m:Nat
 ρ0:Nat->Value
 ok:Wok w0/\∀p,Aay=some p->¬W p.1
structure Fr(w0 w:World)(W:Nat->Prop):Prop where
 os:w.os=w0.os
 tape:w.tape=w0.tape
 output:w.output=w0.output
 size:w0.heap.size<=w.heap.size
 block:∀b,b<w0.heap.size->¬W b->w.heap[b]? =w0.heap[b]?
 drawn:w0.drawn<=w.drawn
def Fr.below{w0:World}{W:Nat->Prop}(h:Fr w0 w W)(e:Below w.heap.size w w'):Fr w0 w' W:=
 ⟨e.os.trans h.os,e.tape.trans h.tape,e.output.trans h.output,Nat.le_trans h.size e.size,λb u A=>(e.block b (Nat.lt_of_lt_of_le u h.size)).trans (h.block b u A),Nat.le_trans h.drawn e.drawn⟩
structure CR(C:Ctx)(σ:List V)(ts:List V)(cts:Array Value)(w:World)(D:Nat->Prop)(ρ:Nat->Value)(F:Nat->Nat->Prop):Prop where
 wr:BG σ w D ρ F
 sz:cts.size=ts.length
 tm:∀t,t<ts.length->Rel D w (Au σ ρ w) (ts.getD t .dead) (cts.getD t undef) noF
 fr:Fr C.w0 w C.W
 Fn:∀i b,F i b->C.W b\/C.w0.heap.size<=b
 D1:∀b,C.D0 b->D b
 D2:∀b,D b->b<C.w0.heap.size->C.D0 b\/C.W b
 rt:∀i,i<C.m->ρ i=C.ρ0 i
 ml:C.m<=σ.length
def CR.ok{C:Ctx}{σ ts:List V}{cts:Array Value}{w:World}{D:Nat->Prop}{ρ:Nat->Value}{F:Nat->Nat->Prop}(h:CR C σ ts cts w D ρ F):Wok w:=
 C.ok.1.same λp e=>h.fr.block p.1 (C.ok.1.lt e) (C.ok.2 p e)
def Wy(C:Ctx)(σ:List V)(ts:List V)(cts:Array Value)(w:World):Prop:=∃D ρ F,CR C σ ts cts w D ρ F
theorem AG{l e:List V}{i:Nat}(h:i<l.length):(l++e).getD i .dead=l.getD i .dead:=by grind
def Au.ext{s:List V}{ρ':Nat->Value}(h:∀i,i<σ.length->ρ' i=ρ i):∀v cv,Au σ ρ w v cv->Au (σ++s) ρ' w v cv
 |.rs id p off len,cv,⟨e,sz,n,f,cn,u,r⟩=>⟨by grind,sz,n,f,cn,by grind,r⟩
 |.rp id p i k,cv,⟨e,s,sz,n,f,b,o,cap,u,r⟩=>⟨by grind,s,sz,n,f,b,o,cap,by grind,r⟩
 |.c _,_,h=>h.elim
 |.dead,_,h=>h.elim
 |.many ..,_,h=>h.elim
 |.nd ..,_,h=>h.elim
theorem BG.push(h:BG σ w D ρ F){v:V}{cv:Value}(hr:Rel D w noR v cv fp)(Z:∀b,fp b->¬D b)(W:∀i b,F i b->¬fp b):
  BG (σ++[v]) w D (λi=>if i=σ.length then cv else ρ i) (λi=>if i=σ.length then fp else F i):=by
 refine⟨λi J=>?_,λi j b E e A=>?_,λi b e=>?_,h.Dlt,λi b J e=>?_⟩
 .by_cases u:i=σ.length
  .grind
  .have B:i<σ.length:=by simp at J;omega
   rw[AG B];simpa [u]using h.rel i B
 .by_cases u:i=σ.length<;>by_cases U:j=σ.length<;>simp only[u,U,if_true,if_false]at e A
  .omega
  .grind
  .exact W i b e A
  .exact h.disj i j b E e A
 .by_cases u:i=σ.length<;>simp only[u,if_true,if_false]at e
  .exact Z b e
  .exact h.dD i b e
 .simp at J
  have u:i≠σ.length:=by omega
  simp only[u,if_false]at e;exact h.out i b (by omega) e
def BN(g:Nat->Nat->V×List V):Nat->Nat->List V×List V
 |0,_=>([],[])
 |n+1,m=>((BN g n m).1++[(g n (m+(BN g n m).2.length)).1],(BN g n m).2++(g n (m+(BN g n m).2.length)).2)
def prom:V->Nat->V×List V
 |.nd true true sz n f,m=>(.rs m [] 0 n,[.nd true true sz n f])
 |.nd false true sz n f,m=>if 0<sz then(.rp m [] 0 0,[.nd false true sz n f])else(.dead,[])
 |.many t n f,m=>(.many t n λk=>(BN (λk=>prom (f k)) n m).1.getD k .dead,(BN (λk=>prom (f k)) n m).2)
 |v,_=>(v,[])
structure Cv(σ s:List V)(w:World)(D:Nat->Prop)(ρ ρ':Nat->Value)(F F':Nat->Nat->Prop)(fp:Nat->Prop):Prop where
 wr:BG (σ++s) w D ρ' F'
 rt:∀i,i<σ.length->ρ' i=ρ i
 old:∀i,i<σ.length->F' i=F i
 new:∀i b,σ.length<=i->F' i b->fp b
theorem Cv.nil(h:BG σ w D ρ F)(fp:Nat->Prop):Cv σ [] w D ρ ρ F F fp:=
 ⟨by grind,λ_ _=>rfl,λ_ _=>rfl,λi b e u=>absurd u (h.out i b e)⟩
theorem Cv.trans{σ s s':List V}{w:World}{D:Nat->Prop}{ρ ρ' u:Nat->Value}{F F' F'':Nat->Nat->Prop}{fp E W:Nat->Prop}(h:Cv σ s w D ρ ρ' F F' fp)(B:Cv (σ++s) s' w D ρ' u F' F'' E)(e:∀b,fp b->W b)(Z:∀b,E b->W b):
  Cv σ (s++s') w D ρ u F F'' W:=by
 refine⟨by rw[<-List.append_assoc];exact B.wr,λi A=>(B.rt i (by grind)).trans (h.rt i A),λi A=>(B.old i (by grind)).trans (h.old i A),λi b A U=>?_⟩
 by_cases J:i<(σ++s).length
 .rw[B.old i J]at U;exact e b (h.new i b A U)
 .exact Z b (B.new i b (by omega) U)
theorem H3:∀(v:V) (σ:List V) (ρ:Nat->Value) (F:Nat->Nat->Prop) (cv:Value) (fp:Nat->Prop),BG σ w D ρ F->Rel D w (Au σ ρ w) v cv fp->(∀b,fp b->¬D b)->(∀i b,F i b->¬fp b)->
  ∃ρ' F',Cv σ (prom v σ.length).2 w D ρ ρ' F F' fp/\Rel D w (Au (σ++(prom v σ.length).2) ρ' w) (prom v σ.length).1 cv noF:=by
 intro v
 induction v with
 |c v=>intro σ ρ F cv fp wr h _ _;exact⟨ρ,F,Cv.nil wr fp,h.1,h.2.1,λ_ h=>h⟩
 |dead=>intro σ ρ F cv fp wr h _ _;exact⟨ρ,F,Cv.nil wr fp,λ_ h=>h⟩
 |rs id p off len=>intro σ ρ F cv fp wr h _ _;exact⟨ρ,F,Cv.nil wr fp,Au.ext (λ_ _=>rfl) _ _ h.1,λ_ h=>h⟩
 |rp id p i k=>intro σ ρ F cv fp wr h _ _;exact⟨ρ,F,Cv.nil wr fp,Au.ext (λ_ _=>rfl) _ _ h.1,λ_ h=>h⟩
 |nd s own sz n f _=>
  intro σ ρ F cv fp wr h h1 h2;cases own with
  |false=>
   have e:=A6 (AE _ _ _ rfl h);subst e;cases s<;>exact⟨ρ,F,Cv.nil wr _,h⟩
  |true=>
   have J:=BG.push wr (v:=.nd s true sz n f) (cv:=cv) (fp:=fp) h h1 h2
   have hok:Cv σ [.nd s true sz n f] w D ρ (λi=>if i=σ.length then cv else ρ i) F (λi=>if i=σ.length then fp else F i) fp:=
    ⟨J,λi U=>by simp[show i≠σ.length by omega],λi U=>by simp[show i≠σ.length by omega],λi b U A=>by
     by_cases he:i=σ.length
     .simpa [he]using A
     .simp only[he,if_false]at A;exact absurd A (wr.out i b U)⟩
   cases s with
   |true=>
    refine⟨_,_,hok,⟨⟨by simp[prom],sz,n,f,cv,⟨by simp[prom],by simp⟩,by omega,?_⟩,λ_ h=>h⟩⟩
    rcases h with⟨rfl,_,hn0,_⟩|⟨b,o,cap,F2,rfl,_⟩
    .obtain rfl:=DA hn0
     exact .inr ⟨rfl,none,rfl,λ_ _=>rfl,λp e=>by cases e⟩
    .exact .inl ⟨b,o,cap,rfl,by simp[AC]⟩
   |false=>
    unfold prom;by_cases E:0<sz
    .simp only[E,if_true]
     rcases h with⟨_,h,_⟩|⟨b,o,cap,F2,rfl,_,_,hn,_⟩
     .cases h
     .exact⟨_,_,hok,⟨⟨by simp,false,sz,n,f,b,o,cap,⟨by simp,by simp⟩,by rw[hn rfl];exact Nat.one_pos,E,by simp[AC]⟩,λ_ h=>h⟩⟩
    .simp only[E,if_false]
     exact⟨ρ,F,Cv.nil wr fp,λ_ h=>h⟩
 |many t n f ih=>
  intro σ ρ F cv fp wr h h1 h2;obtain⟨cs,G,hcv,hn,hr,hd,hf⟩:=h
  have key:∀j,j<=n->∃ρ' F',Cv σ (BN (λk=>prom (f k)) j σ.length).2 w D ρ ρ' F F' (λb=>∃k,k<j/\G k b)/\(BN (λk=>prom (f k)) j σ.length).1.length=j/\
    ∀k,k<j->Rel D w (Au (σ++(BN (λk=>prom (f k)) j σ.length).2) ρ' w) ((BN (λk=>prom (f k)) j σ.length).1.getD k .dead) (cs.getD k undef) noF:=by
   intro j
   induction j with
   |zero=>intro _;exact⟨ρ,F,Cv.nil wr _,rfl,λk hk=>by omega⟩
   |succ j ihj=>
    intro hj;obtain⟨W,F1,u,hl1,hr1⟩:=ihj (by omega)
    have hrj:Rel D w (Au (σ++(BN (λk=>prom (f k)) j σ.length).2) W w) (f j) (cs.getD j undef) (G j):=
     Rel.mono (λ_ h=>h) (Au.ext u.rt) _ _ _ (λ_ _=>rfl) (hr j (by omega))
    obtain⟨ρ2,F2,B,Z⟩:=ih j (σ++(BN (λk=>prom (f k)) j σ.length).2) W F1 (cs.getD j undef) (G j) u.wr hrj (λb A=>h1 b ((hf b).2 ⟨j,by omega,A⟩)) (λi b A hb'=>by
     by_cases U:i<σ.length
     .rw[u.old i U]at A;exact h2 i b A ((hf b).2 ⟨j,by omega,hb'⟩)
     .obtain⟨k,hk,hkb⟩:=u.new i b (by omega) A
      exact hd k j b (by omega) (by omega) (by omega) hkb hb')
    rw[List.length_append]at B Z;refine⟨ρ2,F2,u.trans B (λb ⟨k,hk,h⟩=>⟨k,by omega,h⟩) (λb h=>⟨j,by omega,h⟩),by simp[BN,hl1],λk hk=>?_⟩
    simp only[BN];rw[<-List.append_assoc];by_cases he:k=j
    .subst he
     rw[gDE,gAR (by omega)]
     simpa [hl1]using Z
    .rw[gDE,gAL (by omega),<-gDE]
     exact Rel.mono (λ_ h=>h) (Au.ext B.rt) _ _ _ (λ_ _=>rfl) (hr1 k (by omega))
  obtain⟨ρ',F',ok,_,hr'⟩:=key n (Nat.le_refl _);refine⟨ρ',F',⟨ok.wr,ok.rt,ok.old,λi b U A=>(hf b).2 (ok.new i b U A)⟩,?_⟩
  exact⟨cs,λ_=>noF,hcv,hn,λk hk=>hr' k hk,λ_ _ _ _ _ _ h=>h.elim,λb=>⟨λh=>h.elim,fun⟨_,_,h⟩=>h⟩⟩
theorem CR.res{C:Ctx}{ts:List V}{cts:Array Value}{D':Nat->Prop}(h:CR C σ ts cts w D ρ F){r:V}{v':Value}(hB:Below w.heap.size w w')(hr:Rel D' w' (Au σ ρ w') r v' fp)
  (hf:∀b,fp b->w.heap.size<=b) (B:∀b,D b->D' b) (W:∀b,D' b->D b\/w.heap.size<=b) (U:∀b,D' b->b<w'.heap.size/\¬fp b) (d:Nat):
  Wy C (σ++(prom r σ.length).2) (ts.set d (prom r σ.length).1) (cts.setIfInBounds d v') w':=by
 have u:∀i b,F i b->b<w.heap.size:=h.wr.lt;have wr':BG σ w' D' ρ F:=by
  have J:=h.wr.below hB;refine⟨λi E=>Rel.mono B (λ_ _ h=>h) _ _ _ (λ_ _=>rfl) (J.rel i E),J.disj,λi b e hD=>?_,λb e=>(U b e).1,J.out⟩
  rcases W b hD with h2|h2
  .exact J.dD i b e h2
  .have:=u i b e;omega
 obtain⟨ρ',F',ok,hr'⟩:=H3 r σ ρ F v' fp wr' hr (λb e hD=>(U b hD).2 e) (λi b e hb'=>by have:=u i b e;have:=hf b hb';omega)
 refine⟨D',ρ',F',ok.wr,by simp[h.sz],λt Z=>?_,h.fr.below hB,λi b e=>?_,λb e=>B b (h.D1 b e),λb e A=>?_,λi E=>(ok.rt i (Nat.lt_of_lt_of_le E h.ml)).trans (h.rt i E),by have:=h.ml;simp;omega⟩
 .simp at Z
  by_cases he:d=t
  .subst he
   have A:d<cts.size:=by rw[h.sz];exact Z
   simpa [Z,A]using hr'
  .have J:=h.tm t Z
   simp only[gDE,List.getElem?_set_ne he,Array.getD_eq_getD_getElem?,Array.getElem?_setIfInBounds_ne he];rw[<-gDE,<-Array.getD_eq_getD_getElem?];refine Rel.mono B (λv cv hv=>Au.ext ok.rt _ _ (Au.same h.wr (λi b e=>hB.block b (u i b e)) v cv hv)) _ _ _ (λb e=>hB.block b ?_) J
   rcases e with e|e
   .exact h.wr.Dlt b e
   .exact e.elim
 .by_cases E:i<σ.length
  .rw[ok.old i E]at e;exact h.Fn i b e
  .have:=hf b (ok.new i b (by omega) e)
   right;exact Nat.le_trans h.fr.size this
 .rcases W b e with h2|h2
  .exact h.D2 b h2 A
  .have:=h.fr.size;omega
end Go.Ve


namespace Go.Ve
variable{l:List V}{i:Nat}{D:Nat->Prop}{x:V}{w:World}
structure Ba(G:V->V):Prop where
 c:∀v,G (.c v)=.c v
 dead:G .dead=.dead
 nd:∀s own sz n f,G (.nd s own sz n f)=.nd s own sz n f
 many:∀t n f,G (.many t n f)=.many t n λk=>G (f k)
theorem Ba.rel{G:V->V}(e:Ba G){w':World}{R R':V->Value->Prop}(U:∀b,D b->w'.heap[b]? =w.heap[b]?)
  (h1:∀id p off len cv,R (.rs id p off len) cv->Rel D w' R' (G (.rs id p off len)) cv noF) (h2:∀id p i k cv,R (.rp id p i k) cv->Rel D w' R' (G (.rp id p i k)) cv noF):
  ∀(v:V) (cv:Value) (fp:Nat->Prop),(∀b,¬fp b)->Rel D w R v cv fp->Rel D w' R' (G v) cv noF:=by
 intro v
 induction v with
 |c v=>intro cv fp _ h;rw[e.c];exact⟨h.1,h.2.1,λ_ h=>h⟩
 |dead=>intro cv fp _ h;rw[e.dead];exact λ_ h=>h
 |many t n f W=>
  intro cv fp A h;rw[e.many];obtain⟨cs,F,B,hn,Z,hd,u⟩:=h;exact⟨cs,λ_=>noF,B.mono (λ_ h=>h) U,hn,λk J=>W k _ _ (λb E=>A b ((u b).2 ⟨k,J,E⟩)) (Z k J),λ_ _ _ _ _ _ h=>h.elim,λb=>⟨λh=>h.elim,fun⟨_,_,h⟩=>h⟩⟩
 |nd s own sz n f _=>
  intro cv fp A h;rw[e.nd];have:=A6 A;subst this;exact Rel.nd_R (Rel.mono (λ_ h=>h) (λ_ _ h=>h) _ _ _ (λb E=>U b (E.elim id λh=>h.elim)) h)
 |rs id p off len=>intro cv fp _ h;exact h1 _ _ _ _ _ h.1
 |rp id p i k=>intro cv fp _ h;exact h2 _ _ _ _ _ h.1
def rrV(id:Nat)(p:List (Nat×Nat))(j:Nat):V->V
 |.rs id' q off len=>if id'=id/\A9 p q=true then .rs j (q.drop p.length) off len else .rs id' q off len
 |.rp id' q i k=>if id'=id/\A9 p q=true then .rp j (q.drop p.length) i k else .rp id' q i k
 |.many t n f=>.many t n λk=>rrV id p j (f k)
 |v=>v
def Db(id:Nat)(p:List (Nat×Nat))(j:Nat):Ba (rrV id p j):=⟨λ_=>rfl,rfl,λ_ _ _ _ _=>rfl,λ_ _ _=>rfl⟩
theorem Aq(h:i<l.length):(l.set i x).getD i .dead=x:=by grind
theorem Ao{j:Nat}(h:i≠j):(l.set i x).getD j .dead=l.getD j .dead:=by grind
theorem CR.reroot{C:Ctx}{σ ts:List V}{cts:Array Value}{ρ:Nat->Value}{F:Nat->Nat->Prop}(h:CR C σ ts cts w D ρ F){id:Nat}{p:List (Nat×Nat)}{v1:V}{c1:Value}(hid:id<σ.length)
  (hat:At w p (σ.getD id .dead) (ρ id) v1 c1):∃ρ' F',CR C (σ.set id (upd p (σ.getD id .dead) .dead)++[sub p (σ.getD id .dead)]) (ts.map (rrV id p σ.length)) cts w D ρ' F'/\ρ' σ.length=c1/\(∀i,i<σ.length->ρ' i=ρ i)/\∀i b,F' i b->∃j,F j b:=by
 obtain⟨fp1,hr1,W,hput⟩:=DF (w':=w) p _ _ _ _ _ (h.wr.rel id hid) (λb u h'=>h.wr.dD id b h' u) hat
 have hnew:=hput .dead noF (λ_ h=>h) (λb u=>u.elim) (λ_ _ _=>rfl)
 let ρ':Nat->Value:=λi=>if i=σ.length then c1 else ρ i
 let F':Nat->Nat->Prop:=λi=>if i=σ.length then fp1 else if i=id then λb=>(F id b/\¬fp1 b)\/noF b else F i
 have J:sub p (σ.getD id .dead)=v1:=(At.sub hat).symm;have B:∀i b,F' i b->∃j,F j b:=by
  intro i b u;simp only[F']at u;split at u
  .exact⟨id,W b u⟩
  .split at u
   .exact⟨id,u.elim (λh=>h.1) λh=>h.elim⟩
   .exact⟨i,u⟩
 have wr':BG (σ.set id (upd p (σ.getD id .dead) .dead)++[sub p (σ.getD id .dead)]) w D ρ' F':=by
  refine⟨λi hi=>?_,λi j b hij u A=>?_,λi b u hD=>?_,h.wr.Dlt,λi b hi u=>?_⟩
  .by_cases he:i=σ.length
   .subst he
    simp only[ρ',F',if_true];rw[J];simpa using hr1
   .have hi':i<σ.length:=by simp at hi;omega
    rw[AG (by simpa using hi')]
    simp only[ρ',F',he,if_false];by_cases he2:i=id
    .subst he2
     rw[Aq hid];simpa using hnew
    .rw[Ao (Ne.symm he2)]
     simpa [he2]using h.wr.rel i hi'
  .simp only[F']at u A
   by_cases he:i=σ.length<;>by_cases he':j=σ.length
   .omega
   .simp only[he,if_true,he',if_false]at u A
    split at A
    .rcases A with A|A
     .exact A.2 u
     .exact A
    .exact h.wr.disj id j b (λe=>by rename_i hne;exact hne e.symm) (W b u) A
   .simp only[he',if_true,he,if_false]at u A
    split at u
    .rcases u with u|u
     .exact u.2 A
     .exact u
    .exact h.wr.disj i id b (by assumption) u (W b A)
   .simp only[he,he',if_false]at u A
    have e1:F i b:=by
     split at u
     .rename_i e;subst e;exact u.elim (λh=>h.1) λh=>h.elim
     .exact u
    have e2:F j b:=by
     split at A
     .rename_i e;subst e;exact A.elim (λh=>h.1) λh=>h.elim
     .exact A
    exact h.wr.disj i j b hij e1 e2
  .obtain⟨j,hj⟩:=B i b u;exact h.wr.dD j b hj hD
  .simp at hi
   simp only[F',show i≠σ.length by omega,show i≠id by omega,if_false]at u
   exact h.wr.out i b (by omega) u
 refine⟨ρ',F',⟨wr',by simpa using h.sz,λt ht=>?_,h.fr,λi b u=>?_,h.D1,h.D2,λi hi=>?_,by have:=h.ml;simp;omega⟩,by simp[ρ'],λi hi=>by simp[ρ',show i≠σ.length by omega],B⟩
 .simp at ht
  have e1:(ts.map (rrV id p σ.length)).getD t .dead=rrV id p σ.length (ts.getD t .dead):=by simp[ht]
  rw[e1];have U:(σ.set id (upd p (σ.getD id .dead) .dead)++[sub p (σ.getD id .dead)]).length=σ.length+1:=by simp
  have hge:(σ.set id (upd p (σ.getD id .dead) .dead)++[sub p (σ.getD id .dead)]).getD σ.length .dead=v1:=by rw[<-J];simp
  -- one reference
  have key:∀(id':Nat) (q:List (Nat×Nat)) (s:Bool) (sz n:Nat) (f:Nat->Nat->V) (c:Value),id'<σ.length->At w q (σ.getD id' .dead) (ρ id') (.nd s true sz n f) c->
    (id'=id/\A9 p q=true->At w (q.drop p.length) v1 c1 (.nd s true sz n f) c)/\
    (¬ (id'=id/\A9 p q=true)->∃f',At w q ((σ.set id (upd p (σ.getD id .dead) .dead)++[sub p (σ.getD id .dead)]).getD id' .dead) (ρ' id') (.nd s true sz n f') c):=by
   intro id' q s sz n f c E ha;constructor
   .rintro ⟨rfl,hpre⟩
    rw[DD hpre]at ha;exact At.split ha hat
   .intro hn
    rw[AG (by simpa using E)]
    have eρ:ρ' id'=ρ id':=by simp[ρ',show id'≠σ.length by omega]
    rw[eρ];by_cases he:id'=id
    .subst he
     rw[Aq hid];exact At.keep p q _ _ (At.ok hat) (by simpa using hn) ha
    .rw[Ao (Ne.symm he)]
     exact⟨f,ha⟩
  refine(Db id p σ.length).rel (λ_ _=>rfl) ?_ ?_ _ _ noF (λ_ h=>h) (h.tm t ht)
  .rintro id' q off len cv ⟨E,sz,n,f,cn,ha,hle,Z⟩
   obtain⟨k1,k2⟩:=key id' q true sz n f cn E ha;simp only[rrV];split
   .rename_i hc
    exact⟨⟨by rw[U];omega,sz,n,f,cn,by rw[hge];simpa [ρ']using k1 hc,hle,Z⟩,λ_ h=>h⟩
   .rename_i hc
    obtain⟨f',ha'⟩:=k2 hc;exact⟨⟨by rw[U];omega,sz,n,f',cn,ha',hle,Z⟩,λ_ h=>h⟩
  .rintro id' q i k cv ⟨E,s,sz,n,f,b,o,cap,ha,hi,hk,Z⟩
   obtain⟨k1,k2⟩:=key id' q s sz n f _ E ha;simp only[rrV];split
   .rename_i hc
    exact⟨⟨by rw[U];omega,s,sz,n,f,b,o,cap,by rw[hge];simpa [ρ']using k1 hc,hi,hk,Z⟩,λ_ h=>h⟩
   .rename_i hc
    obtain⟨f',ha'⟩:=k2 hc;exact⟨⟨by rw[U];omega,s,sz,n,f',b,o,cap,ha',hi,hk,Z⟩,λ_ h=>h⟩
 .obtain⟨j,hj⟩:=B i b u;exact h.Fn j b hj
 .have:=h.ml
  simp only[ρ',show i≠σ.length by omega,if_false]
  exact h.rt i hi
end Go.Ve

