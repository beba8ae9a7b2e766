/- Calls by contract in the small machine. -/
import Derived.Test.YteakdlfnmhlifaaVh
open Nat(blt mul_comm le_trans)
open Array(getD_eq_getD_getElem? ext')
set_option linter.all false
namespace Go.Ve
variable{xs:Array Operand}{ats:Array TypeId}{f:FuncId}{vs:List V}{y:Operand}{name:String}{t:TypeId}{fv v:V}
def AA(P:Program)(f:FuncId):Bool:=
 match P.funcs[f]? with
 | some fn => !(fn.name == "runtime.NumGoroutine") && fn.body.isSome
 |none=>false
section ops
variable {P:Program}{o:Oper}{a:Act}{w:World}{σ:List V}{D:Nat->Prop}{ρ:Nat->Value}{F:Nat->Nat->Prop}{K:V->Prop}
theorem O1{R:V->Value->Prop}{cv:Value}{fp:Nat->Prop}(h:AL v=false)(e:Rel D w R v cv fp):∀b,¬fp b:=by
 have:∀v,AL v=false->AK v=false:=by
  intro v
  induction v with
  |many t n f u=>
   intro h;unfold AL at h;unfold AK
   grind
  |nd s own sz n f _=>intro h;exact h
  |mp own l=>intro h;exact h
  |_=>intro _;rfl
 exact AC _ _ _ (this _ h) e
def Call(P:Program)(f:FuncId)(e:Bool)(vs:List V)(K:V->Prop):Prop:=
 ∃r,(AA P f=true/\FC P f vs r)/\(e=true->BE r)/\K r
def Zo(σ:List V)(w:World)(D:Nat->Prop)(ρ:Nat->Value)(F:Nat->Nat->Prop)(vs:List V)(cs:Array Value):Prop:=
 cs.size=vs.length/\∀j,j<vs.length->OpR σ w D ρ F (vs.getD j .dead) (cs.getD j undef)
theorem HH(hk:Wok w)(wr:Bg σ w D ρ F){cvs:Array Value}(A:AA P f=true->(execOp a.eval o).run P w=.ok (.enter f cvs) w)(hv:Zo σ w D ρ F vs cvs)
  (h:Call P f (vs.any AL) (vs.map (BQ σ)) K):∃r,K r/\Ar P o a w σ D ρ r:=by
 obtain⟨r,⟨E,O⟩,hla,hK⟩:=h;refine⟨r,hK,λnext Q hn=>?_⟩
 have A:=A E;unfold Oper.wp;rw[A,Oper.upon_enter]
 let D2:Nat->Prop:=λb=>D b\/(vs.any AL=true/\((∃j fp,j<vs.length/\Rel D w (Ai σ ρ w) (vs.getD j .dead) (cvs.getD j undef) fp/\fp b)\/∃i,F i b))
 have H:∀i,i<(vs.map (BQ σ)).length->Rel D2 w noR ((vs.map (BQ σ)).getD i .dead) (cvs.getD i undef) noF:=by
  intro i hi;simp at hi;obtain⟨fp,B,hfD,hfF⟩:=hv.2 i hi;have e1:(vs.map (BQ σ)).getD i .dead=BQ σ (vs.getD i .dead):=by simp[hi]
  rw[e1]
  have J:AL (vs.getD i .dead)=true\/∀b,¬fp b:=by
   cases h:AL (vs.getD i .dead)with
   |true=>exact .inl rfl
   |false=>exact .inr (O1 h B)
  refine Rel.mono (λb u=>u.imp id fun⟨h1,h2⟩=>⟨?_,h2.imp (λh=>⟨i,fp,hi,B,h⟩) id⟩) (λ_ _ h=>h) _ _ _ (λ_ _=>rfl) (Aar wr _ _ _ B J)
  grind
 have hD2:∀b,D2 b->b<w.heap.size:=by
  rintro b (u|⟨_,⟨j,fp,hj,B,u⟩|⟨i,u⟩⟩)
  .exact wr.Dlt b u
  .exact Rel.lt _ _ _ B b u
  .exact wr.lt i b u
 refine(O w D2 cvs hk hD2 (by rw[hv.1];simp) H).mono ?_
 rintro e w' ⟨cv,fp,D',rfl,hB,B,U,Z,Y,W⟩
 cases J:vs.any AL with
 |false=>
  refine hn cv w' D' fp hB (Rel.noR_mono B) U (λb u=>Z b (.inl u)) (λb u=>?_) W
  rcases Y b u with(h|⟨h,_⟩)|h
  .exact .inl h
  .rw[J]at h;cases h
  .exact .inr h
 |true=>
  refine hn cv w' D fp hB (Rel.noR_mono (Rel.ownOnly' r _ _ _ _ (hla J) B)) U (λ_ h=>h) (λ_ h=>.inl h) λb u=>⟨Nat.lt_of_lt_of_le (wr.Dlt b u) hB.size,λh=>?_⟩
  have:=wr.Dlt b u;have:=U b h;omega
theorem Ie{cs:Array Value}(E:o.op=.call {callee:=.value y,args:=xs,argTypes:=ats})(B:a.eval y=.func (.func f) #[] cs)(e:AA P f=true):
  (execOp a.eval o).run P w=.ok (.enter f (xs.map a.eval++cs)) w:=by
 unfold AA at e;split at e
 .rename_i fn u
  have A:fn.body.isNone=false:=by simp_all
  unfold execOp;rw[E];simp[resolve,B,Deferred.ofValue,invoke,callFunc,u,A]
  grind
 grind
theorem WD(A:Wok w)(wr:Bg σ w D ρ F)(u:o.op=.call {callee:=.value (.func f),args:=xs,argTypes:=ats})(e:Zo σ w D ρ F vs (xs.map a.eval))
  (h:Call P f (vs.any AL) (vs.map (BQ σ)) K):∃r,K r/\Ar P o a w σ D ρ r:=
 HH A wr (λB=>by
  have:=Ie (a:=a) (w:=w) u rfl B
  grind) e h
def OB(P:Program)(σ:List V)(fv:V)(args:List V)(K:V->Prop):Prop:=match fv with
 |.many (.cl g) n f=>blt g 1000000=true/\Call P g ((args++tab n f).any AL) ((args++tab n f).map (BQ σ)) K
 |_=>False
theorem OA(hk:Wok w)(wr:Bg σ w D ρ F){vs:List V}(ho:o.op=.call {callee:=.value y,args:=xs,argTypes:=ats})(hy:OpR σ w D ρ F fv (a.eval y))
  (B:Zo σ w D ρ F vs (xs.map a.eval)) (h:OB P σ fv vs K):∃r,K r/\Ar P o a w σ D ρ r:=by
 unfold OB at h;split at h
 case h_2=>exact h.elim
 rename_i g n f;obtain⟨J,h⟩:=h;obtain⟨fp,hr,U,O⟩:=hy;obtain⟨cs,G,u,hn,E,_,H⟩:=hr;have u:a.eval y=WJ g cs:=u;rw[Pq J]at u;refine HH hk wr (λhc=>Ie ho u hc) ⟨?_,λj hj=>?_⟩ h
 .rw[Array.size_append,List.length_append,B.1,Hh,hn]
 .rw[List.length_append,Hh]at hj
  by_cases A:j<vs.length
  .have:=B.2 j A
   have Z:(vs++tab n f).getD j .dead=vs.getD j .dead:=by simp[gAL A]
   have Y:(xs.map a.eval++cs).getD j undef=(xs.map a.eval).getD j undef:=by
    have:j<(xs.map a.eval).size:=by rw[B.1];exact A
    simp[Array.getElem?_append_left this]
   rw[Z,Y];exact this
  .have e:j-vs.length<n:=by omega
   have Z:(vs++tab n f).getD j .dead=f (j-vs.length):=by
    rw[<-Mx n f (j-vs.length) e]
    grind
   have Y:(xs.map a.eval++cs).getD j undef=cs.getD (j-vs.length) undef:=by
    have h2:(xs.map a.eval).size<=j:=by rw[B.1];omega
    have h3:(xs.map a.eval).size=vs.length:=B.1;rw[getD_eq_getD_getElem?,getD_eq_getD_getElem?,Array.getElem?_append_right h2,h3]
   rw[Z,Y];exact⟨G (j-vs.length),E _ e,λb W=>U b ((H b).2 ⟨_,e,W⟩),λi b hF W=>O i b hF ((H b).2 ⟨_,e,W⟩)⟩
def qMkF(g:Nat)(cs:List V)(K:V->Prop):Prop:=(blt g 1000000=true/\cs.all (λv=>!AK v)=true)/\K (.many (.cl g) cs.length λk=>cs.getD k .dead)
theorem VQ(wr:Bg σ w D ρ F){g:Nat}{cs:List V}(e:o.op=.makeFunc (.func g) #[] xs)(A:Zo σ w D ρ F cs (xs.map a.eval))(h:qMkF g cs K):∃r,K r/\Ar P o a w σ D ρ r:=by
 obtain⟨⟨u,E⟩,hK⟩:=h;refine⟨_,hK,Ar.pure wr ?_ ⟨xs.map a.eval,λ_=>noF,(Pq u).symm,A.1,λk H=>?_,λ_ _ _ _ _ _ h=>h.elim,λb=>⟨λh=>h.elim,fun⟨_,_,h⟩=>h⟩⟩⟩
 .unfold execOp;rw[e];simp[Instr.makeFunc]
 .obtain⟨fp,B,_,_⟩:=A.2 k H
  have e:AK (cs.getD k .dead)=false:=by
   grind
  exact Rel.fp_congr (λb=>⟨λh=>absurd h (AC _ _ _ e B b),λh=>h.elim⟩) B
def AcU(P:Program)(t:TypeId)(name:String):Option FuncId:=match P.info? t,P.underlying t with
 |some i,some (.pointer _)=>match i.methods.find? (·.name==name)with
  |some m=>match m.path.toList,m.func with
   |[],some (f,true)=>some f
   |_,_=>none
  |none=>none
 |_,_=>none
theorem Aaj(h:AcU P t name=some f)(n:Nat)(v:Value)(w:World):(method (n+1) t v name).run P w=.ok (f,v) w/\∃e,P.underlying t=some (.pointer e):=by
 unfold AcU at h;split at h
 case h_2=>grind
 rename_i i e hi u;split at h
 case h_2=>grind
 rename_i m B;split at h
 case h_2=>grind
 rename_i H A E;cases h;refine⟨?_,e,u⟩;unfold method;simp[typeInfo,hi,B,A,follow,E,receiverAt,run_underlying u,Place.get]
def qMkI(P:Program)(t:TypeId)(v:V)(K:V->Prop):Prop:=(AK v=false/\∃e,P.underlying t=some (.pointer e))/\K (.many (.cl (1000000+t)) 1 λ_=>v)
theorem VP(wr:Bg σ w D ρ F){x:Operand}(H:o.op=.makeInterface t x)(B:OpR σ w D ρ F v (a.eval x))(h:qMkI P t v K):∃r,K r/\Ar P o a w σ D ρ r:=by
 obtain⟨⟨u,e,E⟩,hK⟩:=h;obtain⟨fp,A,_,_⟩:=B;refine⟨_,hK,Ar.pure wr (v':=.iface t (a.eval x)) ?_ ⟨#[a.eval x],λ_=>noF,?_,rfl,λk J=>?_,λ_ _ _ _ _ _ h=>h.elim,λb=>⟨λh=>h.elim,fun⟨_,_,h⟩=>h⟩⟩⟩
 .unfold execOp;rw[H];simp[Instr.makeInterface,run_underlying E]
 .show Value.iface t (a.eval x)=WJ (1000000+t) #[a.eval x]
  rw[AbM];rfl
 .obtain rfl:k=0:=by omega
  exact Rel.fp_congr (λb=>⟨λh=>absurd h (AC _ _ _ u A b),λh=>h.elim⟩) A
def OD(P:Program)(σ:List V)(fv:V)(name:String)(args:List V)(K:V->Prop):Prop:=match fv with
 |.many (.cl g) n f=>∃t fn,(g=1000000+t/\n=1/\AcU P t name=some fn)/\Call P fn ((tab n f++args).any AL) ((tab n f++args).map (BQ σ)) K
 |_=>False
theorem OC(hk:Wok w)(wr:Bg σ w D ρ F){vs:List V}(ho:o.op=.call {callee:=.invoke y name,args:=xs,argTypes:=ats})(hy:OpR σ w D ρ F fv (a.eval y))
  (hv:Zo σ w D ρ F vs (xs.map a.eval)) (h:OD P σ fv name vs K):∃r,K r/\Ar P o a w σ D ρ r:=by
 unfold OD at h;split at h
 case h_2=>exact h.elim
 rename_i g n f;obtain⟨t,fn,⟨rfl,rfl,hm⟩,h⟩:=h;obtain⟨fp,hr,W,U⟩:=hy;obtain⟨cs,G,e,hn,B,_,E⟩:=hr;have e:a.eval y=WJ (1000000+t) cs:=e;rw[AbM]at e;have ht:tab 1 f=[f 0]:=rfl;rw[ht]at h;refine HH hk wr (cvs:=#[cs.getD 0 undef]++xs.map a.eval) (λH=>?_) ⟨?_,λj hj=>?_⟩ h
 .unfold AA at H
  split at H
  case h_2=>cases H
  rename_i fu O;simp only[bAE,Bool.not_eq_true']at H;obtain⟨h1,h2⟩:=H;have Y:fu.body.isNone=false:=by cases A:fu.body<;>simp[A]at h2⊢
  have J:P.types.size+Made.depth=(P.types.size+99)+1:=rfl;obtain⟨u,_⟩:=Aaj hm (P.types.size+99) (cs.getD 0 undef) w;generalize cs.getD 0 undef=c0 at e u;have he:((#[Value.iface t c0]++xs.map a.eval).extract 1 (#[Value.iface t c0]++xs.map a.eval).size)=xs.map a.eval:=by
   apply ext';simp;exact List.take_of_length_le (by simp)
  have h0:(#[Value.iface t c0]++xs.map a.eval)[0]? =some (Value.iface t c0):=by
   rw[Array.getElem?_append_left (by simp)];rfl
  unfold execOp;rw[ho];simp at h1;simp only[resolve,e];show(invoke (.fn (.method name) #[]) (#[Value.iface t c0]++xs.map a.eval)).run P w=_;unfold invoke;simp only[h0,he];show(callMethod (Value.iface t c0) name (xs.map a.eval)).run P w=_;unfold callMethod;simp[J,u,callFunc,O,Y,h1];intro A;simp[A]at h2
 .simp[hv.1];omega
 .cases j with
  |zero=>
   show OpR σ w D ρ F (f 0) _;have Z:(#[cs.getD 0 undef]++xs.map a.eval).getD 0 undef=cs.getD 0 undef:=by
    rw[getD_eq_getD_getElem?,Array.getElem?_append_left (by simp)];rfl
   rw[Z];exact⟨G 0,B 0 (by omega),λb A=>W b ((E b).2 ⟨_,by omega,A⟩),λi b hF A=>U i b hF ((E b).2 ⟨_,by omega,A⟩)⟩
  |succ j=>
   have hj:j<vs.length:=by simpa using hj
   have:=hv.2 j hj;have e1:([f 0]++vs).getD (j+1) .dead=vs.getD j .dead:=rfl
   have Z:(#[cs.getD 0 undef]++xs.map a.eval).getD (j+1) undef=(xs.map a.eval).getD j undef:=by
    simp[getD_eq_getD_getElem?,Array.getElem?_append]
   rw[e1,Z];exact this
end ops
end Go.Ve


namespace Go.Ve
def AR:List (Nat×Nat)->List (Nat×Nat)->Bool
 |[],_=>true
 |(i,k)::p,(j,l)::q=>i==j&&k==l&&AR p q
 |_::_,[]=>false
def Cq:∀{p q:List (Nat×Nat)},AR p q=true->q=p++q.drop p.length
 |[],_,_=>rfl
 |(i,k)::p,(j,l)::q,h=>by
  simp[AR,beq_iff_eq]at h;obtain⟨⟨rfl,rfl⟩,h⟩:=h;simp[<-Cq h]
 |_::_,[],h=>by cases h
theorem At.split{w:World}:∀{p q:List (Nat×Nat)}{v:V}{cv:Value}{v':V}{A:Value}{H:V}{c1:Value},At w (p++q) v cv v' A->At w p v cv H c1->At w q H c1 v' A
 |[],_,_,_,_,_,_,_,h,u=>by obtain⟨rfl,rfl⟩:=u;grind
 |(i,k)::p,q,.nd s true sz n f,_,_,_,_,_,h,u=>by
  obtain⟨_,_,b,o,cap,x,E,O,h⟩:=h;obtain⟨_,_,Y,W,J,U,e,B,u⟩:=u;subst E;obtain⟨rfl,rfl,_⟩:=As e;have:=Option.some.inj (B.symm.trans O);subst this;exact At.split h u
 |_::_,_,.nd _ false _ _ _,_,_,_,_,_,h,_=>h.elim
 |_::_,_,.c _,_,_,_,_,_,h,_=>h.elim
 |_::_,_,.dead,_,_,_,_,_,h,_=>h.elim
 |_::_,_,.many ..,_,_,_,_,_,h,_=>h.elim
 |_::_,_,.rs ..,_,_,_,_,_,h,_=>h.elim
 |_::_,_,.rp ..,_,_,_,_,_,h,_=>h.elim
theorem At.keep{w:World}{x:V}:∀(p q:List (Nat×Nat)) (v:V) (cv:Value) {s:Bool}{sz n:Nat}{f:Nat->Nat->V}{c:Value},K2 p v->AR p q=false->At w q v cv (.nd s true sz n f) c->
  ∃H,At w q (upd p v x) cv (.nd s true sz n H) c
 |[],_,_,_,_,_,_,_,_,_,h,_=>by cases h
 |(i,k)::p,[],.nd s0 o0 sz0 n0 f0,_,_,_,_,_,_,_,_,A=>by
  obtain⟨B,rfl⟩:=A;cases B;exact⟨_,rfl,rfl⟩
 |(i,k)::p,(i',k')::q,.nd s0 true sz0 n0 f0,cv,s,sz,n,f,c,e,hpre,A=>by
  obtain⟨B,O,b,o,cap,y,u,J,A⟩:=A;obtain⟨_,_,_,e⟩:=e;by_cases U:i'=i/\k'=k
  .obtain⟨rfl,rfl⟩:=U
   obtain⟨H,E⟩:=At.keep p q (f0 i' k') y e (by simpa [AR]using hpre) A
   exact⟨H,B,O,b,o,cap,y,u,J,by simpa using E⟩
  .exact⟨f,B,O,b,o,cap,y,u,J,by grind⟩
 |_::_,_::_,.nd _ false _ _ _,_,_,_,_,_,_,_,_,h=>h.elim
 |_::_,_,.c _,_,_,_,_,_,_,e,_,_=>e.elim
 |_::_,_,.dead,_,_,_,_,_,_,e,_,_=>e.elim
 |_::_,_,.many ..,_,_,_,_,_,_,e,_,_=>e.elim
 |_::_,_,.rs ..,_,_,_,_,_,_,e,_,_=>e.elim
 |_::_,_,.rp ..,_,_,_,_,_,_,e,_,_=>e.elim
theorem At.keepM{w:World}{x:V}:∀(p q:List (Nat×Nat)) (v:V) (cv:Value) {l:List (Value×Value)}{c:Value},K2 p v->AR p q=false->At w q v cv (.mp true l) c->
  At w q (upd p v x) cv (.mp true l) c
 |[],_,_,_,_,_,_,h,_=>by cases h
 |(i,k)::p,[],.nd s0 o0 sz0 n0 f0,_,_,_,_,_,A=>by
  obtain⟨B,_⟩:=A;cases B
 |(i,k)::p,(i',k')::q,.nd s0 true sz0 n0 f0,cv,l,c,e,hpre,A=>by
  obtain⟨B,J,b,o,cap,y,u,H,A⟩:=A;obtain⟨_,_,_,e⟩:=e;by_cases O:i'=i/\k'=k
  .obtain⟨rfl,rfl⟩:=O
   have E:=At.keepM (x:=x) p q (f0 i' k') y e (by simpa [AR]using hpre) A
   exact⟨B,J,b,o,cap,y,u,H,by simpa using E⟩
  .exact⟨B,J,b,o,cap,y,u,H,by grind⟩
 |_::_,_::_,.nd _ false _ _ _,_,_,_,_,_,h=>h.elim
 |_::_,_,.c _,_,_,_,e,_,_=>e.elim
 |_::_,_,.dead,_,_,_,e,_,_=>e.elim
 |_::_,_,.many ..,_,_,_,e,_,_=>e.elim
 |_::_,_,.rs ..,_,_,_,e,_,_=>e.elim
 |_::_,_,.rp ..,_,_,_,e,_,_=>e.elim
 |_::_,_,.rm ..,_,_,_,e,_,_=>e.elim
 |_::_,_,.mp ..,_,_,_,e,_,_=>e.elim
theorem NB{sz i k i' k':Nat}(u:k<sz)(e:k'<sz)(h:¬ (i'=i/\k'=k)):i'*sz+k'≠i*sz+k:=by
 intro E;have B:(i'*sz+k') % sz=(i*sz+k) % sz:=by grind
 rw[mul_comm i',mul_comm i,Nat.mul_add_mod,Nat.mul_add_mod,Nat.mod_eq_of_lt e,Nat.mod_eq_of_lt u]at B;have A:(i'*sz+k')/sz=(i*sz+k)/sz:=by grind
 rw[mul_comm i',mul_comm i,Nat.mul_add_div (by omega),Nat.mul_add_div (by omega),Nat.div_eq_of_lt e,Nat.div_eq_of_lt u]at A
 omega
theorem At.store{D:Nat->Prop}{w w':World}{x:V}{s:Bool}{sz n:Nat}{f:Nat->Nat->V}{b o cap i k:Nat}(hi:i<n)(hk:k<sz)
  (hw:∀ad,ad≠(⟨b,o+i*sz+k,none⟩:Addr)->w'.cell? ad=w.cell? ad) (hb:∀c,c≠b->w'.heap[c]? =w.heap[c]?):
  ∀(p q:List (Nat×Nat)) (v:V) (cv:Value) (fp:Nat->Prop) {s1:Bool}{O n1:Nat}{f1:Nat->Nat->V}{c1:Value},Rel D w noR v cv fp->At w p v cv (.nd s true sz n f) (Ay s b o n cap)->
   AR (p++[(i,k)]) q=false->At w q v cv (.nd s1 true O n1 f1) c1->∃f1',At w' q (upd (p++[(i,k)]) v x) cv (.nd s1 true O n1 f1') c1
 |p,[],v,cv,fp,s1,O,n1,f1,c1,U,hp,hpre,u=>by
  obtain⟨rfl,rfl⟩:=u;cases p with
  |nil=>exact⟨_,rfl,rfl⟩
  |cons a p=>exact⟨_,rfl,rfl⟩
 |[],(i',k')::q,v,cv,fp,s1,O,n1,f1,c1,U,hp,hpre,u=>by
  obtain⟨rfl,rfl⟩:=hp
  have hne:¬ (i'=i/\k'=k):=by
   rintro ⟨rfl,rfl⟩
   simp[AR]at hpre
  obtain⟨Z,J,b0,o0,B,y,hcv,hy,u⟩:=u;obtain⟨rfl,rfl,_⟩:=As hcv;have hroot:=Rel.root U;rcases U with⟨h0,_⟩|⟨b2,o2,cap2,F,A,hcap,hmax,hs1,hc,himm,ho⟩
  .omega
  obtain⟨rfl,rfl,_⟩:=As A;obtain⟨y',E,H⟩:=hc i' k' Z J;have:y'=y:=Option.some.inj (E.symm.trans hy);subst this;refine⟨f1,Z,J,b,o,B,y',hcv,by rw[hw _ (by have:=NB (i:=i) hk J hne;intro h;simp at h;try omega)];exact hy,?_⟩
  simp only[hne,if_false];exact At.same H u λc hcF=>hb c λe=>(ho rfl).2.1 i' k' Z J (e▸hcF)
 |(i0,k0)::p,(i',k')::q,.nd s0 true sz0 n0 f0,cv,fp,s1,O,n1,f1,c1,U,hp,hpre,u=>by
  obtain⟨Z,J,b0,o0,B,y,rfl,hy,u⟩:=u;obtain⟨h3,h4,b3,o3,cap3,z,hcv3,hz,hp⟩:=hp;obtain⟨rfl,rfl,_⟩:=As hcv3;rcases U with⟨h0,_⟩|⟨b2,o2,cap2,F,A,hcap,hmax,hs1,hc,himm,ho⟩
  .omega
  obtain⟨rfl,rfl,_⟩:=As A;obtain⟨y',E,H⟩:=hc i' k' Z J;have:y'=y:=Option.some.inj (E.symm.trans hy);subst this;obtain⟨z',hz',hrz⟩:=hc i0 k0 h3 h4;have:z'=z:=Option.some.inj (hz'.symm.trans hz);subst this
  obtain⟨fz,hrn,hsub,_⟩:∃fz,Rel D w noR (.nd s true sz n f) (Ay s b o n cap) fz/\(∀c,fz c->F i0 k0 c)/\True:=by
   clear hw hb
   have:∀(p:List (Nat×Nat)) (v:V) (cv:Value) (fp:Nat->Prop) (v1:V) (c1:Value),Rel D w noR v cv fp->At w p v cv v1 c1->∃fz,Rel D w noR v1 c1 fz/\(∀c,fz c->fp c):=by
    intro p
    induction p with
    |nil=>intro v cv fp v1 c1 U u;obtain⟨rfl,rfl⟩:=u;exact⟨fp,U,λ_ h=>h⟩
    |cons a p ih=>
     intro v cv fp v1 c1 U u;obtain⟨i,k⟩:=a
     match v,u,U with
     |.nd s true sz n f,u,U=>
      obtain⟨Z,J,b,o,cap,y,rfl,hy,u⟩:=u;rcases U with⟨h0,_⟩|⟨b2,o2,cap2,F,A,hcap,hmax,hs1,hc,himm,ho⟩
      .omega
      obtain⟨rfl,rfl,_⟩:=As A;obtain⟨y',E,H⟩:=hc i k Z J;have:y'=y:=Option.some.inj (E.symm.trans hy);subst this;obtain⟨fz,Y,h2'⟩:=ih _ _ _ _ _ H u;exact⟨fz,Y,λc hc=>((ho rfl).2.2.2 c).2 (.inr ⟨i,k,Z,J,h2' c hc⟩)⟩
   obtain⟨fz,Y,h2'⟩:=this p _ _ _ _ _ hrz hp;exact⟨fz,Y,h2',trivial⟩
  have hbF:F i0 k0 b:=hsub b (Rel.root hrn);have hbne:b0≠b:=λe=>(ho rfl).2.1 i0 k0 h3 h4 (e▸hbF)
  have W:w'.cell? ⟨b0,o0+i'*sz0+k',none⟩=some y':=by rw[hw _ (by intro h;simp at h;try exact hbne h.1)];exact hy
  by_cases he:i'=i0/\k'=k0
  .obtain⟨rfl,rfl⟩:=he
   have:z'=y':=Option.some.inj (hz'.symm.trans E);subst this;obtain⟨f1',Y⟩:=At.store hi hk hw hb p q (f0 i' k') z' _ H hp (by simpa [AR]using hpre) u
   exact⟨f1',Z,J,b0,o0,B,z',rfl,W,by simpa using Y⟩
  .refine⟨f1,Z,J,b0,o0,B,y',rfl,W,?_⟩
   simp only[he,if_false];exact At.same H u λc hcF=>hb c λe=>(ho rfl).2.2.1 i' k' i0 k0 c Z J h3 h4 (by omega) hcF (e▸hbF)
 |_::_,_::_,.nd _ false _ _ _,_,_,_,_,_,_,_,_,_,_,h=>h.elim
 |_::_,_::_,.c _,_,_,_,_,_,_,_,_,_,_,h=>h.elim
 |_::_,_::_,.dead,_,_,_,_,_,_,_,_,_,_,h=>h.elim
 |_::_,_::_,.many ..,_,_,_,_,_,_,_,_,_,_,h=>h.elim
 |_::_,_::_,.rs ..,_,_,_,_,_,_,_,_,_,_,h=>h.elim
 |_::_,_::_,.rp ..,_,_,_,_,_,_,_,_,_,_,h=>h.elim
 |_::_,_::_,.rm ..,_,_,_,_,_,_,_,_,_,_,h=>h.elim
 |_::_,_::_,.mp ..,_,_,_,_,_,_,_,_,_,_,h=>h.elim
theorem At.storeM{D:Nat->Prop}{w w':World}{x:V}{s:Bool}{sz n:Nat}{f:Nat->Nat->V}{b o cap i k:Nat}(hi:i<n)(hk:k<sz)
  (hw:∀ad,ad≠(⟨b,o+i*sz+k,none⟩:Addr)->w'.cell? ad=w.cell? ad) (hb:∀c,c≠b->w'.heap[c]? =w.heap[c]?):
  ∀(p q:List (Nat×Nat)) (v:V) (cv:Value) (fp:Nat->Prop) {l:List (Value×Value)}{c1:Value},Rel D w noR v cv fp->At w p v cv (.nd s true sz n f) (Ay s b o n cap)->
   AR (p++[(i,k)]) q=false->At w q v cv (.mp true l) c1->At w' q (upd (p++[(i,k)]) v x) cv (.mp true l) c1
 |p,[],v,cv,fp,l,c1,O,hp,hpre,u=>by
  obtain⟨rfl,rfl⟩:=u;cases p with
  |nil=>obtain⟨h,_⟩:=hp;cases h
  |cons a p=>exact hp.elim
 |[],(i',k')::q,v,cv,fp,l,c1,O,hp,hpre,u=>by
  obtain⟨rfl,rfl⟩:=hp
  have hne:¬ (i'=i/\k'=k):=by
   rintro ⟨rfl,rfl⟩
   simp[AR]at hpre
  obtain⟨Y,J,b0,o0,B,y,hcv,hy,u⟩:=u;obtain⟨rfl,rfl,_⟩:=As hcv;have hroot:=Rel.root O;rcases O with⟨h0,_⟩|⟨b2,o2,cap2,F,A,hcap,hmax,hs1,hc,himm,ho⟩
  .omega
  obtain⟨rfl,rfl,_⟩:=As A;obtain⟨Z,E,H⟩:=hc i' k' Y J;have:Z=y:=Option.some.inj (E.symm.trans hy);subst this;refine⟨Y,J,b,o,B,Z,hcv,by rw[hw _ (by have:=NB (i:=i) hk J hne;intro h;simp at h;try omega)];exact hy,?_⟩
  simp only[hne,if_false];exact At.same H u λc hcF=>hb c λe=>(ho rfl).2.1 i' k' Y J (e▸hcF)
 |(i0,k0)::p,(i',k')::q,.nd s0 true sz0 n0 f0,cv,fp,l,c1,O,hp,hpre,u=>by
  obtain⟨Y,J,b0,o0,B,y,rfl,hy,u⟩:=u;obtain⟨h3,h4,b3,o3,cap3,z,hcv3,hz,hp⟩:=hp;obtain⟨rfl,rfl,_⟩:=As hcv3;rcases O with⟨h0,_⟩|⟨b2,o2,cap2,F,A,hcap,hmax,hs1,hc,himm,ho⟩
  .omega
  obtain⟨rfl,rfl,_⟩:=As A;obtain⟨Z,E,H⟩:=hc i' k' Y J;have:Z=y:=Option.some.inj (E.symm.trans hy);subst this;obtain⟨z',hz',hrz⟩:=hc i0 k0 h3 h4;have:z'=z:=Option.some.inj (hz'.symm.trans hz);subst this
  obtain⟨fz,hrn,hsub,_⟩:∃fz,Rel D w noR (.nd s true sz n f) (Ay s b o n cap) fz/\(∀c,fz c->F i0 k0 c)/\True:=by
   clear hw hb
   have:∀(p:List (Nat×Nat)) (v:V) (cv:Value) (fp:Nat->Prop) (v1:V) (c1:Value),Rel D w noR v cv fp->At w p v cv v1 c1->∃fz,Rel D w noR v1 c1 fz/\(∀c,fz c->fp c):=by
    intro p
    induction p with
    |nil=>intro v cv fp v1 c1 O u;obtain⟨rfl,rfl⟩:=u;exact⟨fp,O,λ_ h=>h⟩
    |cons a p ih=>
     intro v cv fp v1 c1 O u;obtain⟨i,k⟩:=a
     match v,u,O with
     |.nd s true sz n f,u,O=>
      obtain⟨Y,J,b,o,cap,y,rfl,hy,u⟩:=u;rcases O with⟨h0,_⟩|⟨b2,o2,cap2,F,A,hcap,hmax,hs1,hc,himm,ho⟩
      .omega
      obtain⟨rfl,rfl,_⟩:=As A;obtain⟨Z,E,H⟩:=hc i k Y J;have:Z=y:=Option.some.inj (E.symm.trans hy);subst this;obtain⟨fz,W,h2'⟩:=ih _ _ _ _ _ H u;exact⟨fz,W,λc hc=>((ho rfl).2.2.2 c).2 (.inr ⟨i,k,Y,J,h2' c hc⟩)⟩
   obtain⟨fz,W,h2'⟩:=this p _ _ _ _ _ hrz hp;exact⟨fz,W,h2',trivial⟩
  have hbF:F i0 k0 b:=hsub b (Rel.root hrn);have hbne:b0≠b:=λe=>(ho rfl).2.1 i0 k0 h3 h4 (e▸hbF)
  have U:w'.cell? ⟨b0,o0+i'*sz0+k',none⟩=some Z:=by rw[hw _ (by intro h;simp at h;try exact hbne h.1)];exact hy
  by_cases he:i'=i0/\k'=k0
  .obtain⟨rfl,rfl⟩:=he
   have:z'=Z:=Option.some.inj (hz'.symm.trans E);subst this;have W:=At.storeM (x:=x) hi hk hw hb p q (f0 i' k') z' _ H hp (by simpa [AR]using hpre) u
   exact⟨Y,J,b0,o0,B,z',rfl,U,by simpa using W⟩
  .refine⟨Y,J,b0,o0,B,Z,rfl,U,?_⟩
   simp only[he,if_false];exact At.same H u λc hcF=>hb c λe=>(ho rfl).2.2.1 i' k' i0 k0 c Y J h3 h4 (by omega) hcF (e▸hbF)
 |_::_,_::_,.nd _ false _ _ _,_,_,_,_,_,_,_,h=>h.elim
 |_::_,_::_,.c _,_,_,_,_,_,_,_,h=>h.elim
 |_::_,_::_,.dead,_,_,_,_,_,_,_,h=>h.elim
 |_::_,_::_,.many ..,_,_,_,_,_,_,_,h=>h.elim
 |_::_,_::_,.rs ..,_,_,_,_,_,_,_,h=>h.elim
 |_::_,_::_,.rp ..,_,_,_,_,_,_,_,h=>h.elim
 |_::_,_::_,.rm ..,_,_,_,_,_,_,_,h=>h.elim
 |_::_,_::_,.mp ..,_,_,_,_,_,_,_,h=>h.elim
end Go.Ve


namespace Go.Ve
variable{σ:List V}{F:Nat->Nat->Prop}{D fp:Nat->Prop}{ρ:Nat->Value}{w w':World}
structure Ctx where
 w0:World
 W:Nat->Prop
 D0:Nat->Prop
 m:Nat
 ρ0:Nat->Value
 ok:Wok w0/\∀p,Abf=some p->¬W p.1
structure Fr(w0 w:World)(W:Nat->Prop):Prop where
 os:w.os=w0.os
 tape:w.tape=w0.tape
 output:w.output=w0.output
 size:w0.heap.size<=w.heap.size
 block:∀b,b<w0.heap.size->¬W b->w.heap[b]? =w0.heap[b]?
 drawn:w0.drawn<=w.drawn
def Fr.below{w0:World}{W:Nat->Prop}(h:Fr w0 w W)(e:Below w.heap.size w w'):Fr w0 w' W:=
 ⟨e.os.trans h.os,e.tape.trans h.tape,e.output.trans h.output,le_trans h.size e.size,λb u A=>(e.block b (Nat.lt_of_lt_of_le u h.size)).trans (h.block b u A),le_trans h.drawn e.drawn⟩
structure CR(C:Ctx)(σ:List V)(ts:List V)(cts:Array Value)(w:World)(D:Nat->Prop)(ρ:Nat->Value)(F:Nat->Nat->Prop):Prop where
 wr:Bg σ w D ρ F
 sz:cts.size=ts.length
 tm:∀t,t<ts.length->Rel D w (Ai σ ρ w) (ts.getD t .dead) (cts.getD t undef) noF
 fr:Fr C.w0 w C.W
 Fn:∀i b,F i b->C.W b\/C.w0.heap.size<=b
 D1:∀b,C.D0 b->D b
 D2:∀b,D b->b<C.w0.heap.size->C.D0 b\/C.W b
 rt:∀i,i<C.m->ρ i=C.ρ0 i
 ml:C.m<=σ.length
def CR.ok{C:Ctx}{σ ts:List V}{cts:Array Value}{w:World}{D:Nat->Prop}{ρ:Nat->Value}{F:Nat->Nat->Prop}(h:CR C σ ts cts w D ρ F):Wok w:=
 C.ok.1.same λp e=>h.fr.block p.1 (C.ok.1.lt e) (C.ok.2 p e)
def WK(C:Ctx)(σ:List V)(ts:List V)(cts:Array Value)(w:World):Prop:=∃D ρ F,CR C σ ts cts w D ρ F
theorem AB{l e:List V}{i:Nat}(h:i<l.length):(l++e).getD i .dead=l.getD i .dead:=by grind
def Ai.ext{s:List V}{ρ':Nat->Value}(h:∀i,i<σ.length->ρ' i=ρ i):∀v cv,Ai σ ρ w v cv->Ai (σ++s) ρ' w v cv
 |.rs id p off len,cv,⟨e,sz,n,f,A,u,r⟩=>⟨by grind,sz,n,f,A,by grind,r⟩
 |.rp id p i k,cv,⟨e,s,sz,n,f,b,o,cap,u,r⟩=>⟨by grind,s,sz,n,f,b,o,cap,by grind,r⟩
 |.rm id p,cv,⟨e,l,b,u,r⟩=>⟨by grind,l,b,by grind,r⟩
 |.mp ..,_,h=>h.elim
 |.c _,_,h=>h.elim
 |.dead,_,h=>h.elim
 |.many ..,_,h=>h.elim
 |.nd ..,_,h=>h.elim
theorem Bg.push(h:Bg σ w D ρ F){v:V}{cv:Value}(U:Rel D w noR v cv fp)(O:∀b,fp b->¬D b)(J:∀i b,F i b->¬fp b):
  Bg (σ++[v]) w D (λi=>if i=σ.length then cv else ρ i) (λi=>if i=σ.length then fp else F i):=by
 refine⟨λi hi=>?_,λi j b E e A=>?_,λi b e=>?_,h.Dlt,λi b hi e=>?_⟩
 .by_cases u:i=σ.length
  .grind
  .have B:i<σ.length:=by simp at hi;omega
   rw[AB B];simpa [u]using h.rel i B
 .by_cases u:i=σ.length<;>by_cases H:j=σ.length<;>simp only[u,H,if_true,if_false]at e A
  .omega
  .grind
  .exact J i b e A
  .exact h.disj i j b E e A
 .by_cases u:i=σ.length<;>simp only[u,if_true,if_false]at e
  .exact O b e
  .exact h.dD i b e
 .simp at hi
  have u:i≠σ.length:=by omega
  simp only[u,if_false]at e;exact h.out i b (by omega) e
def BO(g:Nat->Nat->V×List V):Nat->Nat->List V×List V
 |0,_=>([],[])
 |n+1,m=>((BO g n m).1++[(g n (m+(BO g n m).2.length)).1],(BO g n m).2++(g n (m+(BO g n m).2.length)).2)
def prom:V->Nat->V×List V
 |.nd true true sz n f,m=>(.rs m [] 0 n,[.nd true true sz n f])
 |.nd false true sz n f,m=>if 0<sz then(.rp m [] 0 0,[.nd false true sz n f])else(.dead,[])
 |.mp true l,m=>(.rm m [],[.mp true l])
 |.many t n f,m=>(.many t n λk=>(BO (λk=>prom (f k)) n m).1.getD k .dead,(BO (λk=>prom (f k)) n m).2)
 |v,_=>(v,[])
structure B1(σ s:List V)(w:World)(D:Nat->Prop)(ρ ρ':Nat->Value)(F F':Nat->Nat->Prop)(fp:Nat->Prop):Prop where
 wr:Bg (σ++s) w D ρ' F'
 rt:∀i,i<σ.length->ρ' i=ρ i
 old:∀i,i<σ.length->F' i=F i
 new:∀i b,σ.length<=i->F' i b->fp b
theorem B1.nil(h:Bg σ w D ρ F)(fp:Nat->Prop):B1 σ [] w D ρ ρ F F fp:=
 ⟨by grind,λ_ _=>rfl,λ_ _=>rfl,λi b hi e=>absurd e (h.out i b hi)⟩
theorem B1.trans{σ s s':List V}{w:World}{D:Nat->Prop}{ρ ρ' u:Nat->Value}{F F' F'':Nat->Nat->Prop}{fp B J:Nat->Prop}(h:B1 σ s w D ρ ρ' F F' fp)(A:B1 (σ++s) s' w D ρ' u F' F'' B)(e:∀b,fp b->J b)(O:∀b,B b->J b):
  B1 σ (s++s') w D ρ u F F'' J:=by
 refine⟨by rw[<-List.append_assoc];exact A.wr,λi hi=>(A.rt i (by grind)).trans (h.rt i hi),λi hi=>(A.old i (by grind)).trans (h.old i hi),λi b hi H=>?_⟩
 by_cases E:i<(σ++s).length
 .rw[A.old i E]at H;exact e b (h.new i b hi H)
 .exact O b (A.new i b (by omega) H)
theorem IC:∀(v:V) (σ:List V) (ρ:Nat->Value) (F:Nat->Nat->Prop) (cv:Value) (fp:Nat->Prop),Bg σ w D ρ F->Rel D w (Ai σ ρ w) v cv fp->(∀b,fp b->¬D b)->(∀i b,F i b->¬fp b)->
  ∃ρ' F',B1 σ (prom v σ.length).2 w D ρ ρ' F F' fp/\Rel D w (Ai (σ++(prom v σ.length).2) ρ' w) (prom v σ.length).1 cv noF:=by
 intro v
 induction v with
 |c v=>intro σ ρ F cv fp wr h _ _;exact⟨ρ,F,B1.nil wr fp,h.1,h.2.1,λ_ h=>h⟩
 |dead=>intro σ ρ F cv fp wr h _ _;exact⟨ρ,F,B1.nil wr fp,λ_ h=>h⟩
 |rs id p off len=>intro σ ρ F cv fp wr h _ _;exact⟨ρ,F,B1.nil wr fp,Ai.ext (λ_ _=>rfl) _ _ h.1,λ_ h=>h⟩
 |rp id p i k=>intro σ ρ F cv fp wr h _ _;exact⟨ρ,F,B1.nil wr fp,Ai.ext (λ_ _=>rfl) _ _ h.1,λ_ h=>h⟩
 |rm id p=>intro σ ρ F cv fp wr h _ _;exact⟨ρ,F,B1.nil wr fp,Ai.ext (λ_ _=>rfl) _ _ h.1,λ_ h=>h⟩
 |mp own l=>
  intro σ ρ F cv fp wr h h1 h2;cases own with
  |false=>
   have e:=A4 (AC _ _ _ rfl h);subst e;exact⟨ρ,F,B1.nil wr _,h⟩
  |true=>
   have u:=Bg.push wr (v:=.mp true l) (cv:=cv) (fp:=fp) h h1 h2
   have E:B1 σ [.mp true l] w D ρ (λi=>if i=σ.length then cv else ρ i) F (λi=>if i=σ.length then fp else F i) fp:=
    ⟨u,λi hi=>by simp[show i≠σ.length by omega],λi hi=>by simp[show i≠σ.length by omega],λi b hi A=>by
     by_cases O:i=σ.length
     .simpa [O]using A
     .simp only[O,if_false]at A;exact absurd A (wr.out i b hi)⟩
   obtain⟨b,U,_⟩:=h;exact⟨_,_,E,⟨⟨by simp[prom],l,b,⟨by simp[prom],by simp⟩,U⟩,λ_ h=>h⟩⟩
 |nd s own sz n f _=>
  intro σ ρ F cv fp wr h h1 h2;cases own with
  |false=>
   have e:=A4 (AC _ _ _ rfl h);subst e;cases s<;>exact⟨ρ,F,B1.nil wr _,h⟩
  |true=>
   have u:=Bg.push wr (v:=.nd s true sz n f) (cv:=cv) (fp:=fp) h h1 h2
   have E:B1 σ [.nd s true sz n f] w D ρ (λi=>if i=σ.length then cv else ρ i) F (λi=>if i=σ.length then fp else F i) fp:=
    ⟨u,λi hi=>by simp[show i≠σ.length by omega],λi hi=>by simp[show i≠σ.length by omega],λi b hi A=>by
     by_cases O:i=σ.length
     .simpa [O]using A
     .simp only[O,if_false]at A;exact absurd A (wr.out i b hi)⟩
   cases s with
   |true=>
    refine⟨_,_,E,⟨⟨by simp[prom],sz,n,f,cv,⟨by simp[prom],by simp⟩,by omega,?_⟩,λ_ h=>h⟩⟩
    rcases h with⟨rfl,_,hn0,_⟩|⟨b,o,cap,F2,rfl,_⟩
    .obtain rfl:=DZ hn0
     exact .inr ⟨rfl,none,rfl,λ_ _=>rfl,λp e=>by cases e⟩
    .exact .inl ⟨b,o,cap,rfl,by simp[Ay]⟩
   |false=>
    unfold prom;by_cases J:0<sz
    .simp only[J,if_true]
     rcases h with⟨_,h,_⟩|⟨b,o,cap,F2,rfl,_,_,hn,_⟩
     .cases h
     .exact⟨_,_,E,⟨⟨by simp,false,sz,n,f,b,o,cap,⟨by simp,by simp⟩,by rw[hn rfl];exact Nat.one_pos,J,by simp[Ay]⟩,λ_ h=>h⟩⟩
    .simp only[J,if_false]
     exact⟨ρ,F,B1.nil wr fp,λ_ h=>h⟩
 |many t n f ih=>
  intro σ ρ F cv fp wr h h1 h2;obtain⟨cs,G,U,hn,hr,hd,hf⟩:=h
  have key:∀j,j<=n->∃ρ' F',B1 σ (BO (λk=>prom (f k)) j σ.length).2 w D ρ ρ' F F' (λb=>∃k,k<j/\G k b)/\(BO (λk=>prom (f k)) j σ.length).1.length=j/\
    ∀k,k<j->Rel D w (Ai (σ++(BO (λk=>prom (f k)) j σ.length).2) ρ' w) ((BO (λk=>prom (f k)) j σ.length).1.getD k .dead) (cs.getD k undef) noF:=by
   intro j
   induction j with
   |zero=>intro _;exact⟨ρ,F,B1.nil wr _,rfl,λk hk=>by omega⟩
   |succ j ihj=>
    intro hj;obtain⟨W,F1,B,Z,hr1⟩:=ihj (by omega)
    have hrj:Rel D w (Ai (σ++(BO (λk=>prom (f k)) j σ.length).2) W w) (f j) (cs.getD j undef) (G j):=
     Rel.mono (λ_ h=>h) (Ai.ext B.rt) _ _ _ (λ_ _=>rfl) (hr j (by omega))
    obtain⟨ρ2,F2,H,Y⟩:=ih j (σ++(BO (λk=>prom (f k)) j σ.length).2) W F1 (cs.getD j undef) (G j) B.wr hrj (λb A=>h1 b ((hf b).2 ⟨j,by omega,A⟩)) (λi b A hb'=>by
     by_cases hi:i<σ.length
     .rw[B.old i hi]at A;exact h2 i b A ((hf b).2 ⟨j,by omega,hb'⟩)
     .obtain⟨k,hk,hkb⟩:=B.new i b (by omega) A
      exact hd k j b (by omega) (by omega) (by omega) hkb hb')
    rw[List.length_append]at H Y;refine⟨ρ2,F2,B.trans H (λb ⟨k,hk,h⟩=>⟨k,by omega,h⟩) (λb h=>⟨j,by omega,h⟩),by simp[BO,Z],λk hk=>?_⟩
    simp only[BO];rw[<-List.append_assoc];by_cases O:k=j
    .subst O
     rw[gDE,gAR (by omega)]
     simpa [Z]using Y
    .rw[gDE,gAL (by omega),<-gDE]
     exact Rel.mono (λ_ h=>h) (Ai.ext H.rt) _ _ _ (λ_ _=>rfl) (hr1 k (by omega))
  obtain⟨ρ',F',ok,_,hr'⟩:=key n (Nat.le_refl _);refine⟨ρ',F',⟨ok.wr,ok.rt,ok.old,λi b hi A=>(hf b).2 (ok.new i b hi A)⟩,?_⟩
  exact⟨cs,λ_=>noF,U,hn,λk hk=>hr' k hk,λ_ _ _ _ _ _ h=>h.elim,λb=>⟨λh=>h.elim,fun⟨_,_,h⟩=>h⟩⟩
theorem CR.res{C:Ctx}{ts:List V}{cts:Array Value}{D':Nat->Prop}(h:CR C σ ts cts w D ρ F){r:V}{v':Value}(U:Below w.heap.size w w')(hr:Rel D' w' (Ai σ ρ w') r v' fp)
  (hf:∀b,fp b->w.heap.size<=b) (B:∀b,D b->D' b) (J:∀b,D' b->D b\/w.heap.size<=b) (H:∀b,D' b->b<w'.heap.size/\¬fp b) (d:Nat):
  WK C (σ++(prom r σ.length).2) (ts.set d (prom r σ.length).1) (cts.setIfInBounds d v') w':=by
 have u:∀i b,F i b->b<w.heap.size:=h.wr.lt;have W:Bg σ w' D' ρ F:=by
  have E:=h.wr.below U;refine⟨λi hi=>Rel.mono B (λ_ _ h=>h) _ _ _ (λ_ _=>rfl) (E.rel i hi),E.disj,λi b e hD=>?_,λb e=>(H b e).1,E.out⟩
  rcases J b hD with h2|h2
  .exact E.dD i b e h2
  .have:=u i b e;omega
 obtain⟨ρ',F',ok,Y⟩:=IC r σ ρ F v' fp W hr (λb e hD=>(H b hD).2 e) (λi b e hb'=>by have:=u i b e;have:=hf b hb';omega)
 refine⟨D',ρ',F',ok.wr,by simp[h.sz],λt O=>?_,h.fr.below U,λi b e=>?_,λb e=>B b (h.D1 b e),λb e A=>?_,λi hi=>(ok.rt i (Nat.lt_of_lt_of_le hi h.ml)).trans (h.rt i hi),by have:=h.ml;simp;omega⟩
 .simp at O
  by_cases Z:d=t
  .subst Z
   have A:d<cts.size:=by rw[h.sz];exact O
   simpa [O,A]using Y
  .have E:=h.tm t O
   simp only[gDE,List.getElem?_set_ne Z,getD_eq_getD_getElem?,Array.getElem?_setIfInBounds_ne Z];rw[<-gDE,<-getD_eq_getD_getElem?];refine Rel.mono B (λv cv hv=>Ai.ext ok.rt _ _ (Ai.same h.wr (λi b e=>U.block b (u i b e)) v cv hv)) _ _ _ (λb e=>U.block b ?_) E
   rcases e with e|e
   .exact h.wr.Dlt b e
   .exact e.elim
 .by_cases hi:i<σ.length
  .rw[ok.old i hi]at e;exact h.Fn i b e
  .have:=hf b (ok.new i b (by omega) e)
   right;exact le_trans h.fr.size this
 .rcases J b e with h2|h2
  .exact h.D2 b h2 A
  .have:=h.fr.size;omega
end Go.Ve


namespace Go.Ve
variable{l:List V}{i:Nat}{D:Nat->Prop}{x:V}{w:World}
structure Bc(G:V->V):Prop where
 c:∀v,G (.c v)=.c v
 dead:G .dead=.dead
 nd:∀s own sz n f,G (.nd s own sz n f)=.nd s own sz n f
 mp:∀own l,G (.mp own l)=.mp own l
 many:∀t n f,G (.many t n f)=.many t n λk=>G (f k)
theorem Bc.rel{G:V->V}(A:Bc G){w':World}{R R':V->Value->Prop}(H:∀b,D b->w'.heap[b]? =w.heap[b]?)
  (h1:∀id p off len cv,R (.rs id p off len) cv->Rel D w' R' (G (.rs id p off len)) cv noF) (Z:∀id p i k cv,R (.rp id p i k) cv->Rel D w' R' (G (.rp id p i k)) cv noF) (Y:∀id p cv,R (.rm id p) cv->Rel D w' R' (G (.rm id p)) cv noF):
  ∀(v:V) (cv:Value) (fp:Nat->Prop),(∀b,¬fp b)->Rel D w R v cv fp->Rel D w' R' (G v) cv noF:=by
 intro v
 induction v with
 |c v=>intro cv fp _ h;rw[A.c];exact⟨h.1,h.2.1,λ_ h=>h⟩
 |dead=>intro cv fp _ h;rw[A.dead];exact λ_ h=>h
 |many t n f O=>
  intro cv fp e h;rw[A.many];obtain⟨cs,F,E,W,U,hd,B⟩:=h;exact⟨cs,λ_=>noF,E.mono (λ_ h=>h) H,W,λk J=>O k _ _ (λb u=>e b ((B b).2 ⟨k,J,u⟩)) (U k J),λ_ _ _ _ _ _ h=>h.elim,λb=>⟨λh=>h.elim,fun⟨_,_,h⟩=>h⟩⟩
 |nd s own sz n f _=>
  intro cv fp e h;rw[A.nd];have:=A4 e;subst this;exact Rel.nd_R (Rel.mono (λ_ h=>h) (λ_ _ h=>h) _ _ _ (λb u=>H b (u.elim id λh=>h.elim)) h)
 |rs id p off len=>intro cv fp _ h;exact h1 _ _ _ _ _ h.1
 |rp id p i k=>intro cv fp _ h;exact Z _ _ _ _ _ h.1
 |rm id p=>intro cv fp _ h;exact Y _ _ _ h.1
 |mp own l=>
  intro cv fp e h;rw[A.mp];have:=A4 e;subst this;exact Rel.mono (w:=w) (D:=D) (λ_ h=>h) (R:=noR) (λ_ _ h=>h.elim) _ _ _ (λb u=>H b (u.elim id λh=>h.elim)) h
def rrV(id:Nat)(p:List (Nat×Nat))(j:Nat):V->V
 |.rs id' q off len=>if id'=id/\AR p q=true then .rs j (q.drop p.length) off len else .rs id' q off len
 |.rp id' q i k=>if id'=id/\AR p q=true then .rp j (q.drop p.length) i k else .rp id' q i k
 |.rm id' q=>if id'=id/\AR p q=true then .rm j (q.drop p.length)else .rm id' q
 |.many t n f=>.many t n λk=>rrV id p j (f k)
 |v=>v
def Dc(id:Nat)(p:List (Nat×Nat))(j:Nat):Bc (rrV id p j):=⟨λ_=>rfl,rfl,λ_ _ _ _ _=>rfl,λ_ _=>rfl,λ_ _ _=>rfl⟩
theorem Ae(h:i<l.length):(l.set i x).getD i .dead=x:=by grind
theorem Ad{j:Nat}(h:i≠j):(l.set i x).getD j .dead=l.getD j .dead:=by grind
theorem CR.reroot{C:Ctx}{σ ts:List V}{cts:Array Value}{ρ:Nat->Value}{F:Nat->Nat->Prop}(h:CR C σ ts cts w D ρ F){id:Nat}{p:List (Nat×Nat)}{v1:V}{c1:Value}(hid:id<σ.length)
  (W:At w p (σ.getD id .dead) (ρ id) v1 c1):∃ρ' F',CR C (σ.set id (upd p (σ.getD id .dead) .dead)++[sub p (σ.getD id .dead)]) (ts.map (rrV id p σ.length)) cts w D ρ' F'/\ρ' σ.length=c1/\(∀i,i<σ.length->ρ' i=ρ i)/\∀i b,F' i b->∃j,F j b:=by
 obtain⟨fp1,hr1,Z,hput⟩:=Dg (w':=w) p _ _ _ _ _ (h.wr.rel id hid) (λb u h'=>h.wr.dD id b h' u) W
 have hnew:=hput .dead noF (λ_ h=>h) (λb u=>u.elim) (λ_ _ _=>rfl)
 let ρ':Nat->Value:=λi=>if i=σ.length then c1 else ρ i
 let F':Nat->Nat->Prop:=λi=>if i=σ.length then fp1 else if i=id then λb=>(F id b/\¬fp1 b)\/noF b else F i
 have U:sub p (σ.getD id .dead)=v1:=(At.sub W).symm;have H:∀i b,F' i b->∃j,F j b:=by
  intro i b u;simp only[F']at u;split at u
  .exact⟨id,Z b u⟩
  .split at u
   .exact⟨id,u.elim (λh=>h.1) λh=>h.elim⟩
   .exact⟨i,u⟩
 have wr':Bg (σ.set id (upd p (σ.getD id .dead) .dead)++[sub p (σ.getD id .dead)]) w D ρ' F':=by
  refine⟨λi hi=>?_,λi j b hij u A=>?_,λi b u hD=>?_,h.wr.Dlt,λi b hi u=>?_⟩
  .by_cases Y:i=σ.length
   .subst Y
    simp only[ρ',F',if_true];rw[U];simpa using hr1
   .have hi':i<σ.length:=by simp at hi;omega
    rw[AB (by simpa using hi')]
    simp only[ρ',F',Y,if_false];by_cases he2:i=id
    .subst he2
     rw[Ae hid];simpa using hnew
    .rw[Ad (Ne.symm he2)]
     simpa [he2]using h.wr.rel i hi'
  .simp only[F']at u A
   by_cases Y:i=σ.length<;>by_cases he':j=σ.length
   .omega
   .simp only[Y,if_true,he',if_false]at u A
    split at A
    .rcases A with A|A
     .exact A.2 u
     .exact A
    .exact h.wr.disj id j b (λe=>by rename_i hne;exact hne e.symm) (Z b u) A
   .simp only[he',if_true,Y,if_false]at u A
    split at u
    .rcases u with u|u
     .exact u.2 A
     .exact u
    .exact h.wr.disj i id b (by assumption) u (Z b A)
   .simp only[Y,he',if_false]at u A
    have e1:F i b:=by
     split at u
     .rename_i e;subst e;exact u.elim (λh=>h.1) λh=>h.elim
     .exact u
    have e2:F j b:=by
     split at A
     .rename_i e;subst e;exact A.elim (λh=>h.1) λh=>h.elim
     .exact A
    exact h.wr.disj i j b hij e1 e2
  .obtain⟨j,hj⟩:=H i b u;exact h.wr.dD j b hj hD
  .simp at hi
   simp only[F',show i≠σ.length by omega,show i≠id by omega,if_false]at u
   exact h.wr.out i b (by omega) u
 refine⟨ρ',F',⟨wr',by simpa using h.sz,λt ht=>?_,h.fr,λi b u=>?_,h.D1,h.D2,λi hi=>?_,by have:=h.ml;simp;omega⟩,by simp[ρ'],λi hi=>by simp[ρ',show i≠σ.length by omega],H⟩
 .simp at ht
  have e1:(ts.map (rrV id p σ.length)).getD t .dead=rrV id p σ.length (ts.getD t .dead):=by simp[ht]
  rw[e1];have E:(σ.set id (upd p (σ.getD id .dead) .dead)++[sub p (σ.getD id .dead)]).length=σ.length+1:=by simp
  have hge:(σ.set id (upd p (σ.getD id .dead) .dead)++[sub p (σ.getD id .dead)]).getD σ.length .dead=v1:=by rw[<-U];simp
  -- one reference
  have key:∀(id':Nat) (q:List (Nat×Nat)) (s:Bool) (sz n:Nat) (f:Nat->Nat->V) (c:Value),id'<σ.length->At w q (σ.getD id' .dead) (ρ id') (.nd s true sz n f) c->
    (id'=id/\AR p q=true->At w (q.drop p.length) v1 c1 (.nd s true sz n f) c)/\
    (¬ (id'=id/\AR p q=true)->∃f',At w q ((σ.set id (upd p (σ.getD id .dead) .dead)++[sub p (σ.getD id .dead)]).getD id' .dead) (ρ' id') (.nd s true sz n f') c):=by
   intro id' q s sz n f c B O;constructor
   .rintro ⟨rfl,hpre⟩
    rw[Cq hpre]at O;exact At.split O W
   .intro hn
    rw[AB (by simpa using B)]
    have eρ:ρ' id'=ρ id':=by simp[ρ',show id'≠σ.length by omega]
    rw[eρ];by_cases Y:id'=id
    .subst Y
     rw[Ae hid];exact At.keep p q _ _ (At.ok W) (by simpa using hn) O
    .rw[Ad (Ne.symm Y)]
     exact⟨f,O⟩
  have keyM:∀(id':Nat) (q:List (Nat×Nat)) (l:List (Value×Value)) (c:Value),id'<σ.length->At w q (σ.getD id' .dead) (ρ id') (.mp true l) c->
    (id'=id/\AR p q=true->At w (q.drop p.length) v1 c1 (.mp true l) c)/\
    (¬ (id'=id/\AR p q=true)->At w q ((σ.set id (upd p (σ.getD id .dead) .dead)++[sub p (σ.getD id .dead)]).getD id' .dead) (ρ' id') (.mp true l) c):=by
   intro id' q l c B O;constructor
   .rintro ⟨rfl,hpre⟩
    rw[Cq hpre]at O;exact At.split O W
   .intro hn
    rw[AB (by simpa using B)]
    have eρ:ρ' id'=ρ id':=by simp[ρ',show id'≠σ.length by omega]
    rw[eρ];by_cases Y:id'=id
    .subst Y
     rw[Ae hid];exact At.keepM p q _ _ (At.ok W) (by simpa using hn) O
    .rw[Ad (Ne.symm Y)]
     exact O
  refine(Dc id p σ.length).rel (λ_ _=>rfl) ?_ ?_ ?_ _ _ noF (λ_ h=>h) (h.tm t ht)
  .rintro id' q off len cv ⟨B,sz,n,f,cn,O,hle,J⟩
   obtain⟨k1,k2⟩:=key id' q true sz n f cn B O;simp only[rrV];split
   .rename_i hc
    exact⟨⟨by rw[E];omega,sz,n,f,cn,by rw[hge];simpa [ρ']using k1 hc,hle,J⟩,λ_ h=>h⟩
   .rename_i hc
    obtain⟨f',ha'⟩:=k2 hc;exact⟨⟨by rw[E];omega,sz,n,f',cn,ha',hle,J⟩,λ_ h=>h⟩
  .rintro id' q i k cv ⟨B,s,sz,n,f,b,o,cap,O,hi,hk,J⟩
   obtain⟨k1,k2⟩:=key id' q s sz n f _ B O;simp only[rrV];split
   .rename_i hc
    exact⟨⟨by rw[E];omega,s,sz,n,f,b,o,cap,by rw[hge];simpa [ρ']using k1 hc,hi,hk,J⟩,λ_ h=>h⟩
   .rename_i hc
    obtain⟨f',ha'⟩:=k2 hc;exact⟨⟨by rw[E];omega,s,sz,n,f',b,o,cap,ha',hi,hk,J⟩,λ_ h=>h⟩
  .rintro id' q cv ⟨B,l,b,O,J⟩
   obtain⟨k1,k2⟩:=keyM id' q l _ B O;simp only[rrV];split
   .rename_i hc
    exact⟨⟨by rw[E];omega,l,b,by rw[hge];simpa [ρ']using k1 hc,J⟩,λ_ h=>h⟩
   .rename_i hc
    exact⟨⟨by rw[E];omega,l,b,k2 hc,J⟩,λ_ h=>h⟩
 .obtain⟨j,hj⟩:=H i b u;exact h.Fn j b hj
 .have:=h.ml
  simp only[ρ',show i≠σ.length by omega,if_false]
  exact h.rt i hi
end Go.Ve

