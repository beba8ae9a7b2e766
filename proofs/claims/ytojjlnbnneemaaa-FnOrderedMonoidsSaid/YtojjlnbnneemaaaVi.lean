/- Calls by contract in the small machine. -/
import Derived.Test.YtojjlnbnneemaaaVh
set_option linter.all false
namespace Go.Ve
variable{xs:Array Operand}{ats:Array TypeId}{f:FuncId}{vs:List V}{y:Operand}{name:String}{t:TypeId}{fv v:V}
def Ai(P:Program)(f:FuncId):Bool:=
 match P.funcs[f]? with
 | some fn => !(fn.name == "runtime.NumGoroutine") && fn.body.isSome
 |none=>false
section ops
variable {P:Program}{o:Oper}{a:Act}{w:World}{σ:List V}{D:Nat->Prop}{ρ:Nat->Value}{F:Nat->Nat->Prop}{K:V->Prop}
theorem Oz{R:V->Value->Prop}{cv:Value}{fp:Nat->Prop}(h:AT v=false)(e:Rel D w R v cv fp):∀b,¬fp b:=by
 have:∀v,AT v=false->AS v=false:=by
  intro v
  induction v with
  |many t n f A=>
   intro h;unfold AT at h;unfold AS
   grind
  |nd s own sz n f _=>intro h;exact h
  |mp own l=>intro h;exact h
  |_=>intro _;rfl
 exact AF _ _ _ (this _ h) e
def Call(P:Program)(f:FuncId)(e:Bool)(vs:List V)(K:V->Prop):Prop:=
 ∃r,(Ai P f=true/\FC P f vs r)/\(e=true->BF r)/\K r
def X2(σ:List V)(w:World)(D:Nat->Prop)(ρ:Nat->Value)(F:Nat->Nat->Prop)(vs:List V)(cs:Array Value):Prop:=
 cs.size=vs.length/\∀j,j<vs.length->OpR σ w D ρ F (vs.getD j .dead) (cs.getD j undef)
theorem Hz(hk:Wok w)(wr:Bs σ w D ρ F){cvs:Array Value}(B:Ai P f=true->(execOp a.eval o).run P w=.ok (.enter f cvs) w)(hv:X2 σ w D ρ F vs cvs)
  (h:Call P f (vs.any AT) (vs.map (BS σ)) K):∃r,K r/\Av P o a w σ D ρ r:=by
 obtain⟨r,⟨J,U⟩,hla,hK⟩:=h;refine⟨r,hK,λnext Q hn=>?_⟩
 have B:=B J;unfold Oper.wp;rw[B,Oper.upon_enter]
 let D2:Nat->Prop:=λb=>D b\/(vs.any AT=true/\((∃j fp,j<vs.length/\Rel D w (Am σ ρ w) (vs.getD j .dead) (cvs.getD j undef) fp/\fp b)\/∃i,F i b))
 have L:∀i,i<(vs.map (BS σ)).length->Rel D2 w noR ((vs.map (BS σ)).getD i .dead) (cvs.getD i undef) noF:=by
  intro i O;simp at O;obtain⟨fp,E,hfD,hfF⟩:=hv.2 i O;have e1:(vs.map (BS σ)).getD i .dead=BS σ (vs.getD i .dead):=by simp[O]
  rw[e1]
  have M:AT (vs.getD i .dead)=true\/∀b,¬fp b:=by
   cases h:AT (vs.getD i .dead)with
   |true=>exact .inl rfl
   |false=>exact .inr (Oz h E)
  refine Rel.mono (λb A=>A.imp id fun⟨h1,h2⟩=>⟨?_,h2.imp (λh=>⟨i,fp,O,E,h⟩) id⟩) (λ_ _ h=>h) _ _ _ (λ_ _=>rfl) (Y1 wr _ _ _ E M)
  grind
 have hD2:∀b,D2 b->b<w.heap.size:=by
  rintro b (A|⟨_,⟨j,fp,hj,E,A⟩|⟨i,A⟩⟩)
  .exact wr.Dlt b A
  .exact Rel.lt _ _ _ E b A
  .exact wr.lt i b A
 refine(U w D2 cvs hk hD2 (by rw[hv.1];simp) L).mono ?_
 rintro e w' ⟨cv,fp,D',rfl,hB,E,W,hd1,Z,Y⟩
 cases M:vs.any AT with
 |false=>
  refine hn cv w' D' fp hB (Rel.noR_mono E) W (λb A=>hd1 b (.inl A)) (λb A=>?_) Y
  rcases Z b A with(h|⟨h,_⟩)|h
  .exact .inl h
  .rw[M]at h;cases h
  .exact .inr h
 |true=>
  refine hn cv w' D fp hB (Rel.noR_mono (Rel.ownOnly' r _ _ _ _ (hla M) E)) W (λ_ h=>h) (λ_ h=>.inl h) λb A=>⟨Nat.lt_of_lt_of_le (wr.Dlt b A) hB.size,λh=>?_⟩
  have:=wr.Dlt b A;have:=W b h;omega
theorem Ic{cs:Array Value}(ho:o.op=.call {callee:=.value y,args:=xs,argTypes:=ats})(E:a.eval y=.func (.func f) #[] cs)(e:Ai P f=true):
  (execOp a.eval o).run P w=.ok (.enter f (xs.map a.eval++cs)) w:=by
 unfold Ai at e;split at e
 .rename_i fn A
  have B:fn.body.isNone=false:=by simp_all
  unfold execOp;rw[ho];simp[resolve,E,Deferred.ofValue,invoke,callFunc,A,B]
  grind
 grind
theorem VD(A:Wok w)(wr:Bs σ w D ρ F)(ho:o.op=.call {callee:=.value (.func f),args:=xs,argTypes:=ats})(e:X2 σ w D ρ F vs (xs.map a.eval))
  (h:Call P f (vs.any AT) (vs.map (BS σ)) K):∃r,K r/\Av P o a w σ D ρ r:=
 Hz A wr (λB=>by
  have:=Ic (a:=a) (w:=w) ho rfl B
  grind) e h
def N8(P:Program)(σ:List V)(fv:V)(args:List V)(K:V->Prop):Prop:=match fv with
 |.many (.cl g) n f=>Nat.blt g 1000000=true/\Call P g ((args++tab n f).any AT) ((args++tab n f).map (BS σ)) K
 |_=>False
theorem N7(hk:Wok w)(wr:Bs σ w D ρ F){vs:List V}(ho:o.op=.call {callee:=.value y,args:=xs,argTypes:=ats})(hy:OpR σ w D ρ F fv (a.eval y))
  (E:X2 σ w D ρ F vs (xs.map a.eval)) (h:N8 P σ fv vs K):∃r,K r/\Av P o a w σ D ρ r:=by
 unfold N8 at h;split at h
 case h_2=>exact h.elim
 rename_i g n f;obtain⟨M,h⟩:=h;obtain⟨fp,hr,U,O⟩:=hy;obtain⟨cs,G,A,hn,J,_,L⟩:=hr;have A:a.eval y=XH g cs:=A;rw[Ue M]at A;refine Hz hk wr (λhc=>Ic ho A hc) ⟨?_,λj hj=>?_⟩ h
 .rw[Array.size_append,List.length_append,E.1,He,hn]
 .rw[List.length_append,He]at hj
  by_cases B:j<vs.length
  .have:=E.2 j B
   have Z:(vs++tab n f).getD j .dead=vs.getD j .dead:=by simp[gAL B]
   have Y:(xs.map a.eval++cs).getD j undef=(xs.map a.eval).getD j undef:=by
    have:j<(xs.map a.eval).size:=by rw[E.1];exact B
    simp[Array.getElem?_append_left this]
   rw[Z,Y];exact this
  .have e:j-vs.length<n:=by omega
   have Z:(vs++tab n f).getD j .dead=f (j-vs.length):=by
    rw[<-L9 n f (j-vs.length) e]
    grind
   have Y:(xs.map a.eval++cs).getD j undef=cs.getD (j-vs.length) undef:=by
    have h2:(xs.map a.eval).size<=j:=by rw[E.1];omega
    have h3:(xs.map a.eval).size=vs.length:=E.1;rw[Array.getD_eq_getD_getElem?,Array.getD_eq_getD_getElem?,Array.getElem?_append_right h2,h3]
   rw[Z,Y];exact⟨G (j-vs.length),J _ e,λb W=>U b ((L b).2 ⟨_,e,W⟩),λi b hF W=>O i b hF ((L b).2 ⟨_,e,W⟩)⟩
def qMkF(g:Nat)(cs:List V)(K:V->Prop):Prop:=(Nat.blt g 1000000=true/\cs.all (λv=>!AS v)=true)/\K (.many (.cl g) cs.length λk=>cs.getD k .dead)
theorem UU(wr:Bs σ w D ρ F){g:Nat}{cs:List V}(ho:o.op=.makeFunc (.func g) #[] xs)(A:X2 σ w D ρ F cs (xs.map a.eval))(h:qMkF g cs K):∃r,K r/\Av P o a w σ D ρ r:=by
 obtain⟨⟨e,E⟩,hK⟩:=h;refine⟨_,hK,Av.pure wr ?_ ⟨xs.map a.eval,λ_=>noF,(Ue e).symm,A.1,λk J=>?_,λ_ _ _ _ _ _ h=>h.elim,λb=>⟨λh=>h.elim,fun⟨_,_,h⟩=>h⟩⟩⟩
 .unfold execOp;rw[ho];simp[Instr.makeFunc]
 .obtain⟨fp,B,_,_⟩:=A.2 k J
  have ho:AS (cs.getD k .dead)=false:=by
   grind
  exact Rel.fp_congr (λb=>⟨λh=>absurd h (AF _ _ _ ho B b),λh=>h.elim⟩) B
def AbE(P:Program)(t:TypeId)(name:String):Option FuncId:=match P.info? t,P.underlying t with
 |some i,some (.pointer _)=>match i.methods.find? (·.name==name)with
  |some m=>match m.path.toList,m.func with
   |[],some (f,true)=>some f
   |_,_=>none
  |none=>none
 |_,_=>none
theorem YV(h:AbE P t name=some f)(n:Nat)(v:Value)(w:World):(method (n+1) t v name).run P w=.ok (f,v) w/\∃e,P.underlying t=some (.pointer e):=by
 unfold AbE at h;split at h
 case h_2=>grind
 rename_i i e J A;split at h
 case h_2=>grind
 rename_i m E;split at h
 case h_2=>grind
 rename_i M B L;cases h;refine⟨?_,e,A⟩;unfold method;simp[typeInfo,J,E,B,follow,L,receiverAt,run_underlying A,Place.get]
def qMkI(P:Program)(t:TypeId)(v:V)(K:V->Prop):Prop:=(AS v=false/\∃e,P.underlying t=some (.pointer e))/\K (.many (.cl (1000000+t)) 1 λ_=>v)
theorem UT(wr:Bs σ w D ρ F){x:Operand}(ho:o.op=.makeInterface t x)(E:OpR σ w D ρ F v (a.eval x))(h:qMkI P t v K):∃r,K r/\Av P o a w σ D ρ r:=by
 obtain⟨⟨A,e,J⟩,hK⟩:=h;obtain⟨fp,B,_,_⟩:=E;refine⟨_,hK,Av.pure wr (v':=.iface t (a.eval x)) ?_ ⟨#[a.eval x],λ_=>noF,?_,rfl,λk L=>?_,λ_ _ _ _ _ _ h=>h.elim,λb=>⟨λh=>h.elim,fun⟨_,_,h⟩=>h⟩⟩⟩
 .unfold execOp;rw[ho];simp[Instr.makeInterface,run_underlying J]
 .show Value.iface t (a.eval x)=XH (1000000+t) #[a.eval x]
  rw[Aaq];rfl
 .obtain rfl:k=0:=by omega
  exact Rel.fp_congr (λb=>⟨λh=>absurd h (AF _ _ _ A B b),λh=>h.elim⟩) B
def Oa(P:Program)(σ:List V)(fv:V)(name:String)(args:List V)(K:V->Prop):Prop:=match fv with
 |.many (.cl g) n f=>∃t fn,(g=1000000+t/\n=1/\AbE P t name=some fn)/\Call P fn ((tab n f++args).any AT) ((tab n f++args).map (BS σ)) K
 |_=>False
theorem N9(hk:Wok w)(wr:Bs σ w D ρ F){vs:List V}(ho:o.op=.call {callee:=.invoke y name,args:=xs,argTypes:=ats})(hy:OpR σ w D ρ F fv (a.eval y))
  (hv:X2 σ w D ρ F vs (xs.map a.eval)) (h:Oa P σ fv name vs K):∃r,K r/\Av P o a w σ D ρ r:=by
 unfold Oa at h;split at h
 case h_2=>exact h.elim
 rename_i g n f;obtain⟨t,fn,⟨rfl,rfl,hm⟩,h⟩:=h;obtain⟨fp,hr,Y,W⟩:=hy;obtain⟨cs,G,e,hn,E,_,J⟩:=hr;have e:a.eval y=XH (1000000+t) cs:=e;rw[Aaq]at e;have ht:tab 1 f=[f 0]:=rfl;rw[ht]at h;refine Hz hk wr (cvs:=#[cs.getD 0 undef]++xs.map a.eval) (λL=>?_) ⟨?_,λj M=>?_⟩ h
 .unfold Ai at L
  split at L
  case h_2=>cases L
  rename_i fu U;simp only[bAE,Bool.not_eq_true']at L;obtain⟨h1,h2⟩:=L;have Z:fu.body.isNone=false:=by cases B:fu.body<;>simp[B]at h2⊢
  have O:P.types.size+Made.depth=(P.types.size+99)+1:=rfl;obtain⟨A,_⟩:=YV hm (P.types.size+99) (cs.getD 0 undef) w;generalize cs.getD 0 undef=c0 at e A;have he:((#[Value.iface t c0]++xs.map a.eval).extract 1 (#[Value.iface t c0]++xs.map a.eval).size)=xs.map a.eval:=by
   apply Array.ext';simp;exact List.take_of_length_le (by simp)
  have h0:(#[Value.iface t c0]++xs.map a.eval)[0]? =some (Value.iface t c0):=by
   rw[Array.getElem?_append_left (by simp)];rfl
  unfold execOp;rw[ho];simp at h1;simp only[resolve,e];show(invoke (.fn (.method name) #[]) (#[Value.iface t c0]++xs.map a.eval)).run P w=_;unfold invoke;simp only[h0,he];show(callMethod (Value.iface t c0) name (xs.map a.eval)).run P w=_;unfold callMethod;simp[O,A,callFunc,U,Z,h1];intro B;simp[B]at h2
 .simp[hv.1];omega
 .cases j with
  |zero=>
   show OpR σ w D ρ F (f 0) _;have e2:(#[cs.getD 0 undef]++xs.map a.eval).getD 0 undef=cs.getD 0 undef:=by
    rw[Array.getD_eq_getD_getElem?,Array.getElem?_append_left (by simp)];rfl
   rw[e2];exact⟨G 0,E 0 (by omega),λb B=>Y b ((J b).2 ⟨_,by omega,B⟩),λi b hF B=>W i b hF ((J b).2 ⟨_,by omega,B⟩)⟩
  |succ j=>
   have M:j<vs.length:=by simpa using M
   have:=hv.2 j M;have e1:([f 0]++vs).getD (j+1) .dead=vs.getD j .dead:=rfl
   have e2:(#[cs.getD 0 undef]++xs.map a.eval).getD (j+1) undef=(xs.map a.eval).getD j undef:=by
    simp[Array.getD_eq_getD_getElem?,Array.getElem?_append]
   rw[e1,e2];exact this
end ops
end Go.Ve


namespace Go.Ve
def A1:List (Nat×Nat)->List (Nat×Nat)->Bool
 |[],_=>true
 |(i,k)::p,(j,l)::q=>i==j&&k==l&&A1 p q
 |_::_,[]=>false
def Cu:∀{p q:List (Nat×Nat)},A1 p q=true->q=p++q.drop p.length
 |[],_,_=>rfl
 |(i,k)::p,(j,l)::q,h=>by
  simp[A1,beq_iff_eq]at h;obtain⟨⟨rfl,rfl⟩,h⟩:=h;simp[<-Cu h]
 |_::_,[],h=>by cases h
theorem At.split{w:World}:∀{p q:List (Nat×Nat)}{v:V}{cv:Value}{v':V}{B:Value}{L:V}{c1:Value},At w (p++q) v cv v' B->At w p v cv L c1->At w q L c1 v' B
 |[],_,_,_,_,_,_,_,h,A=>by obtain⟨rfl,rfl⟩:=A;grind
 |(i,k)::p,q,.nd s true sz n f,_,_,_,_,_,h,A=>by
  obtain⟨_,_,b,o,cap,x,J,O,h⟩:=h;obtain⟨_,_,Y,W,M,U,e,E,A⟩:=A;subst J;obtain⟨rfl,rfl,_⟩:=Az e;have:=Option.some.inj (E.symm.trans O);subst this;exact At.split h A
 |_::_,_,.nd _ false _ _ _,_,_,_,_,_,h,_=>h.elim
 |_::_,_,.c _,_,_,_,_,_,h,_=>h.elim
 |_::_,_,.dead,_,_,_,_,_,h,_=>h.elim
 |_::_,_,.many ..,_,_,_,_,_,h,_=>h.elim
 |_::_,_,.rs ..,_,_,_,_,_,h,_=>h.elim
 |_::_,_,.rp ..,_,_,_,_,_,h,_=>h.elim
theorem At.keep{w:World}{x:V}:∀(p q:List (Nat×Nat)) (v:V) (cv:Value) {s:Bool}{sz n:Nat}{f:Nat->Nat->V}{c:Value},KG p v->A1 p q=false->At w q v cv (.nd s true sz n f) c->
  ∃J,At w q (upd p v x) cv (.nd s true sz n J) c
 |[],_,_,_,_,_,_,_,_,_,h,_=>by cases h
 |(i,k)::p,[],.nd s0 o0 sz0 n0 f0,_,_,_,_,_,_,_,_,ha=>by
  obtain⟨B,rfl⟩:=ha;cases B;exact⟨_,rfl,rfl⟩
 |(i,k)::p,(i',k')::q,.nd s0 true sz0 n0 f0,cv,s,sz,n,f,c,e,hpre,ha=>by
  obtain⟨B,M,b,o,cap,y,A,L,ha⟩:=ha;obtain⟨_,_,_,e⟩:=e;by_cases O:i'=i/\k'=k
  .obtain⟨rfl,rfl⟩:=O
   obtain⟨J,E⟩:=At.keep p q (f0 i' k') y e (by simpa [A1]using hpre) ha
   exact⟨J,B,M,b,o,cap,y,A,L,by simpa using E⟩
  .exact⟨f,B,M,b,o,cap,y,A,L,by grind⟩
 |_::_,_::_,.nd _ false _ _ _,_,_,_,_,_,_,_,_,h=>h.elim
 |_::_,_,.c _,_,_,_,_,_,_,e,_,_=>e.elim
 |_::_,_,.dead,_,_,_,_,_,_,e,_,_=>e.elim
 |_::_,_,.many ..,_,_,_,_,_,_,e,_,_=>e.elim
 |_::_,_,.rs ..,_,_,_,_,_,_,e,_,_=>e.elim
 |_::_,_,.rp ..,_,_,_,_,_,_,e,_,_=>e.elim
theorem At.keepM{w:World}{x:V}:∀(p q:List (Nat×Nat)) (v:V) (cv:Value) {l:List (Value×Value)}{c:Value},KG p v->A1 p q=false->At w q v cv (.mp true l) c->
  At w q (upd p v x) cv (.mp true l) c
 |[],_,_,_,_,_,_,h,_=>by cases h
 |(i,k)::p,[],.nd s0 o0 sz0 n0 f0,_,_,_,_,_,ha=>by
  obtain⟨B,_⟩:=ha;cases B
 |(i,k)::p,(i',k')::q,.nd s0 true sz0 n0 f0,cv,l,c,e,hpre,ha=>by
  obtain⟨B,L,b,o,cap,y,A,J,ha⟩:=ha;obtain⟨_,_,_,e⟩:=e;by_cases M:i'=i/\k'=k
  .obtain⟨rfl,rfl⟩:=M
   have E:=At.keepM (x:=x) p q (f0 i' k') y e (by simpa [A1]using hpre) ha
   exact⟨B,L,b,o,cap,y,A,J,by simpa using E⟩
  .exact⟨B,L,b,o,cap,y,A,J,by grind⟩
 |_::_,_::_,.nd _ false _ _ _,_,_,_,_,_,h=>h.elim
 |_::_,_,.c _,_,_,_,e,_,_=>e.elim
 |_::_,_,.dead,_,_,_,e,_,_=>e.elim
 |_::_,_,.many ..,_,_,_,e,_,_=>e.elim
 |_::_,_,.rs ..,_,_,_,e,_,_=>e.elim
 |_::_,_,.rp ..,_,_,_,e,_,_=>e.elim
 |_::_,_,.rm ..,_,_,_,e,_,_=>e.elim
 |_::_,_,.mp ..,_,_,_,e,_,_=>e.elim
theorem M6{sz i k i' k':Nat}(A:k<sz)(e:k'<sz)(h:¬ (i'=i/\k'=k)):i'*sz+k'≠i*sz+k:=by
 intro J;have E:(i'*sz+k') % sz=(i*sz+k) % sz:=by grind
 rw[Nat.mul_comm i',Nat.mul_comm i,Nat.mul_add_mod,Nat.mul_add_mod,Nat.mod_eq_of_lt e,Nat.mod_eq_of_lt A]at E;have B:(i'*sz+k')/sz=(i*sz+k)/sz:=by grind
 rw[Nat.mul_comm i',Nat.mul_comm i,Nat.mul_add_div (by omega),Nat.mul_add_div (by omega),Nat.div_eq_of_lt e,Nat.div_eq_of_lt A]at B
 omega
theorem At.store{D:Nat->Prop}{w w':World}{x:V}{s:Bool}{sz n:Nat}{f:Nat->Nat->V}{b o cap i k:Nat}(hi:i<n)(hk:k<sz)
  (hw:∀ad,ad≠(⟨b,o+i*sz+k,none⟩:Addr)->w'.cell? ad=w.cell? ad) (hb:∀c,c≠b->w'.heap[c]? =w.heap[c]?):
  ∀(p q:List (Nat×Nat)) (v:V) (cv:Value) (fp:Nat->Prop) {s1:Bool}{M n1:Nat}{f1:Nat->Nat->V}{c1:Value},Rel D w noR v cv fp->At w p v cv (.nd s true sz n f) (AD s b o n cap)->
   A1 (p++[(i,k)]) q=false->At w q v cv (.nd s1 true M n1 f1) c1->∃f1',At w' q (upd (p++[(i,k)]) v x) cv (.nd s1 true M n1 f1') c1
 |p,[],v,cv,fp,s1,M,n1,f1,c1,O,hp,hpre,ha=>by
  obtain⟨rfl,rfl⟩:=ha;cases p with
  |nil=>exact⟨_,rfl,rfl⟩
  |cons a p=>exact⟨_,rfl,rfl⟩
 |[],(i',k')::q,v,cv,fp,s1,M,n1,f1,c1,O,hp,hpre,ha=>by
  obtain⟨rfl,rfl⟩:=hp
  have hne:¬ (i'=i/\k'=k):=by
   rintro ⟨rfl,rfl⟩
   simp[A1]at hpre
  obtain⟨Y,L,b0,o0,B,y,hcv,hy,ha⟩:=ha;obtain⟨rfl,rfl,_⟩:=Az hcv;have hroot:=Rel.root O;rcases O with⟨h0,_⟩|⟨b2,o2,cap2,F,A,hcap,hmax,hs1,hc,himm,ho⟩
  .omega
  obtain⟨rfl,rfl,_⟩:=Az A;obtain⟨Z,E,J⟩:=hc i' k' Y L;have:Z=y:=Option.some.inj (E.symm.trans hy);subst this;refine⟨f1,Y,L,b,o,B,Z,hcv,by rw[hw _ (by have:=M6 (i:=i) hk L hne;intro h;simp at h;try omega)];exact hy,?_⟩
  simp only[hne,if_false];exact At.same J ha λc hcF=>hb c λe=>(ho rfl).2.1 i' k' Y L (e▸hcF)
 |(i0,k0)::p,(i',k')::q,.nd s0 true sz0 n0 f0,cv,fp,s1,M,n1,f1,c1,O,hp,hpre,ha=>by
  obtain⟨Y,L,b0,o0,B,y,rfl,hy,ha⟩:=ha;obtain⟨h3,h4,b3,o3,cap3,z,hcv3,hz,hp⟩:=hp;obtain⟨rfl,rfl,_⟩:=Az hcv3;rcases O with⟨h0,_⟩|⟨b2,o2,cap2,F,A,hcap,hmax,hs1,hc,himm,ho⟩
  .omega
  obtain⟨rfl,rfl,_⟩:=Az A;obtain⟨Z,E,J⟩:=hc i' k' Y L;have:Z=y:=Option.some.inj (E.symm.trans hy);subst this;obtain⟨z',hz',hrz⟩:=hc i0 k0 h3 h4;have:z'=z:=Option.some.inj (hz'.symm.trans hz);subst this
  obtain⟨fz,hrn,hsub,_⟩:∃fz,Rel D w noR (.nd s true sz n f) (AD s b o n cap) fz/\(∀c,fz c->F i0 k0 c)/\True:=by
   clear hw hb
   have:∀(p:List (Nat×Nat)) (v:V) (cv:Value) (fp:Nat->Prop) (v1:V) (c1:Value),Rel D w noR v cv fp->At w p v cv v1 c1->∃fz,Rel D w noR v1 c1 fz/\(∀c,fz c->fp c):=by
    intro p
    induction p with
    |nil=>intro v cv fp v1 c1 O ha;obtain⟨rfl,rfl⟩:=ha;exact⟨fp,O,λ_ h=>h⟩
    |cons a p ih=>
     intro v cv fp v1 c1 O ha;obtain⟨i,k⟩:=a
     match v,ha,O with
     |.nd s true sz n f,ha,O=>
      obtain⟨Y,L,b,o,cap,y,rfl,hy,ha⟩:=ha;rcases O with⟨h0,_⟩|⟨b2,o2,cap2,F,A,hcap,hmax,hs1,hc,himm,ho⟩
      .omega
      obtain⟨rfl,rfl,_⟩:=Az A;obtain⟨Z,E,J⟩:=hc i k Y L;have:Z=y:=Option.some.inj (E.symm.trans hy);subst this;obtain⟨fz,W,h2'⟩:=ih _ _ _ _ _ J ha;exact⟨fz,W,λc hc=>((ho rfl).2.2.2 c).2 (.inr ⟨i,k,Y,L,h2' c hc⟩)⟩
   obtain⟨fz,W,h2'⟩:=this p _ _ _ _ _ hrz hp;exact⟨fz,W,h2',trivial⟩
  have hbF:F i0 k0 b:=hsub b (Rel.root hrn);have hbne:b0≠b:=λe=>(ho rfl).2.1 i0 k0 h3 h4 (e▸hbF)
  have U:w'.cell? ⟨b0,o0+i'*sz0+k',none⟩=some Z:=by rw[hw _ (by intro h;simp at h;try exact hbne h.1)];exact hy
  by_cases he:i'=i0/\k'=k0
  .obtain⟨rfl,rfl⟩:=he
   have:z'=Z:=Option.some.inj (hz'.symm.trans E);subst this;obtain⟨f1',W⟩:=At.store hi hk hw hb p q (f0 i' k') z' _ J hp (by simpa [A1]using hpre) ha
   exact⟨f1',Y,L,b0,o0,B,z',rfl,U,by simpa using W⟩
  .refine⟨f1,Y,L,b0,o0,B,Z,rfl,U,?_⟩
   simp only[he,if_false];exact At.same J ha λc hcF=>hb c λe=>(ho rfl).2.2.1 i' k' i0 k0 c Y L h3 h4 (by omega) hcF (e▸hbF)
 |_::_,_::_,.nd _ false _ _ _,_,_,_,_,_,_,_,_,_,_,h=>h.elim
 |_::_,_::_,.c _,_,_,_,_,_,_,_,_,_,_,h=>h.elim
 |_::_,_::_,.dead,_,_,_,_,_,_,_,_,_,_,h=>h.elim
 |_::_,_::_,.many ..,_,_,_,_,_,_,_,_,_,_,h=>h.elim
 |_::_,_::_,.rs ..,_,_,_,_,_,_,_,_,_,_,h=>h.elim
 |_::_,_::_,.rp ..,_,_,_,_,_,_,_,_,_,_,h=>h.elim
 |_::_,_::_,.rm ..,_,_,_,_,_,_,_,_,_,_,h=>h.elim
 |_::_,_::_,.mp ..,_,_,_,_,_,_,_,_,_,_,h=>h.elim
theorem At.storeM{D:Nat->Prop}{w w':World}{x:V}{s:Bool}{sz n:Nat}{f:Nat->Nat->V}{b o cap i k:Nat}(hi:i<n)(hk:k<sz)
  (hw:∀ad,ad≠(⟨b,o+i*sz+k,none⟩:Addr)->w'.cell? ad=w.cell? ad) (hb:∀c,c≠b->w'.heap[c]? =w.heap[c]?):
  ∀(p q:List (Nat×Nat)) (v:V) (cv:Value) (fp:Nat->Prop) {l:List (Value×Value)}{c1:Value},Rel D w noR v cv fp->At w p v cv (.nd s true sz n f) (AD s b o n cap)->
   A1 (p++[(i,k)]) q=false->At w q v cv (.mp true l) c1->At w' q (upd (p++[(i,k)]) v x) cv (.mp true l) c1
 |p,[],v,cv,fp,l,c1,M,Z,hpre,ha=>by
  obtain⟨rfl,rfl⟩:=ha;cases p with
  |nil=>obtain⟨h,_⟩:=Z;cases h
  |cons a p=>exact Z.elim
 |[],(i',k')::q,v,cv,fp,l,c1,M,Z,hpre,ha=>by
  obtain⟨rfl,rfl⟩:=Z
  have hne:¬ (i'=i/\k'=k):=by
   rintro ⟨rfl,rfl⟩
   simp[A1]at hpre
  obtain⟨W,L,b0,o0,B,y,hcv,hy,ha⟩:=ha;obtain⟨rfl,rfl,_⟩:=Az hcv;have hroot:=Rel.root M;rcases M with⟨h0,_⟩|⟨b2,o2,cap2,F,A,hcap,hmax,hs1,hc,himm,ho⟩
  .omega
  obtain⟨rfl,rfl,_⟩:=Az A;obtain⟨Y,E,J⟩:=hc i' k' W L;have:Y=y:=Option.some.inj (E.symm.trans hy);subst this;refine⟨W,L,b,o,B,Y,hcv,by rw[hw _ (by have:=M6 (i:=i) hk L hne;intro h;simp at h;try omega)];exact hy,?_⟩
  simp only[hne,if_false];exact At.same J ha λc hcF=>hb c λe=>(ho rfl).2.1 i' k' W L (e▸hcF)
 |(i0,k0)::p,(i',k')::q,.nd s0 true sz0 n0 f0,cv,fp,l,c1,M,Z,hpre,ha=>by
  obtain⟨W,L,b0,o0,B,y,rfl,hy,ha⟩:=ha;obtain⟨h3,h4,b3,o3,cap3,z,hcv3,hz,Z⟩:=Z;obtain⟨rfl,rfl,_⟩:=Az hcv3;rcases M with⟨h0,_⟩|⟨b2,o2,cap2,F,A,hcap,hmax,hs1,hc,himm,ho⟩
  .omega
  obtain⟨rfl,rfl,_⟩:=Az A;obtain⟨Y,E,J⟩:=hc i' k' W L;have:Y=y:=Option.some.inj (E.symm.trans hy);subst this;obtain⟨z',hz',hrz⟩:=hc i0 k0 h3 h4;have:z'=z:=Option.some.inj (hz'.symm.trans hz);subst this
  obtain⟨fz,hrn,hsub,_⟩:∃fz,Rel D w noR (.nd s true sz n f) (AD s b o n cap) fz/\(∀c,fz c->F i0 k0 c)/\True:=by
   clear hw hb
   have:∀(p:List (Nat×Nat)) (v:V) (cv:Value) (fp:Nat->Prop) (v1:V) (c1:Value),Rel D w noR v cv fp->At w p v cv v1 c1->∃fz,Rel D w noR v1 c1 fz/\(∀c,fz c->fp c):=by
    intro p
    induction p with
    |nil=>intro v cv fp v1 c1 M ha;obtain⟨rfl,rfl⟩:=ha;exact⟨fp,M,λ_ h=>h⟩
    |cons a p ih=>
     intro v cv fp v1 c1 M ha;obtain⟨i,k⟩:=a
     match v,ha,M with
     |.nd s true sz n f,ha,M=>
      obtain⟨W,L,b,o,cap,y,rfl,hy,ha⟩:=ha;rcases M with⟨h0,_⟩|⟨b2,o2,cap2,F,A,hcap,hmax,hs1,hc,himm,ho⟩
      .omega
      obtain⟨rfl,rfl,_⟩:=Az A;obtain⟨Y,E,J⟩:=hc i k W L;have:Y=y:=Option.some.inj (E.symm.trans hy);subst this;obtain⟨fz,U,h2'⟩:=ih _ _ _ _ _ J ha;exact⟨fz,U,λc hc=>((ho rfl).2.2.2 c).2 (.inr ⟨i,k,W,L,h2' c hc⟩)⟩
   obtain⟨fz,U,h2'⟩:=this p _ _ _ _ _ hrz Z;exact⟨fz,U,h2',trivial⟩
  have hbF:F i0 k0 b:=hsub b (Rel.root hrn);have hbne:b0≠b:=λe=>(ho rfl).2.1 i0 k0 h3 h4 (e▸hbF)
  have O:w'.cell? ⟨b0,o0+i'*sz0+k',none⟩=some Y:=by rw[hw _ (by intro h;simp at h;try exact hbne h.1)];exact hy
  by_cases he:i'=i0/\k'=k0
  .obtain⟨rfl,rfl⟩:=he
   have:z'=Y:=Option.some.inj (hz'.symm.trans E);subst this;have U:=At.storeM (x:=x) hi hk hw hb p q (f0 i' k') z' _ J Z (by simpa [A1]using hpre) ha
   exact⟨W,L,b0,o0,B,z',rfl,O,by simpa using U⟩
  .refine⟨W,L,b0,o0,B,Y,rfl,O,?_⟩
   simp only[he,if_false];exact At.same J ha λc hcF=>hb c λe=>(ho rfl).2.2.1 i' k' i0 k0 c W L h3 h4 (by omega) hcF (e▸hbF)
 |_::_,_::_,.nd _ false _ _ _,_,_,_,_,_,_,_,h=>h.elim
 |_::_,_::_,.c _,_,_,_,_,_,_,_,h=>h.elim
 |_::_,_::_,.dead,_,_,_,_,_,_,_,h=>h.elim
 |_::_,_::_,.many ..,_,_,_,_,_,_,_,h=>h.elim
 |_::_,_::_,.rs ..,_,_,_,_,_,_,_,h=>h.elim
 |_::_,_::_,.rp ..,_,_,_,_,_,_,_,h=>h.elim
 |_::_,_::_,.rm ..,_,_,_,_,_,_,_,h=>h.elim
 |_::_,_::_,.mp ..,_,_,_,_,_,_,_,h=>h.elim
end Go.Ve


namespace Go.Ve
variable{σ:List V}{F:Nat->Nat->Prop}{D fp:Nat->Prop}{ρ:Nat->Value}{w w':World}
structure Ctx where
 w0:World
 W:Nat->Prop
 D0:Nat->Prop
 m:Nat
 ρ0:Nat->Value
 ok:Wok w0/\∀p,AaV=some p->¬W p.1
structure Fr(w0 w:World)(W:Nat->Prop):Prop where
 os:w.os=w0.os
 tape:w.tape=w0.tape
 output:w.output=w0.output
 size:w0.heap.size<=w.heap.size
 block:∀b,b<w0.heap.size->¬W b->w.heap[b]? =w0.heap[b]?
 drawn:w0.drawn<=w.drawn
def Fr.below{w0:World}{W:Nat->Prop}(h:Fr w0 w W)(e:Below w.heap.size w w'):Fr w0 w' W:=
 ⟨e.os.trans h.os,e.tape.trans h.tape,e.output.trans h.output,Nat.le_trans h.size e.size,λb A B=>(e.block b (Nat.lt_of_lt_of_le A h.size)).trans (h.block b A B),Nat.le_trans h.drawn e.drawn⟩
structure CR(C:Ctx)(σ:List V)(ts:List V)(cts:Array Value)(w:World)(D:Nat->Prop)(ρ:Nat->Value)(F:Nat->Nat->Prop):Prop where
 wr:Bs σ w D ρ F
 sz:cts.size=ts.length
 tm:∀t,t<ts.length->Rel D w (Am σ ρ w) (ts.getD t .dead) (cts.getD t undef) noF
 fr:Fr C.w0 w C.W
 Fn:∀i b,F i b->C.W b\/C.w0.heap.size<=b
 D1:∀b,C.D0 b->D b
 D2:∀b,D b->b<C.w0.heap.size->C.D0 b\/C.W b
 rt:∀i,i<C.m->ρ i=C.ρ0 i
 ml:C.m<=σ.length
def CR.ok{C:Ctx}{σ ts:List V}{cts:Array Value}{w:World}{D:Nat->Prop}{ρ:Nat->Value}{F:Nat->Nat->Prop}(h:CR C σ ts cts w D ρ F):Wok w:=
 C.ok.1.same λp e=>h.fr.block p.1 (C.ok.1.lt e) (C.ok.2 p e)
def X1(C:Ctx)(σ:List V)(ts:List V)(cts:Array Value)(w:World):Prop:=∃D ρ F,CR C σ ts cts w D ρ F
theorem AE{l e:List V}{i:Nat}(h:i<l.length):(l++e).getD i .dead=l.getD i .dead:=by grind
def Am.ext{s:List V}{ρ':Nat->Value}(h:∀i,i<σ.length->ρ' i=ρ i):∀v cv,Am σ ρ w v cv->Am (σ++s) ρ' w v cv
 |.rs id p off len,cv,⟨e,sz,n,f,A,ha,r⟩=>⟨by grind,sz,n,f,A,by grind,r⟩
 |.rp id p i k,cv,⟨e,s,sz,n,f,b,o,cap,ha,r⟩=>⟨by grind,s,sz,n,f,b,o,cap,by grind,r⟩
 |.rm id p,cv,⟨e,l,b,ha,r⟩=>⟨by grind,l,b,by grind,r⟩
 |.mp ..,_,h=>h.elim
 |.c _,_,h=>h.elim
 |.dead,_,h=>h.elim
 |.many ..,_,h=>h.elim
 |.nd ..,_,h=>h.elim
theorem Bs.push(h:Bs σ w D ρ F){v:V}{cv:Value}(W:Rel D w noR v cv fp)(U:∀b,fp b->¬D b)(O:∀i b,F i b->¬fp b):
  Bs (σ++[v]) w D (λi=>if i=σ.length then cv else ρ i) (λi=>if i=σ.length then fp else F i):=by
 refine⟨λi L=>?_,λi j b J e B=>?_,λi b e=>?_,h.Dlt,λi b L e=>?_⟩
 .by_cases A:i=σ.length
  .grind
  .have E:i<σ.length:=by simp at L;omega
   rw[AE E];simpa [A]using h.rel i E
 .by_cases A:i=σ.length<;>by_cases M:j=σ.length<;>simp only[A,M,if_true,if_false]at e B
  .omega
  .grind
  .exact O i b e B
  .exact h.disj i j b J e B
 .by_cases A:i=σ.length<;>simp only[A,if_true,if_false]at e
  .exact U b e
  .exact h.dD i b e
 .simp at L
  have A:i≠σ.length:=by omega
  simp only[A,if_false]at e;exact h.out i b (by omega) e
def BP(g:Nat->Nat->V×List V):Nat->Nat->List V×List V
 |0,_=>([],[])
 |n+1,m=>((BP g n m).1++[(g n (m+(BP g n m).2.length)).1],(BP g n m).2++(g n (m+(BP g n m).2.length)).2)
def prom:V->Nat->V×List V
 |.nd true true sz n f,m=>(.rs m [] 0 n,[.nd true true sz n f])
 |.nd false true sz n f,m=>if 0<sz then(.rp m [] 0 0,[.nd false true sz n f])else(.dead,[])
 |.mp true l,m=>(.rm m [],[.mp true l])
 |.many t n f,m=>(.many t n λk=>(BP (λk=>prom (f k)) n m).1.getD k .dead,(BP (λk=>prom (f k)) n m).2)
 |v,_=>(v,[])
structure B0(σ s:List V)(w:World)(D:Nat->Prop)(ρ ρ':Nat->Value)(F F':Nat->Nat->Prop)(fp:Nat->Prop):Prop where
 wr:Bs (σ++s) w D ρ' F'
 rt:∀i,i<σ.length->ρ' i=ρ i
 old:∀i,i<σ.length->F' i=F i
 new:∀i b,σ.length<=i->F' i b->fp b
theorem B0.nil(h:Bs σ w D ρ F)(fp:Nat->Prop):B0 σ [] w D ρ ρ F F fp:=
 ⟨by grind,λ_ _=>rfl,λ_ _=>rfl,λi b e A=>absurd A (h.out i b e)⟩
theorem B0.trans{σ s s':List V}{w:World}{D:Nat->Prop}{ρ ρ' A:Nat->Value}{F F' F'':Nat->Nat->Prop}{fp J O:Nat->Prop}(h:B0 σ s w D ρ ρ' F F' fp)(E:B0 (σ++s) s' w D ρ' A F' F'' J)(e:∀b,fp b->O b)(U:∀b,J b->O b):
  B0 σ (s++s') w D ρ A F F'' O:=by
 refine⟨by rw[<-List.append_assoc];exact E.wr,λi B=>(E.rt i (by grind)).trans (h.rt i B),λi B=>(E.old i (by grind)).trans (h.old i B),λi b B M=>?_⟩
 by_cases L:i<(σ++s).length
 .rw[E.old i L]at M;exact e b (h.new i b B M)
 .exact U b (E.new i b (by omega) M)
theorem IB:∀(v:V) (σ:List V) (ρ:Nat->Value) (F:Nat->Nat->Prop) (cv:Value) (fp:Nat->Prop),Bs σ w D ρ F->Rel D w (Am σ ρ w) v cv fp->(∀b,fp b->¬D b)->(∀i b,F i b->¬fp b)->
  ∃ρ' F',B0 σ (prom v σ.length).2 w D ρ ρ' F F' fp/\Rel D w (Am (σ++(prom v σ.length).2) ρ' w) (prom v σ.length).1 cv noF:=by
 intro v
 induction v with
 |c v=>intro σ ρ F cv fp wr h _ _;exact⟨ρ,F,B0.nil wr fp,h.1,h.2.1,λ_ h=>h⟩
 |dead=>intro σ ρ F cv fp wr h _ _;exact⟨ρ,F,B0.nil wr fp,λ_ h=>h⟩
 |rs id p off len=>intro σ ρ F cv fp wr h _ _;exact⟨ρ,F,B0.nil wr fp,Am.ext (λ_ _=>rfl) _ _ h.1,λ_ h=>h⟩
 |rp id p i k=>intro σ ρ F cv fp wr h _ _;exact⟨ρ,F,B0.nil wr fp,Am.ext (λ_ _=>rfl) _ _ h.1,λ_ h=>h⟩
 |rm id p=>intro σ ρ F cv fp wr h _ _;exact⟨ρ,F,B0.nil wr fp,Am.ext (λ_ _=>rfl) _ _ h.1,λ_ h=>h⟩
 |mp own l=>
  intro σ ρ F cv fp wr h h1 h2;cases own with
  |false=>
   have e:=Bb (AF _ _ _ rfl h);subst e;exact⟨ρ,F,B0.nil wr _,h⟩
  |true=>
   have A:=Bs.push wr (v:=.mp true l) (cv:=cv) (fp:=fp) h h1 h2
   have L:B0 σ [.mp true l] w D ρ (λi=>if i=σ.length then cv else ρ i) F (λi=>if i=σ.length then fp else F i) fp:=
    ⟨A,λi J=>by simp[show i≠σ.length by omega],λi J=>by simp[show i≠σ.length by omega],λi b J B=>by
     by_cases U:i=σ.length
     .simpa [U]using B
     .simp only[U,if_false]at B;exact absurd B (wr.out i b J)⟩
   obtain⟨b,W,_⟩:=h;exact⟨_,_,L,⟨⟨by simp[prom],l,b,⟨by simp[prom],by simp⟩,W⟩,λ_ h=>h⟩⟩
 |nd s own sz n f _=>
  intro σ ρ F cv fp wr h h1 h2;cases own with
  |false=>
   have e:=Bb (AF _ _ _ rfl h);subst e;cases s<;>exact⟨ρ,F,B0.nil wr _,h⟩
  |true=>
   have A:=Bs.push wr (v:=.nd s true sz n f) (cv:=cv) (fp:=fp) h h1 h2
   have L:B0 σ [.nd s true sz n f] w D ρ (λi=>if i=σ.length then cv else ρ i) F (λi=>if i=σ.length then fp else F i) fp:=
    ⟨A,λi J=>by simp[show i≠σ.length by omega],λi J=>by simp[show i≠σ.length by omega],λi b J B=>by
     by_cases U:i=σ.length
     .simpa [U]using B
     .simp only[U,if_false]at B;exact absurd B (wr.out i b J)⟩
   cases s with
   |true=>
    refine⟨_,_,L,⟨⟨by simp[prom],sz,n,f,cv,⟨by simp[prom],by simp⟩,by omega,?_⟩,λ_ h=>h⟩⟩
    rcases h with⟨rfl,_,hn0,_⟩|⟨b,o,cap,F2,rfl,_⟩
    .obtain rfl:=D5 hn0
     exact .inr ⟨rfl,none,rfl,λ_ _=>rfl,λp e=>by cases e⟩
    .exact .inl ⟨b,o,cap,rfl,by simp[AD]⟩
   |false=>
    unfold prom;by_cases O:0<sz
    .simp only[O,if_true]
     rcases h with⟨_,h,_⟩|⟨b,o,cap,F2,rfl,_,_,hn,_⟩
     .cases h
     .exact⟨_,_,L,⟨⟨by simp,false,sz,n,f,b,o,cap,⟨by simp,by simp⟩,by rw[hn rfl];exact Nat.one_pos,O,by simp[AD]⟩,λ_ h=>h⟩⟩
    .simp only[O,if_false]
     exact⟨ρ,F,B0.nil wr fp,λ_ h=>h⟩
 |many t n f ih=>
  intro σ ρ F cv fp wr h h1 h2;obtain⟨cs,G,W,hn,hr,hd,hf⟩:=h
  have key:∀j,j<=n->∃ρ' F',B0 σ (BP (λk=>prom (f k)) j σ.length).2 w D ρ ρ' F F' (λb=>∃k,k<j/\G k b)/\(BP (λk=>prom (f k)) j σ.length).1.length=j/\
    ∀k,k<j->Rel D w (Am (σ++(BP (λk=>prom (f k)) j σ.length).2) ρ' w) ((BP (λk=>prom (f k)) j σ.length).1.getD k .dead) (cs.getD k undef) noF:=by
   intro j
   induction j with
   |zero=>intro _;exact⟨ρ,F,B0.nil wr _,rfl,λk hk=>by omega⟩
   |succ j ihj=>
    intro hj;obtain⟨Y,F1,E,hl1,hr1⟩:=ihj (by omega)
    have hrj:Rel D w (Am (σ++(BP (λk=>prom (f k)) j σ.length).2) Y w) (f j) (cs.getD j undef) (G j):=
     Rel.mono (λ_ h=>h) (Am.ext E.rt) _ _ _ (λ_ _=>rfl) (hr j (by omega))
    obtain⟨ρ2,F2,M,Z⟩:=ih j (σ++(BP (λk=>prom (f k)) j σ.length).2) Y F1 (cs.getD j undef) (G j) E.wr hrj (λb B=>h1 b ((hf b).2 ⟨j,by omega,B⟩)) (λi b B hb'=>by
     by_cases J:i<σ.length
     .rw[E.old i J]at B;exact h2 i b B ((hf b).2 ⟨j,by omega,hb'⟩)
     .obtain⟨k,hk,hkb⟩:=E.new i b (by omega) B
      exact hd k j b (by omega) (by omega) (by omega) hkb hb')
    rw[List.length_append]at M Z;refine⟨ρ2,F2,E.trans M (λb ⟨k,hk,h⟩=>⟨k,by omega,h⟩) (λb h=>⟨j,by omega,h⟩),by simp[BP,hl1],λk hk=>?_⟩
    simp only[BP];rw[<-List.append_assoc];by_cases U:k=j
    .subst U
     rw[gDE,gAR (by omega)]
     simpa [hl1]using Z
    .rw[gDE,gAL (by omega),<-gDE]
     exact Rel.mono (λ_ h=>h) (Am.ext M.rt) _ _ _ (λ_ _=>rfl) (hr1 k (by omega))
  obtain⟨ρ',F',ok,_,hr'⟩:=key n (Nat.le_refl _);refine⟨ρ',F',⟨ok.wr,ok.rt,ok.old,λi b J B=>(hf b).2 (ok.new i b J B)⟩,?_⟩
  exact⟨cs,λ_=>noF,W,hn,λk hk=>hr' k hk,λ_ _ _ _ _ _ h=>h.elim,λb=>⟨λh=>h.elim,fun⟨_,_,h⟩=>h⟩⟩
theorem CR.res{C:Ctx}{ts:List V}{cts:Array Value}{D':Nat->Prop}(h:CR C σ ts cts w D ρ F){r:V}{v':Value}(W:Below w.heap.size w w')(hr:Rel D' w' (Am σ ρ w') r v' fp)
  (hf:∀b,fp b->w.heap.size<=b) (E:∀b,D b->D' b) (O:∀b,D' b->D b\/w.heap.size<=b) (M:∀b,D' b->b<w'.heap.size/\¬fp b) (d:Nat):
  X1 C (σ++(prom r σ.length).2) (ts.set d (prom r σ.length).1) (cts.setIfInBounds d v') w':=by
 have A:∀i b,F i b->b<w.heap.size:=h.wr.lt;have Y:Bs σ w' D' ρ F:=by
  have L:=h.wr.below W;refine⟨λi J=>Rel.mono E (λ_ _ h=>h) _ _ _ (λ_ _=>rfl) (L.rel i J),L.disj,λi b e hD=>?_,λb e=>(M b e).1,L.out⟩
  rcases O b hD with h2|h2
  .exact L.dD i b e h2
  .have:=A i b e;omega
 obtain⟨ρ',F',ok,Z⟩:=IB r σ ρ F v' fp Y hr (λb e hD=>(M b hD).2 e) (λi b e hb'=>by have:=A i b e;have:=hf b hb';omega)
 refine⟨D',ρ',F',ok.wr,by simp[h.sz],λt U=>?_,h.fr.below W,λi b e=>?_,λb e=>E b (h.D1 b e),λb e B=>?_,λi J=>(ok.rt i (Nat.lt_of_lt_of_le J h.ml)).trans (h.rt i J),by have:=h.ml;simp;omega⟩
 .simp at U
  by_cases he:d=t
  .subst he
   have B:d<cts.size:=by rw[h.sz];exact U
   simpa [U,B]using Z
  .have L:=h.tm t U
   simp only[gDE,List.getElem?_set_ne he,Array.getD_eq_getD_getElem?,Array.getElem?_setIfInBounds_ne he];rw[<-gDE,<-Array.getD_eq_getD_getElem?];refine Rel.mono E (λv cv hv=>Am.ext ok.rt _ _ (Am.same h.wr (λi b e=>W.block b (A i b e)) v cv hv)) _ _ _ (λb e=>W.block b ?_) L
   rcases e with e|e
   .exact h.wr.Dlt b e
   .exact e.elim
 .by_cases J:i<σ.length
  .rw[ok.old i J]at e;exact h.Fn i b e
  .have:=hf b (ok.new i b (by omega) e)
   right;exact Nat.le_trans h.fr.size this
 .rcases O b e with h2|h2
  .exact h.D2 b h2 B
  .have:=h.fr.size;omega
end Go.Ve


namespace Go.Ve
variable{l:List V}{i:Nat}{D:Nat->Prop}{x:V}{w:World}
structure Bg(G:V->V):Prop where
 c:∀v,G (.c v)=.c v
 dead:G .dead=.dead
 nd:∀s own sz n f,G (.nd s own sz n f)=.nd s own sz n f
 mp:∀own l,G (.mp own l)=.mp own l
 many:∀t n f,G (.many t n f)=.many t n λk=>G (f k)
theorem Bg.rel{G:V->V}(B:Bg G){w':World}{R R':V->Value->Prop}(L:∀b,D b->w'.heap[b]? =w.heap[b]?)
  (Z:∀id p off len cv,R (.rs id p off len) cv->Rel D w' R' (G (.rs id p off len)) cv noF) (Y:∀id p i k cv,R (.rp id p i k) cv->Rel D w' R' (G (.rp id p i k)) cv noF) (W:∀id p cv,R (.rm id p) cv->Rel D w' R' (G (.rm id p)) cv noF):
  ∀(v:V) (cv:Value) (fp:Nat->Prop),(∀b,¬fp b)->Rel D w R v cv fp->Rel D w' R' (G v) cv noF:=by
 intro v
 induction v with
 |c v=>intro cv fp _ h;rw[B.c];exact⟨h.1,h.2.1,λ_ h=>h⟩
 |dead=>intro cv fp _ h;rw[B.dead];exact λ_ h=>h
 |many t n f O=>
  intro cv fp e h;rw[B.many];obtain⟨cs,F,J,hn,U,hd,E⟩:=h;exact⟨cs,λ_=>noF,J.mono (λ_ h=>h) L,hn,λk M=>O k _ _ (λb A=>e b ((E b).2 ⟨k,M,A⟩)) (U k M),λ_ _ _ _ _ _ h=>h.elim,λb=>⟨λh=>h.elim,fun⟨_,_,h⟩=>h⟩⟩
 |nd s own sz n f _=>
  intro cv fp e h;rw[B.nd];have:=Bb e;subst this;exact Rel.nd_R (Rel.mono (λ_ h=>h) (λ_ _ h=>h) _ _ _ (λb A=>L b (A.elim id λh=>h.elim)) h)
 |rs id p off len=>intro cv fp _ h;exact Z _ _ _ _ _ h.1
 |rp id p i k=>intro cv fp _ h;exact Y _ _ _ _ _ h.1
 |rm id p=>intro cv fp _ h;exact W _ _ _ h.1
 |mp own l=>
  intro cv fp e h;rw[B.mp];have:=Bb e;subst this;exact Rel.mono (w:=w) (D:=D) (λ_ h=>h) (R:=noR) (λ_ _ h=>h.elim) _ _ _ (λb A=>L b (A.elim id λh=>h.elim)) h
def rrV(id:Nat)(p:List (Nat×Nat))(j:Nat):V->V
 |.rs id' q off len=>if id'=id/\A1 p q=true then .rs j (q.drop p.length) off len else .rs id' q off len
 |.rp id' q i k=>if id'=id/\A1 p q=true then .rp j (q.drop p.length) i k else .rp id' q i k
 |.rm id' q=>if id'=id/\A1 p q=true then .rm j (q.drop p.length)else .rm id' q
 |.many t n f=>.many t n λk=>rrV id p j (f k)
 |v=>v
def Dw(id:Nat)(p:List (Nat×Nat))(j:Nat):Bg (rrV id p j):=⟨λ_=>rfl,rfl,λ_ _ _ _ _=>rfl,λ_ _=>rfl,λ_ _ _=>rfl⟩
theorem Ag(h:i<l.length):(l.set i x).getD i .dead=x:=by grind
theorem Af{j:Nat}(h:i≠j):(l.set i x).getD j .dead=l.getD j .dead:=by grind
theorem CR.reroot{C:Ctx}{σ ts:List V}{cts:Array Value}{ρ:Nat->Value}{F:Nat->Nat->Prop}(h:CR C σ ts cts w D ρ F){id:Nat}{p:List (Nat×Nat)}{v1:V}{c1:Value}(hid:id<σ.length)
  (U:At w p (σ.getD id .dead) (ρ id) v1 c1):∃ρ' F',CR C (σ.set id (upd p (σ.getD id .dead) .dead)++[sub p (σ.getD id .dead)]) (ts.map (rrV id p σ.length)) cts w D ρ' F'/\ρ' σ.length=c1/\(∀i,i<σ.length->ρ' i=ρ i)/\∀i b,F' i b->∃j,F j b:=by
 obtain⟨fp1,hr1,Y,hput⟩:=Dg (w':=w) p _ _ _ _ _ (h.wr.rel id hid) (λb A h'=>h.wr.dD id b h' A) U
 have hnew:=hput .dead noF (λ_ h=>h) (λb A=>A.elim) (λ_ _ _=>rfl)
 let ρ':Nat->Value:=λi=>if i=σ.length then c1 else ρ i
 let F':Nat->Nat->Prop:=λi=>if i=σ.length then fp1 else if i=id then λb=>(F id b/\¬fp1 b)\/noF b else F i
 have O:sub p (σ.getD id .dead)=v1:=(At.sub U).symm;have L:∀i b,F' i b->∃j,F j b:=by
  intro i b A;simp only[F']at A;split at A
  .exact⟨id,Y b A⟩
  .split at A
   .exact⟨id,A.elim (λh=>h.1) λh=>h.elim⟩
   .exact⟨i,A⟩
 have wr':Bs (σ.set id (upd p (σ.getD id .dead) .dead)++[sub p (σ.getD id .dead)]) w D ρ' F':=by
  refine⟨λi hi=>?_,λi j b hij A B=>?_,λi b A hD=>?_,h.wr.Dlt,λi b hi A=>?_⟩
  .by_cases W:i=σ.length
   .subst W
    simp only[ρ',F',if_true];rw[O];simpa using hr1
   .have hi':i<σ.length:=by simp at hi;omega
    rw[AE (by simpa using hi')]
    simp only[ρ',F',W,if_false];by_cases he2:i=id
    .subst he2
     rw[Ag hid];simpa using hnew
    .rw[Af (Ne.symm he2)]
     simpa [he2]using h.wr.rel i hi'
  .simp only[F']at A B
   by_cases W:i=σ.length<;>by_cases he':j=σ.length
   .omega
   .simp only[W,if_true,he',if_false]at A B
    split at B
    .rcases B with B|B
     .exact B.2 A
     .exact B
    .exact h.wr.disj id j b (λe=>by rename_i hne;exact hne e.symm) (Y b A) B
   .simp only[he',if_true,W,if_false]at A B
    split at A
    .rcases A with A|A
     .exact A.2 B
     .exact A
    .exact h.wr.disj i id b (by assumption) A (Y b B)
   .simp only[W,he',if_false]at A B
    have e1:F i b:=by
     split at A
     .rename_i e;subst e;exact A.elim (λh=>h.1) λh=>h.elim
     .exact A
    have e2:F j b:=by
     split at B
     .rename_i e;subst e;exact B.elim (λh=>h.1) λh=>h.elim
     .exact B
    exact h.wr.disj i j b hij e1 e2
  .obtain⟨j,hj⟩:=L i b A;exact h.wr.dD j b hj hD
  .simp at hi
   simp only[F',show i≠σ.length by omega,show i≠id by omega,if_false]at A
   exact h.wr.out i b (by omega) A
 refine⟨ρ',F',⟨wr',by simpa using h.sz,λt ht=>?_,h.fr,λi b A=>?_,h.D1,h.D2,λi hi=>?_,by have:=h.ml;simp;omega⟩,by simp[ρ'],λi hi=>by simp[ρ',show i≠σ.length by omega],L⟩
 .simp at ht
  have e1:(ts.map (rrV id p σ.length)).getD t .dead=rrV id p σ.length (ts.getD t .dead):=by simp[ht]
  rw[e1];have J:(σ.set id (upd p (σ.getD id .dead) .dead)++[sub p (σ.getD id .dead)]).length=σ.length+1:=by simp
  have hge:(σ.set id (upd p (σ.getD id .dead) .dead)++[sub p (σ.getD id .dead)]).getD σ.length .dead=v1:=by rw[<-O];simp
  -- one reference
  have key:∀(id':Nat) (q:List (Nat×Nat)) (s:Bool) (sz n:Nat) (f:Nat->Nat->V) (c:Value),id'<σ.length->At w q (σ.getD id' .dead) (ρ id') (.nd s true sz n f) c->
    (id'=id/\A1 p q=true->At w (q.drop p.length) v1 c1 (.nd s true sz n f) c)/\
    (¬ (id'=id/\A1 p q=true)->∃f',At w q ((σ.set id (upd p (σ.getD id .dead) .dead)++[sub p (σ.getD id .dead)]).getD id' .dead) (ρ' id') (.nd s true sz n f') c):=by
   intro id' q s sz n f c E ha;constructor
   .rintro ⟨rfl,Z⟩
    rw[Cu Z]at ha;exact At.split ha U
   .intro hn
    rw[AE (by simpa using E)]
    have eρ:ρ' id'=ρ id':=by simp[ρ',show id'≠σ.length by omega]
    rw[eρ];by_cases W:id'=id
    .subst W
     rw[Ag hid];exact At.keep p q _ _ (At.ok U) (by simpa using hn) ha
    .rw[Af (Ne.symm W)]
     exact⟨f,ha⟩
  have keyM:∀(id':Nat) (q:List (Nat×Nat)) (l:List (Value×Value)) (c:Value),id'<σ.length->At w q (σ.getD id' .dead) (ρ id') (.mp true l) c->
    (id'=id/\A1 p q=true->At w (q.drop p.length) v1 c1 (.mp true l) c)/\
    (¬ (id'=id/\A1 p q=true)->At w q ((σ.set id (upd p (σ.getD id .dead) .dead)++[sub p (σ.getD id .dead)]).getD id' .dead) (ρ' id') (.mp true l) c):=by
   intro id' q l c E ha;constructor
   .rintro ⟨rfl,Z⟩
    rw[Cu Z]at ha;exact At.split ha U
   .intro hn
    rw[AE (by simpa using E)]
    have eρ:ρ' id'=ρ id':=by simp[ρ',show id'≠σ.length by omega]
    rw[eρ];by_cases W:id'=id
    .subst W
     rw[Ag hid];exact At.keepM p q _ _ (At.ok U) (by simpa using hn) ha
    .rw[Af (Ne.symm W)]
     exact ha
  refine(Dw id p σ.length).rel (λ_ _=>rfl) ?_ ?_ ?_ _ _ noF (λ_ h=>h) (h.tm t ht)
  .rintro id' q off len cv ⟨E,sz,n,f,cn,ha,hle,M⟩
   obtain⟨k1,k2⟩:=key id' q true sz n f cn E ha;simp only[rrV];split
   .rename_i hc
    exact⟨⟨by rw[J];omega,sz,n,f,cn,by rw[hge];simpa [ρ']using k1 hc,hle,M⟩,λ_ h=>h⟩
   .rename_i hc
    obtain⟨f',ha'⟩:=k2 hc;exact⟨⟨by rw[J];omega,sz,n,f',cn,ha',hle,M⟩,λ_ h=>h⟩
  .rintro id' q i k cv ⟨E,s,sz,n,f,b,o,cap,ha,hi,hk,M⟩
   obtain⟨k1,k2⟩:=key id' q s sz n f _ E ha;simp only[rrV];split
   .rename_i hc
    exact⟨⟨by rw[J];omega,s,sz,n,f,b,o,cap,by rw[hge];simpa [ρ']using k1 hc,hi,hk,M⟩,λ_ h=>h⟩
   .rename_i hc
    obtain⟨f',ha'⟩:=k2 hc;exact⟨⟨by rw[J];omega,s,sz,n,f',b,o,cap,ha',hi,hk,M⟩,λ_ h=>h⟩
  .rintro id' q cv ⟨E,l,b,ha,M⟩
   obtain⟨k1,k2⟩:=keyM id' q l _ E ha;simp only[rrV];split
   .rename_i hc
    exact⟨⟨by rw[J];omega,l,b,by rw[hge];simpa [ρ']using k1 hc,M⟩,λ_ h=>h⟩
   .rename_i hc
    exact⟨⟨by rw[J];omega,l,b,k2 hc,M⟩,λ_ h=>h⟩
 .obtain⟨j,hj⟩:=L i b A;exact h.Fn j b hj
 .have:=h.ml
  simp only[ρ',show i≠σ.length by omega,if_false]
  exact h.rt i hi
end Go.Ve

