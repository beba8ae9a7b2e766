/- Calls by contract in the small machine. -/
import Derived.Test.YtdhfaeiafmlhlaaVh
set_option linter.all false
namespace Go.Ve
variable{xs:Array Operand}{ats:Array TypeId}{f:FuncId}{vs:List V}{y:Operand}{name:String}{t:TypeId}{fv v:V}
def Ae(P:Program)(f:FuncId):Bool:=
 match P.funcs[f]? with
 | some fn => !(fn.name == "runtime.NumGoroutine") && fn.body.isSome
 |none=>false
section ops
variable {P:Program}{o:Oper}{a:Act}{w:World}{σ:List V}{D:Nat->Prop}{ρ:Nat->Value}{F:Nat->Nat->Prop}{K:V->Prop}
theorem ON{R:V->Value->Prop}{cv:Value}{fp:Nat->Prop}(h:AP v=false)(e:Rel D w R v cv fp):∀b,¬fp b:=by
 have:∀v,AP v=false->AM v=false:=by
  intro v
  induction v with
  |many t n f A=>
   intro h;unfold AP at h;unfold AM
   grind
  |nd s own sz n f _=>intro h;exact h
  |mp own l=>intro h;exact h
  |_=>intro _;rfl
 exact AB _ _ _ (this _ h) e
def Call(P:Program)(f:FuncId)(e:Bool)(vs:List V)(K:V->Prop):Prop:=
 ∃r,(Ae P f=true/\FC P f vs r)/\(e=true->BE r)/\K r
def Y5(σ:List V)(w:World)(D:Nat->Prop)(ρ:Nat->Value)(F:Nat->Nat->Prop)(vs:List V)(cs:Array Value):Prop:=
 cs.size=vs.length/\∀j,j<vs.length->OpR σ w D ρ F (vs.getD j .dead) (cs.getD j undef)
theorem Hu(hk:Wok w)(wr:Bl σ w D ρ F){cvs:Array Value}(B:Ae P f=true->(execOp a.eval o).run P w=.ok (.enter f cvs) w)(hv:Y5 σ w D ρ F vs cvs)
  (h:Call P f (vs.any AP) (vs.map (BQ σ)) K):∃r,K r/\Au P o a w σ D ρ r:=by
 obtain⟨r,⟨J,W⟩,hla,hK⟩:=h;refine⟨r,hK,λnext Q hn=>?_⟩
 have B:=B J;unfold Oper.wp;rw[B,Oper.upon_enter]
 let D2:Nat->Prop:=λb=>D b\/(vs.any AP=true/\((∃j fp,j<vs.length/\Rel D w (Ak σ ρ w) (vs.getD j .dead) (cvs.getD j undef) fp/\fp b)\/∃i,F i b))
 have O:∀i,i<(vs.map (BQ σ)).length->Rel D2 w noR ((vs.map (BQ σ)).getD i .dead) (cvs.getD i undef) noF:=by
  intro i hi;simp at hi;obtain⟨fp,E,hfD,hfF⟩:=hv.2 i hi;have e1:(vs.map (BQ σ)).getD i .dead=BQ σ (vs.getD i .dead):=by simp[hi]
  rw[e1]
  have U:AP (vs.getD i .dead)=true\/∀b,¬fp b:=by
   cases h:AP (vs.getD i .dead)with
   |true=>exact .inl rfl
   |false=>exact .inr (ON h E)
  refine Rel.mono (λb A=>A.imp id fun⟨h1,h2⟩=>⟨?_,h2.imp (λh=>⟨i,fp,hi,E,h⟩) id⟩) (λ_ _ h=>h) _ _ _ (λ_ _=>rfl) (Z4 wr _ _ _ E U)
  grind
 have hD2:∀b,D2 b->b<w.heap.size:=by
  rintro b (A|⟨_,⟨j,fp,hj,E,A⟩|⟨i,A⟩⟩)
  .exact wr.Dlt b A
  .exact Rel.lt _ _ _ E b A
  .exact wr.lt i b A
 refine(W w D2 cvs hk hD2 (by rw[hv.1];simp) O).mono ?_
 rintro e w' ⟨cv,fp,D',rfl,hB,E,Y,hd1,hd2,Z⟩
 cases U:vs.any AP with
 |false=>
  refine hn cv w' D' fp hB (Rel.noR_mono E) Y (λb A=>hd1 b (.inl A)) (λb A=>?_) Z
  rcases hd2 b A with(h|⟨h,_⟩)|h
  .exact .inl h
  .rw[U]at h;cases h
  .exact .inr h
 |true=>
  refine hn cv w' D fp hB (Rel.noR_mono (Rel.ownOnly' r _ _ _ _ (hla U) E)) Y (λ_ h=>h) (λ_ h=>.inl h) λb A=>⟨Nat.lt_of_lt_of_le (wr.Dlt b A) hB.size,λh=>?_⟩
  have:=wr.Dlt b A;have:=Y b h;omega
theorem O5{cs:Array Value}(J:o.op=.call {callee:=.value y,args:=xs,argTypes:=ats})(E:a.eval y=.func (.func f) #[] cs)(e:Ae P f=true):
  (execOp a.eval o).run P w=.ok (.enter f (xs.map a.eval++cs)) w:=by
 unfold Ae at e;split at e
 .rename_i fn A
  have B:fn.body.isNone=false:=by simp_all
  unfold execOp;rw[J];simp[resolve,E,Deferred.ofValue,invoke,callFunc,A,B]
  grind
 grind
theorem Wl(B:Wok w)(wr:Bl σ w D ρ F)(A:o.op=.call {callee:=.value (.func f),args:=xs,argTypes:=ats})(e:Y5 σ w D ρ F vs (xs.map a.eval))
  (h:Call P f (vs.any AP) (vs.map (BQ σ)) K):∃r,K r/\Au P o a w σ D ρ r:=
 Hu B wr (λE=>by
  have:=O5 (a:=a) (w:=w) A rfl E
  grind) e h
def Om(P:Program)(σ:List V)(fv:V)(args:List V)(K:V->Prop):Prop:=match fv with
 |.many (.cl g) n f=>Nat.blt g 1000000=true/\Call P g ((args++tab n f).any AP) ((args++tab n f).map (BQ σ)) K
 |_=>False
theorem Ol(hk:Wok w)(wr:Bl σ w D ρ F){vs:List V}(ho:o.op=.call {callee:=.value y,args:=xs,argTypes:=ats})(hy:OpR σ w D ρ F fv (a.eval y))
  (E:Y5 σ w D ρ F vs (xs.map a.eval)) (h:Om P σ fv vs K):∃r,K r/\Au P o a w σ D ρ r:=by
 unfold Om at h;split at h
 case h_2=>exact h.elim
 rename_i g n f;obtain⟨U,h⟩:=h;obtain⟨fp,hr,Y,W⟩:=hy;obtain⟨cs,G,A,hn,J,_,O⟩:=hr;have A:a.eval y=Zc g cs:=A;rw[YE U]at A;refine Hu hk wr (λhc=>O5 ho A hc) ⟨?_,λj hj=>?_⟩ h
 .rw[Array.size_append,List.length_append,E.1,D5,hn]
 .rw[List.length_append,D5]at hj
  by_cases B:j<vs.length
  .have:=E.2 j B
   have e1:(vs++tab n f).getD j .dead=vs.getD j .dead:=by simp[gAL B]
   have e2:(xs.map a.eval++cs).getD j undef=(xs.map a.eval).getD j undef:=by
    have:j<(xs.map a.eval).size:=by rw[E.1];exact B
    simp[Array.getElem?_append_left this]
   rw[e1,e2];exact this
  .have e:j-vs.length<n:=by omega
   have e1:(vs++tab n f).getD j .dead=f (j-vs.length):=by
    rw[<-Mu n f (j-vs.length) e]
    grind
   have e2:(xs.map a.eval++cs).getD j undef=cs.getD (j-vs.length) undef:=by
    have h2:(xs.map a.eval).size<=j:=by rw[E.1];omega
    have h3:(xs.map a.eval).size=vs.length:=E.1;rw[Array.getD_eq_getD_getElem?,Array.getD_eq_getD_getElem?,Array.getElem?_append_right h2,h3]
   rw[e1,e2];exact⟨G (j-vs.length),J _ e,λb Z=>Y b ((O b).2 ⟨_,e,Z⟩),λi b hF Z=>W i b hF ((O b).2 ⟨_,e,Z⟩)⟩
def qMkF(g:Nat)(cs:List V)(K:V->Prop):Prop:=(Nat.blt g 1000000=true/\cs.all (λv=>!AM v)=true)/\K (.many (.cl g) cs.length λk=>cs.getD k .dead)
theorem VB(wr:Bl σ w D ρ F){g:Nat}{cs:List V}(e:o.op=.makeFunc (.func g) #[] xs)(B:Y5 σ w D ρ F cs (xs.map a.eval))(h:qMkF g cs K):∃r,K r/\Au P o a w σ D ρ r:=by
 obtain⟨⟨A,J⟩,hK⟩:=h;refine⟨_,hK,Au.pure wr ?_ ⟨xs.map a.eval,λ_=>noF,(YE A).symm,B.1,λk O=>?_,λ_ _ _ _ _ _ h=>h.elim,λb=>⟨λh=>h.elim,fun⟨_,_,h⟩=>h⟩⟩⟩
 .unfold execOp;rw[e];simp[Instr.makeFunc]
 .obtain⟨fp,E,_,_⟩:=B.2 k O
  have e:AM (cs.getD k .dead)=false:=by
   grind
  exact Rel.fp_congr (λb=>⟨λh=>absurd h (AB _ _ _ e E b),λh=>h.elim⟩) E
def ZZ(P:Program)(t:TypeId)(name:String):Option FuncId:=match P.info? t,P.underlying t with
 |some i,some (.pointer _)=>match i.methods.find? (·.name==name)with
  |some m=>match m.path.toList,m.func with
   |[],some (f,true)=>some f
   |_,_=>none
  |none=>none
 |_,_=>none
theorem ZX(h:ZZ P t name=some f)(n:Nat)(v:Value)(w:World):(method (n+1) t v name).run P w=.ok (f,v) w/\∃e,P.underlying t=some (.pointer e):=by
 unfold ZZ at h;split at h
 case h_2=>grind
 rename_i i e hi A;split at h
 case h_2=>grind
 rename_i m E;split at h
 case h_2=>grind
 rename_i O B J;cases h;refine⟨?_,e,A⟩;unfold method;simp[typeInfo,hi,E,B,follow,J,receiverAt,run_underlying A,Place.get]
theorem ZY(h:ZZ P t name=some f):∃e,P.underlying t=some (.pointer e):=by
 unfold ZZ at h
 grind
def qMkI(P:Program)(t:TypeId)(v:V)(K:V->Prop):Prop:=(AM v=false/\∃e,P.underlying t=some (.pointer e))/\K (.many (.cl (1000000+t)) 1 λ_=>v)
theorem VA(wr:Bl σ w D ρ F){x:Operand}(O:o.op=.makeInterface t x)(E:OpR σ w D ρ F v (a.eval x))(h:qMkI P t v K):∃r,K r/\Au P o a w σ D ρ r:=by
 obtain⟨⟨A,e,J⟩,hK⟩:=h;obtain⟨fp,B,_,_⟩:=E;refine⟨_,hK,Au.pure wr (v':=.iface t (a.eval x)) ?_ ⟨#[a.eval x],λ_=>noF,?_,rfl,λk U=>?_,λ_ _ _ _ _ _ h=>h.elim,λb=>⟨λh=>h.elim,fun⟨_,_,h⟩=>h⟩⟩⟩
 .unfold execOp;rw[O];simp[Instr.makeInterface,run_underlying J]
 .show Value.iface t (a.eval x)=Zc (1000000+t) #[a.eval x]
  rw[Abw];rfl
 .obtain rfl:k=0:=by omega
  exact Rel.fp_congr (λb=>⟨λh=>absurd h (AB _ _ _ A B b),λh=>h.elim⟩) B
def Oo(P:Program)(σ:List V)(fv:V)(name:String)(args:List V)(K:V->Prop):Prop:=match fv with
 |.many (.cl g) n f=>∃t fn,(g=1000000+t/\n=1/\ZZ P t name=some fn)/\Call P fn ((tab n f++args).any AP) ((tab n f++args).map (BQ σ)) K
 |_=>False
theorem On(hk:Wok w)(wr:Bl σ w D ρ F){vs:List V}(ho:o.op=.call {callee:=.invoke y name,args:=xs,argTypes:=ats})(hy:OpR σ w D ρ F fv (a.eval y))
  (hv:Y5 σ w D ρ F vs (xs.map a.eval)) (h:Oo P σ fv name vs K):∃r,K r/\Au P o a w σ D ρ r:=by
 unfold Oo at h;split at h
 case h_2=>exact h.elim
 rename_i g n f;obtain⟨t,fn,⟨rfl,rfl,hm⟩,h⟩:=h;obtain⟨fp,hr,Z,Y⟩:=hy;obtain⟨cs,G,e,hn,E,_,J⟩:=hr;have e:a.eval y=Zc (1000000+t) cs:=e;rw[Abw]at e;have ht:tab 1 f=[f 0]:=rfl;rw[ht]at h;refine Hu hk wr (cvs:=#[cs.getD 0 undef]++xs.map a.eval) (λO=>?_) ⟨?_,λj hj=>?_⟩ h
 .unfold Ae at O
  split at O
  case h_2=>cases O
  rename_i fu W;simp only[bAE,Bool.not_eq_true']at O;obtain⟨h1,h2⟩:=O;have h2':fu.body.isNone=false:=by cases B:fu.body<;>simp[B]at h2⊢
  have U:P.types.size+Made.depth=(P.types.size+99)+1:=rfl;obtain⟨A,_⟩:=ZX hm (P.types.size+99) (cs.getD 0 undef) w;generalize cs.getD 0 undef=c0 at e A;have he:((#[Value.iface t c0]++xs.map a.eval).extract 1 (#[Value.iface t c0]++xs.map a.eval).size)=xs.map a.eval:=by
   apply Array.ext';simp;exact List.take_of_length_le (by simp)
  have h0:(#[Value.iface t c0]++xs.map a.eval)[0]? =some (Value.iface t c0):=by
   rw[Array.getElem?_append_left (by simp)];rfl
  unfold execOp;rw[ho];simp at h1;simp only[resolve,e];show(invoke (.fn (.method name) #[]) (#[Value.iface t c0]++xs.map a.eval)).run P w=_;unfold invoke;simp only[h0,he];show(callMethod (Value.iface t c0) name (xs.map a.eval)).run P w=_;unfold callMethod;simp[U,A,callFunc,W,h2',h1];intro B;simp[B]at h2
 .simp[hv.1];omega
 .cases j with
  |zero=>
   show OpR σ w D ρ F (f 0) _;have e2:(#[cs.getD 0 undef]++xs.map a.eval).getD 0 undef=cs.getD 0 undef:=by
    rw[Array.getD_eq_getD_getElem?,Array.getElem?_append_left (by simp)];rfl
   rw[e2];exact⟨G 0,E 0 (by omega),λb B=>Z b ((J b).2 ⟨_,by omega,B⟩),λi b hF B=>Y i b hF ((J b).2 ⟨_,by omega,B⟩)⟩
  |succ j=>
   have hj:j<vs.length:=by simpa using hj
   have:=hv.2 j hj;have e1:([f 0]++vs).getD (j+1) .dead=vs.getD j .dead:=rfl
   have e2:(#[cs.getD 0 undef]++xs.map a.eval).getD (j+1) undef=(xs.map a.eval).getD j undef:=by
    simp[Array.getD_eq_getD_getElem?,Array.getElem?_append]
   rw[e1,e2];exact this
end ops
end Go.Ve


namespace Go.Ve
def AT:List (Nat×Nat)->List (Nat×Nat)->Bool
 |[],_=>true
 |(i,k)::p,(j,l)::q=>i==j&&k==l&&AT p q
 |_::_,[]=>false
def Cp:∀{p q:List (Nat×Nat)},AT p q=true->q=p++q.drop p.length
 |[],_,_=>rfl
 |(i,k)::p,(j,l)::q,h=>by
  simp[AT,beq_iff_eq]at h;obtain⟨⟨rfl,rfl⟩,h⟩:=h;simp[<-Cp h]
 |_::_,[],h=>by cases h
theorem At.split{w:World}:∀{p q:List (Nat×Nat)}{v:V}{cv:Value}{v':V}{B:Value}{O:V}{c1:Value},At w (p++q) v cv v' B->At w p v cv O c1->At w q O c1 v' B
 |[],_,_,_,_,_,_,_,h,A=>by obtain⟨rfl,rfl⟩:=A;grind
 |(i,k)::p,q,.nd s true sz n f,_,_,_,_,_,h,A=>by
  obtain⟨_,_,b,o,cap,x,J,W,h⟩:=h;obtain⟨_,_,b',Z,U,Y,e,E,A⟩:=A;subst J;obtain⟨rfl,rfl,_⟩:=Av e;have:=Option.some.inj (E.symm.trans W);subst this;exact At.split h A
 |_::_,_,.nd _ false _ _ _,_,_,_,_,_,h,_=>h.elim
 |_::_,_,.c _,_,_,_,_,_,h,_=>h.elim
 |_::_,_,.dead,_,_,_,_,_,h,_=>h.elim
 |_::_,_,.many ..,_,_,_,_,_,h,_=>h.elim
 |_::_,_,.rs ..,_,_,_,_,_,h,_=>h.elim
 |_::_,_,.rp ..,_,_,_,_,_,h,_=>h.elim
theorem At.keep{w:World}{x:V}:∀(p q:List (Nat×Nat)) (v:V) (cv:Value) {s:Bool}{sz n:Nat}{f:Nat->Nat->V}{c:Value},KR p v->AT p q=false->At w q v cv (.nd s true sz n f) c->
  ∃O,At w q (upd p v x) cv (.nd s true sz n O) c
 |[],_,_,_,_,_,_,_,_,_,h,_=>by cases h
 |(i,k)::p,[],.nd s0 o0 sz0 n0 f0,_,_,_,_,_,_,_,_,B=>by
  obtain⟨E,rfl⟩:=B;cases E;exact⟨_,rfl,rfl⟩
 |(i,k)::p,(i',k')::q,.nd s0 true sz0 n0 f0,cv,s,sz,n,f,c,e,hpre,B=>by
  obtain⟨E,W,b,o,cap,y,A,U,B⟩:=B;obtain⟨_,_,_,e⟩:=e;by_cases Y:i'=i/\k'=k
  .obtain⟨rfl,rfl⟩:=Y
   obtain⟨O,J⟩:=At.keep p q (f0 i' k') y e (by simpa [AT]using hpre) B
   exact⟨O,E,W,b,o,cap,y,A,U,by simpa using J⟩
  .exact⟨f,E,W,b,o,cap,y,A,U,by grind⟩
 |_::_,_::_,.nd _ false _ _ _,_,_,_,_,_,_,_,_,h=>h.elim
 |_::_,_,.c _,_,_,_,_,_,_,e,_,_=>e.elim
 |_::_,_,.dead,_,_,_,_,_,_,e,_,_=>e.elim
 |_::_,_,.many ..,_,_,_,_,_,_,e,_,_=>e.elim
 |_::_,_,.rs ..,_,_,_,_,_,_,e,_,_=>e.elim
 |_::_,_,.rp ..,_,_,_,_,_,_,e,_,_=>e.elim
theorem At.keepM{w:World}{x:V}:∀(p q:List (Nat×Nat)) (v:V) (cv:Value) {l:List (Value×Value)}{c:Value},KR p v->AT p q=false->At w q v cv (.mp true l) c->
  At w q (upd p v x) cv (.mp true l) c
 |[],_,_,_,_,_,_,h,_=>by cases h
 |(i,k)::p,[],.nd s0 o0 sz0 n0 f0,_,_,_,_,_,B=>by
  obtain⟨E,_⟩:=B;cases E
 |(i,k)::p,(i',k')::q,.nd s0 true sz0 n0 f0,cv,l,c,e,hpre,B=>by
  obtain⟨E,U,b,o,cap,y,A,O,B⟩:=B;obtain⟨_,_,_,e⟩:=e;by_cases W:i'=i/\k'=k
  .obtain⟨rfl,rfl⟩:=W
   have J:=At.keepM (x:=x) p q (f0 i' k') y e (by simpa [AT]using hpre) B
   exact⟨E,U,b,o,cap,y,A,O,by simpa using J⟩
  .exact⟨E,U,b,o,cap,y,A,O,by grind⟩
 |_::_,_::_,.nd _ false _ _ _,_,_,_,_,_,h=>h.elim
 |_::_,_,.c _,_,_,_,e,_,_=>e.elim
 |_::_,_,.dead,_,_,_,e,_,_=>e.elim
 |_::_,_,.many ..,_,_,_,e,_,_=>e.elim
 |_::_,_,.rs ..,_,_,_,e,_,_=>e.elim
 |_::_,_,.rp ..,_,_,_,e,_,_=>e.elim
 |_::_,_,.rm ..,_,_,_,e,_,_=>e.elim
 |_::_,_,.mp ..,_,_,_,e,_,_=>e.elim
theorem Np{sz i k i' k':Nat}(A:k<sz)(e:k'<sz)(h:¬ (i'=i/\k'=k)):i'*sz+k'≠i*sz+k:=by
 intro J;have E:(i'*sz+k') % sz=(i*sz+k) % sz:=by grind
 rw[Nat.mul_comm i',Nat.mul_comm i,Nat.mul_add_mod,Nat.mul_add_mod,Nat.mod_eq_of_lt e,Nat.mod_eq_of_lt A]at E;have B:(i'*sz+k')/sz=(i*sz+k)/sz:=by grind
 rw[Nat.mul_comm i',Nat.mul_comm i,Nat.mul_add_div (by omega),Nat.mul_add_div (by omega),Nat.div_eq_of_lt e,Nat.div_eq_of_lt A]at B
 omega
theorem At.store{D:Nat->Prop}{w w':World}{x:V}{s:Bool}{sz n:Nat}{f:Nat->Nat->V}{b o cap i k:Nat}(hi:i<n)(hk:k<sz)
  (hw:∀ad,ad≠(⟨b,o+i*sz+k,none⟩:Addr)->w'.cell? ad=w.cell? ad) (hb:∀c,c≠b->w'.heap[c]? =w.heap[c]?):
  ∀(p q:List (Nat×Nat)) (v:V) (cv:Value) (fp:Nat->Prop) {s1:Bool}{W n1:Nat}{f1:Nat->Nat->V}{c1:Value},Rel D w noR v cv fp->At w p v cv (.nd s true sz n f) (AA s b o n cap)->
   AT (p++[(i,k)]) q=false->At w q v cv (.nd s1 true W n1 f1) c1->∃f1',At w' q (upd (p++[(i,k)]) v x) cv (.nd s1 true W n1 f1') c1
 |p,[],v,cv,fp,s1,W,n1,f1,c1,Y,hp,hpre,A=>by
  obtain⟨rfl,rfl⟩:=A;cases p with
  |nil=>exact⟨_,rfl,rfl⟩
  |cons a p=>exact⟨_,rfl,rfl⟩
 |[],(i',k')::q,v,cv,fp,s1,W,n1,f1,c1,Y,hp,hpre,A=>by
  obtain⟨rfl,rfl⟩:=hp
  have hne:¬ (i'=i/\k'=k):=by
   rintro ⟨rfl,rfl⟩
   simp[AT]at hpre
  obtain⟨h1,U,b0,o0,E,y,hcv,hy,A⟩:=A;obtain⟨rfl,rfl,_⟩:=Av hcv;have hroot:=Rel.root Y;rcases Y with⟨h0,_⟩|⟨b2,o2,cap2,F,B,hcap,hmax,hs1,hc,himm,ho⟩
  .omega
  obtain⟨rfl,rfl,_⟩:=Av B;obtain⟨y',J,O⟩:=hc i' k' h1 U;have:y'=y:=Option.some.inj (J.symm.trans hy);subst this;refine⟨f1,h1,U,b,o,E,y',hcv,by rw[hw _ (by have:=Np (i:=i) hk U hne;intro h;simp at h;try omega)];exact hy,?_⟩
  simp only[hne,if_false];exact At.same O A λc hcF=>hb c λe=>(ho rfl).2.1 i' k' h1 U (e▸hcF)
 |(i0,k0)::p,(i',k')::q,.nd s0 true sz0 n0 f0,cv,fp,s1,W,n1,f1,c1,Y,hp,hpre,A=>by
  obtain⟨h1,U,b0,o0,E,y,rfl,hy,A⟩:=A;obtain⟨h3,h4,b3,o3,cap3,z,hcv3,hz,hp⟩:=hp;obtain⟨rfl,rfl,_⟩:=Av hcv3;rcases Y with⟨h0,_⟩|⟨b2,o2,cap2,F,B,hcap,hmax,hs1,hc,himm,ho⟩
  .omega
  obtain⟨rfl,rfl,_⟩:=Av B;obtain⟨y',J,O⟩:=hc i' k' h1 U;have:y'=y:=Option.some.inj (J.symm.trans hy);subst this;obtain⟨z',hz',hrz⟩:=hc i0 k0 h3 h4;have:z'=z:=Option.some.inj (hz'.symm.trans hz);subst this
  obtain⟨fz,hrn,hsub,_⟩:∃fz,Rel D w noR (.nd s true sz n f) (AA s b o n cap) fz/\(∀c,fz c->F i0 k0 c)/\True:=by
   clear hw hb
   have:∀(p:List (Nat×Nat)) (v:V) (cv:Value) (fp:Nat->Prop) (v1:V) (c1:Value),Rel D w noR v cv fp->At w p v cv v1 c1->∃fz,Rel D w noR v1 c1 fz/\(∀c,fz c->fp c):=by
    intro p
    induction p with
    |nil=>intro v cv fp v1 c1 Y A;obtain⟨rfl,rfl⟩:=A;exact⟨fp,Y,λ_ h=>h⟩
    |cons a p ih=>
     intro v cv fp v1 c1 Y A;obtain⟨i,k⟩:=a
     match v,A,Y with
     |.nd s true sz n f,A,Y=>
      obtain⟨h1,U,b,o,cap,y,rfl,hy,A⟩:=A;rcases Y with⟨h0,_⟩|⟨b2,o2,cap2,F,B,hcap,hmax,hs1,hc,himm,ho⟩
      .omega
      obtain⟨rfl,rfl,_⟩:=Av B;obtain⟨y',J,O⟩:=hc i k h1 U;have:y'=y:=Option.some.inj (J.symm.trans hy);subst this;obtain⟨fz,h1',h2'⟩:=ih _ _ _ _ _ O A;exact⟨fz,h1',λc hc=>((ho rfl).2.2.2 c).2 (.inr ⟨i,k,h1,U,h2' c hc⟩)⟩
   obtain⟨fz,h1',h2'⟩:=this p _ _ _ _ _ hrz hp;exact⟨fz,h1',h2',trivial⟩
  have hbF:F i0 k0 b:=hsub b (Rel.root hrn);have hbne:b0≠b:=λe=>(ho rfl).2.1 i0 k0 h3 h4 (e▸hbF)
  have Z:w'.cell? ⟨b0,o0+i'*sz0+k',none⟩=some y':=by rw[hw _ (by intro h;simp at h;try exact hbne h.1)];exact hy
  by_cases he:i'=i0/\k'=k0
  .obtain⟨rfl,rfl⟩:=he
   have:z'=y':=Option.some.inj (hz'.symm.trans J);subst this;obtain⟨f1',h1'⟩:=At.store hi hk hw hb p q (f0 i' k') z' _ O hp (by simpa [AT]using hpre) A
   exact⟨f1',h1,U,b0,o0,E,z',rfl,Z,by simpa using h1'⟩
  .refine⟨f1,h1,U,b0,o0,E,y',rfl,Z,?_⟩
   simp only[he,if_false];exact At.same O A λc hcF=>hb c λe=>(ho rfl).2.2.1 i' k' i0 k0 c h1 U h3 h4 (by omega) hcF (e▸hbF)
 |_::_,_::_,.nd _ false _ _ _,_,_,_,_,_,_,_,_,_,_,h=>h.elim
 |_::_,_::_,.c _,_,_,_,_,_,_,_,_,_,_,h=>h.elim
 |_::_,_::_,.dead,_,_,_,_,_,_,_,_,_,_,h=>h.elim
 |_::_,_::_,.many ..,_,_,_,_,_,_,_,_,_,_,h=>h.elim
 |_::_,_::_,.rs ..,_,_,_,_,_,_,_,_,_,_,h=>h.elim
 |_::_,_::_,.rp ..,_,_,_,_,_,_,_,_,_,_,h=>h.elim
 |_::_,_::_,.rm ..,_,_,_,_,_,_,_,_,_,_,h=>h.elim
 |_::_,_::_,.mp ..,_,_,_,_,_,_,_,_,_,_,h=>h.elim
theorem At.storeM{D:Nat->Prop}{w w':World}{x:V}{s:Bool}{sz n:Nat}{f:Nat->Nat->V}{b o cap i k:Nat}(hi:i<n)(hk:k<sz)
  (hw:∀ad,ad≠(⟨b,o+i*sz+k,none⟩:Addr)->w'.cell? ad=w.cell? ad) (hb:∀c,c≠b->w'.heap[c]? =w.heap[c]?):
  ∀(p q:List (Nat×Nat)) (v:V) (cv:Value) (fp:Nat->Prop) {l:List (Value×Value)}{c1:Value},Rel D w noR v cv fp->At w p v cv (.nd s true sz n f) (AA s b o n cap)->
   AT (p++[(i,k)]) q=false->At w q v cv (.mp true l) c1->At w' q (upd (p++[(i,k)]) v x) cv (.mp true l) c1
 |p,[],v,cv,fp,l,c1,W,hp,hpre,A=>by
  obtain⟨rfl,rfl⟩:=A;cases p with
  |nil=>obtain⟨h,_⟩:=hp;cases h
  |cons a p=>exact hp.elim
 |[],(i',k')::q,v,cv,fp,l,c1,W,hp,hpre,A=>by
  obtain⟨rfl,rfl⟩:=hp
  have hne:¬ (i'=i/\k'=k):=by
   rintro ⟨rfl,rfl⟩
   simp[AT]at hpre
  obtain⟨h1,U,b0,o0,E,y,hcv,hy,A⟩:=A;obtain⟨rfl,rfl,_⟩:=Av hcv;have hroot:=Rel.root W;rcases W with⟨h0,_⟩|⟨b2,o2,cap2,F,B,hcap,hmax,hs1,hc,himm,ho⟩
  .omega
  obtain⟨rfl,rfl,_⟩:=Av B;obtain⟨y',J,O⟩:=hc i' k' h1 U;have:y'=y:=Option.some.inj (J.symm.trans hy);subst this;refine⟨h1,U,b,o,E,y',hcv,by rw[hw _ (by have:=Np (i:=i) hk U hne;intro h;simp at h;try omega)];exact hy,?_⟩
  simp only[hne,if_false];exact At.same O A λc hcF=>hb c λe=>(ho rfl).2.1 i' k' h1 U (e▸hcF)
 |(i0,k0)::p,(i',k')::q,.nd s0 true sz0 n0 f0,cv,fp,l,c1,W,hp,hpre,A=>by
  obtain⟨h1,U,b0,o0,E,y,rfl,hy,A⟩:=A;obtain⟨h3,h4,b3,o3,cap3,z,hcv3,hz,hp⟩:=hp;obtain⟨rfl,rfl,_⟩:=Av hcv3;rcases W with⟨h0,_⟩|⟨b2,o2,cap2,F,B,hcap,hmax,hs1,hc,himm,ho⟩
  .omega
  obtain⟨rfl,rfl,_⟩:=Av B;obtain⟨y',J,O⟩:=hc i' k' h1 U;have:y'=y:=Option.some.inj (J.symm.trans hy);subst this;obtain⟨z',hz',hrz⟩:=hc i0 k0 h3 h4;have:z'=z:=Option.some.inj (hz'.symm.trans hz);subst this
  obtain⟨fz,hrn,hsub,_⟩:∃fz,Rel D w noR (.nd s true sz n f) (AA s b o n cap) fz/\(∀c,fz c->F i0 k0 c)/\True:=by
   clear hw hb
   have:∀(p:List (Nat×Nat)) (v:V) (cv:Value) (fp:Nat->Prop) (v1:V) (c1:Value),Rel D w noR v cv fp->At w p v cv v1 c1->∃fz,Rel D w noR v1 c1 fz/\(∀c,fz c->fp c):=by
    intro p
    induction p with
    |nil=>intro v cv fp v1 c1 W A;obtain⟨rfl,rfl⟩:=A;exact⟨fp,W,λ_ h=>h⟩
    |cons a p ih=>
     intro v cv fp v1 c1 W A;obtain⟨i,k⟩:=a
     match v,A,W with
     |.nd s true sz n f,A,W=>
      obtain⟨h1,U,b,o,cap,y,rfl,hy,A⟩:=A;rcases W with⟨h0,_⟩|⟨b2,o2,cap2,F,B,hcap,hmax,hs1,hc,himm,ho⟩
      .omega
      obtain⟨rfl,rfl,_⟩:=Av B;obtain⟨y',J,O⟩:=hc i k h1 U;have:y'=y:=Option.some.inj (J.symm.trans hy);subst this;obtain⟨fz,Z,h2'⟩:=ih _ _ _ _ _ O A;exact⟨fz,Z,λc hc=>((ho rfl).2.2.2 c).2 (.inr ⟨i,k,h1,U,h2' c hc⟩)⟩
   obtain⟨fz,Z,h2'⟩:=this p _ _ _ _ _ hrz hp;exact⟨fz,Z,h2',trivial⟩
  have hbF:F i0 k0 b:=hsub b (Rel.root hrn);have hbne:b0≠b:=λe=>(ho rfl).2.1 i0 k0 h3 h4 (e▸hbF)
  have Y:w'.cell? ⟨b0,o0+i'*sz0+k',none⟩=some y':=by rw[hw _ (by intro h;simp at h;try exact hbne h.1)];exact hy
  by_cases he:i'=i0/\k'=k0
  .obtain⟨rfl,rfl⟩:=he
   have:z'=y':=Option.some.inj (hz'.symm.trans J);subst this;have Z:=At.storeM (x:=x) hi hk hw hb p q (f0 i' k') z' _ O hp (by simpa [AT]using hpre) A
   exact⟨h1,U,b0,o0,E,z',rfl,Y,by simpa using Z⟩
  .refine⟨h1,U,b0,o0,E,y',rfl,Y,?_⟩
   simp only[he,if_false];exact At.same O A λc hcF=>hb c λe=>(ho rfl).2.2.1 i' k' i0 k0 c h1 U h3 h4 (by omega) hcF (e▸hbF)
 |_::_,_::_,.nd _ false _ _ _,_,_,_,_,_,_,_,h=>h.elim
 |_::_,_::_,.c _,_,_,_,_,_,_,_,h=>h.elim
 |_::_,_::_,.dead,_,_,_,_,_,_,_,h=>h.elim
 |_::_,_::_,.many ..,_,_,_,_,_,_,_,h=>h.elim
 |_::_,_::_,.rs ..,_,_,_,_,_,_,_,h=>h.elim
 |_::_,_::_,.rp ..,_,_,_,_,_,_,_,h=>h.elim
 |_::_,_::_,.rm ..,_,_,_,_,_,_,_,h=>h.elim
 |_::_,_::_,.mp ..,_,_,_,_,_,_,_,h=>h.elim
end Go.Ve


namespace Go.Ve
variable{σ:List V}{F:Nat->Nat->Prop}{D fp:Nat->Prop}{ρ:Nat->Value}{w w':World}
structure Ctx where
 w0:World
 W:Nat->Prop
 D0:Nat->Prop
 m:Nat
 ρ0:Nat->Value
 ok:Wok w0/\∀p,AbW=some p->¬W p.1
structure Fr(w0 w:World)(W:Nat->Prop):Prop where
 os:w.os=w0.os
 tape:w.tape=w0.tape
 output:w.output=w0.output
 size:w0.heap.size<=w.heap.size
 block:∀b,b<w0.heap.size->¬W b->w.heap[b]? =w0.heap[b]?
 drawn:w0.drawn<=w.drawn
def Fr.below{w0:World}{W:Nat->Prop}(h:Fr w0 w W)(e:Below w.heap.size w w'):Fr w0 w' W:=
 ⟨e.os.trans h.os,e.tape.trans h.tape,e.output.trans h.output,Nat.le_trans h.size e.size,λb A B=>(e.block b (Nat.lt_of_lt_of_le A h.size)).trans (h.block b A B),Nat.le_trans h.drawn e.drawn⟩
structure CR(C:Ctx)(σ:List V)(ts:List V)(cts:Array Value)(w:World)(D:Nat->Prop)(ρ:Nat->Value)(F:Nat->Nat->Prop):Prop where
 wr:Bl σ w D ρ F
 sz:cts.size=ts.length
 tm:∀t,t<ts.length->Rel D w (Ak σ ρ w) (ts.getD t .dead) (cts.getD t undef) noF
 fr:Fr C.w0 w C.W
 Fn:∀i b,F i b->C.W b\/C.w0.heap.size<=b
 D1:∀b,C.D0 b->D b
 D2:∀b,D b->b<C.w0.heap.size->C.D0 b\/C.W b
 rt:∀i,i<C.m->ρ i=C.ρ0 i
 ml:C.m<=σ.length
def CR.ok{C:Ctx}{σ ts:List V}{cts:Array Value}{w:World}{D:Nat->Prop}{ρ:Nat->Value}{F:Nat->Nat->Prop}(h:CR C σ ts cts w D ρ F):Wok w:=
 C.ok.1.same λp e=>h.fr.block p.1 (C.ok.1.lt e) (C.ok.2 p e)
def Wt(C:Ctx)(σ:List V)(ts:List V)(cts:Array Value)(w:World):Prop:=∃D ρ F,CR C σ ts cts w D ρ F
theorem AD{l e:List V}{i:Nat}(h:i<l.length):(l++e).getD i .dead=l.getD i .dead:=by grind
def Ak.ext{s:List V}{ρ':Nat->Value}(h:∀i,i<σ.length->ρ' i=ρ i):∀v cv,Ak σ ρ w v cv->Ak (σ++s) ρ' w v cv
 |.rs id p off len,cv,⟨e,sz,n,f,B,A,r⟩=>⟨by grind,sz,n,f,B,by grind,r⟩
 |.rp id p i k,cv,⟨e,s,sz,n,f,b,o,cap,A,r⟩=>⟨by grind,s,sz,n,f,b,o,cap,by grind,r⟩
 |.rm id p,cv,⟨e,l,b,A,r⟩=>⟨by grind,l,b,by grind,r⟩
 |.mp ..,_,h=>h.elim
 |.c _,_,h=>h.elim
 |.dead,_,h=>h.elim
 |.many ..,_,h=>h.elim
 |.nd ..,_,h=>h.elim
theorem Bl.push(h:Bl σ w D ρ F){v:V}{cv:Value}(Y:Rel D w noR v cv fp)(W:∀b,fp b->¬D b)(U:∀i b,F i b->¬fp b):
  Bl (σ++[v]) w D (λi=>if i=σ.length then cv else ρ i) (λi=>if i=σ.length then fp else F i):=by
 refine⟨λi hi=>?_,λi j b J e B=>?_,λi b e=>?_,h.Dlt,λi b hi e=>?_⟩
 .by_cases A:i=σ.length
  .grind
  .have E:i<σ.length:=by simp at hi;omega
   rw[AD E];simpa [A]using h.rel i E
 .by_cases A:i=σ.length<;>by_cases O:j=σ.length<;>simp only[A,O,if_true,if_false]at e B
  .omega
  .grind
  .exact U i b e B
  .exact h.disj i j b J e B
 .by_cases A:i=σ.length<;>simp only[A,if_true,if_false]at e
  .exact W b e
  .exact h.dD i b e
 .simp at hi
  have A:i≠σ.length:=by omega
  simp only[A,if_false]at e;exact h.out i b (by omega) e
def BM(g:Nat->Nat->V×List V):Nat->Nat->List V×List V
 |0,_=>([],[])
 |n+1,m=>((BM g n m).1++[(g n (m+(BM g n m).2.length)).1],(BM g n m).2++(g n (m+(BM g n m).2.length)).2)
def prom:V->Nat->V×List V
 |.nd true true sz n f,m=>(.rs m [] 0 n,[.nd true true sz n f])
 |.nd false true sz n f,m=>if 0<sz then(.rp m [] 0 0,[.nd false true sz n f])else(.dead,[])
 |.mp true l,m=>(.rm m [],[.mp true l])
 |.many t n f,m=>(.many t n λk=>(BM (λk=>prom (f k)) n m).1.getD k .dead,(BM (λk=>prom (f k)) n m).2)
 |v,_=>(v,[])
structure BZ(σ s:List V)(w:World)(D:Nat->Prop)(ρ ρ':Nat->Value)(F F':Nat->Nat->Prop)(fp:Nat->Prop):Prop where
 wr:Bl (σ++s) w D ρ' F'
 rt:∀i,i<σ.length->ρ' i=ρ i
 old:∀i,i<σ.length->F' i=F i
 new:∀i b,σ.length<=i->F' i b->fp b
theorem BZ.nil(h:Bl σ w D ρ F)(fp:Nat->Prop):BZ σ [] w D ρ ρ F F fp:=
 ⟨by grind,λ_ _=>rfl,λ_ _=>rfl,λi b hi e=>absurd e (h.out i b hi)⟩
theorem BZ.trans{σ s s':List V}{w:World}{D:Nat->Prop}{ρ ρ' A:Nat->Value}{F F' F'':Nat->Nat->Prop}{fp E U:Nat->Prop}(h:BZ σ s w D ρ ρ' F F' fp)(B:BZ (σ++s) s' w D ρ' A F' F'' E)(e:∀b,fp b->U b)(W:∀b,E b->U b):
  BZ σ (s++s') w D ρ A F F'' U:=by
 refine⟨by rw[<-List.append_assoc];exact B.wr,λi hi=>(B.rt i (by grind)).trans (h.rt i hi),λi hi=>(B.old i (by grind)).trans (h.old i hi),λi b hi O=>?_⟩
 by_cases J:i<(σ++s).length
 .rw[B.old i J]at O;exact e b (h.new i b hi O)
 .exact W b (B.new i b (by omega) O)
theorem Ix:∀(v:V) (σ:List V) (ρ:Nat->Value) (F:Nat->Nat->Prop) (cv:Value) (fp:Nat->Prop),Bl σ w D ρ F->Rel D w (Ak σ ρ w) v cv fp->(∀b,fp b->¬D b)->(∀i b,F i b->¬fp b)->
  ∃ρ' F',BZ σ (prom v σ.length).2 w D ρ ρ' F F' fp/\Rel D w (Ak (σ++(prom v σ.length).2) ρ' w) (prom v σ.length).1 cv noF:=by
 intro v
 induction v with
 |c v=>intro σ ρ F cv fp wr h _ _;exact⟨ρ,F,BZ.nil wr fp,h.1,h.2.1,λ_ h=>h⟩
 |dead=>intro σ ρ F cv fp wr h _ _;exact⟨ρ,F,BZ.nil wr fp,λ_ h=>h⟩
 |rs id p off len=>intro σ ρ F cv fp wr h _ _;exact⟨ρ,F,BZ.nil wr fp,Ak.ext (λ_ _=>rfl) _ _ h.1,λ_ h=>h⟩
 |rp id p i k=>intro σ ρ F cv fp wr h _ _;exact⟨ρ,F,BZ.nil wr fp,Ak.ext (λ_ _=>rfl) _ _ h.1,λ_ h=>h⟩
 |rm id p=>intro σ ρ F cv fp wr h _ _;exact⟨ρ,F,BZ.nil wr fp,Ak.ext (λ_ _=>rfl) _ _ h.1,λ_ h=>h⟩
 |mp own l=>
  intro σ ρ F cv fp wr h h1 h2;cases own with
  |false=>
   have e:=A6 (AB _ _ _ rfl h);subst e;exact⟨ρ,F,BZ.nil wr _,h⟩
  |true=>
   have A:=Bl.push wr (v:=.mp true l) (cv:=cv) (fp:=fp) h h1 h2
   have J:BZ σ [.mp true l] w D ρ (λi=>if i=σ.length then cv else ρ i) F (λi=>if i=σ.length then fp else F i) fp:=
    ⟨A,λi hi=>by simp[show i≠σ.length by omega],λi hi=>by simp[show i≠σ.length by omega],λi b hi B=>by
     by_cases W:i=σ.length
     .simpa [W]using B
     .simp only[W,if_false]at B;exact absurd B (wr.out i b hi)⟩
   obtain⟨b,Y,_⟩:=h;exact⟨_,_,J,⟨⟨by simp[prom],l,b,⟨by simp[prom],by simp⟩,Y⟩,λ_ h=>h⟩⟩
 |nd s own sz n f _=>
  intro σ ρ F cv fp wr h h1 h2;cases own with
  |false=>
   have e:=A6 (AB _ _ _ rfl h);subst e;cases s<;>exact⟨ρ,F,BZ.nil wr _,h⟩
  |true=>
   have A:=Bl.push wr (v:=.nd s true sz n f) (cv:=cv) (fp:=fp) h h1 h2
   have J:BZ σ [.nd s true sz n f] w D ρ (λi=>if i=σ.length then cv else ρ i) F (λi=>if i=σ.length then fp else F i) fp:=
    ⟨A,λi hi=>by simp[show i≠σ.length by omega],λi hi=>by simp[show i≠σ.length by omega],λi b hi B=>by
     by_cases W:i=σ.length
     .simpa [W]using B
     .simp only[W,if_false]at B;exact absurd B (wr.out i b hi)⟩
   cases s with
   |true=>
    refine⟨_,_,J,⟨⟨by simp[prom],sz,n,f,cv,⟨by simp[prom],by simp⟩,by omega,?_⟩,λ_ h=>h⟩⟩
    rcases h with⟨rfl,_,hn0,_⟩|⟨b,o,cap,F2,rfl,_⟩
    .obtain rfl:=DQ hn0
     exact .inr ⟨rfl,none,rfl,λ_ _=>rfl,λp e=>by cases e⟩
    .exact .inl ⟨b,o,cap,rfl,by simp[AA]⟩
   |false=>
    unfold prom;by_cases U:0<sz
    .simp only[U,if_true]
     rcases h with⟨_,h,_⟩|⟨b,o,cap,F2,rfl,_,_,hn,_⟩
     .cases h
     .exact⟨_,_,J,⟨⟨by simp,false,sz,n,f,b,o,cap,⟨by simp,by simp⟩,by rw[hn rfl];exact Nat.one_pos,U,by simp[AA]⟩,λ_ h=>h⟩⟩
    .simp only[U,if_false]
     exact⟨ρ,F,BZ.nil wr fp,λ_ h=>h⟩
 |many t n f ih=>
  intro σ ρ F cv fp wr h h1 h2;obtain⟨cs,G,Y,hn,hr,hd,hf⟩:=h
  have key:∀j,j<=n->∃ρ' F',BZ σ (BM (λk=>prom (f k)) j σ.length).2 w D ρ ρ' F F' (λb=>∃k,k<j/\G k b)/\(BM (λk=>prom (f k)) j σ.length).1.length=j/\
    ∀k,k<j->Rel D w (Ak (σ++(BM (λk=>prom (f k)) j σ.length).2) ρ' w) ((BM (λk=>prom (f k)) j σ.length).1.getD k .dead) (cs.getD k undef) noF:=by
   intro j
   induction j with
   |zero=>intro _;exact⟨ρ,F,BZ.nil wr _,rfl,λk hk=>by omega⟩
   |succ j ihj=>
    intro hj;obtain⟨Z,F1,E,hl1,hr1⟩:=ihj (by omega)
    have hrj:Rel D w (Ak (σ++(BM (λk=>prom (f k)) j σ.length).2) Z w) (f j) (cs.getD j undef) (G j):=
     Rel.mono (λ_ h=>h) (Ak.ext E.rt) _ _ _ (λ_ _=>rfl) (hr j (by omega))
    obtain⟨ρ2,F2,O,hr2⟩:=ih j (σ++(BM (λk=>prom (f k)) j σ.length).2) Z F1 (cs.getD j undef) (G j) E.wr hrj (λb B=>h1 b ((hf b).2 ⟨j,by omega,B⟩)) (λi b B hb'=>by
     by_cases hi:i<σ.length
     .rw[E.old i hi]at B;exact h2 i b B ((hf b).2 ⟨j,by omega,hb'⟩)
     .obtain⟨k,hk,hkb⟩:=E.new i b (by omega) B
      exact hd k j b (by omega) (by omega) (by omega) hkb hb')
    rw[List.length_append]at O hr2;refine⟨ρ2,F2,E.trans O (λb ⟨k,hk,h⟩=>⟨k,by omega,h⟩) (λb h=>⟨j,by omega,h⟩),by simp[BM,hl1],λk hk=>?_⟩
    simp only[BM];rw[<-List.append_assoc];by_cases W:k=j
    .subst W
     rw[gDE,gAR (by omega)]
     simpa [hl1]using hr2
    .rw[gDE,gAL (by omega),<-gDE]
     exact Rel.mono (λ_ h=>h) (Ak.ext O.rt) _ _ _ (λ_ _=>rfl) (hr1 k (by omega))
  obtain⟨ρ',F',ok,_,hr'⟩:=key n (Nat.le_refl _);refine⟨ρ',F',⟨ok.wr,ok.rt,ok.old,λi b hi B=>(hf b).2 (ok.new i b hi B)⟩,?_⟩
  exact⟨cs,λ_=>noF,Y,hn,λk hk=>hr' k hk,λ_ _ _ _ _ _ h=>h.elim,λb=>⟨λh=>h.elim,fun⟨_,_,h⟩=>h⟩⟩
theorem CR.res{C:Ctx}{ts:List V}{cts:Array Value}{D':Nat->Prop}(h:CR C σ ts cts w D ρ F){r:V}{v':Value}(Y:Below w.heap.size w w')(hr:Rel D' w' (Ak σ ρ w') r v' fp)
  (hf:∀b,fp b->w.heap.size<=b) (E:∀b,D b->D' b) (U:∀b,D' b->D b\/w.heap.size<=b) (O:∀b,D' b->b<w'.heap.size/\¬fp b) (d:Nat):
  Wt C (σ++(prom r σ.length).2) (ts.set d (prom r σ.length).1) (cts.setIfInBounds d v') w':=by
 have A:∀i b,F i b->b<w.heap.size:=h.wr.lt;have Z:Bl σ w' D' ρ F:=by
  have J:=h.wr.below Y;refine⟨λi hi=>Rel.mono E (λ_ _ h=>h) _ _ _ (λ_ _=>rfl) (J.rel i hi),J.disj,λi b e hD=>?_,λb e=>(O b e).1,J.out⟩
  rcases U b hD with h2|h2
  .exact J.dD i b e h2
  .have:=A i b e;omega
 obtain⟨ρ',F',ok,hr'⟩:=Ix r σ ρ F v' fp Z hr (λb e hD=>(O b hD).2 e) (λi b e hb'=>by have:=A i b e;have:=hf b hb';omega)
 refine⟨D',ρ',F',ok.wr,by simp[h.sz],λt W=>?_,h.fr.below Y,λi b e=>?_,λb e=>E b (h.D1 b e),λb e B=>?_,λi hi=>(ok.rt i (Nat.lt_of_lt_of_le hi h.ml)).trans (h.rt i hi),by have:=h.ml;simp;omega⟩
 .simp at W
  by_cases he:d=t
  .subst he
   have B:d<cts.size:=by rw[h.sz];exact W
   simpa [W,B]using hr'
  .have J:=h.tm t W
   simp only[gDE,List.getElem?_set_ne he,Array.getD_eq_getD_getElem?,Array.getElem?_setIfInBounds_ne he];rw[<-gDE,<-Array.getD_eq_getD_getElem?];refine Rel.mono E (λv cv hv=>Ak.ext ok.rt _ _ (Ak.same h.wr (λi b e=>Y.block b (A i b e)) v cv hv)) _ _ _ (λb e=>Y.block b ?_) J
   rcases e with e|e
   .exact h.wr.Dlt b e
   .exact e.elim
 .by_cases hi:i<σ.length
  .rw[ok.old i hi]at e;exact h.Fn i b e
  .have:=hf b (ok.new i b (by omega) e)
   right;exact Nat.le_trans h.fr.size this
 .rcases U b e with h2|h2
  .exact h.D2 b h2 B
  .have:=h.fr.size;omega
end Go.Ve


namespace Go.Ve
variable{l:List V}{i:Nat}{D:Nat->Prop}{x:V}{w:World}
structure Bb(G:V->V):Prop where
 c:∀v,G (.c v)=.c v
 dead:G .dead=.dead
 nd:∀s own sz n f,G (.nd s own sz n f)=.nd s own sz n f
 mp:∀own l,G (.mp own l)=.mp own l
 many:∀t n f,G (.many t n f)=.many t n λk=>G (f k)
theorem Bb.rel{G:V->V}(B:Bb G){w':World}{R R':V->Value->Prop}(O:∀b,D b->w'.heap[b]? =w.heap[b]?)
  (h1:∀id p off len cv,R (.rs id p off len) cv->Rel D w' R' (G (.rs id p off len)) cv noF) (h2:∀id p i k cv,R (.rp id p i k) cv->Rel D w' R' (G (.rp id p i k)) cv noF) (h3:∀id p cv,R (.rm id p) cv->Rel D w' R' (G (.rm id p)) cv noF):
  ∀(v:V) (cv:Value) (fp:Nat->Prop),(∀b,¬fp b)->Rel D w R v cv fp->Rel D w' R' (G v) cv noF:=by
 intro v
 induction v with
 |c v=>intro cv fp _ h;rw[B.c];exact⟨h.1,h.2.1,λ_ h=>h⟩
 |dead=>intro cv fp _ h;rw[B.dead];exact λ_ h=>h
 |many t n f W=>
  intro cv fp e h;rw[B.many];obtain⟨cs,F,J,Z,Y,hd,E⟩:=h;exact⟨cs,λ_=>noF,J.mono (λ_ h=>h) O,Z,λk U=>W k _ _ (λb A=>e b ((E b).2 ⟨k,U,A⟩)) (Y k U),λ_ _ _ _ _ _ h=>h.elim,λb=>⟨λh=>h.elim,fun⟨_,_,h⟩=>h⟩⟩
 |nd s own sz n f _=>
  intro cv fp e h;rw[B.nd];have:=A6 e;subst this;exact Rel.nd_R (Rel.mono (λ_ h=>h) (λ_ _ h=>h) _ _ _ (λb A=>O b (A.elim id λh=>h.elim)) h)
 |rs id p off len=>intro cv fp _ h;exact h1 _ _ _ _ _ h.1
 |rp id p i k=>intro cv fp _ h;exact h2 _ _ _ _ _ h.1
 |rm id p=>intro cv fp _ h;exact h3 _ _ _ h.1
 |mp own l=>
  intro cv fp e h;rw[B.mp];have:=A6 e;subst this;exact Rel.mono (w:=w) (D:=D) (λ_ h=>h) (R:=noR) (λ_ _ h=>h.elim) _ _ _ (λb A=>O b (A.elim id λh=>h.elim)) h
def rrV(id:Nat)(p:List (Nat×Nat))(j:Nat):V->V
 |.rs id' q off len=>if id'=id/\AT p q=true then .rs j (q.drop p.length) off len else .rs id' q off len
 |.rp id' q i k=>if id'=id/\AT p q=true then .rp j (q.drop p.length) i k else .rp id' q i k
 |.rm id' q=>if id'=id/\AT p q=true then .rm j (q.drop p.length)else .rm id' q
 |.many t n f=>.many t n λk=>rrV id p j (f k)
 |v=>v
def C2(id:Nat)(p:List (Nat×Nat))(j:Nat):Bb (rrV id p j):=⟨λ_=>rfl,rfl,λ_ _ _ _ _=>rfl,λ_ _=>rfl,λ_ _ _=>rfl⟩
theorem Ah(h:i<l.length):(l.set i x).getD i .dead=x:=by grind
theorem Ag{j:Nat}(h:i≠j):(l.set i x).getD j .dead=l.getD j .dead:=by grind
theorem CR.reroot{C:Ctx}{σ ts:List V}{cts:Array Value}{ρ:Nat->Value}{F:Nat->Nat->Prop}(h:CR C σ ts cts w D ρ F){id:Nat}{p:List (Nat×Nat)}{v1:V}{c1:Value}(hid:id<σ.length)
  (Z:At w p (σ.getD id .dead) (ρ id) v1 c1):∃ρ' F',CR C (σ.set id (upd p (σ.getD id .dead) .dead)++[sub p (σ.getD id .dead)]) (ts.map (rrV id p σ.length)) cts w D ρ' F'/\ρ' σ.length=c1/\(∀i,i<σ.length->ρ' i=ρ i)/\∀i b,F' i b->∃j,F j b:=by
 obtain⟨fp1,hr1,hsub,hput⟩:=C7 (w':=w) p _ _ _ _ _ (h.wr.rel id hid) (λb A h'=>h.wr.dD id b h' A) Z
 have hnew:=hput .dead noF (λ_ h=>h) (λb A=>A.elim) (λ_ _ _=>rfl)
 let ρ':Nat->Value:=λi=>if i=σ.length then c1 else ρ i
 let F':Nat->Nat->Prop:=λi=>if i=σ.length then fp1 else if i=id then λb=>(F id b/\¬fp1 b)\/noF b else F i
 have Y:sub p (σ.getD id .dead)=v1:=(At.sub Z).symm;have O:∀i b,F' i b->∃j,F j b:=by
  intro i b A;simp only[F']at A;split at A
  .exact⟨id,hsub b A⟩
  .split at A
   .exact⟨id,A.elim (λh=>h.1) λh=>h.elim⟩
   .exact⟨i,A⟩
 have wr':Bl (σ.set id (upd p (σ.getD id .dead) .dead)++[sub p (σ.getD id .dead)]) w D ρ' F':=by
  refine⟨λi hi=>?_,λi j b hij A B=>?_,λi b A hD=>?_,h.wr.Dlt,λi b hi A=>?_⟩
  .by_cases he:i=σ.length
   .subst he
    simp only[ρ',F',if_true];rw[Y];simpa using hr1
   .have hi':i<σ.length:=by simp at hi;omega
    rw[AD (by simpa using hi')]
    simp only[ρ',F',he,if_false];by_cases he2:i=id
    .subst he2
     rw[Ah hid];simpa using hnew
    .rw[Ag (Ne.symm he2)]
     simpa [he2]using h.wr.rel i hi'
  .simp only[F']at A B
   by_cases he:i=σ.length<;>by_cases he':j=σ.length
   .omega
   .simp only[he,if_true,he',if_false]at A B
    split at B
    .rcases B with B|B
     .exact B.2 A
     .exact B
    .exact h.wr.disj id j b (λe=>by rename_i hne;exact hne e.symm) (hsub b A) B
   .simp only[he',if_true,he,if_false]at A B
    split at A
    .rcases A with A|A
     .exact A.2 B
     .exact A
    .exact h.wr.disj i id b (by assumption) A (hsub b B)
   .simp only[he,he',if_false]at A B
    have e1:F i b:=by
     split at A
     .rename_i e;subst e;exact A.elim (λh=>h.1) λh=>h.elim
     .exact A
    have e2:F j b:=by
     split at B
     .rename_i e;subst e;exact B.elim (λh=>h.1) λh=>h.elim
     .exact B
    exact h.wr.disj i j b hij e1 e2
  .obtain⟨j,hj⟩:=O i b A;exact h.wr.dD j b hj hD
  .simp at hi
   simp only[F',show i≠σ.length by omega,show i≠id by omega,if_false]at A
   exact h.wr.out i b (by omega) A
 refine⟨ρ',F',⟨wr',by simpa using h.sz,λt ht=>?_,h.fr,λi b A=>?_,h.D1,h.D2,λi hi=>?_,by have:=h.ml;simp;omega⟩,by simp[ρ'],λi hi=>by simp[ρ',show i≠σ.length by omega],O⟩
 .simp at ht
  have e1:(ts.map (rrV id p σ.length)).getD t .dead=rrV id p σ.length (ts.getD t .dead):=by simp[ht]
  rw[e1];have J:(σ.set id (upd p (σ.getD id .dead) .dead)++[sub p (σ.getD id .dead)]).length=σ.length+1:=by simp
  have hge:(σ.set id (upd p (σ.getD id .dead) .dead)++[sub p (σ.getD id .dead)]).getD σ.length .dead=v1:=by rw[<-Y];simp
  -- one reference
  have key:∀(id':Nat) (q:List (Nat×Nat)) (s:Bool) (sz n:Nat) (f:Nat->Nat->V) (c:Value),id'<σ.length->At w q (σ.getD id' .dead) (ρ id') (.nd s true sz n f) c->
    (id'=id/\AT p q=true->At w (q.drop p.length) v1 c1 (.nd s true sz n f) c)/\
    (¬ (id'=id/\AT p q=true)->∃f',At w q ((σ.set id (upd p (σ.getD id .dead) .dead)++[sub p (σ.getD id .dead)]).getD id' .dead) (ρ' id') (.nd s true sz n f') c):=by
   intro id' q s sz n f c E W;constructor
   .rintro ⟨rfl,hpre⟩
    rw[Cp hpre]at W;exact At.split W Z
   .intro hn
    rw[AD (by simpa using E)]
    have eρ:ρ' id'=ρ id':=by simp[ρ',show id'≠σ.length by omega]
    rw[eρ];by_cases he:id'=id
    .subst he
     rw[Ah hid];exact At.keep p q _ _ (At.ok Z) (by simpa using hn) W
    .rw[Ag (Ne.symm he)]
     exact⟨f,W⟩
  have keyM:∀(id':Nat) (q:List (Nat×Nat)) (l:List (Value×Value)) (c:Value),id'<σ.length->At w q (σ.getD id' .dead) (ρ id') (.mp true l) c->
    (id'=id/\AT p q=true->At w (q.drop p.length) v1 c1 (.mp true l) c)/\
    (¬ (id'=id/\AT p q=true)->At w q ((σ.set id (upd p (σ.getD id .dead) .dead)++[sub p (σ.getD id .dead)]).getD id' .dead) (ρ' id') (.mp true l) c):=by
   intro id' q l c E W;constructor
   .rintro ⟨rfl,hpre⟩
    rw[Cp hpre]at W;exact At.split W Z
   .intro hn
    rw[AD (by simpa using E)]
    have eρ:ρ' id'=ρ id':=by simp[ρ',show id'≠σ.length by omega]
    rw[eρ];by_cases he:id'=id
    .subst he
     rw[Ah hid];exact At.keepM p q _ _ (At.ok Z) (by simpa using hn) W
    .rw[Ag (Ne.symm he)]
     exact W
  refine(C2 id p σ.length).rel (λ_ _=>rfl) ?_ ?_ ?_ _ _ noF (λ_ h=>h) (h.tm t ht)
  .rintro id' q off len cv ⟨E,sz,n,f,cn,W,hle,U⟩
   obtain⟨k1,k2⟩:=key id' q true sz n f cn E W;simp only[rrV];split
   .rename_i hc
    exact⟨⟨by rw[J];omega,sz,n,f,cn,by rw[hge];simpa [ρ']using k1 hc,hle,U⟩,λ_ h=>h⟩
   .rename_i hc
    obtain⟨f',ha'⟩:=k2 hc;exact⟨⟨by rw[J];omega,sz,n,f',cn,ha',hle,U⟩,λ_ h=>h⟩
  .rintro id' q i k cv ⟨E,s,sz,n,f,b,o,cap,W,hi,hk,U⟩
   obtain⟨k1,k2⟩:=key id' q s sz n f _ E W;simp only[rrV];split
   .rename_i hc
    exact⟨⟨by rw[J];omega,s,sz,n,f,b,o,cap,by rw[hge];simpa [ρ']using k1 hc,hi,hk,U⟩,λ_ h=>h⟩
   .rename_i hc
    obtain⟨f',ha'⟩:=k2 hc;exact⟨⟨by rw[J];omega,s,sz,n,f',b,o,cap,ha',hi,hk,U⟩,λ_ h=>h⟩
  .rintro id' q cv ⟨E,l,b,W,U⟩
   obtain⟨k1,k2⟩:=keyM id' q l _ E W;simp only[rrV];split
   .rename_i hc
    exact⟨⟨by rw[J];omega,l,b,by rw[hge];simpa [ρ']using k1 hc,U⟩,λ_ h=>h⟩
   .rename_i hc
    exact⟨⟨by rw[J];omega,l,b,k2 hc,U⟩,λ_ h=>h⟩
 .obtain⟨j,hj⟩:=O i b A;exact h.Fn j b hj
 .have:=h.ml
  simp only[ρ',show i≠σ.length by omega,if_false]
  exact h.rt i hi
end Go.Ve

