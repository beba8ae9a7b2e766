/- Calls by contract in the small machine. -/
import Derived.Test.YtcpgmjbppfdjbaaDoorVh
namespace Go.Ve
variable{xs:Array Operand}{ats:Array TypeId}{f:FuncId}{vs:List V}{y:Operand}{name:String}{t:TypeId}{fv v:V}
def Aj(P:Program)(f:FuncId):Bool:=
 match P.funcs[f]? with
 | some fn => !(fn.name == "runtime.NumGoroutine") && fn.body.isSome
 |none=>false
section ops
variable {P:Program} {o:Oper} {a:Act} {w:World} {σ:List V} {D:Nat->Prop} {ρ:Nat->Value} {F:Nat->Nat->Prop} {K:V->Prop}
theorem NB{R:V->Value->Prop}{cv:Value}{fp:Nat->Prop}(h:AG v=false)(hr:Rel D w R v cv fp): ∀b,¬fp b:=by
 have: ∀v,AG v=false->AE v=false:=by
  intro v
  induction v with
  |many t n f ih=>
   intro h;unfold AG at h;unfold AE
   grind
  |nd s own sz n f _=>intro h;exact h
  |_=>intro _;rfl
 exact Au _ _ _ (this _ h) hr
def Call(P:Program)(f:FuncId)(la:Bool)(vs:List V)(K:V->Prop):Prop:=
 ∃r,(Aj P f=true/\FC P f vs r)/\(la=true->Bp r)/\K r
def W6(σ:List V)(w:World)(D:Nat->Prop)(ρ:Nat->Value)(F:Nat->Nat->Prop)(vs:List V)(cs:Array Value):Prop:=
 cs.size=vs.length/\∀j,j<vs.length->OpR σ w D ρ F (vs.getD j .dead) (cs.getD j undef)
theorem DU(hk:Wok w)(wr:Bj σ w D ρ F){cvs:Array Value}(hrun:Aj P f=true->(execOp a.eval o).run P w= .ok (.enter f cvs) w)(hv:W6 σ w D ρ F vs cvs)
  (h:Call P f (vs.any AG) (vs.map (BE σ)) K): ∃r,K r/\Ak P o a w σ D ρ r:=by
 obtain⟨r,⟨hcall,hfc⟩,hla,hK⟩:=h;refine⟨r,hK,λnext Q hn=>?_⟩
 have hrun:=hrun hcall;unfold Oper.wp;rw [hrun,Oper.upon_enter]
 let D2:Nat->Prop:=λb=>D b\/(vs.any AG=true/\((∃j fp,j<vs.length/\Rel D w (Ag σ ρ w) (vs.getD j .dead) (cvs.getD j undef) fp/\fp b)\/∃i,F i b))
 have hargs: ∀i,i<(vs.map (BE σ)).length->Rel D2 w noR ((vs.map (BE σ)).getD i .dead) (cvs.getD i undef) noF:=by
  intro i hi;simp at hi;obtain⟨fp,hr,hfD,hfF⟩:=hv.2 i hi;have e1:(vs.map (BE σ)).getD i .dead=BE σ (vs.getD i .dead):=by simp [hi]
  rw [e1]
  have hl:AG (vs.getD i .dead)=true\/∀b,¬fp b:=by
   cases h:AG (vs.getD i .dead)with
   |true=>exact .inl rfl
   |false=>exact .inr (NB h hr)
  refine Rel.mono (λb hb=>hb.imp id fun⟨h1,h2⟩=>⟨?_,h2.imp (λh=>⟨i,fp,hi,hr,h⟩) id⟩) (λ_ _ h=>h) _ _ _ (λ_ _=>rfl) (XY wr _ _ _ hr hl)
  grind
 have hD2: ∀b,D2 b->b<w.heap.size:=by
  rintro b (hb|⟨_,⟨j,fp,hj,hr,hb⟩|⟨i,hb⟩⟩)
  ·exact wr.Dlt b hb
  ·exact Rel.lt _ _ _ hr b hb
  ·exact wr.lt i b hb
 refine(hfc w D2 cvs hk hD2 (by rw [hv.1];simp) hargs).mono ?_
 rintro e w' ⟨cv,fp,D',rfl,hB,hr,hf,hd1,hd2,hd3⟩
 cases hl:vs.any AG with
 |false=>
  refine hn cv w' D' fp hB (Rel.noR_mono hr) hf (λb hb=>hd1 b (.inl hb)) (λb hb=>?_) hd3
  rcases hd2 b hb with(h|⟨h,_⟩)|h
  ·exact .inl h
  ·rw [hl]at h;cases h
  ·exact .inr h
 |true=>
  refine hn cv w' D fp hB (Rel.noR_mono (Rel.ownOnly' r _ _ _ _ (hla hl) hr)) hf (λ_ h=>h) (λ_ h=>.inl h) λb hb=>⟨Nat.lt_of_lt_of_le (wr.Dlt b hb) hB.size,λh=>?_⟩
  have:=wr.Dlt b hb;have:=hf b h;omega
theorem NQ{cs:Array Value}(ho:o.op= .call {callee:=.value y,args:=xs,argTypes:=ats})(hy:a.eval y= .func (.func f) #[] cs)(hcall:Aj P f=true):
  (execOp a.eval o).run P w= .ok (.enter f (xs.map a.eval++cs)) w:=by
 unfold Aj at hcall;split at hcall
 ·rename_i fn hfn
  have h2':fn.body.isNone=false:=by simp_all
  unfold execOp;rw [ho];simp [resolve,hy,Deferred.ofValue,invoke,callFunc,hfn,h2']
  grind
 grind
theorem UG(hk:Wok w)(wr:Bj σ w D ρ F)(ho:o.op= .call {callee:=.value (.func f),args:=xs,argTypes:=ats})(hv:W6 σ w D ρ F vs (xs.map a.eval))
  (h:Call P f (vs.any AG) (vs.map (BE σ)) K): ∃r,K r/\Ak P o a w σ D ρ r:=
 DU hk wr (λhc=>by
  have:=NQ (a:=a) (w:=w) ho rfl hc
  grind) hv h
def Nd(P:Program)(σ:List V)(fv:V)(args:List V)(K:V->Prop):Prop:=match fv with
 | .many (.cl g) n f=>Nat.blt g 1000000=true/\Call P g ((args++tab n f).any AG) ((args++tab n f).map (BE σ)) K
 |_=>False
theorem Nc(hk:Wok w)(wr:Bj σ w D ρ F){vs:List V}(ho:o.op= .call {callee:=.value y,args:=xs,argTypes:=ats})(hy:OpR σ w D ρ F fv (a.eval y))
  (hv:W6 σ w D ρ F vs (xs.map a.eval)) (h:Nd P σ fv vs K): ∃r,K r/\Ak P o a w σ D ρ r:=by
 unfold Nd at h;split at h
 case h_2=>exact h.elim
 rename_i g n f;obtain⟨hlt,h⟩:=h;obtain⟨fp,hr,hfD,hfF⟩:=hy;obtain⟨cs,G,hcv,hn,hrel,_,hfp⟩:=hr;have hcv:a.eval y=Xd g cs:=hcv;rw [WL hlt]at hcv;refine DU hk wr (λhc=>NQ ho hcv hc) ⟨?_,λj hj=>?_⟩ h
 ·rw [Array.size_append,List.length_append,hv.1,DA,hn]
 ·rw [List.length_append,DA]at hj
  by_cases hjl:j<vs.length
  ·have:=hv.2 j hjl
   have e1:(vs++tab n f).getD j .dead=vs.getD j .dead:=by simp [gAL hjl]
   have e2:(xs.map a.eval++cs).getD j undef=(xs.map a.eval).getD j undef:=by
    have:j<(xs.map a.eval).size:=by rw [hv.1];exact hjl
    simp [Array.getElem?_append_left this]
   rw [e1,e2];exact this
  ·have hk2:j-vs.length<n:=by omega
   have e1:(vs++tab n f).getD j .dead=f (j-vs.length):=by
    rw [<-Lo n f (j-vs.length) hk2]
    grind
   have e2:(xs.map a.eval++cs).getD j undef=cs.getD (j-vs.length) undef:=by
    have h2:(xs.map a.eval).size<=j:=by rw [hv.1];omega
    have h3:(xs.map a.eval).size=vs.length:=hv.1;rw [Array.getD_eq_getD_getElem?,Array.getD_eq_getD_getElem?,Array.getElem?_append_right h2,h3]
   rw [e1,e2];exact⟨G (j-vs.length),hrel _ hk2,λb hb=>hfD b ((hfp b).2 ⟨_,hk2,hb⟩),λi b hF hb=>hfF i b hF ((hfp b).2 ⟨_,hk2,hb⟩)⟩
def qMkF(g:Nat)(cs:List V)(K:V->Prop):Prop:=(Nat.blt g 1000000=true/\cs.all (λv=>!AE v)=true)/\K (.many (.cl g) cs.length λk=>cs.getD k .dead)
theorem Q2(wr:Bj σ w D ρ F){g:Nat}{cs:List V}(ho:o.op= .makeFunc (.func g) #[] xs)(hv:W6 σ w D ρ F cs (xs.map a.eval))(h:qMkF g cs K): ∃r,K r/\Ak P o a w σ D ρ r:=by
 obtain⟨⟨hlt,hown⟩,hK⟩:=h;refine⟨_,hK,Ak.pure wr ?_ ⟨xs.map a.eval,λ_=>noF,(WL hlt).symm,hv.1,λk hk=>?_,λ_ _ _ _ _ _ h=>h.elim,λb=>⟨λh=>h.elim,fun⟨_,_,h⟩=>h⟩⟩⟩
 ·unfold execOp;rw [ho];simp [Instr.makeFunc]
 ·obtain⟨fp,hr,_,_⟩:=hv.2 k hk
  have ho:AE (cs.getD k .dead)=false:=by
   grind
  exact Rel.fp_congr (λb=>⟨λh=>absurd h (Au _ _ _ ho hr b),λh=>h.elim⟩) hr
def XU(P:Program)(t:TypeId)(name:String):Option FuncId:=match P.info? t,P.underlying t with
 |some i,some (.pointer _)=>match i.methods.find? (·.name==name)with
  |some m=>match m.path.toList,m.func with
   | [],some (f,true)=>some f
   |_,_=>none
  |none=>none
 |_,_=>none
theorem XS(h:XU P t name=some f)(n:Nat)(v:Value)(w:World):(method (n+1) t v name).run P w= .ok (f,v) w/\∃e,P.underlying t=some (.pointer e):=by
 unfold XU at h;split at h
 case h_2=>grind
 rename_i i e hi hu;split at h
 case h_2=>grind
 rename_i m hm;split at h
 case h_2=>grind
 rename_i f' hp hf;cases h;refine⟨?_,e,hu⟩;unfold method;simp [typeInfo,hi,hm,hp,follow,hf,receiverAt,run_underlying hu,Place.get]
theorem XT(h:XU P t name=some f): ∃e,P.underlying t=some (.pointer e):=by
 unfold XU at h
 grind
def qMkI(P:Program)(t:TypeId)(v:V)(K:V->Prop):Prop:=(AE v=false/\∃e,P.underlying t=some (.pointer e))/\K (.many (.cl (1000000+t)) 1 λ_=>v)
theorem Q1(wr:Bj σ w D ρ F){x:Operand}(ho:o.op= .makeInterface t x)(hv:OpR σ w D ρ F v (a.eval x))(h:qMkI P t v K): ∃r,K r/\Ak P o a w σ D ρ r:=by
 obtain⟨⟨hown,e,hu⟩,hK⟩:=h;obtain⟨fp,hr,_,_⟩:=hv;refine⟨_,hK,Ak.pure wr (v':=.iface t (a.eval x)) ?_ ⟨#[a.eval x],λ_=>noF,?_,rfl,λk hk=>?_,λ_ _ _ _ _ _ h=>h.elim,λb=>⟨λh=>h.elim,fun⟨_,_,h⟩=>h⟩⟩⟩
 ·unfold execOp;rw [ho];simp [Instr.makeInterface,run_underlying hu]
 ·show Value.iface t (a.eval x)=Xd (1000000+t) #[a.eval x]
  rw [Y6];rfl
 ·obtain rfl:k=0:=by omega
  exact Rel.fp_congr (λb=>⟨λh=>absurd h (Au _ _ _ hown hr b),λh=>h.elim⟩) hr
def Ng(P:Program)(σ:List V)(fv:V)(name:String)(args:List V)(K:V->Prop):Prop:=match fv with
 | .many (.cl g) n f=>∃t fn,(g=1000000+t/\n=1/\XU P t name=some fn)/\Call P fn ((tab n f++args).any AG) ((tab n f++args).map (BE σ)) K
 |_=>False
theorem Nf(hk:Wok w)(wr:Bj σ w D ρ F){vs:List V}(ho:o.op= .call {callee:=.invoke y name,args:=xs,argTypes:=ats})(hy:OpR σ w D ρ F fv (a.eval y))
  (hv:W6 σ w D ρ F vs (xs.map a.eval)) (h:Ng P σ fv name vs K): ∃r,K r/\Ak P o a w σ D ρ r:=by
 unfold Ng at h;split at h
 case h_2=>exact h.elim
 rename_i g n f;obtain⟨t,fn,⟨rfl,rfl,hm⟩,h⟩:=h;obtain⟨fp,hr,hfD,hfF⟩:=hy;obtain⟨cs,G,hcv,hn,hrel,_,hfp⟩:=hr;have hcv:a.eval y=Xd (1000000+t) cs:=hcv;rw [Y6]at hcv;have ht:tab 1 f= [f 0]:=rfl;rw [ht]at h;refine DU hk wr (cvs:=#[cs.getD 0 undef]++xs.map a.eval) (λhc=>?_) ⟨?_,λj hj=>?_⟩ h
 ·unfold Aj at hc
  split at hc
  case h_2=>cases hc
  rename_i fu hfn;simp only [bAE,Bool.not_eq_true']at hc;obtain⟨h1,h2⟩:=hc;have h2':fu.body.isNone=false:=by cases hb:fu.body<;>simp [hb]at h2⊢
  have hfu:P.types.size+Made.depth=(P.types.size+99)+1:=rfl;obtain⟨hrun,_⟩:=XS hm (P.types.size+99) (cs.getD 0 undef) w;generalize cs.getD 0 undef=c0 at hcv hrun;have he:((#[Value.iface t c0]++xs.map a.eval).extract 1 (#[Value.iface t c0]++xs.map a.eval).size)=xs.map a.eval:=by
   apply Array.ext';simp;exact List.take_of_length_le (by simp)
  have h0:(#[Value.iface t c0]++xs.map a.eval)[0]? =some (Value.iface t c0):=by
   rw [Array.getElem?_append_left (by simp)];rfl
  unfold execOp;rw [ho];simp at h1;simp only [resolve,hcv];show(invoke (.fn (.method name) #[]) (#[Value.iface t c0]++xs.map a.eval)).run P w=_;unfold invoke;simp only [h0,he];show(callMethod (Value.iface t c0) name (xs.map a.eval)).run P w=_;unfold callMethod;simp [hfu,hrun,callFunc,hfn,h2',h1];intro hb;simp [hb]at h2
 ·simp [hv.1];omega
 ·cases j with
  |zero=>
   show OpR σ w D ρ F (f 0) _;have e2:(#[cs.getD 0 undef]++xs.map a.eval).getD 0 undef=cs.getD 0 undef:=by
    rw [Array.getD_eq_getD_getElem?,Array.getElem?_append_left (by simp)];rfl
   rw [e2];exact⟨G 0,hrel 0 (by omega),λb hb=>hfD b ((hfp b).2 ⟨_,by omega,hb⟩),λi b hF hb=>hfF i b hF ((hfp b).2 ⟨_,by omega,hb⟩)⟩
  |succ j=>
   have hj:j<vs.length:=by simpa using hj
   have:=hv.2 j hj;have e1:([f 0]++vs).getD (j+1) .dead=vs.getD j .dead:=rfl
   have e2:(#[cs.getD 0 undef]++xs.map a.eval).getD (j+1) undef=(xs.map a.eval).getD j undef:=by
    simp [Array.getD_eq_getD_getElem?,Array.getElem?_append]
   rw [e1,e2];exact this
end ops
end Go.Ve


namespace Go.Ve
def AW:List (Nat×Nat)->List (Nat×Nat)->Bool
 | [],_=>true
 |(i,k)::p,(j,l)::q=>i==j&&k==l&&AW p q
 |_::_,[]=>false
theorem Dr: ∀ {p q:List (Nat×Nat)},AW p q=true->q=p++q.drop p.length
 | [],_,_=>rfl
 |(i,k)::p,(j,l)::q,h=>by
  simp [AW,beq_iff_eq]at h;obtain⟨⟨rfl,rfl⟩,h⟩:=h;simp [<-Dr h]
 |_::_,[],h=>by cases h
theorem At.split{w:World}: ∀ {p q:List (Nat×Nat)} {v:V} {cv:Value} {v':V} {cv':Value} {v1:V} {c1:Value},At w (p++q) v cv v' cv'->At w p v cv v1 c1->At w q v1 c1 v' cv'
 | [],_,_,_,_,_,_,_,h,h1=>by obtain⟨rfl,rfl⟩:=h1;grind
 |(i,k)::p,q,.nd s true sz n f,_,_,_,_,_,h,h1=>by
  obtain⟨_,_,b,o,cap,x,hcv,hx,h⟩:=h;obtain⟨_,_,b',o',cap',x',hcv',hx',h1⟩:=h1;subst hcv;obtain⟨rfl,rfl,_⟩:=Ap hcv';have:=Option.some.inj (hx'.symm.trans hx);subst this;exact At.split h h1
 |_::_,_,.nd _ false _ _ _,_,_,_,_,_,h,_=>h.elim
 |_::_,_,.c _,_,_,_,_,_,h,_=>h.elim
 |_::_,_,.dead,_,_,_,_,_,h,_=>h.elim
 |_::_,_,.many ..,_,_,_,_,_,h,_=>h.elim
 |_::_,_,.rs ..,_,_,_,_,_,h,_=>h.elim
 |_::_,_,.rp ..,_,_,_,_,_,h,_=>h.elim
theorem At.keep{w:World}{x:V}: ∀ (p q:List (Nat×Nat)) (v:V) (cv:Value) {s:Bool} {sz n:Nat} {f:Nat->Nat->V} {c:Value},Le p v->AW p q=false->At w q v cv (.nd s true sz n f) c->
  ∃f',At w q (upd p v x) cv (.nd s true sz n f') c
 | [],_,_,_,_,_,_,_,_,_,h,_=>by cases h
 |(i,k)::p,[],.nd s0 o0 sz0 n0 f0,_,_,_,_,_,_,_,_,ha=>by
  obtain⟨h1,rfl⟩:=ha;cases h1;exact⟨_,rfl,rfl⟩
 |(i,k)::p,(i',k')::q,.nd s0 true sz0 n0 f0,cv,s,sz,n,f,c,hp,hpre,ha=>by
  obtain⟨h1,h2,b,o,cap,y,hcv,hy,ha⟩:=ha;obtain⟨_,_,_,hp⟩:=hp;by_cases he:i'=i/\k'=k
  ·obtain⟨rfl,rfl⟩:=he
   obtain⟨f',hf'⟩:=At.keep p q (f0 i' k') y hp (by simpa [AW]using hpre) ha
   exact⟨f',h1,h2,b,o,cap,y,hcv,hy,by simpa using hf'⟩
  ·exact⟨f,h1,h2,b,o,cap,y,hcv,hy,by grind⟩
 |_::_,_::_,.nd _ false _ _ _,_,_,_,_,_,_,_,_,h=>h.elim
 |_::_,_,.c _,_,_,_,_,_,_,hp,_,_=>hp.elim
 |_::_,_,.dead,_,_,_,_,_,_,hp,_,_=>hp.elim
 |_::_,_,.many ..,_,_,_,_,_,_,hp,_,_=>hp.elim
 |_::_,_,.rs ..,_,_,_,_,_,_,hp,_,_=>hp.elim
 |_::_,_,.rp ..,_,_,_,_,_,_,hp,_,_=>hp.elim
theorem O5{sz i k i' k':Nat}(hk:k<sz)(hk':k'<sz)(h: ¬ (i'=i/\k'=k)):i'*sz+k'≠i*sz+k:=by
 intro he;have h1:(i'*sz+k') % sz=(i*sz+k) % sz:=by grind
 rw [Nat.mul_comm i',Nat.mul_comm i,Nat.mul_add_mod,Nat.mul_add_mod,Nat.mod_eq_of_lt hk',Nat.mod_eq_of_lt hk]at h1;have h2:(i'*sz+k')/sz=(i*sz+k)/sz:=by grind
 rw [Nat.mul_comm i',Nat.mul_comm i,Nat.mul_add_div (by omega),Nat.mul_add_div (by omega),Nat.div_eq_of_lt hk',Nat.div_eq_of_lt hk]at h2
 omega
theorem At.store{D:Nat->Prop}{w w':World}{x:V}{s:Bool}{sz n:Nat}{f:Nat->Nat->V}{b o cap i k:Nat}(hi:i<n)(hk:k<sz)
  (hw: ∀ad,ad≠(⟨b,o+i*sz+k,none⟩:Addr)->w'.cell? ad=w.cell? ad) (hb: ∀c,c≠b->w'.heap[c]? =w.heap[c]?):
  ∀ (p q:List (Nat×Nat)) (v:V) (cv:Value) (fp:Nat->Prop) {s1:Bool} {sz1 n1:Nat} {f1:Nat->Nat->V} {c1:Value},Rel D w noR v cv fp->At w p v cv (.nd s true sz n f) (As s b o n cap)->
   AW (p++ [(i,k)]) q=false->At w q v cv (.nd s1 true sz1 n1 f1) c1->∃f1',At w' q (upd (p++ [(i,k)]) v x) cv (.nd s1 true sz1 n1 f1') c1
 |p,[],v,cv,fp,s1,sz1,n1,f1,c1,hr,hp,hpre,ha=>by
  obtain⟨rfl,rfl⟩:=ha;cases p with
  |nil=>exact⟨_,rfl,rfl⟩
  |cons a p=>exact⟨_,rfl,rfl⟩
 | [],(i',k')::q,v,cv,fp,s1,sz1,n1,f1,c1,hr,hp,hpre,ha=>by
  obtain⟨rfl,rfl⟩:=hp
  have hne: ¬ (i'=i/\k'=k):=by
   rintro ⟨rfl,rfl⟩
   simp [AW]at hpre
  obtain⟨h1,h2,b0,o0,cap0,y,hcv,hy,ha⟩:=ha;obtain⟨rfl,rfl,_⟩:=Ap hcv;have hroot:=Rel.root hr;rcases hr with⟨h0,_⟩|⟨b2,o2,cap2,F,hcv2,hcap,hmax,hs1,hc,himm,ho⟩
  ·omega
  obtain⟨rfl,rfl,_⟩:=Ap hcv2;obtain⟨y',hy',hry⟩:=hc i' k' h1 h2;have:y'=y:=Option.some.inj (hy'.symm.trans hy);subst this;refine⟨f1,h1,h2,b,o,cap0,y',hcv,by rw [hw _ (by have:=O5 (i:=i) hk h2 hne;intro h;simp at h;try omega)];exact hy,?_⟩
  simp only [hne,if_false];exact At.same hry ha λc hcF=>hb c λe=>(ho rfl).2.1 i' k' h1 h2 (e▸hcF)
 |(i0,k0)::p,(i',k')::q,.nd s0 true sz0 n0 f0,cv,fp,s1,sz1,n1,f1,c1,hr,hp,hpre,ha=>by
  obtain⟨h1,h2,b0,o0,cap0,y,rfl,hy,ha⟩:=ha;obtain⟨h3,h4,b3,o3,cap3,z,hcv3,hz,hp⟩:=hp;obtain⟨rfl,rfl,_⟩:=Ap hcv3;rcases hr with⟨h0,_⟩|⟨b2,o2,cap2,F,hcv2,hcap,hmax,hs1,hc,himm,ho⟩
  ·omega
  obtain⟨rfl,rfl,_⟩:=Ap hcv2;obtain⟨y',hy',hry⟩:=hc i' k' h1 h2;have:y'=y:=Option.some.inj (hy'.symm.trans hy);subst this;obtain⟨z',hz',hrz⟩:=hc i0 k0 h3 h4;have:z'=z:=Option.some.inj (hz'.symm.trans hz);subst this
  obtain⟨fz,hrn,hsub,_⟩: ∃fz,Rel D w noR (.nd s true sz n f) (As s b o n cap) fz/\(∀c,fz c->F i0 k0 c)/\True:=by
   clear hw hb
   have: ∀ (p:List (Nat×Nat)) (v:V) (cv:Value) (fp:Nat->Prop) (v1:V) (c1:Value),Rel D w noR v cv fp->At w p v cv v1 c1->∃fz,Rel D w noR v1 c1 fz/\(∀c,fz c->fp c):=by
    intro p
    induction p with
    |nil=>intro v cv fp v1 c1 hr ha;obtain⟨rfl,rfl⟩:=ha;exact⟨fp,hr,λ_ h=>h⟩
    |cons a p ih=>
     intro v cv fp v1 c1 hr ha;obtain⟨i,k⟩:=a
     match v,ha,hr with
     | .nd s true sz n f,ha,hr=>
      obtain⟨h1,h2,b,o,cap,y,rfl,hy,ha⟩:=ha;rcases hr with⟨h0,_⟩|⟨b2,o2,cap2,F,hcv2,hcap,hmax,hs1,hc,himm,ho⟩
      ·omega
      obtain⟨rfl,rfl,_⟩:=Ap hcv2;obtain⟨y',hy',hry⟩:=hc i k h1 h2;have:y'=y:=Option.some.inj (hy'.symm.trans hy);subst this;obtain⟨fz,h1',h2'⟩:=ih _ _ _ _ _ hry ha;exact⟨fz,h1',λc hc=>((ho rfl).2.2.2 c).2 (.inr ⟨i,k,h1,h2,h2' c hc⟩)⟩
   obtain⟨fz,h1',h2'⟩:=this p _ _ _ _ _ hrz hp;exact⟨fz,h1',h2',trivial⟩
  have hbF:F i0 k0 b:=hsub b (Rel.root hrn);have hbne:b0≠b:=λe=>(ho rfl).2.1 i0 k0 h3 h4 (e▸hbF)
  have hcell:w'.cell? ⟨b0,o0+i'*sz0+k',none⟩=some y':=by rw [hw _ (by intro h;simp at h;try exact hbne h.1)];exact hy
  by_cases he:i'=i0/\k'=k0
  ·obtain⟨rfl,rfl⟩:=he
   have:z'=y':=Option.some.inj (hz'.symm.trans hy');subst this;obtain⟨f1',h1'⟩:=At.store hi hk hw hb p q (f0 i' k') z' _ hry hp (by simpa [AW]using hpre) ha
   exact⟨f1',h1,h2,b0,o0,cap0,z',rfl,hcell,by simpa using h1'⟩
  ·refine⟨f1,h1,h2,b0,o0,cap0,y',rfl,hcell,?_⟩
   simp only [he,if_false];exact At.same hry ha λc hcF=>hb c λe=>(ho rfl).2.2.1 i' k' i0 k0 c h1 h2 h3 h4 (by omega) hcF (e▸hbF)
 |_::_,_::_,.nd _ false _ _ _,_,_,_,_,_,_,_,_,_,_,h=>h.elim
 |_::_,_::_,.c _,_,_,_,_,_,_,_,_,_,_,h=>h.elim
 |_::_,_::_,.dead,_,_,_,_,_,_,_,_,_,_,h=>h.elim
 |_::_,_::_,.many ..,_,_,_,_,_,_,_,_,_,_,h=>h.elim
 |_::_,_::_,.rs ..,_,_,_,_,_,_,_,_,_,_,h=>h.elim
 |_::_,_::_,.rp ..,_,_,_,_,_,_,_,_,_,_,h=>h.elim
end Go.Ve


namespace Go.Ve
variable{σ:List V}{F:Nat->Nat->Prop}{D fp:Nat->Prop}{ρ:Nat->Value}{w w':World}
structure Ctx where
 w0:World
 W:Nat->Prop
 D0:Nat->Prop
 m:Nat
 ρ0:Nat->Value
 ok:Wok w0/\∀p,AaG=some p->¬W p.1
structure Fr(w0 w:World)(W:Nat->Prop):Prop where
 os:w.os=w0.os
 tape:w.tape=w0.tape
 output:w.output=w0.output
 size:w0.heap.size<=w.heap.size
 block: ∀b,b<w0.heap.size->¬W b->w.heap[b]? =w0.heap[b]?
 drawn:dz w0<=dz w
theorem Fr.below{w0:World}{W:Nat->Prop}(h:Fr w0 w W)(hb:Below w.heap.size w w'):Fr w0 w' W:=
 ⟨hb.os.trans h.os,hb.tape.trans h.tape,hb.output.trans h.output,Nat.le_trans h.size hb.size,λb h1 h2=>(hb.block b (Nat.lt_of_lt_of_le h1 h.size)).trans (h.block b h1 h2),Nat.le_trans h.drawn hb.drawn⟩
structure CR(C:Ctx)(σ:List V)(ts:List V)(cts:Array Value)(w:World)(D:Nat->Prop)(ρ:Nat->Value)(F:Nat->Nat->Prop):Prop where
 wr:Bj σ w D ρ F
 sz:cts.size=ts.length
 tm: ∀t,t<ts.length->Rel D w (Ag σ ρ w) (ts.getD t .dead) (cts.getD t undef) noF
 fr:Fr C.w0 w C.W
 Fn: ∀i b,F i b->C.W b\/C.w0.heap.size<=b
 D1: ∀b,C.D0 b->D b
 D2: ∀b,D b->b<C.w0.heap.size->C.D0 b\/C.W b
 rt: ∀i,i<C.m->ρ i=C.ρ0 i
 ml:C.m<=σ.length
theorem CR.ok{C:Ctx}{σ ts:List V}{cts:Array Value}{w:World}{D:Nat->Prop}{ρ:Nat->Value}{F:Nat->Nat->Prop}(h:CR C σ ts cts w D ρ F):Wok w:=
 C.ok.1.same λp hp=>h.fr.block p.1 (C.ok.1.lt hp) (C.ok.2 p hp)
def UK(C:Ctx)(σ:List V)(ts:List V)(cts:Array Value)(w:World):Prop:=∃D ρ F,CR C σ ts cts w D ρ F
theorem Aw{l l':List V}{i:Nat}(h:i<l.length):(l++l').getD i .dead=l.getD i .dead:=by grind
theorem Ag.ext{s:List V}{ρ':Nat->Value}(h: ∀i,i<σ.length->ρ' i=ρ i): ∀v cv,Ag σ ρ w v cv->Ag (σ++s) ρ' w v cv
 | .rs id p off len,cv,⟨hid,sz,n,f,cn,ha,r⟩=>⟨by grind,sz,n,f,cn,by grind,r⟩
 | .rp id p i k,cv,⟨hid,s,sz,n,f,b,o,cap,ha,r⟩=>⟨by grind,s,sz,n,f,b,o,cap,by grind,r⟩
 | .c _,_,h=>h.elim
 | .dead,_,h=>h.elim
 | .many ..,_,h=>h.elim
 | .nd ..,_,h=>h.elim
theorem Bj.push(h:Bj σ w D ρ F){v:V}{cv:Value}(hr:Rel D w noR v cv fp)(h1: ∀b,fp b->¬D b)(h2: ∀i b,F i b->¬fp b):
  Bj (σ++ [v]) w D (λi=>if i=σ.length then cv else ρ i) (λi=>if i=σ.length then fp else F i):=by
 refine⟨λi hi=>?_,λi j b hij hb hb'=>?_,λi b hb=>?_,h.Dlt,λi b hi hb=>?_⟩
 ·by_cases he:i=σ.length
  ·grind
  ·have hi':i<σ.length:=by simp at hi;omega
   rw [Aw hi'];simpa [he]using h.rel i hi'
 ·by_cases he:i=σ.length<;>by_cases he':j=σ.length<;>simp only [he,he',if_true,if_false]at hb hb'
  ·omega
  ·grind
  ·exact h2 i b hb hb'
  ·exact h.disj i j b hij hb hb'
 ·by_cases he:i=σ.length<;>simp only [he,if_true,if_false]at hb
  ·exact h1 b hb
  ·exact h.dD i b hb
 ·simp at hi
  have he:i≠σ.length:=by omega
  simp only [he,if_false]at hb;exact h.out i b (by omega) hb
def Bx(g:Nat->Nat->V×List V):Nat->Nat->List V×List V
 |0,_=>([],[])
 |n+1,m=>((Bx g n m).1++ [(g n (m+(Bx g n m).2.length)).1],(Bx g n m).2++(g n (m+(Bx g n m).2.length)).2)
def prom:V->Nat->V×List V
 | .nd true true sz n f,m=>(.rs m [] 0 n,[.nd true true sz n f])
 | .nd false true sz n f,m=>if 0<sz then(.rp m [] 0 0,[.nd false true sz n f])else(.dead,[])
 | .many t n f,m=>(.many t n λk=>(Bx (λk=>prom (f k)) n m).1.getD k .dead,(Bx (λk=>prom (f k)) n m).2)
 |v,_=>(v,[])
structure B9(σ s:List V)(w:World)(D:Nat->Prop)(ρ ρ':Nat->Value)(F F':Nat->Nat->Prop)(fp:Nat->Prop):Prop where
 wr:Bj (σ++s) w D ρ' F'
 rt: ∀i,i<σ.length->ρ' i=ρ i
 old: ∀i,i<σ.length->F' i=F i
 new: ∀i b,σ.length<=i->F' i b->fp b
theorem B9.nil(h:Bj σ w D ρ F)(fp:Nat->Prop):B9 σ [] w D ρ ρ F F fp:=
 ⟨by grind,λ_ _=>rfl,λ_ _=>rfl,λi b hi hb=>absurd hb (h.out i b hi)⟩
theorem B9.trans{σ s s':List V}{w:World}{D:Nat->Prop}{ρ ρ' ρ'':Nat->Value}{F F' F'':Nat->Nat->Prop}{fp fp' fq:Nat->Prop}(h:B9 σ s w D ρ ρ' F F' fp)(h':B9 (σ++s) s' w D ρ' ρ'' F' F'' fp')(e: ∀b,fp b->fq b)(e': ∀b,fp' b->fq b):
  B9 σ (s++s') w D ρ ρ'' F F'' fq:=by
 refine⟨by rw [<-List.append_assoc];exact h'.wr,λi hi=>(h'.rt i (by grind)).trans (h.rt i hi),λi hi=>(h'.old i (by grind)).trans (h.old i hi),λi b hi hb=>?_⟩
 by_cases hlt:i<(σ++s).length
 ·rw [h'.old i hlt]at hb;exact e b (h.new i b hi hb)
 ·exact e' b (h'.new i b (by omega) hb)
theorem HU: ∀ (v:V) (σ:List V) (ρ:Nat->Value) (F:Nat->Nat->Prop) (cv:Value) (fp:Nat->Prop),Bj σ w D ρ F->Rel D w (Ag σ ρ w) v cv fp->(∀b,fp b->¬D b)->(∀i b,F i b->¬fp b)->
  ∃ρ' F',B9 σ (prom v σ.length).2 w D ρ ρ' F F' fp/\Rel D w (Ag (σ++(prom v σ.length).2) ρ' w) (prom v σ.length).1 cv noF:=by
 intro v
 induction v with
 |c v=>intro σ ρ F cv fp wr h _ _;exact⟨ρ,F,B9.nil wr fp,h.1,h.2.1,λ_ h=>h⟩
 |dead=>intro σ ρ F cv fp wr h _ _;exact⟨ρ,F,B9.nil wr fp,λ_ h=>h⟩
 |rs id p off len=>intro σ ρ F cv fp wr h _ _;exact⟨ρ,F,B9.nil wr fp,Ag.ext (λ_ _=>rfl) _ _ h.1,λ_ h=>h⟩
 |rp id p i k=>intro σ ρ F cv fp wr h _ _;exact⟨ρ,F,B9.nil wr fp,Ag.ext (λ_ _=>rfl) _ _ h.1,λ_ h=>h⟩
 |nd s own sz n f _=>
  intro σ ρ F cv fp wr h h1 h2;cases own with
  |false=>
   have e:=AY (Au _ _ _ rfl h);subst e;cases s<;>exact⟨ρ,F,B9.nil wr _,h⟩
  |true=>
   have hpush:=Bj.push wr (v:=.nd s true sz n f) (cv:=cv) (fp:=fp) h h1 h2
   have hok:B9 σ [.nd s true sz n f] w D ρ (λi=>if i=σ.length then cv else ρ i) F (λi=>if i=σ.length then fp else F i) fp:=
    ⟨hpush,λi hi=>by simp [show i≠σ.length by omega],λi hi=>by simp [show i≠σ.length by omega],λi b hi hb=>by
     by_cases he:i=σ.length
     ·simpa [he]using hb
     ·simp only [he,if_false]at hb;exact absurd hb (wr.out i b hi)⟩
   cases s with
   |true=>
    refine⟨_,_,hok,⟨⟨by simp [prom],sz,n,f,cv,⟨by simp [prom],by simp⟩,by omega,?_⟩,λ_ h=>h⟩⟩
    rcases h with⟨rfl,_,hn0,_⟩|⟨b,o,cap,F2,rfl,_⟩
    ·obtain rfl:=Dn hn0
     exact .inr ⟨rfl,none,rfl,λ_ _=>rfl,λp e=>by cases e⟩
    ·exact .inl ⟨b,o,cap,rfl,by simp [As]⟩
   |false=>
    unfold prom;by_cases hsz:0<sz
    ·simp only [hsz,if_true]
     rcases h with⟨_,h,_⟩|⟨b,o,cap,F2,rfl,_,_,hn,_⟩
     ·cases h
     ·exact⟨_,_,hok,⟨⟨by simp,false,sz,n,f,b,o,cap,⟨by simp,by simp⟩,by rw [hn rfl];exact Nat.one_pos,hsz,by simp [As]⟩,λ_ h=>h⟩⟩
    ·simp only [hsz,if_false]
     exact⟨ρ,F,B9.nil wr fp,λ_ h=>h⟩
 |many t n f ih=>
  intro σ ρ F cv fp wr h h1 h2;obtain⟨cs,G,hcv,hn,hr,hd,hf⟩:=h
  have key: ∀j,j<=n->∃ρ' F',B9 σ (Bx (λk=>prom (f k)) j σ.length).2 w D ρ ρ' F F' (λb=>∃k,k<j/\G k b)/\(Bx (λk=>prom (f k)) j σ.length).1.length=j/\
    ∀k,k<j->Rel D w (Ag (σ++(Bx (λk=>prom (f k)) j σ.length).2) ρ' w) ((Bx (λk=>prom (f k)) j σ.length).1.getD k .dead) (cs.getD k undef) noF:=by
   intro j
   induction j with
   |zero=>intro _;exact⟨ρ,F,B9.nil wr _,rfl,λk hk=>by omega⟩
   |succ j ihj=>
    intro hj;obtain⟨ρ1,F1,ok1,hl1,hr1⟩:=ihj (by omega)
    have hrj:Rel D w (Ag (σ++(Bx (λk=>prom (f k)) j σ.length).2) ρ1 w) (f j) (cs.getD j undef) (G j):=
     Rel.mono (λ_ h=>h) (Ag.ext ok1.rt) _ _ _ (λ_ _=>rfl) (hr j (by omega))
    obtain⟨ρ2,F2,ok2,hr2⟩:=ih j (σ++(Bx (λk=>prom (f k)) j σ.length).2) ρ1 F1 (cs.getD j undef) (G j) ok1.wr hrj (λb hb=>h1 b ((hf b).2 ⟨j,by omega,hb⟩)) (λi b hb hb'=>by
     by_cases hi:i<σ.length
     ·rw [ok1.old i hi]at hb;exact h2 i b hb ((hf b).2 ⟨j,by omega,hb'⟩)
     ·obtain⟨k,hk,hkb⟩:=ok1.new i b (by omega) hb
      exact hd k j b (by omega) (by omega) (by omega) hkb hb')
    rw [List.length_append]at ok2 hr2;refine⟨ρ2,F2,ok1.trans ok2 (λb ⟨k,hk,h⟩=>⟨k,by omega,h⟩) (λb h=>⟨j,by omega,h⟩),by simp [Bx,hl1],λk hk=>?_⟩
    simp only [Bx];rw [<-List.append_assoc];by_cases he:k=j
    ·subst he
     rw [gDE,gAR (by omega)]
     simpa [hl1]using hr2
    ·rw [gDE,gAL (by omega),<-gDE]
     exact Rel.mono (λ_ h=>h) (Ag.ext ok2.rt) _ _ _ (λ_ _=>rfl) (hr1 k (by omega))
  obtain⟨ρ',F',ok,_,hr'⟩:=key n (Nat.le_refl _);refine⟨ρ',F',⟨ok.wr,ok.rt,ok.old,λi b hi hb=>(hf b).2 (ok.new i b hi hb)⟩,?_⟩
  exact⟨cs,λ_=>noF,hcv,hn,λk hk=>hr' k hk,λ_ _ _ _ _ _ h=>h.elim,λb=>⟨λh=>h.elim,fun⟨_,_,h⟩=>h⟩⟩
theorem CR.res{C:Ctx}{ts:List V}{cts:Array Value}{D':Nat->Prop}(h:CR C σ ts cts w D ρ F){r:V}{v':Value}(hB:Below w.heap.size w w')(hr:Rel D' w' (Ag σ ρ w') r v' fp)
  (hf: ∀b,fp b->w.heap.size<=b) (hd1: ∀b,D b->D' b) (hd2: ∀b,D' b->D b\/w.heap.size<=b) (hd3: ∀b,D' b->b<w'.heap.size/\¬fp b) (d:Nat):
  UK C (σ++(prom r σ.length).2) (ts.set d (prom r σ.length).1) (cts.setIfInBounds d v') w':=by
 have hFlt: ∀i b,F i b->b<w.heap.size:=h.wr.lt;have wr':Bj σ w' D' ρ F:=by
  have h1:=h.wr.below hB;refine⟨λi hi=>Rel.mono hd1 (λ_ _ h=>h) _ _ _ (λ_ _=>rfl) (h1.rel i hi),h1.disj,λi b hb hD=>?_,λb hb=>(hd3 b hb).1,h1.out⟩
  rcases hd2 b hD with h2|h2
  ·exact h1.dD i b hb h2
  ·have:=hFlt i b hb;omega
 obtain⟨ρ',F',ok,hr'⟩:=HU r σ ρ F v' fp wr' hr (λb hb hD=>(hd3 b hD).2 hb) (λi b hb hb'=>by have:=hFlt i b hb;have:=hf b hb';omega)
 refine⟨D',ρ',F',ok.wr,by simp [h.sz],λt ht=>?_,h.fr.below hB,λi b hb=>?_,λb hb=>hd1 b (h.D1 b hb),λb hb hlt=>?_,λi hi=>(ok.rt i (Nat.lt_of_lt_of_le hi h.ml)).trans (h.rt i hi),by have:=h.ml;simp;omega⟩
 ·simp at ht
  by_cases he:d=t
  ·subst he
   have hlt:d<cts.size:=by rw [h.sz];exact ht
   simpa [ht,hlt]using hr'
  ·have h1:=h.tm t ht
   simp only [gDE,List.getElem?_set_ne he,Array.getD_eq_getD_getElem?,Array.getElem?_setIfInBounds_ne he];rw [<-gDE,<-Array.getD_eq_getD_getElem?];refine Rel.mono hd1 (λv cv hv=>Ag.ext ok.rt _ _ (Ag.same h.wr (λi b hb=>hB.block b (hFlt i b hb)) v cv hv)) _ _ _ (λb hb=>hB.block b ?_) h1
   rcases hb with hb|hb
   ·exact h.wr.Dlt b hb
   ·exact hb.elim
 ·by_cases hi:i<σ.length
  ·rw [ok.old i hi]at hb;exact h.Fn i b hb
  ·have:=hf b (ok.new i b (by omega) hb)
   right;exact Nat.le_trans h.fr.size this
 ·rcases hd2 b hb with h2|h2
  ·exact h.D2 b h2 hlt
  ·have:=h.fr.size;omega
end Go.Ve


namespace Go.Ve
variable{l:List V}{i:Nat}{D:Nat->Prop}{x:V}{w:World}
structure A2(G:V->V):Prop where
 c: ∀v,G (.c v)= .c v
 dead:G .dead= .dead
 nd: ∀s own sz n f,G (.nd s own sz n f)= .nd s own sz n f
 many: ∀t n f,G (.many t n f)= .many t n λk=>G (f k)
theorem A2.rel{G:V->V}(hG:A2 G){w':World}{R R':V->Value->Prop}(hD: ∀b,D b->w'.heap[b]? =w.heap[b]?)
  (h1: ∀id p off len cv,R (.rs id p off len) cv->Rel D w' R' (G (.rs id p off len)) cv noF) (h2: ∀id p i k cv,R (.rp id p i k) cv->Rel D w' R' (G (.rp id p i k)) cv noF):
  ∀ (v:V) (cv:Value) (fp:Nat->Prop),(∀b,¬fp b)->Rel D w R v cv fp->Rel D w' R' (G v) cv noF:=by
 intro v
 induction v with
 |c v=>intro cv fp _ h;rw [hG.c];exact⟨h.1,h.2.1,λ_ h=>h⟩
 |dead=>intro cv fp _ h;rw [hG.dead];exact λ_ h=>h
 |many t n f ih=>
  intro cv fp hf h;rw [hG.many];obtain⟨cs,F,hcv,hn,hr,hd,hfp⟩:=h;exact⟨cs,λ_=>noF,hcv.mono (λ_ h=>h) hD,hn,λk hk=>ih k _ _ (λb hb=>hf b ((hfp b).2 ⟨k,hk,hb⟩)) (hr k hk),λ_ _ _ _ _ _ h=>h.elim,λb=>⟨λh=>h.elim,fun⟨_,_,h⟩=>h⟩⟩
 |nd s own sz n f _=>
  intro cv fp hf h;rw [hG.nd];have:=AY hf;subst this;exact Rel.nd_R (Rel.mono (λ_ h=>h) (λ_ _ h=>h) _ _ _ (λb hb=>hD b (hb.elim id λh=>h.elim)) h)
 |rs id p off len=>intro cv fp _ h;exact h1 _ _ _ _ _ h.1
 |rp id p i k=>intro cv fp _ h;exact h2 _ _ _ _ _ h.1
def rrV(id:Nat)(p:List (Nat×Nat))(j:Nat):V->V
 | .rs id' q off len=>if id'=id/\AW p q=true then .rs j (q.drop p.length) off len else .rs id' q off len
 | .rp id' q i k=>if id'=id/\AW p q=true then .rp j (q.drop p.length) i k else .rp id' q i k
 | .many t n f=>.many t n λk=>rrV id p j (f k)
 |v=>v
theorem CL(id:Nat)(p:List (Nat×Nat))(j:Nat):A2 (rrV id p j):=⟨λ_=>rfl,rfl,λ_ _ _ _ _=>rfl,λ_ _ _=>rfl⟩
theorem Af(h:i<l.length):(l.set i x).getD i .dead=x:=by grind
theorem Ad{j:Nat}(h:i≠j):(l.set i x).getD j .dead=l.getD j .dead:=by grind
theorem CR.reroot{C:Ctx}{σ ts:List V}{cts:Array Value}{ρ:Nat->Value}{F:Nat->Nat->Prop}(h:CR C σ ts cts w D ρ F){id:Nat}{p:List (Nat×Nat)}{v1:V}{c1:Value}(hid:id<σ.length)
  (hat:At w p (σ.getD id .dead) (ρ id) v1 c1): ∃ρ' F',CR C (σ.set id (upd p (σ.getD id .dead) .dead)++ [sub p (σ.getD id .dead)]) (ts.map (rrV id p σ.length)) cts w D ρ' F'/\ρ' σ.length=c1/\(∀i,i<σ.length->ρ' i=ρ i)/\∀i b,F' i b->∃j,F j b:=by
 obtain⟨fp1,hr1,hsub,hput⟩:=Dt (w':=w) p _ _ _ _ _ (h.wr.rel id hid) (λb hb h'=>h.wr.dD id b h' hb) hat
 have hnew:=hput .dead noF (λ_ h=>h) (λb hb=>hb.elim) (λ_ _ _=>rfl)
 let ρ':Nat->Value:=λi=>if i=σ.length then c1 else ρ i
 let F':Nat->Nat->Prop:=λi=>if i=σ.length then fp1 else if i=id then λb=>(F id b/\¬fp1 b)\/noF b else F i
 have hsubeq:sub p (σ.getD id .dead)=v1:=(At.sub hat).symm;have hF'sub: ∀i b,F' i b->∃j,F j b:=by
  intro i b hb;simp only [F']at hb;split at hb
  ·exact⟨id,hsub b hb⟩
  ·split at hb
   ·exact⟨id,hb.elim (λh=>h.1) λh=>h.elim⟩
   ·exact⟨i,hb⟩
 have wr':Bj (σ.set id (upd p (σ.getD id .dead) .dead)++ [sub p (σ.getD id .dead)]) w D ρ' F':=by
  refine⟨λi hi=>?_,λi j b hij hb hb'=>?_,λi b hb hD=>?_,h.wr.Dlt,λi b hi hb=>?_⟩
  ·by_cases he:i=σ.length
   ·subst he
    simp only [ρ',F',if_true];rw [hsubeq];simpa using hr1
   ·have hi':i<σ.length:=by simp at hi;omega
    rw [Aw (by simpa using hi')]
    simp only [ρ',F',he,if_false];by_cases he2:i=id
    ·subst he2
     rw [Af hid];simpa using hnew
    ·rw [Ad (Ne.symm he2)]
     simpa [he2]using h.wr.rel i hi'
  ·simp only [F']at hb hb'
   by_cases he:i=σ.length<;>by_cases he':j=σ.length
   ·omega
   ·simp only [he,if_true,he',if_false]at hb hb'
    split at hb'
    ·rcases hb' with hb'|hb'
     ·exact hb'.2 hb
     ·exact hb'
    ·exact h.wr.disj id j b (λe=>by rename_i hne;exact hne e.symm) (hsub b hb) hb'
   ·simp only [he',if_true,he,if_false]at hb hb'
    split at hb
    ·rcases hb with hb|hb
     ·exact hb.2 hb'
     ·exact hb
    ·exact h.wr.disj i id b (by assumption) hb (hsub b hb')
   ·simp only [he,he',if_false]at hb hb'
    have e1:F i b:=by
     split at hb
     ·rename_i e;subst e;exact hb.elim (λh=>h.1) λh=>h.elim
     ·exact hb
    have e2:F j b:=by
     split at hb'
     ·rename_i e;subst e;exact hb'.elim (λh=>h.1) λh=>h.elim
     ·exact hb'
    exact h.wr.disj i j b hij e1 e2
  ·obtain⟨j,hj⟩:=hF'sub i b hb;exact h.wr.dD j b hj hD
  ·simp at hi
   simp only [F',show i≠σ.length by omega,show i≠id by omega,if_false]at hb
   exact h.wr.out i b (by omega) hb
 refine⟨ρ',F',⟨wr',by simpa using h.sz,λt ht=>?_,h.fr,λi b hb=>?_,h.D1,h.D2,λi hi=>?_,by have:=h.ml;simp;omega⟩,by simp [ρ'],λi hi=>by simp [ρ',show i≠σ.length by omega],hF'sub⟩
 ·simp at ht
  have e1:(ts.map (rrV id p σ.length)).getD t .dead=rrV id p σ.length (ts.getD t .dead):=by simp [ht]
  rw [e1];have hlen:(σ.set id (upd p (σ.getD id .dead) .dead)++ [sub p (σ.getD id .dead)]).length=σ.length+1:=by simp
  have hge:(σ.set id (upd p (σ.getD id .dead) .dead)++ [sub p (σ.getD id .dead)]).getD σ.length .dead=v1:=by rw [<-hsubeq];simp
  -- one reference
  have key: ∀ (id':Nat) (q:List (Nat×Nat)) (s:Bool) (sz n:Nat) (f:Nat->Nat->V) (c:Value),id'<σ.length->At w q (σ.getD id' .dead) (ρ id') (.nd s true sz n f) c->
    (id'=id/\AW p q=true->At w (q.drop p.length) v1 c1 (.nd s true sz n f) c)/\
    (¬ (id'=id/\AW p q=true)->∃f',At w q ((σ.set id (upd p (σ.getD id .dead) .dead)++ [sub p (σ.getD id .dead)]).getD id' .dead) (ρ' id') (.nd s true sz n f') c):=by
   intro id' q s sz n f c hid' ha;constructor
   ·rintro ⟨rfl,hpre⟩
    rw [Dr hpre]at ha;exact At.split ha hat
   ·intro hn
    rw [Aw (by simpa using hid')]
    have eρ:ρ' id'=ρ id':=by simp [ρ',show id'≠σ.length by omega]
    rw [eρ];by_cases he:id'=id
    ·subst he
     rw [Af hid];exact At.keep p q _ _ (At.ok hat) (by simpa using hn) ha
    ·rw [Ad (Ne.symm he)]
     exact⟨f,ha⟩
  refine(CL id p σ.length).rel (λ_ _=>rfl) ?_ ?_ _ _ noF (λ_ h=>h) (h.tm t ht)
  ·rintro id' q off len cv ⟨hid',sz,n,f,cn,ha,hle,hcv⟩
   obtain⟨k1,k2⟩:=key id' q true sz n f cn hid' ha;simp only [rrV];split
   ·rename_i hc
    exact⟨⟨by rw [hlen];omega,sz,n,f,cn,by rw [hge];simpa [ρ']using k1 hc,hle,hcv⟩,λ_ h=>h⟩
   ·rename_i hc
    obtain⟨f',ha'⟩:=k2 hc;exact⟨⟨by rw [hlen];omega,sz,n,f',cn,ha',hle,hcv⟩,λ_ h=>h⟩
  ·rintro id' q i k cv ⟨hid',s,sz,n,f,b,o,cap,ha,hi,hk,hcv⟩
   obtain⟨k1,k2⟩:=key id' q s sz n f _ hid' ha;simp only [rrV];split
   ·rename_i hc
    exact⟨⟨by rw [hlen];omega,s,sz,n,f,b,o,cap,by rw [hge];simpa [ρ']using k1 hc,hi,hk,hcv⟩,λ_ h=>h⟩
   ·rename_i hc
    obtain⟨f',ha'⟩:=k2 hc;exact⟨⟨by rw [hlen];omega,s,sz,n,f',b,o,cap,ha',hi,hk,hcv⟩,λ_ h=>h⟩
 ·obtain⟨j,hj⟩:=hF'sub i b hb;exact h.Fn j b hj
 ·have:=h.ml
  simp only [ρ',show i≠σ.length by omega,if_false]
  exact h.rt i hi
end Go.Ve

