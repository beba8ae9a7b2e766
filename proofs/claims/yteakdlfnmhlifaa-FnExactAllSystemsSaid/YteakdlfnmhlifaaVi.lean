/- Calls by contract in the small machine. -/
import Derived.Test.YteakdlfnmhlifaaVh
set_option linter.all false
namespace Go.Ve
variable{xs:Array Operand}{ats:Array TypeId}{f:FuncId}{vs:List V}{y:Operand}{fv v:V}
def AE(P:Program)(f:FuncId):Bool:=
 match P.funcs[f]? with
 | some fn => !(fn.name == "runtime.NumGoroutine") && fn.body.isSome
 |none=>false
section ops
variable {P:Program}{o:Oper}{a:Act}{w:World}{σ:List V}{D:Nat->Prop}{ρ:Nat->Value}{F:Nat->Nat->Prop}{K:V->Prop}
theorem OO{R:V->Value->Prop}{cv:Value}{fp:Nat->Prop}(h:AR v=false)(A:Rel D w R v cv fp):∀b,¬fp b:=by
 have:∀v,AR v=false->AJ v=false:=by
  intro v
  induction v with
  |many t n f B=>
   intro h;unfold AR at h;unfold AJ
   grind
  |nd s own sz n f _=>intro h;exact h
  |mp own l=>intro h;exact h
  |_=>intro _;rfl
 exact AB _ _ _ (this _ h) A
def Call(P:Program)(f:FuncId)(A:Bool)(vs:List V)(K:V->Prop):Prop:=
 ∃r,(AE P f=true/\FC P f vs r)/\(A=true->Bw r)/\K r
def YS(σ:List V)(w:World)(D:Nat->Prop)(ρ:Nat->Value)(F:Nat->Nat->Prop)(vs:List V)(cs:Array Value):Prop:=
 cs.size=vs.length/\∀j,j<vs.length->OpR σ w D ρ F (vs.getD j .dead) (cs.getD j undef)
theorem Qp(hk:Wok w)(wr:Be σ w D ρ F){cvs:Array Value}(B:AE P f=true->(execOp a.eval o).run P w=.ok (.enter f cvs) w)(hv:YS σ w D ρ F vs cvs)
  (h:Call P f (vs.any AR) (vs.map (B6 σ)) K):∃r,K r/\Ap P o a w σ D ρ r:=by
 obtain⟨r,⟨U,Z⟩,hla,hK⟩:=h;refine⟨r,hK,λnext Q hn=>?_⟩
 have B:=B U;unfold Oper.wp;rw[B,Oper.upon_enter]
 let D2:Nat->Prop:=λb=>D b\/(vs.any AR=true/\((∃j fp,j<vs.length/\Rel D w (Ae σ ρ w) (vs.getD j .dead) (cvs.getD j undef) fp/\fp b)\/∃i,F i b))
 have W:∀i,i<(vs.map (B6 σ)).length->Rel D2 w noR ((vs.map (B6 σ)).getD i .dead) (cvs.getD i undef) noF:=by
  intro i hi;simp at hi;obtain⟨fp,H,hfD,hfF⟩:=hv.2 i hi;have e1:(vs.map (B6 σ)).getD i .dead=B6 σ (vs.getD i .dead):=by simp[hi]
  rw[e1]
  have Y:AR (vs.getD i .dead)=true\/∀b,¬fp b:=by
   cases h:AR (vs.getD i .dead)with
   |true=>exact .inl rfl
   |false=>exact .inr (OO h H)
  refine Rel.mono (λb A=>A.imp id fun⟨h1,h2⟩=>⟨?_,h2.imp (λh=>⟨i,fp,hi,H,h⟩) id⟩) (λ_ _ h=>h) _ _ _ (λ_ _=>rfl) (ZP wr _ _ _ H Y)
  grind
 have hD2:∀b,D2 b->b<w.heap.size:=by
  rintro b (A|⟨_,⟨j,fp,hj,H,A⟩|⟨i,A⟩⟩)
  .exact wr.Dlt b A
  .exact Rel.lt _ _ _ H b A
  .exact wr.lt i b A
 refine(Z w D2 cvs hk hD2 (by rw[hv.1];simp) W).mono ?_
 rintro e w' ⟨cv,fp,D',rfl,hB,H,hf,hd1,hd2,hd3⟩
 cases Y:vs.any AR with
 |false=>
  refine hn cv w' D' fp hB (Rel.noR_mono H) hf (λb A=>hd1 b (.inl A)) (λb A=>?_) hd3
  rcases hd2 b A with(h|⟨h,_⟩)|h
  .exact .inl h
  .rw[Y]at h;cases h
  .exact .inr h
 |true=>
  refine hn cv w' D fp hB (Rel.noR_mono (Rel.ownOnly' r _ _ _ _ (hla Y) H)) hf (λ_ h=>h) (λ_ h=>.inl h) λb A=>⟨Nat.lt_of_lt_of_le (wr.Dlt b A) hB.size,λh=>?_⟩
  have:=wr.Dlt b A;have:=hf b h;omega
theorem H5{cs:Array Value}(W:o.op=.call {callee:=.value y,args:=xs,argTypes:=ats})(U:a.eval y=.func (.func f) #[] cs)(A:AE P f=true):
  (execOp a.eval o).run P w=.ok (.enter f (xs.map a.eval++cs)) w:=by
 unfold AE at A;split at A
 .rename_i fn B
  have H:fn.body.isNone=false:=by simp_all
  unfold execOp;rw[W];simp[resolve,U,Deferred.ofValue,invoke,callFunc,B,H]
  grind
 grind
theorem Wb(B:Wok w)(wr:Be σ w D ρ F)(A:o.op=.call {callee:=.value (.func f),args:=xs,argTypes:=ats})(hv:YS σ w D ρ F vs (xs.map a.eval))
  (h:Call P f (vs.any AR) (vs.map (B6 σ)) K):∃r,K r/\Ap P o a w σ D ρ r:=
 Qp B wr (λH=>by
  have:=H5 (a:=a) (w:=w) A rfl H
  grind) hv h
def AaS(_:Program)(_:List V)(_:V)(_:List V)(_:V->Prop):Prop:=False
def Om(H:Wok w)(wr:Be σ w D ρ F){vs:List V}(B:o.op=.call {callee:=.value y,args:=xs,argTypes:=ats})(A:OpR σ w D ρ F fv (a.eval y))
  (hv:YS σ w D ρ F vs (xs.map a.eval)) (h:AaS P σ fv vs K):∃r,K r/\Ap P o a w σ D ρ r:=False.elim h
def qMkF(g:Nat)(cs:List V)(K:V->Prop):Prop:=(Nat.blt g 1000000=true/\cs.all (λv=>!AJ v)=true)/\K (.many (.cl g) cs.length λk=>cs.getD k .dead)
theorem Vs(wr:Be σ w D ρ F){g:Nat}{cs:List V}(A:o.op=.makeFunc (.func g) #[] xs)(hv:YS σ w D ρ F cs (xs.map a.eval))(h:qMkF g cs K):∃r,K r/\Ap P o a w σ D ρ r:=by
 obtain⟨⟨B,U⟩,hK⟩:=h;refine⟨_,hK,Ap.pure wr ?_ ⟨xs.map a.eval,λ_=>noF,(Pb B).symm,hv.1,λk W=>?_,λ_ _ _ _ _ _ h=>h.elim,λb=>⟨λh=>h.elim,fun⟨_,_,h⟩=>h⟩⟩⟩
 .unfold execOp;rw[A];simp[Instr.makeFunc]
 .obtain⟨fp,H,_,_⟩:=hv.2 k W
  have A:AJ (cs.getD k .dead)=false:=by
   grind
  exact Rel.fp_congr (λb=>⟨λh=>absurd h (AB _ _ _ A H b),λh=>h.elim⟩) H
def metF(P:Program)(t:TypeId)(name:String):Option FuncId:=match P.info? t,P.underlying t with
 |some i,some (.pointer _)=>match i.methods.find? (·.name==name)with
  |some m=>match m.path.toList,m.func with
   |[],some (f,true)=>some f
   |_,_=>none
  |none=>none
 |_,_=>none
def qMkI(_:Program)(_:TypeId)(_:V)(_:V->Prop):Prop:=False
def Vr(wr:Be σ w D ρ F){t:TypeId}{x:Operand}(A:o.op=.makeInterface t x)(hv:OpR σ w D ρ F v (a.eval x))(h:qMkI P t v K):∃r,K r/\Ap P o a w σ D ρ r:=False.elim h
def AaT(_:Program)(_:List V)(_:V)(_:String)(_:List V)(_:V->Prop):Prop:=False
def On(H:Wok w)(wr:Be σ w D ρ F){vs:List V}{name:String}(B:o.op=.call {callee:=.invoke y name,args:=xs,argTypes:=ats})(A:OpR σ w D ρ F fv (a.eval y))
  (hv:YS σ w D ρ F vs (xs.map a.eval)) (h:AaT P σ fv name vs K):∃r,K r/\Ap P o a w σ D ρ r:=False.elim h
end ops
end Go.Ve


namespace Go.Ve
def AN:List (Nat×Nat)->List (Nat×Nat)->Bool
 |[],_=>true
 |(i,k)::p,(j,l)::q=>i==j&&k==l&&AN p q
 |_::_,[]=>false
def CG:∀{p q:List (Nat×Nat)},AN p q=true->q=p++q.drop p.length
 |[],_,_=>rfl
 |(i,k)::p,(j,l)::q,h=>by
  simp[AN,beq_iff_eq]at h;obtain⟨⟨rfl,rfl⟩,h⟩:=h;simp[<-CG h]
 |_::_,[],h=>by cases h
theorem At.split{w:World}:∀{p q:List (Nat×Nat)}{v:V}{cv:Value}{v':V}{H:Value}{Y:V}{c1:Value},At w (p++q) v cv v' H->At w p v cv Y c1->At w q Y c1 v' H
 |[],_,_,_,_,_,_,_,h,B=>by obtain⟨rfl,rfl⟩:=B;grind
 |(i,k)::p,q,.nd s true sz n f,_,_,_,_,_,h,B=>by
  obtain⟨_,_,b,o,cap,x,W,hx,h⟩:=h;obtain⟨_,_,b',o',Z,x',A,U,B⟩:=B;subst W;obtain⟨rfl,rfl,_⟩:=Am A;have:=Option.some.inj (U.symm.trans hx);subst this;exact At.split h B
 |_::_,_,.nd _ false _ _ _,_,_,_,_,_,h,_=>h.elim
 |_::_,_,.c _,_,_,_,_,_,h,_=>h.elim
 |_::_,_,.dead,_,_,_,_,_,h,_=>h.elim
 |_::_,_,.many ..,_,_,_,_,_,h,_=>h.elim
 |_::_,_,.rs ..,_,_,_,_,_,h,_=>h.elim
 |_::_,_,.rp ..,_,_,_,_,_,h,_=>h.elim
theorem At.keep{w:World}{x:V}:∀(p q:List (Nat×Nat)) (v:V) (cv:Value) {s:Bool}{sz n:Nat}{f:Nat->Nat->V}{c:Value},KP p v->AN p q=false->At w q v cv (.nd s true sz n f) c->
  ∃Y,At w q (upd p v x) cv (.nd s true sz n Y) c
 |[],_,_,_,_,_,_,_,_,_,h,_=>by cases h
 |(i,k)::p,[],.nd s0 o0 sz0 n0 f0,_,_,_,_,_,_,_,_,H=>by
  obtain⟨U,rfl⟩:=H;cases U;exact⟨_,rfl,rfl⟩
 |(i,k)::p,(i',k')::q,.nd s0 true sz0 n0 f0,cv,s,sz,n,f,c,A,hpre,H=>by
  obtain⟨U,h2,b,o,cap,y,B,Z,H⟩:=H;obtain⟨_,_,_,A⟩:=A;by_cases he:i'=i/\k'=k
  .obtain⟨rfl,rfl⟩:=he
   obtain⟨Y,W⟩:=At.keep p q (f0 i' k') y A (by simpa [AN]using hpre) H
   exact⟨Y,U,h2,b,o,cap,y,B,Z,by simpa using W⟩
  .exact⟨f,U,h2,b,o,cap,y,B,Z,by grind⟩
 |_::_,_::_,.nd _ false _ _ _,_,_,_,_,_,_,_,_,h=>h.elim
 |_::_,_,.c _,_,_,_,_,_,_,A,_,_=>A.elim
 |_::_,_,.dead,_,_,_,_,_,_,A,_,_=>A.elim
 |_::_,_,.many ..,_,_,_,_,_,_,A,_,_=>A.elim
 |_::_,_,.rs ..,_,_,_,_,_,_,A,_,_=>A.elim
 |_::_,_,.rp ..,_,_,_,_,_,_,A,_,_=>A.elim
theorem At.keepM{w:World}{x:V}:∀(p q:List (Nat×Nat)) (v:V) (cv:Value) {l:List (Value×Value)}{c:Value},KP p v->AN p q=false->At w q v cv (.mp true l) c->
  At w q (upd p v x) cv (.mp true l) c
 |[],_,_,_,_,_,_,h,_=>by cases h
 |(i,k)::p,[],.nd s0 o0 sz0 n0 f0,_,_,_,_,_,H=>by
  obtain⟨U,_⟩:=H;cases U
 |(i,k)::p,(i',k')::q,.nd s0 true sz0 n0 f0,cv,l,c,A,hpre,H=>by
  obtain⟨U,Z,b,o,cap,y,B,Y,H⟩:=H;obtain⟨_,_,_,A⟩:=A;by_cases he:i'=i/\k'=k
  .obtain⟨rfl,rfl⟩:=he
   have W:=At.keepM (x:=x) p q (f0 i' k') y A (by simpa [AN]using hpre) H
   exact⟨U,Z,b,o,cap,y,B,Y,by simpa using W⟩
  .exact⟨U,Z,b,o,cap,y,B,Y,by grind⟩
 |_::_,_::_,.nd _ false _ _ _,_,_,_,_,_,h=>h.elim
 |_::_,_,.c _,_,_,_,A,_,_=>A.elim
 |_::_,_,.dead,_,_,_,A,_,_=>A.elim
 |_::_,_,.many ..,_,_,_,A,_,_=>A.elim
 |_::_,_,.rs ..,_,_,_,A,_,_=>A.elim
 |_::_,_,.rp ..,_,_,_,A,_,_=>A.elim
 |_::_,_,.rm ..,_,_,_,A,_,_=>A.elim
 |_::_,_,.mp ..,_,_,_,A,_,_=>A.elim
theorem Np{sz i k i' k':Nat}(B:k<sz)(A:k'<sz)(h:¬ (i'=i/\k'=k)):i'*sz+k'≠i*sz+k:=by
 intro W;have U:(i'*sz+k') % sz=(i*sz+k) % sz:=by grind
 rw[Nat.mul_comm i',Nat.mul_comm i,Nat.mul_add_mod,Nat.mul_add_mod,Nat.mod_eq_of_lt A,Nat.mod_eq_of_lt B]at U;have H:(i'*sz+k')/sz=(i*sz+k)/sz:=by grind
 rw[Nat.mul_comm i',Nat.mul_comm i,Nat.mul_add_div (by omega),Nat.mul_add_div (by omega),Nat.div_eq_of_lt A,Nat.div_eq_of_lt B]at H
 omega
theorem At.store{D:Nat->Prop}{w w':World}{x:V}{s:Bool}{sz n:Nat}{f:Nat->Nat->V}{b o cap i k:Nat}(hi:i<n)(hk:k<sz)
  (hw:∀ad,ad≠(⟨b,o+i*sz+k,none⟩:Addr)->w'.cell? ad=w.cell? ad) (hb:∀c,c≠b->w'.heap[c]? =w.heap[c]?):
  ∀(p q:List (Nat×Nat)) (v:V) (cv:Value) (fp:Nat->Prop) {s1:Bool}{Z n1:Nat}{f1:Nat->Nat->V}{c1:Value},Rel D w noR v cv fp->At w p v cv (.nd s true sz n f) (Av s b o n cap)->
   AN (p++[(i,k)]) q=false->At w q v cv (.nd s1 true Z n1 f1) c1->∃f1',At w' q (upd (p++[(i,k)]) v x) cv (.nd s1 true Z n1 f1') c1
 |p,[],v,cv,fp,s1,Z,n1,f1,c1,hr,hp,hpre,A=>by
  obtain⟨rfl,rfl⟩:=A;cases p with
  |nil=>exact⟨_,rfl,rfl⟩
  |cons a p=>exact⟨_,rfl,rfl⟩
 |[],(i',k')::q,v,cv,fp,s1,Z,n1,f1,c1,hr,hp,hpre,A=>by
  obtain⟨rfl,rfl⟩:=hp
  have hne:¬ (i'=i/\k'=k):=by
   rintro ⟨rfl,rfl⟩
   simp[AN]at hpre
  obtain⟨h1,Y,b0,o0,H,y,hcv,hy,A⟩:=A;obtain⟨rfl,rfl,_⟩:=Am hcv;have hroot:=Rel.root hr;rcases hr with⟨h0,_⟩|⟨b2,o2,cap2,F,B,hcap,hmax,hs1,hc,himm,ho⟩
  .omega
  obtain⟨rfl,rfl,_⟩:=Am B;obtain⟨y',U,W⟩:=hc i' k' h1 Y;have:y'=y:=Option.some.inj (U.symm.trans hy);subst this;refine⟨f1,h1,Y,b,o,H,y',hcv,by rw[hw _ (by have:=Np (i:=i) hk Y hne;intro h;simp at h;try omega)];exact hy,?_⟩
  simp only[hne,if_false];exact At.same W A λc hcF=>hb c λe=>(ho rfl).2.1 i' k' h1 Y (e▸hcF)
 |(i0,k0)::p,(i',k')::q,.nd s0 true sz0 n0 f0,cv,fp,s1,Z,n1,f1,c1,hr,hp,hpre,A=>by
  obtain⟨h1,Y,b0,o0,H,y,rfl,hy,A⟩:=A;obtain⟨h3,h4,b3,o3,cap3,z,hcv3,hz,hp⟩:=hp;obtain⟨rfl,rfl,_⟩:=Am hcv3;rcases hr with⟨h0,_⟩|⟨b2,o2,cap2,F,B,hcap,hmax,hs1,hc,himm,ho⟩
  .omega
  obtain⟨rfl,rfl,_⟩:=Am B;obtain⟨y',U,W⟩:=hc i' k' h1 Y;have:y'=y:=Option.some.inj (U.symm.trans hy);subst this;obtain⟨z',hz',hrz⟩:=hc i0 k0 h3 h4;have:z'=z:=Option.some.inj (hz'.symm.trans hz);subst this
  obtain⟨fz,hrn,hsub,_⟩:∃fz,Rel D w noR (.nd s true sz n f) (Av s b o n cap) fz/\(∀c,fz c->F i0 k0 c)/\True:=by
   clear hw hb
   have:∀(p:List (Nat×Nat)) (v:V) (cv:Value) (fp:Nat->Prop) (v1:V) (c1:Value),Rel D w noR v cv fp->At w p v cv v1 c1->∃fz,Rel D w noR v1 c1 fz/\(∀c,fz c->fp c):=by
    intro p
    induction p with
    |nil=>intro v cv fp v1 c1 hr A;obtain⟨rfl,rfl⟩:=A;exact⟨fp,hr,λ_ h=>h⟩
    |cons a p ih=>
     intro v cv fp v1 c1 hr A;obtain⟨i,k⟩:=a
     match v,A,hr with
     |.nd s true sz n f,A,hr=>
      obtain⟨h1,Y,b,o,cap,y,rfl,hy,A⟩:=A;rcases hr with⟨h0,_⟩|⟨b2,o2,cap2,F,B,hcap,hmax,hs1,hc,himm,ho⟩
      .omega
      obtain⟨rfl,rfl,_⟩:=Am B;obtain⟨y',U,W⟩:=hc i k h1 Y;have:y'=y:=Option.some.inj (U.symm.trans hy);subst this;obtain⟨fz,h1',h2'⟩:=ih _ _ _ _ _ W A;exact⟨fz,h1',λc hc=>((ho rfl).2.2.2 c).2 (.inr ⟨i,k,h1,Y,h2' c hc⟩)⟩
   obtain⟨fz,h1',h2'⟩:=this p _ _ _ _ _ hrz hp;exact⟨fz,h1',h2',trivial⟩
  have hbF:F i0 k0 b:=hsub b (Rel.root hrn);have hbne:b0≠b:=λe=>(ho rfl).2.1 i0 k0 h3 h4 (e▸hbF)
  have hcell:w'.cell? ⟨b0,o0+i'*sz0+k',none⟩=some y':=by rw[hw _ (by intro h;simp at h;try exact hbne h.1)];exact hy
  by_cases he:i'=i0/\k'=k0
  .obtain⟨rfl,rfl⟩:=he
   have:z'=y':=Option.some.inj (hz'.symm.trans U);subst this;obtain⟨f1',h1'⟩:=At.store hi hk hw hb p q (f0 i' k') z' _ W hp (by simpa [AN]using hpre) A
   exact⟨f1',h1,Y,b0,o0,H,z',rfl,hcell,by simpa using h1'⟩
  .refine⟨f1,h1,Y,b0,o0,H,y',rfl,hcell,?_⟩
   simp only[he,if_false];exact At.same W A λc hcF=>hb c λe=>(ho rfl).2.2.1 i' k' i0 k0 c h1 Y h3 h4 (by omega) hcF (e▸hbF)
 |_::_,_::_,.nd _ false _ _ _,_,_,_,_,_,_,_,_,_,_,h=>h.elim
 |_::_,_::_,.c _,_,_,_,_,_,_,_,_,_,_,h=>h.elim
 |_::_,_::_,.dead,_,_,_,_,_,_,_,_,_,_,h=>h.elim
 |_::_,_::_,.many ..,_,_,_,_,_,_,_,_,_,_,h=>h.elim
 |_::_,_::_,.rs ..,_,_,_,_,_,_,_,_,_,_,h=>h.elim
 |_::_,_::_,.rp ..,_,_,_,_,_,_,_,_,_,_,h=>h.elim
 |_::_,_::_,.rm ..,_,_,_,_,_,_,_,_,_,_,h=>h.elim
 |_::_,_::_,.mp ..,_,_,_,_,_,_,_,_,_,_,h=>h.elim
theorem At.storeM{D:Nat->Prop}{w w':World}{x:V}{s:Bool}{sz n:Nat}{f:Nat->Nat->V}{b o cap i k:Nat}(hi:i<n)(hk:k<sz)
  (hw:∀ad,ad≠(⟨b,o+i*sz+k,none⟩:Addr)->w'.cell? ad=w.cell? ad) (hb:∀c,c≠b->w'.heap[c]? =w.heap[c]?):
  ∀(p q:List (Nat×Nat)) (v:V) (cv:Value) (fp:Nat->Prop) {l:List (Value×Value)}{c1:Value},Rel D w noR v cv fp->At w p v cv (.nd s true sz n f) (Av s b o n cap)->
   AN (p++[(i,k)]) q=false->At w q v cv (.mp true l) c1->At w' q (upd (p++[(i,k)]) v x) cv (.mp true l) c1
 |p,[],v,cv,fp,l,c1,Z,hp,hpre,A=>by
  obtain⟨rfl,rfl⟩:=A;cases p with
  |nil=>obtain⟨h,_⟩:=hp;cases h
  |cons a p=>exact hp.elim
 |[],(i',k')::q,v,cv,fp,l,c1,Z,hp,hpre,A=>by
  obtain⟨rfl,rfl⟩:=hp
  have hne:¬ (i'=i/\k'=k):=by
   rintro ⟨rfl,rfl⟩
   simp[AN]at hpre
  obtain⟨h1,Y,b0,o0,H,y,hcv,hy,A⟩:=A;obtain⟨rfl,rfl,_⟩:=Am hcv;have hroot:=Rel.root Z;rcases Z with⟨h0,_⟩|⟨b2,o2,cap2,F,B,hcap,hmax,hs1,hc,himm,ho⟩
  .omega
  obtain⟨rfl,rfl,_⟩:=Am B;obtain⟨y',U,W⟩:=hc i' k' h1 Y;have:y'=y:=Option.some.inj (U.symm.trans hy);subst this;refine⟨h1,Y,b,o,H,y',hcv,by rw[hw _ (by have:=Np (i:=i) hk Y hne;intro h;simp at h;try omega)];exact hy,?_⟩
  simp only[hne,if_false];exact At.same W A λc hcF=>hb c λe=>(ho rfl).2.1 i' k' h1 Y (e▸hcF)
 |(i0,k0)::p,(i',k')::q,.nd s0 true sz0 n0 f0,cv,fp,l,c1,Z,hp,hpre,A=>by
  obtain⟨h1,Y,b0,o0,H,y,rfl,hy,A⟩:=A;obtain⟨h3,h4,b3,o3,cap3,z,hcv3,hz,hp⟩:=hp;obtain⟨rfl,rfl,_⟩:=Am hcv3;rcases Z with⟨h0,_⟩|⟨b2,o2,cap2,F,B,hcap,hmax,hs1,hc,himm,ho⟩
  .omega
  obtain⟨rfl,rfl,_⟩:=Am B;obtain⟨y',U,W⟩:=hc i' k' h1 Y;have:y'=y:=Option.some.inj (U.symm.trans hy);subst this;obtain⟨z',hz',hrz⟩:=hc i0 k0 h3 h4;have:z'=z:=Option.some.inj (hz'.symm.trans hz);subst this
  obtain⟨fz,hrn,hsub,_⟩:∃fz,Rel D w noR (.nd s true sz n f) (Av s b o n cap) fz/\(∀c,fz c->F i0 k0 c)/\True:=by
   clear hw hb
   have:∀(p:List (Nat×Nat)) (v:V) (cv:Value) (fp:Nat->Prop) (v1:V) (c1:Value),Rel D w noR v cv fp->At w p v cv v1 c1->∃fz,Rel D w noR v1 c1 fz/\(∀c,fz c->fp c):=by
    intro p
    induction p with
    |nil=>intro v cv fp v1 c1 Z A;obtain⟨rfl,rfl⟩:=A;exact⟨fp,Z,λ_ h=>h⟩
    |cons a p ih=>
     intro v cv fp v1 c1 Z A;obtain⟨i,k⟩:=a
     match v,A,Z with
     |.nd s true sz n f,A,Z=>
      obtain⟨h1,Y,b,o,cap,y,rfl,hy,A⟩:=A;rcases Z with⟨h0,_⟩|⟨b2,o2,cap2,F,B,hcap,hmax,hs1,hc,himm,ho⟩
      .omega
      obtain⟨rfl,rfl,_⟩:=Am B;obtain⟨y',U,W⟩:=hc i k h1 Y;have:y'=y:=Option.some.inj (U.symm.trans hy);subst this;obtain⟨fz,h1',h2'⟩:=ih _ _ _ _ _ W A;exact⟨fz,h1',λc hc=>((ho rfl).2.2.2 c).2 (.inr ⟨i,k,h1,Y,h2' c hc⟩)⟩
   obtain⟨fz,h1',h2'⟩:=this p _ _ _ _ _ hrz hp;exact⟨fz,h1',h2',trivial⟩
  have hbF:F i0 k0 b:=hsub b (Rel.root hrn);have hbne:b0≠b:=λe=>(ho rfl).2.1 i0 k0 h3 h4 (e▸hbF)
  have hcell:w'.cell? ⟨b0,o0+i'*sz0+k',none⟩=some y':=by rw[hw _ (by intro h;simp at h;try exact hbne h.1)];exact hy
  by_cases he:i'=i0/\k'=k0
  .obtain⟨rfl,rfl⟩:=he
   have:z'=y':=Option.some.inj (hz'.symm.trans U);subst this;have h1':=At.storeM (x:=x) hi hk hw hb p q (f0 i' k') z' _ W hp (by simpa [AN]using hpre) A
   exact⟨h1,Y,b0,o0,H,z',rfl,hcell,by simpa using h1'⟩
  .refine⟨h1,Y,b0,o0,H,y',rfl,hcell,?_⟩
   simp only[he,if_false];exact At.same W A λc hcF=>hb c λe=>(ho rfl).2.2.1 i' k' i0 k0 c h1 Y h3 h4 (by omega) hcF (e▸hbF)
 |_::_,_::_,.nd _ false _ _ _,_,_,_,_,_,_,_,h=>h.elim
 |_::_,_::_,.c _,_,_,_,_,_,_,_,h=>h.elim
 |_::_,_::_,.dead,_,_,_,_,_,_,_,h=>h.elim
 |_::_,_::_,.many ..,_,_,_,_,_,_,_,h=>h.elim
 |_::_,_::_,.rs ..,_,_,_,_,_,_,_,h=>h.elim
 |_::_,_::_,.rp ..,_,_,_,_,_,_,_,h=>h.elim
 |_::_,_::_,.rm ..,_,_,_,_,_,_,_,h=>h.elim
 |_::_,_::_,.mp ..,_,_,_,_,_,_,_,h=>h.elim
end Go.Ve


namespace Go.Ve
variable{σ:List V}{F:Nat->Nat->Prop}{D fp:Nat->Prop}{ρ:Nat->Value}{w w':World}
structure Ctx where
 w0:World
 W:Nat->Prop
 D0:Nat->Prop
 m:Nat
 ρ0:Nat->Value
 ok:Wok w0/\∀p,WD=some p->¬W p.1
 dfs:List Deferred
structure Fr(w0 w:World)(W:Nat->Prop):Prop where
 os:w.os=w0.os
 tape:w.tape=w0.tape
 output:w.output=w0.output
 size:w0.heap.size<=w.heap.size
 block:∀b,b<w0.heap.size->¬W b->w.heap[b]? =w0.heap[b]?
 drawn:w0.drawn<=w.drawn
def Fr.below{w0:World}{W:Nat->Prop}(h:Fr w0 w W)(A:Below w.heap.size w w'):Fr w0 w' W:=
 ⟨A.os.trans h.os,A.tape.trans h.tape,A.output.trans h.output,Nat.le_trans h.size A.size,λb B H=>(A.block b (Nat.lt_of_lt_of_le B h.size)).trans (h.block b B H),Nat.le_trans h.drawn A.drawn⟩
structure CR(C:Ctx)(σ:List V)(ts:List V)(cts:Array Value)(w:World)(D:Nat->Prop)(ρ:Nat->Value)(F:Nat->Nat->Prop):Prop where
 wr:Be σ w D ρ F
 sz:cts.size=ts.length
 tm:∀t,t<ts.length->Rel D w (Ae σ ρ w) (ts.getD t .dead) (cts.getD t undef) noF
 fr:Fr C.w0 w C.W
 Fn:∀i b,F i b->C.W b\/C.w0.heap.size<=b
 D1:∀b,C.D0 b->D b
 D2:∀b,D b->b<C.w0.heap.size->C.D0 b\/C.W b
 rt:∀i,i<C.m->ρ i=C.ρ0 i
 ml:C.m<=σ.length
def CR.ok{C:Ctx}{σ ts:List V}{cts:Array Value}{w:World}{D:Nat->Prop}{ρ:Nat->Value}{F:Nat->Nat->Prop}(h:CR C σ ts cts w D ρ F):Wok w:=
 C.ok.1.same λp A=>h.fr.block p.1 (C.ok.1.lt A) (C.ok.2 p A)
def Wi(C:Ctx)(σ:List V)(ts:List V)(cts:Array Value)(w:World):Prop:=∃D ρ F,CR C σ ts cts w D ρ F
theorem Az{l A:List V}{i:Nat}(h:i<l.length):(l++A).getD i .dead=l.getD i .dead:=by grind
def Ae.ext{s:List V}{ρ':Nat->Value}(h:∀i,i<σ.length->ρ' i=ρ i):∀v cv,Ae σ ρ w v cv->Ae (σ++s) ρ' w v cv
 |.rs id p off len,cv,⟨A,sz,n,f,H,B,r⟩=>⟨by grind,sz,n,f,H,by grind,r⟩
 |.rp id p i k,cv,⟨A,s,sz,n,f,b,o,cap,B,r⟩=>⟨by grind,s,sz,n,f,b,o,cap,by grind,r⟩
 |.rm id p,cv,⟨A,l,b,B,r⟩=>⟨by grind,l,b,by grind,r⟩
 |.mp ..,_,h=>h.elim
 |.c _,_,h=>h.elim
 |.dead,_,h=>h.elim
 |.many ..,_,h=>h.elim
 |.nd ..,_,h=>h.elim
theorem Be.push(h:Be σ w D ρ F){v:V}{cv:Value}(hr:Rel D w noR v cv fp)(h1:∀b,fp b->¬D b)(Z:∀i b,F i b->¬fp b):
  Be (σ++[v]) w D (λi=>if i=σ.length then cv else ρ i) (λi=>if i=σ.length then fp else F i):=by
 refine⟨λi hi=>?_,λi j b W A H=>?_,λi b A=>?_,h.Dlt,λi b hi A=>?_⟩
 .by_cases B:i=σ.length
  .grind
  .have U:i<σ.length:=by simp at hi;omega
   rw[Az U];simpa [B]using h.rel i U
 .by_cases B:i=σ.length<;>by_cases Y:j=σ.length<;>simp only[B,Y,if_true,if_false]at A H
  .omega
  .grind
  .exact Z i b A H
  .exact h.disj i j b W A H
 .by_cases B:i=σ.length<;>simp only[B,if_true,if_false]at A
  .exact h1 b A
  .exact h.dD i b A
 .simp at hi
  have B:i≠σ.length:=by omega
  simp only[B,if_false]at A;exact h.out i b (by omega) A
def BE(g:Nat->Nat->V×List V):Nat->Nat->List V×List V
 |0,_=>([],[])
 |n+1,m=>((BE g n m).1++[(g n (m+(BE g n m).2.length)).1],(BE g n m).2++(g n (m+(BE g n m).2.length)).2)
def prom:V->Nat->V×List V
 |.nd true true sz n f,m=>(.rs m [] 0 n,[.nd true true sz n f])
 |.nd false true sz n f,m=>if 0<sz then(.rp m [] 0 0,[.nd false true sz n f])else(.dead,[])
 |.mp true l,m=>(.rm m [],[.mp true l])
 |.many t n f,m=>(.many t n λk=>(BE (λk=>prom (f k)) n m).1.getD k .dead,(BE (λk=>prom (f k)) n m).2)
 |v,_=>(v,[])
structure BV(σ s:List V)(w:World)(D:Nat->Prop)(ρ ρ':Nat->Value)(F F':Nat->Nat->Prop)(fp:Nat->Prop):Prop where
 wr:Be (σ++s) w D ρ' F'
 rt:∀i,i<σ.length->ρ' i=ρ i
 old:∀i,i<σ.length->F' i=F i
 new:∀i b,σ.length<=i->F' i b->fp b
theorem BV.nil(h:Be σ w D ρ F)(fp:Nat->Prop):BV σ [] w D ρ ρ F F fp:=
 ⟨by grind,λ_ _=>rfl,λ_ _=>rfl,λi b hi A=>absurd A (h.out i b hi)⟩
theorem BV.trans{σ s s':List V}{w:World}{D:Nat->Prop}{ρ ρ' A:Nat->Value}{F F' F'':Nat->Nat->Prop}{fp H Y:Nat->Prop}(h:BV σ s w D ρ ρ' F F' fp)(B:BV (σ++s) s' w D ρ' A F' F'' H)(e:∀b,fp b->Y b)(Z:∀b,H b->Y b):
  BV σ (s++s') w D ρ A F F'' Y:=by
 refine⟨by rw[<-List.append_assoc];exact B.wr,λi hi=>(B.rt i (by grind)).trans (h.rt i hi),λi hi=>(B.old i (by grind)).trans (h.old i hi),λi b hi W=>?_⟩
 by_cases U:i<(σ++s).length
 .rw[B.old i U]at W;exact e b (h.new i b hi W)
 .exact Z b (B.new i b (by omega) W)
theorem Ix:∀(v:V) (σ:List V) (ρ:Nat->Value) (F:Nat->Nat->Prop) (cv:Value) (fp:Nat->Prop),Be σ w D ρ F->Rel D w (Ae σ ρ w) v cv fp->(∀b,fp b->¬D b)->(∀i b,F i b->¬fp b)->
  ∃ρ' F',BV σ (prom v σ.length).2 w D ρ ρ' F F' fp/\Rel D w (Ae (σ++(prom v σ.length).2) ρ' w) (prom v σ.length).1 cv noF:=by
 intro v
 induction v with
 |c v=>intro σ ρ F cv fp wr h _ _;exact⟨ρ,F,BV.nil wr fp,h.1,h.2.1,λ_ h=>h⟩
 |dead=>intro σ ρ F cv fp wr h _ _;exact⟨ρ,F,BV.nil wr fp,λ_ h=>h⟩
 |rs id p off len=>intro σ ρ F cv fp wr h _ _;exact⟨ρ,F,BV.nil wr fp,Ae.ext (λ_ _=>rfl) _ _ h.1,λ_ h=>h⟩
 |rp id p i k=>intro σ ρ F cv fp wr h _ _;exact⟨ρ,F,BV.nil wr fp,Ae.ext (λ_ _=>rfl) _ _ h.1,λ_ h=>h⟩
 |rm id p=>intro σ ρ F cv fp wr h _ _;exact⟨ρ,F,BV.nil wr fp,Ae.ext (λ_ _=>rfl) _ _ h.1,λ_ h=>h⟩
 |mp own l=>
  intro σ ρ F cv fp wr h h1 h2;cases own with
  |false=>
   have e:=A2 (AB _ _ _ rfl h);subst e;exact⟨ρ,F,BV.nil wr _,h⟩
  |true=>
   have A:=Be.push wr (v:=.mp true l) (cv:=cv) (fp:=fp) h h1 h2
   have U:BV σ [.mp true l] w D ρ (λi=>if i=σ.length then cv else ρ i) F (λi=>if i=σ.length then fp else F i) fp:=
    ⟨A,λi hi=>by simp[show i≠σ.length by omega],λi hi=>by simp[show i≠σ.length by omega],λi b hi B=>by
     by_cases Z:i=σ.length
     .simpa [Z]using B
     .simp only[Z,if_false]at B;exact absurd B (wr.out i b hi)⟩
   obtain⟨b,hcv,_⟩:=h;exact⟨_,_,U,⟨⟨by simp[prom],l,b,⟨by simp[prom],by simp⟩,hcv⟩,λ_ h=>h⟩⟩
 |nd s own sz n f _=>
  intro σ ρ F cv fp wr h h1 h2;cases own with
  |false=>
   have e:=A2 (AB _ _ _ rfl h);subst e;cases s<;>exact⟨ρ,F,BV.nil wr _,h⟩
  |true=>
   have A:=Be.push wr (v:=.nd s true sz n f) (cv:=cv) (fp:=fp) h h1 h2
   have U:BV σ [.nd s true sz n f] w D ρ (λi=>if i=σ.length then cv else ρ i) F (λi=>if i=σ.length then fp else F i) fp:=
    ⟨A,λi hi=>by simp[show i≠σ.length by omega],λi hi=>by simp[show i≠σ.length by omega],λi b hi B=>by
     by_cases Z:i=σ.length
     .simpa [Z]using B
     .simp only[Z,if_false]at B;exact absurd B (wr.out i b hi)⟩
   cases s with
   |true=>
    refine⟨_,_,U,⟨⟨by simp[prom],sz,n,f,cv,⟨by simp[prom],by simp⟩,by omega,?_⟩,λ_ h=>h⟩⟩
    rcases h with⟨rfl,_,hn0,_⟩|⟨b,o,cap,F2,rfl,_⟩
    .obtain rfl:=DQ hn0
     exact .inr ⟨rfl,none,rfl,λ_ _=>rfl,λp e=>by cases e⟩
    .exact .inl ⟨b,o,cap,rfl,by simp[Av]⟩
   |false=>
    unfold prom;by_cases Y:0<sz
    .simp only[Y,if_true]
     rcases h with⟨_,h,_⟩|⟨b,o,cap,F2,rfl,_,_,hn,_⟩
     .cases h
     .exact⟨_,_,U,⟨⟨by simp,false,sz,n,f,b,o,cap,⟨by simp,by simp⟩,by rw[hn rfl];exact Nat.one_pos,Y,by simp[Av]⟩,λ_ h=>h⟩⟩
    .simp only[Y,if_false]
     exact⟨ρ,F,BV.nil wr fp,λ_ h=>h⟩
 |many t n f ih=>
  intro σ ρ F cv fp wr h h1 h2;obtain⟨cs,G,hcv,hn,hr,hd,hf⟩:=h
  have key:∀j,j<=n->∃ρ' F',BV σ (BE (λk=>prom (f k)) j σ.length).2 w D ρ ρ' F F' (λb=>∃k,k<j/\G k b)/\(BE (λk=>prom (f k)) j σ.length).1.length=j/\
    ∀k,k<j->Rel D w (Ae (σ++(BE (λk=>prom (f k)) j σ.length).2) ρ' w) ((BE (λk=>prom (f k)) j σ.length).1.getD k .dead) (cs.getD k undef) noF:=by
   intro j
   induction j with
   |zero=>intro _;exact⟨ρ,F,BV.nil wr _,rfl,λk hk=>by omega⟩
   |succ j ihj=>
    intro hj;obtain⟨ρ1,F1,H,hl1,hr1⟩:=ihj (by omega)
    have hrj:Rel D w (Ae (σ++(BE (λk=>prom (f k)) j σ.length).2) ρ1 w) (f j) (cs.getD j undef) (G j):=
     Rel.mono (λ_ h=>h) (Ae.ext H.rt) _ _ _ (λ_ _=>rfl) (hr j (by omega))
    obtain⟨ρ2,F2,W,hr2⟩:=ih j (σ++(BE (λk=>prom (f k)) j σ.length).2) ρ1 F1 (cs.getD j undef) (G j) H.wr hrj (λb B=>h1 b ((hf b).2 ⟨j,by omega,B⟩)) (λi b B hb'=>by
     by_cases hi:i<σ.length
     .rw[H.old i hi]at B;exact h2 i b B ((hf b).2 ⟨j,by omega,hb'⟩)
     .obtain⟨k,hk,hkb⟩:=H.new i b (by omega) B
      exact hd k j b (by omega) (by omega) (by omega) hkb hb')
    rw[List.length_append]at W hr2;refine⟨ρ2,F2,H.trans W (λb ⟨k,hk,h⟩=>⟨k,by omega,h⟩) (λb h=>⟨j,by omega,h⟩),by simp[BE,hl1],λk hk=>?_⟩
    simp only[BE];rw[<-List.append_assoc];by_cases Z:k=j
    .subst Z
     rw[gDE,gAR (by omega)]
     simpa [hl1]using hr2
    .rw[gDE,gAL (by omega),<-gDE]
     exact Rel.mono (λ_ h=>h) (Ae.ext W.rt) _ _ _ (λ_ _=>rfl) (hr1 k (by omega))
  obtain⟨ρ',F',ok,_,hr'⟩:=key n (Nat.le_refl _);refine⟨ρ',F',⟨ok.wr,ok.rt,ok.old,λi b hi B=>(hf b).2 (ok.new i b hi B)⟩,?_⟩
  exact⟨cs,λ_=>noF,hcv,hn,λk hk=>hr' k hk,λ_ _ _ _ _ _ h=>h.elim,λb=>⟨λh=>h.elim,fun⟨_,_,h⟩=>h⟩⟩
theorem CR.res{C:Ctx}{ts:List V}{cts:Array Value}{D':Nat->Prop}(h:CR C σ ts cts w D ρ F){r:V}{v':Value}(hB:Below w.heap.size w w')(hr:Rel D' w' (Ae σ ρ w') r v' fp)
  (hf:∀b,fp b->w.heap.size<=b) (U:∀b,D b->D' b) (Z:∀b,D' b->D b\/w.heap.size<=b) (Y:∀b,D' b->b<w'.heap.size/\¬fp b) (d:Nat):
  Wi C (σ++(prom r σ.length).2) (ts.set d (prom r σ.length).1) (cts.setIfInBounds d v') w':=by
 have B:∀i b,F i b->b<w.heap.size:=h.wr.lt;have wr':Be σ w' D' ρ F:=by
  have W:=h.wr.below hB;refine⟨λi hi=>Rel.mono U (λ_ _ h=>h) _ _ _ (λ_ _=>rfl) (W.rel i hi),W.disj,λi b A hD=>?_,λb A=>(Y b A).1,W.out⟩
  rcases Z b hD with h2|h2
  .exact W.dD i b A h2
  .have:=B i b A;omega
 obtain⟨ρ',F',ok,hr'⟩:=Ix r σ ρ F v' fp wr' hr (λb A hD=>(Y b hD).2 A) (λi b A hb'=>by have:=B i b A;have:=hf b hb';omega)
 refine⟨D',ρ',F',ok.wr,by simp[h.sz],λt ht=>?_,h.fr.below hB,λi b A=>?_,λb A=>U b (h.D1 b A),λb A H=>?_,λi hi=>(ok.rt i (Nat.lt_of_lt_of_le hi h.ml)).trans (h.rt i hi),by have:=h.ml;simp;omega⟩
 .simp at ht
  by_cases he:d=t
  .subst he
   have H:d<cts.size:=by rw[h.sz];exact ht
   simpa [ht,H]using hr'
  .have W:=h.tm t ht
   simp only[gDE,List.getElem?_set_ne he,Array.getD_eq_getD_getElem?,Array.getElem?_setIfInBounds_ne he];rw[<-gDE,<-Array.getD_eq_getD_getElem?];refine Rel.mono U (λv cv hv=>Ae.ext ok.rt _ _ (Ae.same h.wr (λi b A=>hB.block b (B i b A)) v cv hv)) _ _ _ (λb A=>hB.block b ?_) W
   rcases A with A|A
   .exact h.wr.Dlt b A
   .exact A.elim
 .by_cases hi:i<σ.length
  .rw[ok.old i hi]at A;exact h.Fn i b A
  .have:=hf b (ok.new i b (by omega) A)
   right;exact Nat.le_trans h.fr.size this
 .rcases Z b A with h2|h2
  .exact h.D2 b h2 H
  .have:=h.fr.size;omega
end Go.Ve


namespace Go.Ve
variable{l:List V}{i:Nat}{D:Nat->Prop}{x:V}{w:World}
structure A9(G:V->V):Prop where
 c:∀v,G (.c v)=.c v
 dead:G .dead=.dead
 nd:∀s own sz n f,G (.nd s own sz n f)=.nd s own sz n f
 mp:∀own l,G (.mp own l)=.mp own l
 many:∀t n f,G (.many t n f)=.many t n λk=>G (f k)
theorem A9.rel{G:V->V}(H:A9 G){w':World}{R R':V->Value->Prop}(hD:∀b,D b->w'.heap[b]? =w.heap[b]?)
  (h1:∀id p off len cv,R (.rs id p off len) cv->Rel D w' R' (G (.rs id p off len)) cv noF) (h2:∀id p i k cv,R (.rp id p i k) cv->Rel D w' R' (G (.rp id p i k)) cv noF) (h3:∀id p cv,R (.rm id p) cv->Rel D w' R' (G (.rm id p)) cv noF):
  ∀(v:V) (cv:Value) (fp:Nat->Prop),(∀b,¬fp b)->Rel D w R v cv fp->Rel D w' R' (G v) cv noF:=by
 intro v
 induction v with
 |c v=>intro cv fp _ h;rw[H.c];exact⟨h.1,h.2.1,λ_ h=>h⟩
 |dead=>intro cv fp _ h;rw[H.dead];exact λ_ h=>h
 |many t n f Z=>
  intro cv fp A h;rw[H.many];obtain⟨cs,F,W,hn,hr,hd,U⟩:=h;exact⟨cs,λ_=>noF,W.mono (λ_ h=>h) hD,hn,λk Y=>Z k _ _ (λb B=>A b ((U b).2 ⟨k,Y,B⟩)) (hr k Y),λ_ _ _ _ _ _ h=>h.elim,λb=>⟨λh=>h.elim,fun⟨_,_,h⟩=>h⟩⟩
 |nd s own sz n f _=>
  intro cv fp A h;rw[H.nd];have:=A2 A;subst this;exact Rel.nd_R (Rel.mono (λ_ h=>h) (λ_ _ h=>h) _ _ _ (λb B=>hD b (B.elim id λh=>h.elim)) h)
 |rs id p off len=>intro cv fp _ h;exact h1 _ _ _ _ _ h.1
 |rp id p i k=>intro cv fp _ h;exact h2 _ _ _ _ _ h.1
 |rm id p=>intro cv fp _ h;exact h3 _ _ _ h.1
 |mp own l=>
  intro cv fp A h;rw[H.mp];have:=A2 A;subst this;exact Rel.mono (w:=w) (D:=D) (λ_ h=>h) (R:=noR) (λ_ _ h=>h.elim) _ _ _ (λb B=>hD b (B.elim id λh=>h.elim)) h
def rrV(id:Nat)(p:List (Nat×Nat))(j:Nat):V->V
 |.rs id' q off len=>if id'=id/\AN p q=true then .rs j (q.drop p.length) off len else .rs id' q off len
 |.rp id' q i k=>if id'=id/\AN p q=true then .rp j (q.drop p.length) i k else .rp id' q i k
 |.rm id' q=>if id'=id/\AN p q=true then .rm j (q.drop p.length)else .rm id' q
 |.many t n f=>.many t n λk=>rrV id p j (f k)
 |v=>v
def C6(id:Nat)(p:List (Nat×Nat))(j:Nat):A9 (rrV id p j):=⟨λ_=>rfl,rfl,λ_ _ _ _ _=>rfl,λ_ _=>rfl,λ_ _ _=>rfl⟩
theorem Ag(h:i<l.length):(l.set i x).getD i .dead=x:=by grind
theorem Ad{j:Nat}(h:i≠j):(l.set i x).getD j .dead=l.getD j .dead:=by grind
theorem CR.reroot{C:Ctx}{σ ts:List V}{cts:Array Value}{ρ:Nat->Value}{F:Nat->Nat->Prop}(h:CR C σ ts cts w D ρ F){id:Nat}{p:List (Nat×Nat)}{v1:V}{c1:Value}(hid:id<σ.length)
  (hat:At w p (σ.getD id .dead) (ρ id) v1 c1):∃ρ' F',CR C (σ.set id (upd p (σ.getD id .dead) .dead)++[sub p (σ.getD id .dead)]) (ts.map (rrV id p σ.length)) cts w D ρ' F'/\ρ' σ.length=c1/\(∀i,i<σ.length->ρ' i=ρ i)/\∀i b,F' i b->∃j,F j b:=by
 obtain⟨fp1,hr1,hsub,hput⟩:=Ds (w':=w) p _ _ _ _ _ (h.wr.rel id hid) (λb A h'=>h.wr.dD id b h' A) hat
 have hnew:=hput .dead noF (λ_ h=>h) (λb A=>A.elim) (λ_ _ _=>rfl)
 let ρ':Nat->Value:=λi=>if i=σ.length then c1 else ρ i
 let F':Nat->Nat->Prop:=λi=>if i=σ.length then fp1 else if i=id then λb=>(F id b/\¬fp1 b)\/noF b else F i
 have hsubeq:sub p (σ.getD id .dead)=v1:=(At.sub hat).symm;have W:∀i b,F' i b->∃j,F j b:=by
  intro i b A;simp only[F']at A;split at A
  .exact⟨id,hsub b A⟩
  .split at A
   .exact⟨id,A.elim (λh=>h.1) λh=>h.elim⟩
   .exact⟨i,A⟩
 have wr':Be (σ.set id (upd p (σ.getD id .dead) .dead)++[sub p (σ.getD id .dead)]) w D ρ' F':=by
  refine⟨λi hi=>?_,λi j b hij A B=>?_,λi b A hD=>?_,h.wr.Dlt,λi b hi A=>?_⟩
  .by_cases he:i=σ.length
   .subst he
    simp only[ρ',F',if_true];rw[hsubeq];simpa using hr1
   .have hi':i<σ.length:=by simp at hi;omega
    rw[Az (by simpa using hi')]
    simp only[ρ',F',he,if_false];by_cases he2:i=id
    .subst he2
     rw[Ag hid];simpa using hnew
    .rw[Ad (Ne.symm he2)]
     simpa [he2]using h.wr.rel i hi'
  .simp only[F']at A B
   by_cases he:i=σ.length<;>by_cases he':j=σ.length
   .omega
   .simp only[he,if_true,he',if_false]at A B
    split at B
    .rcases B with B|B
     .exact B.2 A
     .exact B
    .exact h.wr.disj id j b (λe=>by rename_i hne;exact hne e.symm) (hsub b A) B
   .simp only[he',if_true,he,if_false]at A B
    split at A
    .rcases A with A|A
     .exact A.2 B
     .exact A
    .exact h.wr.disj i id b (by assumption) A (hsub b B)
   .simp only[he,he',if_false]at A B
    have e1:F i b:=by
     split at A
     .rename_i e;subst e;exact A.elim (λh=>h.1) λh=>h.elim
     .exact A
    have e2:F j b:=by
     split at B
     .rename_i e;subst e;exact B.elim (λh=>h.1) λh=>h.elim
     .exact B
    exact h.wr.disj i j b hij e1 e2
  .obtain⟨j,hj⟩:=W i b A;exact h.wr.dD j b hj hD
  .simp at hi
   simp only[F',show i≠σ.length by omega,show i≠id by omega,if_false]at A
   exact h.wr.out i b (by omega) A
 refine⟨ρ',F',⟨wr',by simpa using h.sz,λt ht=>?_,h.fr,λi b A=>?_,h.D1,h.D2,λi hi=>?_,by have:=h.ml;simp;omega⟩,by simp[ρ'],λi hi=>by simp[ρ',show i≠σ.length by omega],W⟩
 .simp at ht
  have e1:(ts.map (rrV id p σ.length)).getD t .dead=rrV id p σ.length (ts.getD t .dead):=by simp[ht]
  rw[e1];have U:(σ.set id (upd p (σ.getD id .dead) .dead)++[sub p (σ.getD id .dead)]).length=σ.length+1:=by simp
  have hge:(σ.set id (upd p (σ.getD id .dead) .dead)++[sub p (σ.getD id .dead)]).getD σ.length .dead=v1:=by rw[<-hsubeq];simp
  -- one reference
  have key:∀(id':Nat) (q:List (Nat×Nat)) (s:Bool) (sz n:Nat) (f:Nat->Nat->V) (c:Value),id'<σ.length->At w q (σ.getD id' .dead) (ρ id') (.nd s true sz n f) c->
    (id'=id/\AN p q=true->At w (q.drop p.length) v1 c1 (.nd s true sz n f) c)/\
    (¬ (id'=id/\AN p q=true)->∃f',At w q ((σ.set id (upd p (σ.getD id .dead) .dead)++[sub p (σ.getD id .dead)]).getD id' .dead) (ρ' id') (.nd s true sz n f') c):=by
   intro id' q s sz n f c H Z;constructor
   .rintro ⟨rfl,hpre⟩
    rw[CG hpre]at Z;exact At.split Z hat
   .intro hn
    rw[Az (by simpa using H)]
    have eρ:ρ' id'=ρ id':=by simp[ρ',show id'≠σ.length by omega]
    rw[eρ];by_cases he:id'=id
    .subst he
     rw[Ag hid];exact At.keep p q _ _ (At.ok hat) (by simpa using hn) Z
    .rw[Ad (Ne.symm he)]
     exact⟨f,Z⟩
  have keyM:∀(id':Nat) (q:List (Nat×Nat)) (l:List (Value×Value)) (c:Value),id'<σ.length->At w q (σ.getD id' .dead) (ρ id') (.mp true l) c->
    (id'=id/\AN p q=true->At w (q.drop p.length) v1 c1 (.mp true l) c)/\
    (¬ (id'=id/\AN p q=true)->At w q ((σ.set id (upd p (σ.getD id .dead) .dead)++[sub p (σ.getD id .dead)]).getD id' .dead) (ρ' id') (.mp true l) c):=by
   intro id' q l c H Z;constructor
   .rintro ⟨rfl,hpre⟩
    rw[CG hpre]at Z;exact At.split Z hat
   .intro hn
    rw[Az (by simpa using H)]
    have eρ:ρ' id'=ρ id':=by simp[ρ',show id'≠σ.length by omega]
    rw[eρ];by_cases he:id'=id
    .subst he
     rw[Ag hid];exact At.keepM p q _ _ (At.ok hat) (by simpa using hn) Z
    .rw[Ad (Ne.symm he)]
     exact Z
  refine(C6 id p σ.length).rel (λ_ _=>rfl) ?_ ?_ ?_ _ _ noF (λ_ h=>h) (h.tm t ht)
  .rintro id' q off len cv ⟨H,sz,n,f,cn,Z,hle,Y⟩
   obtain⟨k1,k2⟩:=key id' q true sz n f cn H Z;simp only[rrV];split
   .rename_i hc
    exact⟨⟨by rw[U];omega,sz,n,f,cn,by rw[hge];simpa [ρ']using k1 hc,hle,Y⟩,λ_ h=>h⟩
   .rename_i hc
    obtain⟨f',ha'⟩:=k2 hc;exact⟨⟨by rw[U];omega,sz,n,f',cn,ha',hle,Y⟩,λ_ h=>h⟩
  .rintro id' q i k cv ⟨H,s,sz,n,f,b,o,cap,Z,hi,hk,Y⟩
   obtain⟨k1,k2⟩:=key id' q s sz n f _ H Z;simp only[rrV];split
   .rename_i hc
    exact⟨⟨by rw[U];omega,s,sz,n,f,b,o,cap,by rw[hge];simpa [ρ']using k1 hc,hi,hk,Y⟩,λ_ h=>h⟩
   .rename_i hc
    obtain⟨f',ha'⟩:=k2 hc;exact⟨⟨by rw[U];omega,s,sz,n,f',b,o,cap,ha',hi,hk,Y⟩,λ_ h=>h⟩
  .rintro id' q cv ⟨H,l,b,Z,Y⟩
   obtain⟨k1,k2⟩:=keyM id' q l _ H Z;simp only[rrV];split
   .rename_i hc
    exact⟨⟨by rw[U];omega,l,b,by rw[hge];simpa [ρ']using k1 hc,Y⟩,λ_ h=>h⟩
   .rename_i hc
    exact⟨⟨by rw[U];omega,l,b,k2 hc,Y⟩,λ_ h=>h⟩
 .obtain⟨j,hj⟩:=W i b A;exact h.Fn j b hj
 .have:=h.ml
  simp only[ρ',show i≠σ.length by omega,if_false]
  exact h.rt i hi
end Go.Ve

