/- Calls by contract in the small machine. -/
import Derived.Test.YtojjlnbnneemaaaVh
set_option linter.all false
namespace Go.Ve
variable{xs:Array Operand}{ats:Array TypeId}{f:FuncId}{vs:List V}{y:Operand}{fv v:V}
def Be(P:Program)(f:FuncId):Bool:=
 match P.funcs[f]? with
 | some fn => !(fn.name == "runtime.NumGoroutine") && fn.body.isSome
 |none=>false
section ops
variable {P:Program}{o:Oper}{a:Act}{w:World}{σ:List V}{D:Nat->Prop}{ρ:Nat->Value}{F:Nat->Nat->Prop}{K:V->Prop}
theorem NW{R:V->Value->Prop}{cv:Value}{fp:Nat->Prop}(h:AU v=false)(u:Rel D w R v cv fp):∀b,¬fp b:=by
 have:∀v,AU v=false->AN v=false:=by
  intro v
  induction v with
  |many t n f A=>
   intro h;unfold AU at h;unfold AN
   grind
  |nd s own sz n f _=>intro h;exact h
  |mp own l=>intro h;exact h
  |_=>intro _;rfl
 exact AF _ _ _ (this _ h) u
def Call(P:Program)(f:FuncId)(la:Bool)(vs:List V)(K:V->Prop):Prop:=
 ∃r,(Be P f=true/\FC P f vs r)/\(la=true->BH r)/\K r
def XY(σ:List V)(w:World)(D:Nat->Prop)(ρ:Nat->Value)(F:Nat->Nat->Prop)(vs:List V)(cs:Array Value):Prop:=
 cs.size=vs.length/\∀j,j<vs.length->OpR σ w D ρ F (vs.getD j .dead) (cs.getD j undef)
theorem PE(hk:Wok w)(wr:Bu σ w D ρ F){cvs:Array Value}(A:Be P f=true->(execOp a.eval o).run P w=.ok (.enter f cvs) w)(hv:XY σ w D ρ F vs cvs)
  (h:Call P f (vs.any AU) (vs.map (Ce σ)) K):∃r,K r/\Av P o a w σ D ρ r:=by
 obtain⟨r,⟨E,W⟩,hla,hK⟩:=h;refine⟨r,hK,λnext Q hn=>?_⟩
 have A:=A E;unfold Oper.wp;rw[A,Oper.upon_enter]
 let D2:Nat->Prop:=λb=>D b\/(vs.any AU=true/\((∃j fp,j<vs.length/\Rel D w (Aq σ ρ w) (vs.getD j .dead) (cvs.getD j undef) fp/\fp b)\/∃i,F i b))
 have J:∀i,i<(vs.map (Ce σ)).length->Rel D2 w noR ((vs.map (Ce σ)).getD i .dead) (cvs.getD i undef) noF:=by
  intro i U;simp at U;obtain⟨fp,B,hfD,hfF⟩:=hv.2 i U;have e1:(vs.map (Ce σ)).getD i .dead=Ce σ (vs.getD i .dead):=by simp[U]
  rw[e1]
  have O:AU (vs.getD i .dead)=true\/∀b,¬fp b:=by
   cases h:AU (vs.getD i .dead)with
   |true=>exact .inl rfl
   |false=>exact .inr (NW h B)
  refine Rel.mono (λb u=>u.imp id fun⟨h1,h2⟩=>⟨?_,h2.imp (λh=>⟨i,fp,U,B,h⟩) id⟩) (λ_ _ h=>h) _ _ _ (λ_ _=>rfl) (YW wr _ _ _ B O)
  grind
 have hD2:∀b,D2 b->b<w.heap.size:=by
  rintro b (u|⟨_,⟨j,fp,hj,B,u⟩|⟨i,u⟩⟩)
  .exact wr.Dlt b u
  .exact Rel.lt _ _ _ B b u
  .exact wr.lt i b u
 refine(W w D2 cvs hk hD2 (by rw[hv.1];simp) J).mono ?_
 rintro e w' ⟨cv,fp,D',rfl,hB,B,Y,hd1,hd2,Z⟩
 cases O:vs.any AU with
 |false=>
  refine hn cv w' D' fp hB (Rel.noR_mono B) Y (λb u=>hd1 b (.inl u)) (λb u=>?_) Z
  rcases hd2 b u with(h|⟨h,_⟩)|h
  .exact .inl h
  .rw[O]at h;cases h
  .exact .inr h
 |true=>
  refine hn cv w' D fp hB (Rel.noR_mono (Rel.ownOnly' r _ _ _ _ (hla O) B)) Y (λ_ h=>h) (λ_ h=>.inl h) λb u=>⟨Nat.lt_of_lt_of_le (wr.Dlt b u) hB.size,λh=>?_⟩
  have:=wr.Dlt b u;have:=Y b h;omega
theorem Xv{cs:Array Value}(J:o.op=.call {callee:=.value y,args:=xs,argTypes:=ats})(E:a.eval y=.func (.func f) #[] cs)(u:Be P f=true):
  (execOp a.eval o).run P w=.ok (.enter f (xs.map a.eval++cs)) w:=by
 unfold Be at u;split at u
 .rename_i fn A
  have B:fn.body.isNone=false:=by simp_all
  unfold execOp;rw[J];simp[resolve,E,Deferred.ofValue,invoke,callFunc,A,B]
  grind
 grind
theorem U8(B:Wok w)(wr:Bu σ w D ρ F)(A:o.op=.call {callee:=.value (.func f),args:=xs,argTypes:=ats})(u:XY σ w D ρ F vs (xs.map a.eval))
  (h:Call P f (vs.any AU) (vs.map (Ce σ)) K):∃r,K r/\Av P o a w σ D ρ r:=
 PE B wr (λE=>by
  have:=Xv (a:=a) (w:=w) A rfl E
  grind) u h
def ZO(_:Program)(_:List V)(_:V)(_:List V)(_:V->Prop):Prop:=False
def NC(E:Wok w)(wr:Bu σ w D ρ F){vs:List V}(B:o.op=.call {callee:=.value y,args:=xs,argTypes:=ats})(u:OpR σ w D ρ F fv (a.eval y))
  (A:XY σ w D ρ F vs (xs.map a.eval)) (h:ZO P σ fv vs K):∃r,K r/\Av P o a w σ D ρ r:=False.elim h
def qMkF(_:Nat)(_:List V)(_:V->Prop):Prop:=False
def Uq(wr:Bu σ w D ρ F){g:Nat}{cs:List V}(A:o.op=.makeFunc (.func g) #[] xs)(u:XY σ w D ρ F cs (xs.map a.eval))(h:qMkF g cs K):∃r,K r/\Av P o a w σ D ρ r:=False.elim h
def metF(P:Program)(t:TypeId)(name:String):Option FuncId:=match P.info? t,P.underlying t with
 |some i,some (.pointer _)=>match i.methods.find? (·.name==name)with
  |some m=>match m.path.toList,m.func with
   |[],some (f,true)=>some f
   |_,_=>none
  |none=>none
 |_,_=>none
def qMkI(_:Program)(_:TypeId)(_:V)(_:V->Prop):Prop:=False
def Up(wr:Bu σ w D ρ F){t:TypeId}{x:Operand}(A:o.op=.makeInterface t x)(u:OpR σ w D ρ F v (a.eval x))(h:qMkI P t v K):∃r,K r/\Av P o a w σ D ρ r:=False.elim h
def ZP(_:Program)(_:List V)(_:V)(_:String)(_:List V)(_:V->Prop):Prop:=False
def ND(E:Wok w)(wr:Bu σ w D ρ F){vs:List V}{name:String}(B:o.op=.call {callee:=.invoke y name,args:=xs,argTypes:=ats})(u:OpR σ w D ρ F fv (a.eval y))
  (A:XY σ w D ρ F vs (xs.map a.eval)) (h:ZP P σ fv name vs K):∃r,K r/\Av P o a w σ D ρ r:=False.elim h
end ops
end Go.Ve


namespace Go.Ve
def AT:List (Nat×Nat)->List (Nat×Nat)->Bool
 |[],_=>true
 |(i,k)::p,(j,l)::q=>i==j&&k==l&&AT p q
 |_::_,[]=>false
def Cv:∀{p q:List (Nat×Nat)},AT p q=true->q=p++q.drop p.length
 |[],_,_=>rfl
 |(i,k)::p,(j,l)::q,h=>by
  simp[AT,beq_iff_eq]at h;obtain⟨⟨rfl,rfl⟩,h⟩:=h;simp[<-Cv h]
 |_::_,[],h=>by cases h
theorem At.split{w:World}:∀{p q:List (Nat×Nat)}{v:V}{cv:Value}{v':V}{B:Value}{O:V}{c1:Value},At w (p++q) v cv v' B->At w p v cv O c1->At w q O c1 v' B
 |[],_,_,_,_,_,_,_,h,A=>by obtain⟨rfl,rfl⟩:=A;grind
 |(i,k)::p,q,.nd s true sz n f,_,_,_,_,_,h,A=>by
  obtain⟨_,_,b,o,cap,x,J,W,h⟩:=h;obtain⟨_,_,b',Z,U,Y,u,E,A⟩:=A;subst J;obtain⟨rfl,rfl,_⟩:=Aw u;have:=Option.some.inj (E.symm.trans W);subst this;exact At.split h A
 |_::_,_,.nd _ false _ _ _,_,_,_,_,_,h,_=>h.elim
 |_::_,_,.c _,_,_,_,_,_,h,_=>h.elim
 |_::_,_,.dead,_,_,_,_,_,h,_=>h.elim
 |_::_,_,.many ..,_,_,_,_,_,h,_=>h.elim
 |_::_,_,.rs ..,_,_,_,_,_,h,_=>h.elim
 |_::_,_,.rp ..,_,_,_,_,_,h,_=>h.elim
theorem At.keep{w:World}{x:V}:∀(p q:List (Nat×Nat)) (v:V) (cv:Value) {s:Bool}{sz n:Nat}{f:Nat->Nat->V}{c:Value},Kb p v->AT p q=false->At w q v cv (.nd s true sz n f) c->
  ∃O,At w q (upd p v x) cv (.nd s true sz n O) c
 |[],_,_,_,_,_,_,_,_,_,h,_=>by cases h
 |(i,k)::p,[],.nd s0 o0 sz0 n0 f0,_,_,_,_,_,_,_,_,B=>by
  obtain⟨E,rfl⟩:=B;cases E;exact⟨_,rfl,rfl⟩
 |(i,k)::p,(i',k')::q,.nd s0 true sz0 n0 f0,cv,s,sz,n,f,c,u,hpre,B=>by
  obtain⟨E,W,b,o,cap,y,A,U,B⟩:=B;obtain⟨_,_,_,u⟩:=u;by_cases Y:i'=i/\k'=k
  .obtain⟨rfl,rfl⟩:=Y
   obtain⟨O,J⟩:=At.keep p q (f0 i' k') y u (by simpa [AT]using hpre) B
   exact⟨O,E,W,b,o,cap,y,A,U,by simpa using J⟩
  .exact⟨f,E,W,b,o,cap,y,A,U,by grind⟩
 |_::_,_::_,.nd _ false _ _ _,_,_,_,_,_,_,_,_,h=>h.elim
 |_::_,_,.c _,_,_,_,_,_,_,u,_,_=>u.elim
 |_::_,_,.dead,_,_,_,_,_,_,u,_,_=>u.elim
 |_::_,_,.many ..,_,_,_,_,_,_,u,_,_=>u.elim
 |_::_,_,.rs ..,_,_,_,_,_,_,u,_,_=>u.elim
 |_::_,_,.rp ..,_,_,_,_,_,_,u,_,_=>u.elim
theorem At.keepM{w:World}{x:V}:∀(p q:List (Nat×Nat)) (v:V) (cv:Value) {l:List (Value×Value)}{c:Value},Kb p v->AT p q=false->At w q v cv (.mp true l) c->
  At w q (upd p v x) cv (.mp true l) c
 |[],_,_,_,_,_,_,h,_=>by cases h
 |(i,k)::p,[],.nd s0 o0 sz0 n0 f0,_,_,_,_,_,B=>by
  obtain⟨E,_⟩:=B;cases E
 |(i,k)::p,(i',k')::q,.nd s0 true sz0 n0 f0,cv,l,c,u,hpre,B=>by
  obtain⟨E,U,b,o,cap,y,A,O,B⟩:=B;obtain⟨_,_,_,u⟩:=u;by_cases W:i'=i/\k'=k
  .obtain⟨rfl,rfl⟩:=W
   have J:=At.keepM (x:=x) p q (f0 i' k') y u (by simpa [AT]using hpre) B
   exact⟨E,U,b,o,cap,y,A,O,by simpa using J⟩
  .exact⟨E,U,b,o,cap,y,A,O,by grind⟩
 |_::_,_::_,.nd _ false _ _ _,_,_,_,_,_,h=>h.elim
 |_::_,_,.c _,_,_,_,u,_,_=>u.elim
 |_::_,_,.dead,_,_,_,u,_,_=>u.elim
 |_::_,_,.many ..,_,_,_,u,_,_=>u.elim
 |_::_,_,.rs ..,_,_,_,u,_,_=>u.elim
 |_::_,_,.rp ..,_,_,_,u,_,_=>u.elim
 |_::_,_,.rm ..,_,_,_,u,_,_=>u.elim
 |_::_,_,.mp ..,_,_,_,u,_,_=>u.elim
theorem MF{sz i k i' k':Nat}(A:k<sz)(u:k'<sz)(h:¬ (i'=i/\k'=k)):i'*sz+k'≠i*sz+k:=by
 intro J;have E:(i'*sz+k') % sz=(i*sz+k) % sz:=by grind
 rw[Nat.mul_comm i',Nat.mul_comm i,Nat.mul_add_mod,Nat.mul_add_mod,Nat.mod_eq_of_lt u,Nat.mod_eq_of_lt A]at E;have B:(i'*sz+k')/sz=(i*sz+k)/sz:=by grind
 rw[Nat.mul_comm i',Nat.mul_comm i,Nat.mul_add_div (by omega),Nat.mul_add_div (by omega),Nat.div_eq_of_lt u,Nat.div_eq_of_lt A]at B
 omega
theorem At.store{D:Nat->Prop}{w w':World}{x:V}{s:Bool}{sz n:Nat}{f:Nat->Nat->V}{b o cap i k:Nat}(hi:i<n)(hk:k<sz)
  (hw:∀ad,ad≠(⟨b,o+i*sz+k,none⟩:Addr)->w'.cell? ad=w.cell? ad) (hb:∀c,c≠b->w'.heap[c]? =w.heap[c]?):
  ∀(p q:List (Nat×Nat)) (v:V) (cv:Value) (fp:Nat->Prop) {s1:Bool}{U n1:Nat}{f1:Nat->Nat->V}{c1:Value},Rel D w noR v cv fp->At w p v cv (.nd s true sz n f) (AC s b o n cap)->
   AT (p++[(i,k)]) q=false->At w q v cv (.nd s1 true U n1 f1) c1->∃f1',At w' q (upd (p++[(i,k)]) v x) cv (.nd s1 true U n1 f1') c1
 |p,[],v,cv,fp,s1,U,n1,f1,c1,W,hp,hpre,u=>by
  obtain⟨rfl,rfl⟩:=u;cases p with
  |nil=>exact⟨_,rfl,rfl⟩
  |cons a p=>exact⟨_,rfl,rfl⟩
 |[],(i',k')::q,v,cv,fp,s1,U,n1,f1,c1,W,hp,hpre,u=>by
  obtain⟨rfl,rfl⟩:=hp
  have hne:¬ (i'=i/\k'=k):=by
   rintro ⟨rfl,rfl⟩
   simp[AT]at hpre
  obtain⟨h1,O,b0,o0,B,y,hcv,hy,u⟩:=u;obtain⟨rfl,rfl,_⟩:=Aw hcv;have hroot:=Rel.root W;rcases W with⟨h0,_⟩|⟨b2,o2,cap2,F,A,hcap,hmax,hs1,hc,himm,ho⟩
  .omega
  obtain⟨rfl,rfl,_⟩:=Aw A;obtain⟨y',E,J⟩:=hc i' k' h1 O;have:y'=y:=Option.some.inj (E.symm.trans hy);subst this;refine⟨f1,h1,O,b,o,B,y',hcv,by rw[hw _ (by have:=MF (i:=i) hk O hne;intro h;simp at h;try omega)];exact hy,?_⟩
  simp only[hne,if_false];exact At.same J u λc hcF=>hb c λe=>(ho rfl).2.1 i' k' h1 O (e▸hcF)
 |(i0,k0)::p,(i',k')::q,.nd s0 true sz0 n0 f0,cv,fp,s1,U,n1,f1,c1,W,hp,hpre,u=>by
  obtain⟨h1,O,b0,o0,B,y,rfl,hy,u⟩:=u;obtain⟨h3,h4,b3,o3,cap3,z,hcv3,hz,hp⟩:=hp;obtain⟨rfl,rfl,_⟩:=Aw hcv3;rcases W with⟨h0,_⟩|⟨b2,o2,cap2,F,A,hcap,hmax,hs1,hc,himm,ho⟩
  .omega
  obtain⟨rfl,rfl,_⟩:=Aw A;obtain⟨y',E,J⟩:=hc i' k' h1 O;have:y'=y:=Option.some.inj (E.symm.trans hy);subst this;obtain⟨z',hz',hrz⟩:=hc i0 k0 h3 h4;have:z'=z:=Option.some.inj (hz'.symm.trans hz);subst this
  obtain⟨fz,hrn,hsub,_⟩:∃fz,Rel D w noR (.nd s true sz n f) (AC s b o n cap) fz/\(∀c,fz c->F i0 k0 c)/\True:=by
   clear hw hb
   have:∀(p:List (Nat×Nat)) (v:V) (cv:Value) (fp:Nat->Prop) (v1:V) (c1:Value),Rel D w noR v cv fp->At w p v cv v1 c1->∃fz,Rel D w noR v1 c1 fz/\(∀c,fz c->fp c):=by
    intro p
    induction p with
    |nil=>intro v cv fp v1 c1 W u;obtain⟨rfl,rfl⟩:=u;exact⟨fp,W,λ_ h=>h⟩
    |cons a p ih=>
     intro v cv fp v1 c1 W u;obtain⟨i,k⟩:=a
     match v,u,W with
     |.nd s true sz n f,u,W=>
      obtain⟨h1,O,b,o,cap,y,rfl,hy,u⟩:=u;rcases W with⟨h0,_⟩|⟨b2,o2,cap2,F,A,hcap,hmax,hs1,hc,himm,ho⟩
      .omega
      obtain⟨rfl,rfl,_⟩:=Aw A;obtain⟨y',E,J⟩:=hc i k h1 O;have:y'=y:=Option.some.inj (E.symm.trans hy);subst this;obtain⟨fz,Z,h2'⟩:=ih _ _ _ _ _ J u;exact⟨fz,Z,λc hc=>((ho rfl).2.2.2 c).2 (.inr ⟨i,k,h1,O,h2' c hc⟩)⟩
   obtain⟨fz,Z,h2'⟩:=this p _ _ _ _ _ hrz hp;exact⟨fz,Z,h2',trivial⟩
  have hbF:F i0 k0 b:=hsub b (Rel.root hrn);have hbne:b0≠b:=λe=>(ho rfl).2.1 i0 k0 h3 h4 (e▸hbF)
  have Y:w'.cell? ⟨b0,o0+i'*sz0+k',none⟩=some y':=by rw[hw _ (by intro h;simp at h;try exact hbne h.1)];exact hy
  by_cases he:i'=i0/\k'=k0
  .obtain⟨rfl,rfl⟩:=he
   have:z'=y':=Option.some.inj (hz'.symm.trans E);subst this;obtain⟨f1',Z⟩:=At.store hi hk hw hb p q (f0 i' k') z' _ J hp (by simpa [AT]using hpre) u
   exact⟨f1',h1,O,b0,o0,B,z',rfl,Y,by simpa using Z⟩
  .refine⟨f1,h1,O,b0,o0,B,y',rfl,Y,?_⟩
   simp only[he,if_false];exact At.same J u λc hcF=>hb c λe=>(ho rfl).2.2.1 i' k' i0 k0 c h1 O h3 h4 (by omega) hcF (e▸hbF)
 |_::_,_::_,.nd _ false _ _ _,_,_,_,_,_,_,_,_,_,_,h=>h.elim
 |_::_,_::_,.c _,_,_,_,_,_,_,_,_,_,_,h=>h.elim
 |_::_,_::_,.dead,_,_,_,_,_,_,_,_,_,_,h=>h.elim
 |_::_,_::_,.many ..,_,_,_,_,_,_,_,_,_,_,h=>h.elim
 |_::_,_::_,.rs ..,_,_,_,_,_,_,_,_,_,_,h=>h.elim
 |_::_,_::_,.rp ..,_,_,_,_,_,_,_,_,_,_,h=>h.elim
 |_::_,_::_,.rm ..,_,_,_,_,_,_,_,_,_,_,h=>h.elim
 |_::_,_::_,.mp ..,_,_,_,_,_,_,_,_,_,_,h=>h.elim
theorem At.storeM{D:Nat->Prop}{w w':World}{x:V}{s:Bool}{sz n:Nat}{f:Nat->Nat->V}{b o cap i k:Nat}(hi:i<n)(hk:k<sz)
  (hw:∀ad,ad≠(⟨b,o+i*sz+k,none⟩:Addr)->w'.cell? ad=w.cell? ad) (hb:∀c,c≠b->w'.heap[c]? =w.heap[c]?):
  ∀(p q:List (Nat×Nat)) (v:V) (cv:Value) (fp:Nat->Prop) {l:List (Value×Value)}{c1:Value},Rel D w noR v cv fp->At w p v cv (.nd s true sz n f) (AC s b o n cap)->
   AT (p++[(i,k)]) q=false->At w q v cv (.mp true l) c1->At w' q (upd (p++[(i,k)]) v x) cv (.mp true l) c1
 |p,[],v,cv,fp,l,c1,U,hp,hpre,u=>by
  obtain⟨rfl,rfl⟩:=u;cases p with
  |nil=>obtain⟨h,_⟩:=hp;cases h
  |cons a p=>exact hp.elim
 |[],(i',k')::q,v,cv,fp,l,c1,U,hp,hpre,u=>by
  obtain⟨rfl,rfl⟩:=hp
  have hne:¬ (i'=i/\k'=k):=by
   rintro ⟨rfl,rfl⟩
   simp[AT]at hpre
  obtain⟨Z,O,b0,o0,B,y,hcv,hy,u⟩:=u;obtain⟨rfl,rfl,_⟩:=Aw hcv;have hroot:=Rel.root U;rcases U with⟨h0,_⟩|⟨b2,o2,cap2,F,A,hcap,hmax,hs1,hc,himm,ho⟩
  .omega
  obtain⟨rfl,rfl,_⟩:=Aw A;obtain⟨y',E,J⟩:=hc i' k' Z O;have:y'=y:=Option.some.inj (E.symm.trans hy);subst this;refine⟨Z,O,b,o,B,y',hcv,by rw[hw _ (by have:=MF (i:=i) hk O hne;intro h;simp at h;try omega)];exact hy,?_⟩
  simp only[hne,if_false];exact At.same J u λc hcF=>hb c λe=>(ho rfl).2.1 i' k' Z O (e▸hcF)
 |(i0,k0)::p,(i',k')::q,.nd s0 true sz0 n0 f0,cv,fp,l,c1,U,hp,hpre,u=>by
  obtain⟨Z,O,b0,o0,B,y,rfl,hy,u⟩:=u;obtain⟨h3,h4,b3,o3,cap3,z,hcv3,hz,hp⟩:=hp;obtain⟨rfl,rfl,_⟩:=Aw hcv3;rcases U with⟨h0,_⟩|⟨b2,o2,cap2,F,A,hcap,hmax,hs1,hc,himm,ho⟩
  .omega
  obtain⟨rfl,rfl,_⟩:=Aw A;obtain⟨y',E,J⟩:=hc i' k' Z O;have:y'=y:=Option.some.inj (E.symm.trans hy);subst this;obtain⟨z',hz',hrz⟩:=hc i0 k0 h3 h4;have:z'=z:=Option.some.inj (hz'.symm.trans hz);subst this
  obtain⟨fz,hrn,hsub,_⟩:∃fz,Rel D w noR (.nd s true sz n f) (AC s b o n cap) fz/\(∀c,fz c->F i0 k0 c)/\True:=by
   clear hw hb
   have:∀(p:List (Nat×Nat)) (v:V) (cv:Value) (fp:Nat->Prop) (v1:V) (c1:Value),Rel D w noR v cv fp->At w p v cv v1 c1->∃fz,Rel D w noR v1 c1 fz/\(∀c,fz c->fp c):=by
    intro p
    induction p with
    |nil=>intro v cv fp v1 c1 U u;obtain⟨rfl,rfl⟩:=u;exact⟨fp,U,λ_ h=>h⟩
    |cons a p ih=>
     intro v cv fp v1 c1 U u;obtain⟨i,k⟩:=a
     match v,u,U with
     |.nd s true sz n f,u,U=>
      obtain⟨Z,O,b,o,cap,y,rfl,hy,u⟩:=u;rcases U with⟨h0,_⟩|⟨b2,o2,cap2,F,A,hcap,hmax,hs1,hc,himm,ho⟩
      .omega
      obtain⟨rfl,rfl,_⟩:=Aw A;obtain⟨y',E,J⟩:=hc i k Z O;have:y'=y:=Option.some.inj (E.symm.trans hy);subst this;obtain⟨fz,Y,h2'⟩:=ih _ _ _ _ _ J u;exact⟨fz,Y,λc hc=>((ho rfl).2.2.2 c).2 (.inr ⟨i,k,Z,O,h2' c hc⟩)⟩
   obtain⟨fz,Y,h2'⟩:=this p _ _ _ _ _ hrz hp;exact⟨fz,Y,h2',trivial⟩
  have hbF:F i0 k0 b:=hsub b (Rel.root hrn);have hbne:b0≠b:=λe=>(ho rfl).2.1 i0 k0 h3 h4 (e▸hbF)
  have W:w'.cell? ⟨b0,o0+i'*sz0+k',none⟩=some y':=by rw[hw _ (by intro h;simp at h;try exact hbne h.1)];exact hy
  by_cases he:i'=i0/\k'=k0
  .obtain⟨rfl,rfl⟩:=he
   have:z'=y':=Option.some.inj (hz'.symm.trans E);subst this;have Y:=At.storeM (x:=x) hi hk hw hb p q (f0 i' k') z' _ J hp (by simpa [AT]using hpre) u
   exact⟨Z,O,b0,o0,B,z',rfl,W,by simpa using Y⟩
  .refine⟨Z,O,b0,o0,B,y',rfl,W,?_⟩
   simp only[he,if_false];exact At.same J u λc hcF=>hb c λe=>(ho rfl).2.2.1 i' k' i0 k0 c Z O h3 h4 (by omega) hcF (e▸hbF)
 |_::_,_::_,.nd _ false _ _ _,_,_,_,_,_,_,_,h=>h.elim
 |_::_,_::_,.c _,_,_,_,_,_,_,_,h=>h.elim
 |_::_,_::_,.dead,_,_,_,_,_,_,_,h=>h.elim
 |_::_,_::_,.many ..,_,_,_,_,_,_,_,h=>h.elim
 |_::_,_::_,.rs ..,_,_,_,_,_,_,_,h=>h.elim
 |_::_,_::_,.rp ..,_,_,_,_,_,_,_,h=>h.elim
 |_::_,_::_,.rm ..,_,_,_,_,_,_,_,h=>h.elim
 |_::_,_::_,.mp ..,_,_,_,_,_,_,_,h=>h.elim
end Go.Ve


namespace Go.Ve
variable{σ:List V}{F:Nat->Nat->Prop}{D fp:Nat->Prop}{ρ:Nat->Value}{w w':World}
structure Ctx where
 w0:World
 W:Nat->Prop
 D0:Nat->Prop
 m:Nat
 ρ0:Nat->Value
 ok:Wok w0/\∀p,Acl=some p->¬W p.1
structure Fr(w0 w:World)(W:Nat->Prop):Prop where
 os:w.os=w0.os
 tape:w.tape=w0.tape
 output:w.output=w0.output
 size:w0.heap.size<=w.heap.size
 block:∀b,b<w0.heap.size->¬W b->w.heap[b]? =w0.heap[b]?
 drawn:w0.drawn<=w.drawn
def Fr.below{w0:World}{W:Nat->Prop}(h:Fr w0 w W)(u:Below w.heap.size w w'):Fr w0 w' W:=
 ⟨u.os.trans h.os,u.tape.trans h.tape,u.output.trans h.output,Nat.le_trans h.size u.size,λb A B=>(u.block b (Nat.lt_of_lt_of_le A h.size)).trans (h.block b A B),Nat.le_trans h.drawn u.drawn⟩
structure CR(C:Ctx)(σ:List V)(ts:List V)(cts:Array Value)(w:World)(D:Nat->Prop)(ρ:Nat->Value)(F:Nat->Nat->Prop):Prop where
 wr:Bu σ w D ρ F
 sz:cts.size=ts.length
 tm:∀t,t<ts.length->Rel D w (Aq σ ρ w) (ts.getD t .dead) (cts.getD t undef) noF
 fr:Fr C.w0 w C.W
 Fn:∀i b,F i b->C.W b\/C.w0.heap.size<=b
 D1:∀b,C.D0 b->D b
 D2:∀b,D b->b<C.w0.heap.size->C.D0 b\/C.W b
 rt:∀i,i<C.m->ρ i=C.ρ0 i
 ml:C.m<=σ.length
def CR.ok{C:Ctx}{σ ts:List V}{cts:Array Value}{w:World}{D:Nat->Prop}{ρ:Nat->Value}{F:Nat->Nat->Prop}(h:CR C σ ts cts w D ρ F):Wok w:=
 C.ok.1.same λp u=>h.fr.block p.1 (C.ok.1.lt u) (C.ok.2 p u)
def XX(C:Ctx)(σ:List V)(ts:List V)(cts:Array Value)(w:World):Prop:=∃D ρ F,CR C σ ts cts w D ρ F
theorem AD{l u:List V}{i:Nat}(h:i<l.length):(l++u).getD i .dead=l.getD i .dead:=by grind
def Aq.ext{s:List V}{ρ':Nat->Value}(h:∀i,i<σ.length->ρ' i=ρ i):∀v cv,Aq σ ρ w v cv->Aq (σ++s) ρ' w v cv
 |.rs id p off len,cv,⟨u,sz,n,f,cn,A,r⟩=>⟨by grind,sz,n,f,cn,by grind,r⟩
 |.rp id p i k,cv,⟨u,s,sz,n,f,b,o,cap,A,r⟩=>⟨by grind,s,sz,n,f,b,o,cap,by grind,r⟩
 |.rm id p,cv,⟨u,l,b,A,r⟩=>⟨by grind,l,b,by grind,r⟩
 |.mp ..,_,h=>h.elim
 |.c _,_,h=>h.elim
 |.dead,_,h=>h.elim
 |.many ..,_,h=>h.elim
 |.nd ..,_,h=>h.elim
theorem Bu.push(h:Bu σ w D ρ F){v:V}{cv:Value}(Z:Rel D w noR v cv fp)(Y:∀b,fp b->¬D b)(W:∀i b,F i b->¬fp b):
  Bu (σ++[v]) w D (λi=>if i=σ.length then cv else ρ i) (λi=>if i=σ.length then fp else F i):=by
 refine⟨λi O=>?_,λi j b J u B=>?_,λi b u=>?_,h.Dlt,λi b O u=>?_⟩
 .by_cases A:i=σ.length
  .grind
  .have E:i<σ.length:=by simp at O;omega
   rw[AD E];simpa [A]using h.rel i E
 .by_cases A:i=σ.length<;>by_cases U:j=σ.length<;>simp only[A,U,if_true,if_false]at u B
  .omega
  .grind
  .exact W i b u B
  .exact h.disj i j b J u B
 .by_cases A:i=σ.length<;>simp only[A,if_true,if_false]at u
  .exact Y b u
  .exact h.dD i b u
 .simp at O
  have A:i≠σ.length:=by omega
  simp only[A,if_false]at u;exact h.out i b (by omega) u
def BP(g:Nat->Nat->V×List V):Nat->Nat->List V×List V
 |0,_=>([],[])
 |n+1,m=>((BP g n m).1++[(g n (m+(BP g n m).2.length)).1],(BP g n m).2++(g n (m+(BP g n m).2.length)).2)
def prom:V->Nat->V×List V
 |.nd true true sz n f,m=>(.rs m [] 0 n,[.nd true true sz n f])
 |.nd false true sz n f,m=>if 0<sz then(.rp m [] 0 0,[.nd false true sz n f])else(.dead,[])
 |.mp true l,m=>(.rm m [],[.mp true l])
 |.many t n f,m=>(.many t n λk=>(BP (λk=>prom (f k)) n m).1.getD k .dead,(BP (λk=>prom (f k)) n m).2)
 |v,_=>(v,[])
structure B1(σ s:List V)(w:World)(D:Nat->Prop)(ρ ρ':Nat->Value)(F F':Nat->Nat->Prop)(fp:Nat->Prop):Prop where
 wr:Bu (σ++s) w D ρ' F'
 rt:∀i,i<σ.length->ρ' i=ρ i
 old:∀i,i<σ.length->F' i=F i
 new:∀i b,σ.length<=i->F' i b->fp b
theorem B1.nil(h:Bu σ w D ρ F)(fp:Nat->Prop):B1 σ [] w D ρ ρ F F fp:=
 ⟨by grind,λ_ _=>rfl,λ_ _=>rfl,λi b u A=>absurd A (h.out i b u)⟩
theorem B1.trans{σ s s':List V}{w:World}{D:Nat->Prop}{ρ ρ' u:Nat->Value}{F F' F'':Nat->Nat->Prop}{fp E U:Nat->Prop}(h:B1 σ s w D ρ ρ' F F' fp)(B:B1 (σ++s) s' w D ρ' u F' F'' E)(e:∀b,fp b->U b)(W:∀b,E b->U b):
  B1 σ (s++s') w D ρ u F F'' U:=by
 refine⟨by rw[<-List.append_assoc];exact B.wr,λi A=>(B.rt i (by grind)).trans (h.rt i A),λi A=>(B.old i (by grind)).trans (h.old i A),λi b A O=>?_⟩
 by_cases J:i<(σ++s).length
 .rw[B.old i J]at O;exact e b (h.new i b A O)
 .exact W b (B.new i b (by omega) O)
theorem Ie:∀(v:V) (σ:List V) (ρ:Nat->Value) (F:Nat->Nat->Prop) (cv:Value) (fp:Nat->Prop),Bu σ w D ρ F->Rel D w (Aq σ ρ w) v cv fp->(∀b,fp b->¬D b)->(∀i b,F i b->¬fp b)->
  ∃ρ' F',B1 σ (prom v σ.length).2 w D ρ ρ' F F' fp/\Rel D w (Aq (σ++(prom v σ.length).2) ρ' w) (prom v σ.length).1 cv noF:=by
 intro v
 induction v with
 |c v=>intro σ ρ F cv fp wr h _ _;exact⟨ρ,F,B1.nil wr fp,h.1,h.2.1,λ_ h=>h⟩
 |dead=>intro σ ρ F cv fp wr h _ _;exact⟨ρ,F,B1.nil wr fp,λ_ h=>h⟩
 |rs id p off len=>intro σ ρ F cv fp wr h _ _;exact⟨ρ,F,B1.nil wr fp,Aq.ext (λ_ _=>rfl) _ _ h.1,λ_ h=>h⟩
 |rp id p i k=>intro σ ρ F cv fp wr h _ _;exact⟨ρ,F,B1.nil wr fp,Aq.ext (λ_ _=>rfl) _ _ h.1,λ_ h=>h⟩
 |rm id p=>intro σ ρ F cv fp wr h _ _;exact⟨ρ,F,B1.nil wr fp,Aq.ext (λ_ _=>rfl) _ _ h.1,λ_ h=>h⟩
 |mp own l=>
  intro σ ρ F cv fp wr h h1 h2;cases own with
  |false=>
   have e:=A7 (AF _ _ _ rfl h);subst e;exact⟨ρ,F,B1.nil wr _,h⟩
  |true=>
   have u:=Bu.push wr (v:=.mp true l) (cv:=cv) (fp:=fp) h h1 h2
   have J:B1 σ [.mp true l] w D ρ (λi=>if i=σ.length then cv else ρ i) F (λi=>if i=σ.length then fp else F i) fp:=
    ⟨u,λi E=>by simp[show i≠σ.length by omega],λi E=>by simp[show i≠σ.length by omega],λi b E A=>by
     by_cases W:i=σ.length
     .simpa [W]using A
     .simp only[W,if_false]at A;exact absurd A (wr.out i b E)⟩
   obtain⟨b,Y,_⟩:=h;exact⟨_,_,J,⟨⟨by simp[prom],l,b,⟨by simp[prom],by simp⟩,Y⟩,λ_ h=>h⟩⟩
 |nd s own sz n f _=>
  intro σ ρ F cv fp wr h h1 h2;cases own with
  |false=>
   have e:=A7 (AF _ _ _ rfl h);subst e;cases s<;>exact⟨ρ,F,B1.nil wr _,h⟩
  |true=>
   have u:=Bu.push wr (v:=.nd s true sz n f) (cv:=cv) (fp:=fp) h h1 h2
   have J:B1 σ [.nd s true sz n f] w D ρ (λi=>if i=σ.length then cv else ρ i) F (λi=>if i=σ.length then fp else F i) fp:=
    ⟨u,λi E=>by simp[show i≠σ.length by omega],λi E=>by simp[show i≠σ.length by omega],λi b E A=>by
     by_cases W:i=σ.length
     .simpa [W]using A
     .simp only[W,if_false]at A;exact absurd A (wr.out i b E)⟩
   cases s with
   |true=>
    refine⟨_,_,J,⟨⟨by simp[prom],sz,n,f,cv,⟨by simp[prom],by simp⟩,by omega,?_⟩,λ_ h=>h⟩⟩
    rcases h with⟨rfl,_,hn0,_⟩|⟨b,o,cap,F2,rfl,_⟩
    .obtain rfl:=DK hn0
     exact .inr ⟨rfl,none,rfl,λ_ _=>rfl,λp e=>by cases e⟩
    .exact .inl ⟨b,o,cap,rfl,by simp[AC]⟩
   |false=>
    unfold prom;by_cases U:0<sz
    .simp only[U,if_true]
     rcases h with⟨_,h,_⟩|⟨b,o,cap,F2,rfl,_,_,hn,_⟩
     .cases h
     .exact⟨_,_,J,⟨⟨by simp,false,sz,n,f,b,o,cap,⟨by simp,by simp⟩,by rw[hn rfl];exact Nat.one_pos,U,by simp[AC]⟩,λ_ h=>h⟩⟩
    .simp only[U,if_false]
     exact⟨ρ,F,B1.nil wr fp,λ_ h=>h⟩
 |many t n f ih=>
  intro σ ρ F cv fp wr h h1 h2;obtain⟨cs,G,Y,hn,hr,hd,hf⟩:=h
  have key:∀j,j<=n->∃ρ' F',B1 σ (BP (λk=>prom (f k)) j σ.length).2 w D ρ ρ' F F' (λb=>∃k,k<j/\G k b)/\(BP (λk=>prom (f k)) j σ.length).1.length=j/\
    ∀k,k<j->Rel D w (Aq (σ++(BP (λk=>prom (f k)) j σ.length).2) ρ' w) ((BP (λk=>prom (f k)) j σ.length).1.getD k .dead) (cs.getD k undef) noF:=by
   intro j
   induction j with
   |zero=>intro _;exact⟨ρ,F,B1.nil wr _,rfl,λk hk=>by omega⟩
   |succ j ihj=>
    intro hj;obtain⟨Z,F1,B,hl1,hr1⟩:=ihj (by omega)
    have hrj:Rel D w (Aq (σ++(BP (λk=>prom (f k)) j σ.length).2) Z w) (f j) (cs.getD j undef) (G j):=
     Rel.mono (λ_ h=>h) (Aq.ext B.rt) _ _ _ (λ_ _=>rfl) (hr j (by omega))
    obtain⟨ρ2,F2,O,hr2⟩:=ih j (σ++(BP (λk=>prom (f k)) j σ.length).2) Z F1 (cs.getD j undef) (G j) B.wr hrj (λb A=>h1 b ((hf b).2 ⟨j,by omega,A⟩)) (λi b A hb'=>by
     by_cases E:i<σ.length
     .rw[B.old i E]at A;exact h2 i b A ((hf b).2 ⟨j,by omega,hb'⟩)
     .obtain⟨k,hk,hkb⟩:=B.new i b (by omega) A
      exact hd k j b (by omega) (by omega) (by omega) hkb hb')
    rw[List.length_append]at O hr2;refine⟨ρ2,F2,B.trans O (λb ⟨k,hk,h⟩=>⟨k,by omega,h⟩) (λb h=>⟨j,by omega,h⟩),by simp[BP,hl1],λk hk=>?_⟩
    simp only[BP];rw[<-List.append_assoc];by_cases W:k=j
    .subst W
     rw[gDE,gAR (by omega)]
     simpa [hl1]using hr2
    .rw[gDE,gAL (by omega),<-gDE]
     exact Rel.mono (λ_ h=>h) (Aq.ext O.rt) _ _ _ (λ_ _=>rfl) (hr1 k (by omega))
  obtain⟨ρ',F',ok,_,hr'⟩:=key n (Nat.le_refl _);refine⟨ρ',F',⟨ok.wr,ok.rt,ok.old,λi b E A=>(hf b).2 (ok.new i b E A)⟩,?_⟩
  exact⟨cs,λ_=>noF,Y,hn,λk hk=>hr' k hk,λ_ _ _ _ _ _ h=>h.elim,λb=>⟨λh=>h.elim,fun⟨_,_,h⟩=>h⟩⟩
theorem CR.res{C:Ctx}{ts:List V}{cts:Array Value}{D':Nat->Prop}(h:CR C σ ts cts w D ρ F){r:V}{v':Value}(Z:Below w.heap.size w w')(hr:Rel D' w' (Aq σ ρ w') r v' fp)
  (hf:∀b,fp b->w.heap.size<=b) (E:∀b,D b->D' b) (W:∀b,D' b->D b\/w.heap.size<=b) (U:∀b,D' b->b<w'.heap.size/\¬fp b) (d:Nat):
  XX C (σ++(prom r σ.length).2) (ts.set d (prom r σ.length).1) (cts.setIfInBounds d v') w':=by
 have A:∀i b,F i b->b<w.heap.size:=h.wr.lt;have wr':Bu σ w' D' ρ F:=by
  have O:=h.wr.below Z;refine⟨λi J=>Rel.mono E (λ_ _ h=>h) _ _ _ (λ_ _=>rfl) (O.rel i J),O.disj,λi b u hD=>?_,λb u=>(U b u).1,O.out⟩
  rcases W b hD with h2|h2
  .exact O.dD i b u h2
  .have:=A i b u;omega
 obtain⟨ρ',F',ok,hr'⟩:=Ie r σ ρ F v' fp wr' hr (λb u hD=>(U b hD).2 u) (λi b u hb'=>by have:=A i b u;have:=hf b hb';omega)
 refine⟨D',ρ',F',ok.wr,by simp[h.sz],λt Y=>?_,h.fr.below Z,λi b u=>?_,λb u=>E b (h.D1 b u),λb u B=>?_,λi J=>(ok.rt i (Nat.lt_of_lt_of_le J h.ml)).trans (h.rt i J),by have:=h.ml;simp;omega⟩
 .simp at Y
  by_cases he:d=t
  .subst he
   have B:d<cts.size:=by rw[h.sz];exact Y
   simpa [Y,B]using hr'
  .have O:=h.tm t Y
   simp only[gDE,List.getElem?_set_ne he,Array.getD_eq_getD_getElem?,Array.getElem?_setIfInBounds_ne he];rw[<-gDE,<-Array.getD_eq_getD_getElem?];refine Rel.mono E (λv cv hv=>Aq.ext ok.rt _ _ (Aq.same h.wr (λi b u=>Z.block b (A i b u)) v cv hv)) _ _ _ (λb u=>Z.block b ?_) O
   rcases u with u|u
   .exact h.wr.Dlt b u
   .exact u.elim
 .by_cases J:i<σ.length
  .rw[ok.old i J]at u;exact h.Fn i b u
  .have:=hf b (ok.new i b (by omega) u)
   right;exact Nat.le_trans h.fr.size this
 .rcases W b u with h2|h2
  .exact h.D2 b h2 B
  .have:=h.fr.size;omega
end Go.Ve


namespace Go.Ve
variable{l:List V}{i:Nat}{D:Nat->Prop}{x:V}{w:World}
structure Bb(G:V->V):Prop where
 c:∀v,G (.c v)=.c v
 dead:G .dead=.dead
 nd:∀s own sz n f,G (.nd s own sz n f)=.nd s own sz n f
 mp:∀own l,G (.mp own l)=.mp own l
 many:∀t n f,G (.many t n f)=.many t n λk=>G (f k)
theorem Bb.rel{G:V->V}(B:Bb G){w':World}{R R':V->Value->Prop}(O:∀b,D b->w'.heap[b]? =w.heap[b]?)
  (h1:∀id p off len cv,R (.rs id p off len) cv->Rel D w' R' (G (.rs id p off len)) cv noF) (h2:∀id p i k cv,R (.rp id p i k) cv->Rel D w' R' (G (.rp id p i k)) cv noF) (h3:∀id p cv,R (.rm id p) cv->Rel D w' R' (G (.rm id p)) cv noF):
  ∀(v:V) (cv:Value) (fp:Nat->Prop),(∀b,¬fp b)->Rel D w R v cv fp->Rel D w' R' (G v) cv noF:=by
 intro v
 induction v with
 |c v=>intro cv fp _ h;rw[B.c];exact⟨h.1,h.2.1,λ_ h=>h⟩
 |dead=>intro cv fp _ h;rw[B.dead];exact λ_ h=>h
 |many t n f W=>
  intro cv fp u h;rw[B.many];obtain⟨cs,F,J,Z,Y,hd,E⟩:=h;exact⟨cs,λ_=>noF,J.mono (λ_ h=>h) O,Z,λk U=>W k _ _ (λb A=>u b ((E b).2 ⟨k,U,A⟩)) (Y k U),λ_ _ _ _ _ _ h=>h.elim,λb=>⟨λh=>h.elim,fun⟨_,_,h⟩=>h⟩⟩
 |nd s own sz n f _=>
  intro cv fp u h;rw[B.nd];have:=A7 u;subst this;exact Rel.nd_R (Rel.mono (λ_ h=>h) (λ_ _ h=>h) _ _ _ (λb A=>O b (A.elim id λh=>h.elim)) h)
 |rs id p off len=>intro cv fp _ h;exact h1 _ _ _ _ _ h.1
 |rp id p i k=>intro cv fp _ h;exact h2 _ _ _ _ _ h.1
 |rm id p=>intro cv fp _ h;exact h3 _ _ _ h.1
 |mp own l=>
  intro cv fp u h;rw[B.mp];have:=A7 u;subst this;exact Rel.mono (w:=w) (D:=D) (λ_ h=>h) (R:=noR) (λ_ _ h=>h.elim) _ _ _ (λb A=>O b (A.elim id λh=>h.elim)) h
def rrV(id:Nat)(p:List (Nat×Nat))(j:Nat):V->V
 |.rs id' q off len=>if id'=id/\AT p q=true then .rs j (q.drop p.length) off len else .rs id' q off len
 |.rp id' q i k=>if id'=id/\AT p q=true then .rp j (q.drop p.length) i k else .rp id' q i k
 |.rm id' q=>if id'=id/\AT p q=true then .rm j (q.drop p.length)else .rm id' q
 |.many t n f=>.many t n λk=>rrV id p j (f k)
 |v=>v
def Do(id:Nat)(p:List (Nat×Nat))(j:Nat):Bb (rrV id p j):=⟨λ_=>rfl,rfl,λ_ _ _ _ _=>rfl,λ_ _=>rfl,λ_ _ _=>rfl⟩
theorem Aj(h:i<l.length):(l.set i x).getD i .dead=x:=by grind
theorem Ai{j:Nat}(h:i≠j):(l.set i x).getD j .dead=l.getD j .dead:=by grind
theorem CR.reroot{C:Ctx}{σ ts:List V}{cts:Array Value}{ρ:Nat->Value}{F:Nat->Nat->Prop}(h:CR C σ ts cts w D ρ F){id:Nat}{p:List (Nat×Nat)}{v1:V}{c1:Value}(hid:id<σ.length)
  (Y:At w p (σ.getD id .dead) (ρ id) v1 c1):∃ρ' F',CR C (σ.set id (upd p (σ.getD id .dead) .dead)++[sub p (σ.getD id .dead)]) (ts.map (rrV id p σ.length)) cts w D ρ' F'/\ρ' σ.length=c1/\(∀i,i<σ.length->ρ' i=ρ i)/\∀i b,F' i b->∃j,F j b:=by
 obtain⟨fp1,hr1,hsub,hput⟩:=C9 (w':=w) p _ _ _ _ _ (h.wr.rel id hid) (λb u h'=>h.wr.dD id b h' u) Y
 have hnew:=hput .dead noF (λ_ h=>h) (λb u=>u.elim) (λ_ _ _=>rfl)
 let ρ':Nat->Value:=λi=>if i=σ.length then c1 else ρ i
 let F':Nat->Nat->Prop:=λi=>if i=σ.length then fp1 else if i=id then λb=>(F id b/\¬fp1 b)\/noF b else F i
 have W:sub p (σ.getD id .dead)=v1:=(At.sub Y).symm;have J:∀i b,F' i b->∃j,F j b:=by
  intro i b u;simp only[F']at u;split at u
  .exact⟨id,hsub b u⟩
  .split at u
   .exact⟨id,u.elim (λh=>h.1) λh=>h.elim⟩
   .exact⟨i,u⟩
 have wr':Bu (σ.set id (upd p (σ.getD id .dead) .dead)++[sub p (σ.getD id .dead)]) w D ρ' F':=by
  refine⟨λi hi=>?_,λi j b hij u A=>?_,λi b u hD=>?_,h.wr.Dlt,λi b hi u=>?_⟩
  .by_cases Z:i=σ.length
   .subst Z
    simp only[ρ',F',if_true];rw[W];simpa using hr1
   .have hi':i<σ.length:=by simp at hi;omega
    rw[AD (by simpa using hi')]
    simp only[ρ',F',Z,if_false];by_cases he2:i=id
    .subst he2
     rw[Aj hid];simpa using hnew
    .rw[Ai (Ne.symm he2)]
     simpa [he2]using h.wr.rel i hi'
  .simp only[F']at u A
   by_cases Z:i=σ.length<;>by_cases he':j=σ.length
   .omega
   .simp only[Z,if_true,he',if_false]at u A
    split at A
    .rcases A with A|A
     .exact A.2 u
     .exact A
    .exact h.wr.disj id j b (λe=>by rename_i hne;exact hne e.symm) (hsub b u) A
   .simp only[he',if_true,Z,if_false]at u A
    split at u
    .rcases u with u|u
     .exact u.2 A
     .exact u
    .exact h.wr.disj i id b (by assumption) u (hsub b A)
   .simp only[Z,he',if_false]at u A
    have e1:F i b:=by
     split at u
     .rename_i e;subst e;exact u.elim (λh=>h.1) λh=>h.elim
     .exact u
    have e2:F j b:=by
     split at A
     .rename_i e;subst e;exact A.elim (λh=>h.1) λh=>h.elim
     .exact A
    exact h.wr.disj i j b hij e1 e2
  .obtain⟨j,hj⟩:=J i b u;exact h.wr.dD j b hj hD
  .simp at hi
   simp only[F',show i≠σ.length by omega,show i≠id by omega,if_false]at u
   exact h.wr.out i b (by omega) u
 refine⟨ρ',F',⟨wr',by simpa using h.sz,λt ht=>?_,h.fr,λi b u=>?_,h.D1,h.D2,λi hi=>?_,by have:=h.ml;simp;omega⟩,by simp[ρ'],λi hi=>by simp[ρ',show i≠σ.length by omega],J⟩
 .simp at ht
  have e1:(ts.map (rrV id p σ.length)).getD t .dead=rrV id p σ.length (ts.getD t .dead):=by simp[ht]
  rw[e1];have E:(σ.set id (upd p (σ.getD id .dead) .dead)++[sub p (σ.getD id .dead)]).length=σ.length+1:=by simp
  have hge:(σ.set id (upd p (σ.getD id .dead) .dead)++[sub p (σ.getD id .dead)]).getD σ.length .dead=v1:=by rw[<-W];simp
  -- one reference
  have key:∀(id':Nat) (q:List (Nat×Nat)) (s:Bool) (sz n:Nat) (f:Nat->Nat->V) (c:Value),id'<σ.length->At w q (σ.getD id' .dead) (ρ id') (.nd s true sz n f) c->
    (id'=id/\AT p q=true->At w (q.drop p.length) v1 c1 (.nd s true sz n f) c)/\
    (¬ (id'=id/\AT p q=true)->∃f',At w q ((σ.set id (upd p (σ.getD id .dead) .dead)++[sub p (σ.getD id .dead)]).getD id' .dead) (ρ' id') (.nd s true sz n f') c):=by
   intro id' q s sz n f c B U;constructor
   .rintro ⟨rfl,hpre⟩
    rw[Cv hpre]at U;exact At.split U Y
   .intro hn
    rw[AD (by simpa using B)]
    have eρ:ρ' id'=ρ id':=by simp[ρ',show id'≠σ.length by omega]
    rw[eρ];by_cases Z:id'=id
    .subst Z
     rw[Aj hid];exact At.keep p q _ _ (At.ok Y) (by simpa using hn) U
    .rw[Ai (Ne.symm Z)]
     exact⟨f,U⟩
  have keyM:∀(id':Nat) (q:List (Nat×Nat)) (l:List (Value×Value)) (c:Value),id'<σ.length->At w q (σ.getD id' .dead) (ρ id') (.mp true l) c->
    (id'=id/\AT p q=true->At w (q.drop p.length) v1 c1 (.mp true l) c)/\
    (¬ (id'=id/\AT p q=true)->At w q ((σ.set id (upd p (σ.getD id .dead) .dead)++[sub p (σ.getD id .dead)]).getD id' .dead) (ρ' id') (.mp true l) c):=by
   intro id' q l c B U;constructor
   .rintro ⟨rfl,hpre⟩
    rw[Cv hpre]at U;exact At.split U Y
   .intro hn
    rw[AD (by simpa using B)]
    have eρ:ρ' id'=ρ id':=by simp[ρ',show id'≠σ.length by omega]
    rw[eρ];by_cases Z:id'=id
    .subst Z
     rw[Aj hid];exact At.keepM p q _ _ (At.ok Y) (by simpa using hn) U
    .rw[Ai (Ne.symm Z)]
     exact U
  refine(Do id p σ.length).rel (λ_ _=>rfl) ?_ ?_ ?_ _ _ noF (λ_ h=>h) (h.tm t ht)
  .rintro id' q off len cv ⟨B,sz,n,f,cn,U,hle,O⟩
   obtain⟨k1,k2⟩:=key id' q true sz n f cn B U;simp only[rrV];split
   .rename_i hc
    exact⟨⟨by rw[E];omega,sz,n,f,cn,by rw[hge];simpa [ρ']using k1 hc,hle,O⟩,λ_ h=>h⟩
   .rename_i hc
    obtain⟨f',ha'⟩:=k2 hc;exact⟨⟨by rw[E];omega,sz,n,f',cn,ha',hle,O⟩,λ_ h=>h⟩
  .rintro id' q i k cv ⟨B,s,sz,n,f,b,o,cap,U,hi,hk,O⟩
   obtain⟨k1,k2⟩:=key id' q s sz n f _ B U;simp only[rrV];split
   .rename_i hc
    exact⟨⟨by rw[E];omega,s,sz,n,f,b,o,cap,by rw[hge];simpa [ρ']using k1 hc,hi,hk,O⟩,λ_ h=>h⟩
   .rename_i hc
    obtain⟨f',ha'⟩:=k2 hc;exact⟨⟨by rw[E];omega,s,sz,n,f',b,o,cap,ha',hi,hk,O⟩,λ_ h=>h⟩
  .rintro id' q cv ⟨B,l,b,U,O⟩
   obtain⟨k1,k2⟩:=keyM id' q l _ B U;simp only[rrV];split
   .rename_i hc
    exact⟨⟨by rw[E];omega,l,b,by rw[hge];simpa [ρ']using k1 hc,O⟩,λ_ h=>h⟩
   .rename_i hc
    exact⟨⟨by rw[E];omega,l,b,k2 hc,O⟩,λ_ h=>h⟩
 .obtain⟨j,hj⟩:=J i b u;exact h.Fn j b hj
 .have:=h.ml
  simp only[ρ',show i≠σ.length by omega,if_false]
  exact h.rt i hi
end Go.Ve

