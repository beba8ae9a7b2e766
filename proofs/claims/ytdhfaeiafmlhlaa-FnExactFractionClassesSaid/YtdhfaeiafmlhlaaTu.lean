/- The typed machine: calls of functions that write their owned arguments. -/
import Derived.Test.YtdhfaeiafmlhlaaTy
import Derived.Test.YtdhfaeiafmlhlaaTd
set_option linter.all false
namespace Go.Ve
variable{p:AX}{r r':Ab}{A B a:List (C9×Nat)}{σ σ0:List V}{d dep m:Nat}{ρ ρ0:Nat->Value}{s:St}{t u:Ty}{cv:Value}{w:World}
def Qx(s:St)(dep:Nat):Cl->Option (Cl×List (C9×Nat))
 |.c t _ x=>bif t.sc then some (.c t dep x,[])else none
 |.rf id p=>match Af s.r id p with
  |.arr false u d xs=>match dep with
   |d0+1=>bif dOK u d d0 then some (.c (.sl u) (d0+1) xs,[((id,p),d)])else none
   |0=>none
  |_=>none
 |_=>none
def Qw(s:St)(dep:Nat):List Cl->Option (List Cl×List (C9×Nat))
 |[]=>some ([],[])
 |y::l=>match Qx s dep y with
  |some (c,a)=>match Qw s dep l with
   |some (cs,b)=>some (c::cs,a++b)
   |none=>none
  |none=>none
def Y7(t:Ty)(dep:Nat):List Cl->Option (t.T×List Cl)
 |.c t' d x::l=>if h:t'=t then(bif Nat.beq d dep then some (h▸x,l)else none)else none
 |_=>none
def unC:(t:Ty)->Nat->List Cl->Option (t.T×List Cl)
 |.unit,_,l=>some ((),l)
 |.pair a b,d,l=>match unC a d l with
  |some (x,l)=>match unC b d l with
   |some (y,l)=>some ((x,y),l)
   |none=>none
  |none=>none
 |.int k,d,l=>Y7 (.int k) d l
 |.bool,d,l=>Y7 .bool d l
 |.str,d,l=>Y7 .str d l
 |.sl t,d,l=>Y7 (.sl t) d l
 |.ptr t,d,l=>Y7 (.ptr t) d l
 |.clo g t,d,l=>Y7 (.clo g t) d l
 |.osl t,d,l=>Y7 (.osl t) d l
 |.mp a b,d,l=>Y7 (.mp a b) d l
theorem DF(O:t.one=true){l e:List Cl}{x:t.T}(h:Y7 t dep l=some (x,e)):l=As t dep x++e:=by
 unfold Y7 at h;split at h
 case h_2=>grind
 rename_i t' d y m;split at h
 case isFalse=>grind
 rename_i J;subst J;cases E:Nat.beq d dep with
 |false=>grind
 |true=>
  rw[E]at h;cases h;rw[bqE E];cases t'<;>first|rfl|trivial
def QE:∀(t:Ty) (dep:Nat) (l e:List Cl) (x:t.T),unC t dep l=some (x,e)->l=As t dep x++e
 |.unit,dep,l,e,x,h=>by cases h;rfl
 |.pair a b,dep,l,e,x,h=>by
  unfold unC at h;split at h
  case h_2=>grind
  rename_i y m J;split at h
  case h_2=>grind
  rename_i z O E;cases h;rw[QE a dep _ _ _ J,QE b dep _ _ _ E];simp[As]
 |.int _,dep,l,e,x,h=>DF rfl h
 |.bool,dep,l,e,x,h=>DF rfl h
 |.str,dep,l,e,x,h=>DF rfl h
 |.sl _,dep,l,e,x,h=>DF rfl h
 |.ptr _,dep,l,e,x,h=>DF rfl h
 |.clo _ _,dep,l,e,x,h=>DF rfl h
 |.osl _,dep,l,e,x,h=>DF rfl h
 |.mp _ _,dep,l,e,x,h=>DF rfl h
def UZ(s:St)(p:WP):Option Sl->Option (p.2.2.T×List (C9×Nat))
 |some (.agg l)=>bif p.1&&p.2.1 then(match Qw s p.2.2.dep l with
  |some (cs,a)=>match unC p.2.2 p.2.2.dep cs with
   |some (x,[])=>some (x,a)
   |_=>none
  |none=>none)else none
 |some (.one y)=>bif p.2.1 then none else bif p.1 then(match Qx s p.2.2.dep y with
   |some (c,a)=>match unC p.2.2 p.2.2.dep [c]with
    |some (x,[])=>some (x,a)
    |_=>none
   |none=>none)
  else(match y with
   |.c t' _ x=>if h:t'=p.2.2 then(bif t'.sc then some (h▸x,[])else none)else none
   |_=>none)
 |_=>none
def Qy(s:St):(ps:List WP)->List (Option Sl)->Option ((PTW ps).T×List (C9×Nat))
 |[],[]=>some ((),[])
 |[p],[y]=>UZ s p y
 |p::q::l,y::ys=>match UZ s p y with
  |some (x,a)=>match Qy s (q::l) ys with
   |some (z,b)=>some ((x,z),a++b)
   |none=>none
  |none=>none
 |_,_=>none
def Mj:List C9->Bool
 |[]=>true
 |a::l=>l.all (λb=>!Nat.beq a.1 b.1||dvP a.2 b.2)&&Mj l
def X8:AX->Option (AX×Nat×Nat)
 |[]=>none
 |(i,k)::q=>match X8 q with
  |none=>some ([],i,k)
  |some (p0,j,l)=>some ((i,k)::p0,j,l)
def Ab.setPath(r:Ab)(p:AX)(u:Ty)(d:Nat)(xs:List u.T):Option Ab:=match X8 p with
 |none=>match r with
  |.arr false _ _ _=>some (.arr false u d xs)
  |_=>none
 |some (p0,i,k)=>r.setAt p0 i k (.c (.sl u) (d+1) xs)
def C1:List (C9×Nat)->List (Σ t:Ty,t.T)->List Ab->Option (List Ab)
 |[],[],r=>some r
 |(a,d)::L,⟨.sl u,xs⟩::ys,r=>match(r.getD a.1 .dead).setPath a.2 u d xs with
  |some x=>C1 L ys (r.set a.1 x)
  |none=>none
 |_,_,_=>none
def Cl.killP(h:Nat->AX->Bool):Cl->Cl
 |.rf id q=>bif h id q then .dead else .rf id q
 |.rs id q off len=>bif h id q then .dead else .rs id q off len
 |.rp id q i k=>bif h id q then .dead else .rp id q i k
 |.rm id q=>bif h id q then .dead else .rm id q
 |y=>y
def Sl.killP(h:Nat->AX->Bool):Sl->Sl
 |.one y=>.one (y.killP h)
 |.new l=>.new l
 |.agg l=>.agg (l.map (Cl.killP h))
 |.tup l=>.tup (l.map λp=>(p.1,p.2.map (Cl.killP h)))
 |.pk t l=>.pk t (l.map (Cl.killP h))
def Aae(L:List C9)(N:Nat)(id:Nat)(q:AX):Bool:=!Nat.blt id N||L.any λa=>Nat.beq a.1 id&&(match a.2 with
 |[]=>(match q with
  |[]=>false
  |_::_=>true)
 |b::p=>pre ((b::p).map (·.2)) q)
structure Y4 where
 α:Type
 o:Option α
 st:α->Option St
 y:α->Cl
def NS(Γ:List EnW)(s:St)(f:FuncId)(xs:List (Option Sl)):Option Y4:=match X0 Γ f with
 |some e=>match Qy s e.S.ps xs with
  |some (z,LD)=>bif Mj (LD.map (·.1))then
    some ⟨e.S.rt.T×(wty (Dl e.S.ps)).T,e.g z,λu=>match C1 LD (wOf (Dl e.S.ps) u.2) s.r with
     |some r'=>some ⟨λi=>(s.t i).killP (Aae (LD.map (·.1)) s.r.length),r'⟩
     |none=>none,λu=>.c e.S.rt 0 u.1⟩else none
  |none=>none
 |none=>none
theorem Pj:∀{L:List C9},Mj L=true->L.Pairwise Ic
 |[],_=>List.Pairwise.nil
 |a::l,h=>by
  simp only[Mj,bAE]at h;refine List.pairwise_cons.2 ⟨λb E=>?_,Pj h.2⟩
  have:=aET.1 h.1 b E;simp[Bool.not_eq_true']at this;exact this.imp (λh e=>by simp_all) id
theorem H0:∀{p:AX},(X8 p=none->p=[])/\∀p0 i k,X8 p=some (p0,i,k)->p=p0++[(i,k)]
 |[]=>⟨λ_=>rfl,λ_ _ _ h=>by cases h⟩
 |(i,k)::q=>by
  obtain⟨E,e⟩:=H0 (p:=q);unfold X8
  grind
theorem Xc{xs:List u.T}(h:r.setPath p u d xs=some r'):Sub (upd p r.v (cV (.sl u) (d+1) xs)) r'.v:=by
 unfold Ab.setPath at h;split at h
 .rename_i e
  rw[H0.1 e];split at h
  .cases h;exact Sub.refl _
  grind
 .rename_i p0 i k e
  rw[H0.2 _ _ _ e];exact JR p0 r r' h
theorem PK{xs:List u.T}(h:r.setPath p u d xs=some r'){q:AX}(J:p≠[]->pre (p.map (·.2)) q=false)(E:p=[]->q=[]/\xs.length=r.len):(r'.at' q).len=(r.at' q).len:=by
 unfold Ab.setPath at h;split at h
 .rename_i e
  have e:=H0.1 e;split at h
  .cases h
   obtain⟨rfl,O⟩:=E e
   trivial
  grind
 .rename_i p0 i k e
  have e:=H0.2 _ _ _ e;exact Kg p0 r r' h q (by simp_all)
theorem Lk{xs:List u.T}(h:r.setPath p u d xs=some r'):r≠.dead:=by
 unfold Ab.setPath at h;split at h
 .grind
 .exact MJ h
def CW:∀(rs:List Ab) (ys:List (Σ t:Ty,t.T)),rs.length=ys.length->(Bs rs ys).length=rs.length
 |[],[],_=>rfl
 |r::rs,y::ys,h=>by simp[Bs,CW rs ys (by grind)]
 |[],_::_,h=>by rfl
 |_::_,[],h=>by grind
def Co:∀(rs:List Ab) (ys:List (Σ t:Ty,t.T)) (k:Nat),rs.length=ys.length->k<rs.length->(Bs rs ys).getD k .dead=C4 (rs.getD k .dead) (ys.getD k ⟨.unit,()⟩)
 |r::rs,y::ys,0,_,_=>rfl
 |r::rs,y::ys,k+1,h,hk=>by simpa [Bs]using Co rs ys k (by grind) (by grind)
 |[],_,_,_,hk=>by rfl
 |_::_,[],_,h,_=>by grind
theorem LG{y:Σ t:Ty,t.T}(h:C4 r y≠.dead):∃(ro:Bool) (u:Ty) (d:Nat) (xs ys:List u.T),r=.arr ro u d xs/\y=⟨.sl u,ys⟩/\C4 r y=.arr ro u d ys:=by
 unfold C4 at h;split at h
 .rename_i ro u d xs e ys
  split at h
  .rename_i E
   subst E;exact⟨ro,e,d,xs,ys,rfl,rfl,by simp[C4]⟩
  grind
 grind
structure WOK(s:St)(σ:List V)(ρ:Nat->Value)(w:World)(LD:List (C9×Nat))(R:List Ab):Prop where
 len:R.length=LD.length
 nd:∀k,k<LD.length->∃u d0 xs,R.getD k .dead=.arr false u d0 xs/\Af s.r (LD.getD k ((0,[]),0)).1.1 (LD.getD k ((0,[]),0)).1.2=.arr false u (LD.getD k ((0,[]),0)).2 xs/\dOK u (LD.getD k ((0,[]),0)).2 d0=true
 at':∀a∈LD,a.1.1<σ.length/\∃sz n f c,At w a.1.2 (σ.getD a.1.1 .dead) (ρ a.1.1) (.nd true true sz n f) c
theorem WOK.app{R S:List Ab}(h:WOK s σ ρ w A R)(J:WOK s σ ρ w B S):WOK s σ ρ w (A++B) (R++S):=by
 refine⟨by simp[h.len,J.len],λk W=>?_,λa E=>?_⟩
 .by_cases e:k<A.length
  .have U:(A++B).getD k ((0,[]),0)=A.getD k ((0,[]),0):=by grind
   have O:(R++S).getD k .dead=R.getD k .dead:=by
    have:k<R.length:=by rw[h.len];exact e
    simp[gAL this]
   rw[U,O];exact h.nd k e
  .have U:(A++B).getD k ((0,[]),0)=B.getD (k-A.length) ((0,[]),0):=by
    grind
   have O:(R++S).getD k .dead=S.getD (k-A.length) .dead:=by
    simp only[gDE];rw[gAR (by rw[h.len];omega),h.len]
   rw[U,O];exact J.nd _ (by simp at W;omega)
 .rcases List.mem_append.1 E with E|E
  .exact h.at' a E
  .exact J.at' a E
def Ze(s:St)(σ:List V)(ρ:Nat->Value)(w:World)(LD:List (C9×Nat))(m:Nat)(σ0:List V)(ρ0:Nat->Value):Prop:=
 ∀k,k<LD.length->m+k<σ0.length/\σ0.getD (m+k) .dead=sub (LD.getD k ((0,[]),0)).1.2 (σ.getD (LD.getD k ((0,[]),0)).1.1 .dead)/\
  At w (LD.getD k ((0,[]),0)).1.2 (σ.getD (LD.getD k ((0,[]),0)).1.1 .dead) (ρ (LD.getD k ((0,[]),0)).1.1) (sub (LD.getD k ((0,[]),0)).1.2 (σ.getD (LD.getD k ((0,[]),0)).1.1 .dead)) (ρ0 (m+k))
theorem Ze.left(h:Ze s σ ρ w (A++B) m σ0 ρ0):Ze s σ ρ w A m σ0 ρ0:=by
 intro k e;have:=h k (by grind)
 grind
theorem Ze.right(h:Ze s σ ρ w (A++B) m σ0 ρ0):Ze s σ ρ w B (m+A.length) σ0 ρ0:=by
 intro k e;have:=h (A.length+k) (by simp_all)
 have E:(A++B).getD (A.length+k) ((0,[]),0)=B.getD k ((0,[]),0):=by
  simp_all
 grind
def Aaz(h:t.sc=true)(d:Nat)(x:t.T):cV t d x=.c (scV t x):=by cases t<;>first|rfl|cases h
section
variable {s:St}{ρ:Nat->Value}{w:World}{D:Nat->Prop}{F:Nat->Nat->Prop}
theorem ND(wr:Bl (s.r.map Ab.v) w D ρ F){y c:Cl}(h:Qx s dep y=some (c,a))(E:Rel D w (Ak (s.r.map Ab.v) ρ w) (y.v s.r) cv noF):
  ∀m l,∃c' R,(Bp m (c::l)).1=c'::(Bp (m+R.length) l).1/\(Bp m (c::l)).2=R++(Bp (m+R.length) l).2/\WOK s (s.r.map Ab.v) ρ w a R/\
   ∀(R0:List Ab) σ0 ρ0,Has R0 m R->Ze s (s.r.map Ab.v) ρ w a m σ0 ρ0->Rel D w (Ak σ0 ρ0 w) (c'.v R0) cv noF:=by
 intro m l;unfold Qx at h;split at h
 .rename_i t d x
  obtain⟨hs,h⟩:=A9 h;cases h
  have e:Bp m (.c t dep x::l)=(.c t dep x::(Bp m l).1,(Bp m l).2):=by
   cases t<;>first|rfl|cases hs
  refine⟨.c t dep x,[],by rw[e];rfl,by rw[e];rfl,⟨rfl,λk U=>by simp at U,λa W=>by cases W⟩,λR0 σ0 ρ0 _ _=>?_⟩
  have E:Rel D w (Ak (s.r.map Ab.v) ρ w) (cV t d x) cv noF:=E;show Rel D w (Ak σ0 ρ0 w) (cV t dep x) cv noF;rw[Aaz hs]at E⊢;exact E
 .rename_i id p
  split at h
  case h_2=>cases h
  rename_i u d xs O;split at h
  case h_2=>cases h
  rename_i d0;obtain⟨hd,h⟩:=A9 h;cases h;have E:Rel D w (Ak (s.r.map Ab.v) ρ w) (.rs id p 0 (Af s.r id p).len) cv noF:=E;rw[O]at E;have E:Rel D w (Ak (s.r.map Ab.v) ρ w) (.rs id p 0 xs.length) cv noF:=E;obtain⟨⟨hid,sz,n,f,cn,J,hle,hcv⟩,_⟩:=E;have Z:Af s.r id p≠.dead:=by rw[O];intro h;cases h
  have Y:sub p ((s.r.map Ab.v).getD id .dead)=arr true u.w (tyV u d) u.dflt xs:=(AV Z).trans (by rw[O];rfl)
  refine⟨.rf m [],[.arr false u d0 xs],rfl,rfl,⟨rfl,λk U=>?_,λa W=>?_⟩,λR0 σ0 ρ0 hR hW=>?_⟩
  .obtain rfl:k=0:=by simp at U;exact U
   exact⟨u,d0,xs,rfl,O,hd⟩
  .simp at W;subst W
   exact⟨hid,sz,n,f,cn,J⟩
  .obtain⟨h1,h2,h3⟩:=hW 0 (by simp)
   simp only[Nat.add_zero,List.getD_cons_zero]at h1 h2 h3;have hR0:R0.getD m .dead=.arr false u d0 xs:=hR 0 (by simp)
   show Rel D w (Ak σ0 ρ0 w) (.rs m [] 0 (Af R0 m []).len) cv noF
   have hl:(Af R0 m []).len=xs.length:=by
    show(R0.getD m .dead).len=_;rw[hR0];rfl
   rw[hl];have hcn:=At.det h3 J;refine⟨⟨h1,sz,n,f,cn,⟨?_,hcn.symm⟩,hle,hcv⟩,λ_ h=>h⟩
   rw[h2];exact At.sub J
 .cases h
def NC(wr:Bl (s.r.map Ab.v) w D ρ F){dep:Nat}:∀(l:List Cl) (cs:List Cl) (a:List (C9×Nat)) (cvs:List Value),Qw s dep l=some (cs,a)->cvs.length=l.length->(∀i,i<l.length->Rel D w (Ak (s.r.map Ab.v) ρ w) ((l.getD i .dead).v s.r) (cvs.getD i undef) noF)->
  ∀m,(Bp m cs).1.length=l.length/\WOK s (s.r.map Ab.v) ρ w a (Bp m cs).2/\
   ∀(R0:List Ab) σ0 ρ0,Has R0 m (Bp m cs).2->Ze s (s.r.map Ab.v) ρ w a m σ0 ρ0->∀i,i<l.length->Rel D w (Ak σ0 ρ0 w) (((Bp m cs).1.getD i .dead).v R0) (cvs.getD i undef) noF
 |[],cs,a,cvs,h,_,_,m=>by
  cases h;exact⟨rfl,⟨rfl,λk hk=>by grind,λa W=>by cases W⟩,λ_ _ _ _ _ i hi=>by simp at hi⟩
 |y::l,cs,a,cvs,h,hl,hr,m=>by
  cases cvs with
  |nil=>simp at hl
  |cons cv cvs=>
  unfold Qw at h;split at h
  case h_2=>cases h
  rename_i c a1 Z;split at h
  case h_2=>cases h
  rename_i E a2 Y;cases h;obtain⟨c',R,g1,g2,U,g4⟩:=ND wr Z (hr 0 (by simp)) m E
  obtain⟨k1,k2,k3⟩:=NC wr l E a2 cvs Y (by simpa using hl) (λi hi=>by simpa using hr (i+1) (by simpa using hi)) (m+R.length)
  rw[g1,g2];refine⟨by simp[k1],U.app k2,λR0 σ0 ρ0 O J i hi=>?_⟩
  cases i with
  |zero=>exact g4 R0 σ0 ρ0 O.left J.left
  |succ i=>
   have e:=J.right;rw[<-U.len]at e;simpa using k3 R0 σ0 ρ0 O.right e i (by simpa using hi)
theorem Qz(wr:Bl (s.r.map Ab.v) w D ρ F){p:WP}{y:Sl}{x:p.2.2.T}(h:UZ s p (some y)=some (x,a))(O:Rel D w (Ak (s.r.map Ab.v) ρ w) (y.v s.r) cv noF)(m:Nat):
  WOK s (s.r.map Ab.v) ρ w a (U0 p x m).2/\∀(R0:List Ab) σ0 ρ0,Has R0 m (U0 p x m).2->Ze s (s.r.map Ab.v) ρ w a m σ0 ρ0->Rel D w (Ak σ0 ρ0 w) ((U0 p x m).1.v R0) cv noF:=by
 obtain⟨own,ag,t⟩:=p;unfold UZ at h;split at h
 .rename_i l hy
  cases hy;cases hb:(own&&ag)with
  |false=>rw[show((own,ag,t):WP).1=own from rfl,show((own,ag,t):WP).2.1=ag from rfl,hb]at h;cases h
  |true=>
   simp only[bAE]at hb;obtain⟨rfl,rfl⟩:=hb;simp only[Bool.and_self,cond_true]at h;split at h
   case h_2=>cases h
   rename_i cs a' hc;split at h
   case h_2=>cases h
   rename_i x' hx;cases h;have he:=QE _ _ _ _ _ hx;rw[List.append_nil]at he;have O:Rel D w (Ak (s.r.map Ab.v) ρ w) (Ai (l.map (Cl.v s.r))) cv noF:=O;obtain⟨cvs,Fx,Y,W,E,_,Z⟩:=O;have Y:cv=.agg cvs:=Y;simp only[List.length_map]at W E Z
   have J:∀i,i<l.length->Rel D w (Ak (s.r.map Ab.v) ρ w) ((l.getD i .dead).v s.r) (cvs.toList.getD i undef) noF:=by
    intro i hi;have h1:=E i hi;have e:Fx i=noF:=A6 λb hb=>(Z b).2 ⟨i,hi,hb⟩
    rw[e]at h1;have e2:(l.map (Cl.v s.r)).getD i .dead=(l.getD i .dead).v s.r:=AE (f:=Cl.v s.r) (a:=.dead) rfl _ _;have h1:Rel D w (Ak (s.r.map Ab.v) ρ w) ((l.map (Cl.v s.r)).getD i .dead) (cvs.getD i undef) noF:=h1;rw[e2]at h1;simpa using h1
   obtain⟨g1,g2,g3⟩:=NC wr l cs a cvs.toList hc (by simpa using W) J m
   rw[he]at g1 g2 g3;refine⟨g2,λR0 σ0 ρ0 hR hW=>?_⟩
   show Rel D w (Ak σ0 ρ0 w) (Ai ((Bp m (As t t.dep x)).1.map (Cl.v R0))) cv noF;have U:((Bp m (As t t.dep x)).1.map (Cl.v R0)).length=l.length:=by rw[List.length_map,g1]
   refine⟨cvs,λ_=>noF,Y,by rw[U];exact W,λk hk=>?_,λ_ _ _ _ _ _ h=>h.elim,λb=>⟨λh=>h.elim,fun⟨_,_,h⟩=>h⟩⟩
   rw[U]at hk;have:=g3 R0 σ0 ρ0 hR hW k hk;show Rel D w (Ak σ0 ρ0 w) (((Bp m (As t t.dep x)).1.map (Cl.v R0)).getD k .dead) _ noF;rw[AE (f:=Cl.v R0) (a:=.dead) rfl];simpa using this
 .rename_i y' hy
  cases hy;cases ag with
  |true=>cases h
  |false=>
   simp only[cond_false]at h;cases own with
   |true=>
    simp only[cond_true]at h;split at h
    case h_2=>cases h
    rename_i c a' hc;split at h
    case h_2=>cases h
    rename_i x' hx;cases h;have he:=QE _ _ _ _ _ hx;rw[List.append_nil]at he;obtain⟨c',R,g1,g2,g3,g4⟩:=ND wr hc O m []
    have e1:(Bp m (As t t.dep x))=([c'],R):=by
     rw[<-he];exact Prod.ext (by rw[g1];rfl) (by rw[g2];simp[Bp])
    have e2:U0 (true,false,t) x m=(.one c',R):=by
     show(Sl.one ((Bp m (As t t.dep x)).1.getD 0 .dead),(Bp m (As t t.dep x)).2)=_;rw[e1];rfl
    rw[e2];exact⟨g3,λR0 σ0 ρ0 hR hW=>g4 R0 σ0 ρ0 hR hW⟩
   |false=>
    simp only[cond_false]at h;split at h
    case h_2=>cases h
    rename_i t' d z;split at h
    case isFalse=>cases h
    rename_i ht;have ht:t'=t:=ht;subst ht;obtain⟨hs,h⟩:=A9 h;cases h;refine⟨⟨rfl,λk hk=>by simp at hk,λa ha=>by cases ha⟩,λR0 σ0 ρ0 _ _=>?_⟩
    have O:Rel D w (Ak (s.r.map Ab.v) ρ w) (cV t' d z) cv noF:=O;show Rel D w (Ak σ0 ρ0 w) (cV t' 0 z) cv noF;rw[Aaz hs]at O⊢;exact O
 .cases h
end
end Go.Ve


namespace Go.Ve
variable{a:Act}{C:Ctx}{h:Cw}{r:List Ab}{N d:Nat}{s s':St}{w:World}
section
variable {s:St}{ρ:Nat->Value}{w:World}{D:Nat->Prop}{F:Nat->Nat->Prop}
def NE(wr:Bl (s.r.map Ab.v) w D ρ F){a:Act}:∀(ps:List WP) (xs:List Operand) (z:(PTW ps).T) (LD:List (C9×Nat)),Qy s ps (xs.map s.ev)=some (z,LD)->(∀x∈xs,Rel D w (Ak (s.r.map Ab.v) ρ w) (s.den.ev x) (a.eval x) noF)->∀m,
  (AZ ps z m).1.length=xs.length/\WOK s (s.r.map Ab.v) ρ w LD (AZ ps z m).2/\
   ∀(R0:List Ab) σ0 ρ0,Has R0 m (AZ ps z m).2->Ze s (s.r.map Ab.v) ρ w LD m σ0 ρ0->∀i,i<xs.length->Rel D w (Ak σ0 ρ0 w) (((AZ ps z m).1.getD i (.one .dead)).v R0) (a.eval (xs.getD i (.tmp 0))) noF
 |[],[],z,LD,h,_,m=>by
  cases h;exact⟨rfl,⟨rfl,λk hk=>by simp at hk,λa ha=>by cases ha⟩,λ_ _ _ _ _ i hi=>by simp at hi⟩
 |[p],[x],z,LD,h,hr,m=>by
  have h:UZ s p (s.ev x)=some (z,LD):=h;cases e:s.ev x with
  |none=>rw[e]at h;cases h
  |some y=>
   rw[e]at h;have O:=hr x (by simp)
   rw[A7 e]at O;obtain⟨g1,g2⟩:=Qz wr h O m;refine⟨rfl,g1,λR0 σ0 ρ0 E U i hi=>?_⟩
   obtain rfl:i=0:=by simp at hi;exact hi
   exact g2 R0 σ0 ρ0 E U
 |p::q::l,x::xs,z,LD,h,hr,m=>by
  have h:(match UZ s p (s.ev x)with
   |some (x,a)=>match Qy s (q::l) (xs.map s.ev)with
    |some (z,b)=>some ((x,z),a++b)
    |none=>none
   |none=>none:Option ((PTW (p::q::l)).T×List (C9×Nat)))=some (z,LD):=h
  split at h
  case h_2=>cases h
  rename_i Z a1 W;split at h
  case h_2=>cases h
  rename_i Y b1 h2;cases h;cases e:s.ev x with
  |none=>rw[e]at W;cases W
  |some y=>
   rw[e]at W;have O:=hr x (by simp)
   rw[A7 e]at O;obtain⟨g1,g2⟩:=Qz wr W O m;obtain⟨k1,k2,k3⟩:=NE wr (q::l) xs Y b1 h2 (λy e=>hr y (mCM _ e)) (m+(U0 p Z m).2.length)
   refine⟨by show(AZ (q::l) Y _).1.length+1=_;rw[k1];rfl,g1.app k2,λR0 σ0 ρ0 E U i hi=>?_⟩
   have E:Has R0 m ((U0 p Z m).2++(AZ (q::l) Y (m+(U0 p Z m).2.length)).2):=E;cases i with
   |zero=>exact g2 R0 σ0 ρ0 E.left U.left
   |succ i=>
    have J:=U.right;rw[<-g1.len]at J;exact k3 R0 σ0 ρ0 E.right J i (by simpa using hi)
 |[],_::_,_,_,h,_,_=>by cases h
 |[_],[],_,_,h,_,_=>by cases h
 |[_],_::_::_,_,_,h,_,_=>by cases h
 |_::_::_,[],_,_,h,_,_=>by cases h
end
theorem B1.tyV0{π:Nat->Nat}{n:Nat}:∀(t:Ty) (x:t.T),∀v∈tyV t 0 x,B1 π n v v
 |.int _,_,v,h=>by simp[tyV]at h;subst h;exact .inr (Sub.refl _)
 |.bool,_,v,h=>by simp[tyV]at h;subst h;exact .inr (Sub.refl _)
 |.str,_,v,h=>by simp[tyV]at h;subst h;exact .inr (Sub.refl _)
 |.sl _,_,v,h=>by simp[tyV,List.mem_singleton]at h;subst h;exact .inr (Sub.refl _)
 |.ptr _,_,v,h=>by simp[tyV,List.mem_singleton]at h;subst h;exact .inr (Sub.refl _)
 |.unit,_,v,h=>by trivial
 |.mp _ _,_,v,h=>by simp only[tyV,List.mem_singleton]at h;subst h;exact .inr (Sub.refl _)
 |.pair a b,x,v,h=>by
  simp[tyV,List.mem_append]at h;exact h.elim (B1.tyV0 a x.1 v) (B1.tyV0 b x.2 v)
 |.osl _,x,v,h=>by
  simp[tyV,List.mem_singleton]at h;subst h;cases x with
  |none=>exact B1.dead _ _ _
  |some xs=>exact .inr (Sub.refl _)
 |.clo g t,x,v,h=>by
  simp[tyV,List.mem_singleton]at h;subst h;refine .inr ⟨_,rfl,λk e=>?_⟩
  have e:k<(tyV t 0 x).length:=by rw[Ay];grind
  show B1 π n ((tyV t 0 x).getD k .dead) ((tyV t 0 x).getD k .dead);rw[gDE,gEE e];exact B1.tyV0 t x _ (List.getElem_mem e)
theorem killP_ren{r':List Ab}{M:V->V}{h:Nat->AX->Bool}(E:CL M (λid q=>h id q=false))(O:∀id q,h id q=false->id<N)(U:∀id q,h id q=false->(Af r' id q).len=(Af r id q).len)(y:Cl):B1 (λi=>i) N (M (y.v r)) ((y.killP h).v r'):=by
 cases y with
 |dead=>exact B1.dead _ _ _
 |nil=>show B1 _ _ (M (.c _)) _;rw[E.m.c];exact .inr (Sub.refl _)
 |nilp=>show B1 _ _ (M (.c _)) _;rw[E.m.c];exact .inr (Sub.refl _)
 |nilf=>show B1 _ _ (M (.c _)) _;rw[E.m.c];exact .inr (Sub.refl _)
 |nilm=>show B1 _ _ (M (.c _)) _;rw[E.m.c];exact .inr (Sub.refl _)
 |c t d x=>
  have e:M (cV t d x)=cV t d x:=by
   cases t with
   |int k=>exact E.m.c _
   |bool=>exact E.m.c _
   |str=>exact E.m.c _
   |sl t=>exact E.m.nd _ _ _ _ _
   |ptr t=>exact E.m.nd _ _ _ _ _
   |unit=>exact E.m.dead
   |clo g u=>exact E.m.clo
   |osl u=>exact E.m.osl
   |mp a b=>exact E.m.mp _ _
   |pair a b=>exact E.m.dead
  show B1 _ _ (M (cV t d x)) (cV t d x);rw[e];cases t<;>first|exact .inr (Sub.refl _)|rfl|(cases x<;>first|rfl|exact .inr (Sub.refl _))|exact B1.tyV0 (.clo _ _) x _ (List.mem_singleton.2 rfl)
 |rf id q=>
  show B1 _ _ (M (.rs id q 0 _)) ((bif h id q then Cl.dead else .rf id q).v r');cases J:h id q with
  |true=>exact B1.dead _ _ _
  |false=>
   rw[E.rs id q _ _ J];refine .inr ⟨id,O id q J,rfl,?_⟩;show V.rs id q 0 (Af r' id q).len=_;rw[U id q J]
 |rs id q off len=>
  show B1 _ _ (M (.rs id q off len)) ((bif h id q then Cl.dead else .rs id q off len).v r');cases J:h id q with
  |true=>exact B1.dead _ _ _
  |false=>rw[E.rs id q _ _ J];exact .inr ⟨id,O id q J,rfl,rfl⟩
 |rm id q=>
  show B1 _ _ (M (.rm id q)) ((bif h id q then Cl.dead else .rm id q).v r');cases J:h id q with
  |true=>exact B1.dead _ _ _
  |false=>rw[E.rm id q J];exact .inr ⟨id,O id q J,rfl,rfl⟩
 |rp id q i k=>
  show B1 _ _ (M (.rp id q i k)) ((bif h id q then Cl.dead else .rp id q i k).v r');cases J:h id q with
  |true=>exact B1.dead _ _ _
  |false=>rw[E.rp id q _ _ J];exact .inr ⟨id,O id q J,rfl,rfl⟩
theorem ZO{l:List Cl}{f g:Cl->V}(E:f .dead=.dead)(e:g .dead=.dead)(h:∀y,B1 (λi=>i) N (f y) (g y))(k:Nat):B1 (λi=>i) N ((l.map f).getD k .dead) ((l.map g).getD k .dead):=by grind
theorem Sl.killP_ren{r r':List Ab}{M:V->V}{h:Nat->AX->Bool}{N:Nat}(e:CL M (λid q=>h id q=false))(O:∀id q,h id q=false->id<N)(J:∀id q,h id q=false->(Af r' id q).len=(Af r id q).len)(y:Sl):B1 (λi=>i) N (M (y.v r)) ((y.killP h).v r'):=by
 have one:=Go.Ve.killP_ren e O J
 have key:∀(l:List Cl) (k:Nat),B1 (λi=>i) N (((l.map (Cl.v r)).map M).getD k .dead) (((l.map (Cl.killP h)).map (Cl.v r')).getD k .dead):=by
  intro l k;rw[List.map_map,List.map_map];exact ZO (f:=λy=>M (y.v r)) (g:=λy=>(y.killP h).v r') e.m.dead rfl one k
 cases y with
 |one c=>exact one c
 |new l=>
  show B1 _ _ (M (Be true (l.map Cl.v0))) (Be true (l.map Cl.v0));rw[show M (Be true (l.map Cl.v0))=Be true (l.map Cl.v0)from e.m.nd _ _ _ _ _]
  exact .inr (Sub.refl _)
 |agg l=>
  show B1 _ _ (M (Ai _)) (Ai _);rw[G_mk e.m];exact Q2 (by simp) λk _=>key l k
 |pk t l=>
  show B1 _ _ (M (pkL t _)) (pkL t _);rw[G_pk e.m];exact Aa0 (by simp) λk _=>key l k
 |tup l=>
  show B1 _ _ (M (Dw _)) (Dw _);rw[Adk e.m];refine Xr (by simp) λk E=>?_
  have E:k<l.length:=by simpa using E
  simp only[gDE,List.getElem?_map,gEE E,Option.map_some,Option.getD_some];generalize l[k]=p;obtain⟨b,m⟩:=p;cases b with
  |true=>
   show B1 _ _ (M (Ai (m.map (Cl.v r)))) (Ai ((m.map (Cl.killP h)).map (Cl.v r')));rw[G_mk e.m];exact Q2 (by simp) λk _=>key m k
  |false=>
   have:=key m 0;cases m with
   |nil=>show B1 _ _ (M .dead) .dead;exact B1.dead _ _ _
   |cons y m=>simpa using this
def Ox:∀(E:List (C9×V)) (i:Nat) {v v':V},Sub v v'->Sub (DC E i v) (DC E i v')
 |[],_,_,_,h=>h
 |a::E,i,v,v',h=>by
  refine Ox E i ?_;split
  .exact Sub.upd _ h
  grind
def AcC(a:C9×Nat)(y:Σ t:Ty,t.T):V:=match y with
 |⟨.sl u,xs⟩=>cV (.sl u) (a.2+1) xs
 |_=>.dead
theorem JP:∀(LD:List (C9×Nat)) (ys:List (Σ t:Ty,t.T)) (r r':List Ab),C1 LD ys r=some r'->r'.length=r.length/\LD.length=ys.length/\∀i,Sub (DC ((LD.map (·.1)).zip (LD.zipWith AcC ys)) i ((r.getD i .dead).v)) (r'.getD i .dead).v
 |[],[],r,r',h=>by cases h;exact⟨rfl,rfl,λi=>Sub.refl _⟩
 |(a,d)::LD,⟨.sl u,xs⟩::ys,r,r',h=>by
  unfold C1 at h;split at h
  case h_2=>cases h
  rename_i x J;obtain⟨Y,W,U⟩:=JP LD ys _ _ h;have E:a.1<r.length:=by
   rcases Nat.lt_or_ge a.1 r.length with h|h
   .exact h
   .exact absurd (by rw[gDE,List.getElem?_eq_none h];rfl) (Lk J)
  refine⟨by rw[Y];simp,by simp[W],λi=>?_⟩
  show Sub (DC ((LD.map (·.1)).zip (LD.zipWith AcC ys)) i (if a.1=i then upd a.2 ((r.getD i .dead).v) (cV (.sl u) (d+1) xs)else(r.getD i .dead).v)) _
  refine Sub.trans (Ox _ i ?_) (U i);by_cases O:a.1=i
  .subst O
   rw[if_pos rfl];have e:(r.set a.1 x).getD a.1 .dead=x:=by simp[E]
   rw[e];exact Xc J
  .rw[if_neg O]
   have e:(r.set a.1 x).getD i .dead=r.getD i .dead:=by
    grind
   rw[e];exact Sub.refl _
 |[],_::_,_,_,h=>by cases h
 |_::_,[],_,_,h=>by cases h
 |_::_,⟨.int _,_⟩::_,_,_,h=>by cases h
 |_::_,⟨.bool,_⟩::_,_,_,h=>by cases h
 |_::_,⟨.str,_⟩::_,_,_,h=>by cases h
 |_::_,⟨.unit,_⟩::_,_,_,h=>by cases h
 |_::_,⟨.ptr _,_⟩::_,_,_,h=>by cases h
 |_::_,⟨.clo _ _,_⟩::_,_,_,h=>by cases h
 |_::_,⟨.osl _,_⟩::_,_,_,h=>by cases h
 |_::_,⟨.mp _ _,_⟩::_,_,_,h=>by cases h
 |_::_,⟨.pair _ _,_⟩::_,_,_,h=>by cases h
def lenD(y:Σ t:Ty,t.T):Nat:=match y with
 |⟨.sl _,xs⟩=>xs.length
 |_=>0
theorem JT{x:Ab}{i j:Nat}(h:i≠j):(r.set i x).getD j .dead=r.getD j .dead:=by grind
def JQ{id:Nat}{q:AX}:∀(LD:List (C9×Nat)) (ys:List (Σ t:Ty,t.T)) (r r':List Ab),C1 LD ys r=some r'->(LD.map (·.1)).Pairwise Ic->
  (∀k,k<LD.length->(LD.getD k ((0,[]),0)).1.2=[]->lenD (ys.getD k ⟨.unit,()⟩)=(r.getD (LD.getD k ((0,[]),0)).1.1 .dead).len)->
  (∀a∈LD,a.1.1=id->(a.1.2=[]/\q=[])\/(a.1.2≠[]/\pre (a.1.2.map (·.2)) q=false))->(Af r' id q).len=(Af r id q).len
 |[],[],r,r',h,_,_,_=>by cases h;rfl
 |(a,d)::LD,⟨.sl u,xs⟩::ys,r,r',h,hp,hl,hq=>by
  unfold C1 at h;split at h
  case h_2=>cases h
  rename_i x Y;obtain⟨W,O⟩:=List.pairwise_cons.1 hp;have U:a.1<r.length:=by
   rcases Nat.lt_or_ge a.1 r.length with h|h
   .exact h
   .exact absurd (by rw[gDE,List.getElem?_eq_none h];rfl) (Lk Y)
  rw[JQ LD ys _ _ h O (λk hk J=>?_) λb hb=>hq b (mCM _ hb)]
  .by_cases he:id=a.1
   .subst he
    rw[BP U];have J:=hq _ (List.mem_cons_self ..) rfl;refine PK Y (λE=>(J.resolve_left λh=>E h.1).2) λZ=>⟨(J.resolve_right λh=>h.1 Z).2,?_⟩
    exact hl 0 (by simp) Z
   .rw[Bq he]
  .have h1:=hl (k+1) (by simpa using hk) (by simpa using J)
   simp only[List.getD_cons_succ]at h1;rw[h1]
   have E:a.1≠(LD.getD k ((0,[]),0)).1.1:=λe=>by
    rcases W (LD.getD k ((0,[]),0)).1 (List.mem_map.2 ⟨_,by simp[hk],rfl⟩)with h2|h2
    .exact h2 e
    .rw[J,Yz]at h2;cases h2
   rw[JT E]
 |[],_::_,_,_,h,_,_,_=>by cases h
 |_::_,[],_,_,h,_,_,_=>by cases h
 |_::_,⟨.int _,_⟩::_,_,_,h,_,_,_=>by cases h
 |_::_,⟨.bool,_⟩::_,_,_,h,_,_,_=>by cases h
 |_::_,⟨.str,_⟩::_,_,_,h,_,_,_=>by cases h
 |_::_,⟨.unit,_⟩::_,_,_,h,_,_,_=>by cases h
 |_::_,⟨.ptr _,_⟩::_,_,_,h,_,_,_=>by cases h
 |_::_,⟨.clo _ _,_⟩::_,_,_,h,_,_,_=>by cases h
 |_::_,⟨.osl _,_⟩::_,_,_,h,_,_,_=>by cases h
 |_::_,⟨.mp _ _,_⟩::_,_,_,h,_,_,_=>by cases h
 |_::_,⟨.pair _ _,_⟩::_,_,_,h,_,_,_=>by cases h
theorem Nd{L:List C9}{id:Nat}{q:AX}(h:Aae L N id q=false):id<N/\∀a∈L,a.1=id->(a.2=[]/\q=[])\/(a.2≠[]/\pre (a.2.map (·.2)) q=false):=by
 unfold Aae at h;simp only[Bool.or_eq_false_iff,Bool.not_eq_false']at h;refine⟨blE h.1,λa E e=>?_⟩
 have J:=List.any_eq_false.1 h.2 a E;obtain⟨i,p⟩:=a;subst e;simp[Bool.true_and]at J
 grind
theorem sc_put{t:Ty}{x:t.T}(W:t.sc=true)(U:s.put h (some d) (.one (.c t 0 x))=some s')(hs:AQ C h.n s.den a w):AQ C h.n s'.den (a.put (some d) (scV t x)) w:=by
 refine AQ.put U ?_;obtain⟨hd,hdd,D,ρ,F,O⟩:=hs;have J:d<h.n:=by
  unfold St.put at U;simp only at U;cases Y:Nat.blt d h.n with
  |false=>grind
  |true=>simp_all
 have e:s.den.res h (some d) ((Sl.one (.c t 0 x)).v s.r)=⟨AF s.den.t d (.c (scV t x)),s.den.σ⟩:=by
  have e1:(Sl.one (.c t 0 x)).v s.r=.c (scV t x):=Aaz W 0 x;rw[e1];unfold Ms.res;simp only[J,if_true];split
  .rfl
  .show Ms.mk (AF s.den.t d (.c _)) (s.den.σ++[])=_
   rw[List.append_nil]
 rw[e];have E:(scV t x).oneCell'=true:=by cases t<;>first|rfl|cases W
 have Z:=O.setv (Below.refl _ _) (r:=.c (scV t x)) (v':=scV t x) ⟨rfl,E,λ_ h=>h⟩ (λ_ h=>h) (λ_ h=>.inl h) (λb Y=>O.wr.Dlt b Y) d
 refine⟨hd,λy hy=>?_,?_⟩
 .show AF s.den.t d _ y=.dead
  unfold AF
  grind
 .rw[CA J]at Z
  exact Z
theorem AbB{u:Ty}{d0:Nat}(h:dOK u d d0=true)(xs:List u.T):cV (.sl u) (d+1) xs=cV (.sl u) (d0+1) xs:=by
 have e:tyV u d=tyV u d0:=funext λz=>C0 _ _ _ z (Kz h)
 show arr true u.w (tyV u d) u.dflt xs=arr true u.w (tyV u d0) u.dflt xs
 grind
theorem W3{P:Program}{Γ:List EnW}(hΓ:∀e∈Γ,e.OK P){C:Ctx}{h:Cw}{s s1 s':St}{o:Oper}{f:FuncId}{xs:Array Operand}{ats:Array TypeId}{a:Act}{w:World}{A:Y4}{u:A.α}{d:Nat}{next:Act->World->Prop}{Q:Exit->Act->World->Prop}
  (ho:o.op=.call ⟨.value (.func f),xs,ats⟩) (hdst:o.dst=some d) (ha:NS Γ s f (xs.toList.map s.ev)=some A) (hu:A.o=some u) (hst:A.st u=some s1) (hp:s1.put h (some d) (.one (A.y u))=some s')
  (hs:AQ C h.n s.den a w) (hn:∀a' w',AQ C h.n s'.den a' w'->next a' w'):o.wp P a w next Q:=by
 obtain⟨hdf,hdd,D,ρ,F,hcr⟩:=hs;unfold NS at ha;split at ha
 case h_2=>cases ha
 rename_i e he;split at ha
 case h_2=>cases ha
 rename_i z LD hz;cases Z:Mj (LD.map (·.1))with
 |false=>rw[Z]at ha;cases ha
 |true=>
 rw[Z]at ha;cases ha;have Z:=Pj Z;obtain⟨⟨E,hft⟩,hfe⟩:=Ur hΓ he;rw[hfe]at E hft;have hu:e.g z=some u:=hu
 have hst:(match C1 LD (wOf (Dl e.S.ps) u.2) s.r with
  |some r'=>some (⟨λi=>(s.t i).killP (Aae (LD.map (·.1)) s.r.length),r'⟩:St)
  |none=>none)=some s1:=hst
 have hp:s1.put h (some d) (.one (.c e.S.rt 0 u.1))=some s':=hp;split at hst
 case h_2=>cases hst
 rename_i r' hr';cases hst;obtain⟨hsc,hlen,hnd,hfc⟩:=hft z u hu;obtain⟨g1,g2,g3⟩:=NE hcr.wr e.S.ps xs.toList z LD hz (λx _=>By hcr hdd x) 0
 obtain⟨k1,k2,k3⟩:=JP _ _ _ _ hr';have hRL:=g2.len
 -- the trees that are handed over
 have hσ0:(AZ e.S.ps z 0).2.map Ab.v=(LD.map (·.1)).map λa=>sub a.2 ((s.r.map Ab.v).getD a.1 .dead):=by
  apply List.ext_getElem
  .simp[hRL]
  .intro k h1 h2
   have J:k<LD.length:=by simp at h2;exact h2
   obtain⟨u',d0,ys,e1,e2,e3⟩:=g2.nd k J;have W:k<(AZ e.S.ps z 0).2.length:=by omega
   have e1:(AZ e.S.ps z 0).2[k]=.arr false u' d0 ys:=by rw[<-e1];simp[W]
   have e4:LD.getD k ((0,[]),0)=LD[k]:=by simp[J]
   rw[e4]at e2 e3;simp only[List.getElem_map,e1];have U:Af s.r LD[k].1.1 LD[k].1.2≠.dead:=by rw[e2];intro h;cases h
   rw[AV U,e2];exact(AbB e3 ys).symm
 have hσ1:(Bs (AZ e.S.ps z 0).2 (wOf (Dl e.S.ps) u.2)).map Ab.v=LD.zipWith AcC (wOf (Dl e.S.ps) u.2):=by
  apply List.ext_getElem
  .rw[List.length_map,CW _ _ hlen.symm,List.length_zipWith];omega
  .intro k h1 h2
   have J:k<LD.length:=by simp at h2;omega
   have W:k<(AZ e.S.ps z 0).2.length:=by omega
   obtain⟨u',d0,ys,e1,e2,e3⟩:=g2.nd k J;have hg:=Co (AZ e.S.ps z 0).2 (wOf (Dl e.S.ps) u.2) k hlen.symm W;have U:=hnd k W;rw[hg]at U;obtain⟨ro,u2,d2,xs2,Y,f1,f2,f3⟩:=LG U;rw[e1]at f1;cases f1;have h3:k<(Bs (AZ e.S.ps z 0).2 (wOf (Dl e.S.ps) u.2)).length:=by simpa using h1
   have hy:k<(wOf (Dl e.S.ps) u.2).length:=by omega
   have f2:(wOf (Dl e.S.ps) u.2)[k]=⟨.sl u',Y⟩:=by rw[<-f2];simp[hy]
   have f4:(Bs (AZ e.S.ps z 0).2 (wOf (Dl e.S.ps) u.2))[k]=.arr false u' d0 Y:=by
    rw[<-f3,<-hg];simp[h3]
   rw[List.getElem_map,List.getElem_zipWith,f4,f2];have e4:LD.getD k ((0,[]),0)=LD[k]:=by simp[J]
   rw[e4]at e3;exact(AbB e3 Y).symm
 rw[hσ0,hσ1]at hfc;have hmem:∀k,k<LD.length->LD.getD k ((0,[]),0)∈LD:=λk J=>by simp[J]
 have hLk:∀k,k<LD.length->(LD.map (·.1)).getD k (0,[])=(LD.getD k ((0,[]),0)).1:=λk J=>by simp[J]
 have hcall2:=Aay hcr (cvs:=xs.map a.eval) (L:=LD.map (·.1)) hfc (λb hb=>by
   obtain⟨c,hc,rfl⟩:=List.mem_map.1 hb;exact g2.at' c hc) Z (by rw[List.length_zipWith,List.length_map];omega) (λk J=>by
   have J:k<LD.length:=by simpa using J
   obtain⟨u',d0,ys,e1,e2,e3⟩:=g2.nd k J;have W:k<(AZ e.S.ps z 0).2.length:=by omega
   have hg:=Co (AZ e.S.ps z 0).2 (wOf (Dl e.S.ps) u.2) k hlen.symm W;have U:=hnd k W;rw[hg]at U;obtain⟨ro,u2,d2,xs2,Y,f1,f2,f3⟩:=LG U;rw[e1]at f1;cases f1;have hne2:Af s.r (LD.getD k ((0,[]),0)).1.1 (LD.getD k ((0,[]),0)).1.2≠.dead:=by rw[e2];intro h;cases h
   have e5:(LD.zipWith AcC (wOf (Dl e.S.ps) u.2)).getD k .dead=AcC (LD.getD k ((0,[]),0)) ((wOf (Dl e.S.ps) u.2).getD k ⟨.unit,()⟩):=by
    have hy:k<(wOf (Dl e.S.ps) u.2).length:=by omega
    simp[List.getElem?_zipWith,J,hy]
   rw[hLk k J]
   exact⟨_,_,_,_,_,(show _=V.nd true true u'.w ys.length (λi j=>(tyV u' (LD.getD k ((0,[]),0)).2 (ys.getD i u'.dflt)).getD j .dead)from(AV hne2).trans (by rw[e2];rfl)),
    (show _=V.nd true true u'.w Y.length (λi j=>(tyV u' (LD.getD k ((0,[]),0)).2 (Y.getD i u'.dflt)).getD j .dead)from by rw[e5,f2];rfl)⟩) (by simp[g1]) (λρ0 F0 wr0 hval i hi=>by
   have hi:i<xs.toList.length:=by simpa [g1]using hi
   have h1:=g3 (AZ e.S.ps z 0).2 ((LD.map (·.1)).map λa=>sub a.2 ((s.r.map Ab.v).getD a.1 .dead)) ρ0 (λj _=>by rw[Nat.zero_add]) (λk J=>by
    refine⟨by simpa using J,?_,?_⟩
    .simp[J]
    .have h2:=hval k (by simpa using J)
     rw[hLk k J]at h2;rw[Nat.zero_add];exact h2) i hi
   have e6:((AZ e.S.ps z 0).1.map (Sl.v (AZ e.S.ps z 0).2)).getD i .dead=((AZ e.S.ps z 0).1.getD i (.one .dead)).v (AZ e.S.ps z 0).2:=AE (f:=Sl.v _) (a:=.one .dead) rfl _ _;rw[e6];have hi':i<xs.size:=by simpa using hi
   have e7:(xs.map a.eval).getD i undef=a.eval (xs.toList.getD i (.tmp 0)):=by simp[hi']
   rw[e7];exact h1)
 have hrun:(execOp a.eval o).run P w=.ok (.enter f (xs.map a.eval)) w:=by
  unfold Ae at E;split at E
  .rename_i fn hfn
   simp only[bAE,Bool.not_eq_true']at E;obtain⟨h1,h2⟩:=E;have h2':fn.body.isNone=false:=by cases hb:fn.body<;>simp[hb]at h2⊢
   have e0:a.eval (.func f)=.func (.func f) #[] #[]:=rfl;unfold execOp;rw[ho];simp[resolve,e0,Deferred.ofValue,invoke,callFunc,hfn,h2'];simp at h1;simp[h1];intro hb;simp[hb]at h2
  .cases E
 unfold Oper.wp;rw[hrun,Oper.upon_enter];refine hcall2.mono λen w' hpost=>?_
 obtain⟨rfl,σ3,M,⟨D3,ρ3,F3,hc3⟩,hl3,hM,hσ3,hsame⟩:=hpost
 have hsr:AQ C h.n (St.den ⟨λi=>(s.t i).killP (Aae (LD.map (·.1)) s.r.length),r'⟩) a w':=by
  have hlen':∀id q,Aae (LD.map (·.1)) s.r.length id q=false->(Af r' id q).len=(Af s.r id q).len:=by
   intro id q hh;obtain⟨_,hoff⟩:=Nd hh;refine JQ LD _ _ _ hr' Z (λk J O=>?_) λb hb=>hoff b.1 (List.mem_map.2 ⟨b,hb,rfl⟩)
   obtain⟨sz,n,f1,f2,q1,q2⟩:=hsame k (by simpa using J)
   rw[hLk k J,O]at q1;have hy:k<(wOf (Dl e.S.ps) u.2).length:=by omega
   have e5:(LD.zipWith AcC (wOf (Dl e.S.ps) u.2)).getD k .dead=AcC (LD.getD k ((0,[]),0)) ((wOf (Dl e.S.ps) u.2).getD k ⟨.unit,()⟩):=by
    simp[List.getElem?_zipWith,J,hy]
   rw[e5]at q2;have q1:((s.r.map Ab.v).getD (LD.getD k ((0,[]),0)).1.1 .dead)=.nd true true sz n f1:=q1;rw[Aw]at q1
   have hr1:(s.r.getD (LD.getD k ((0,[]),0)).1.1 .dead).len=n:=by
    generalize s.r.getD (LD.getD k ((0,[]),0)).1.1 .dead=R at q1;cases R with
    |dead=>cases q1
    |obj ro l=>cases q1
    |arr ro t d xs=>cases q1;rfl
    |mp=>cases q1
    |opt ro t d x=>cases x with
     |none=>cases q1
     |some xs=>cases q1;rfl
   have hr2:lenD ((wOf (Dl e.S.ps) u.2).getD k ⟨.unit,()⟩)=n:=by
    generalize (wOf (Dl e.S.ps) u.2).getD k ⟨.unit,()⟩=y at q2;obtain⟨ty,x⟩:=y;cases ty with
    |sl u'=>cases q2;rfl
    |_=>cases q2
   rw[hr1,hr2]
  have hperm:=hc3.perm (σ':=r'.map Ab.v) (ts':=(List.range h.n).map (St.den ⟨λi=>(s.t i).killP (Aae (LD.map (·.1)) s.r.length),r'⟩).t) (π:=λi=>i) (λi hi=>by
    rw[List.length_map,k1]at hi;have:(s.r.map Ab.v).length=s.r.length:=by simp
    have hl3:(s.r.map Ab.v).length<=σ3.length:=hl3;omega) (λ_ _ _ _ h=>h) (λi hi=>by
    have hi':i<(s.r.map Ab.v).length:=by rw[List.length_map,k1]at hi;simpa using hi
    rw[hσ3 i hi',Aw];have:=k3 i;have e8:(s.den.σ).getD i .dead=(s.r.getD i .dead).v:=Aw _ _;rw[e8];exact this) (λ_ _=>rfl) (by
    have:=hcr.ml;rw[List.length_map,k1];simpa [St.den]using this) (by simp) (λi hi=>by
    have hi:i<h.n:=by simpa using hi
    have J:=Sl.killP_ren (r:=s.r) (r':=r') (h:=Aae (LD.map (·.1)) s.r.length) (N:=s.r.length) (M:=M) (hM.weak λid q hh=>by
     obtain⟨o1,o2⟩:=Nd hh;refine⟨by simpa [St.den]using o1,λb hb hbe=>?_⟩
     rcases o2 b hb hbe with o3|o3
     .exact .inl o3
     .refine .inr ⟨o3.1,?_⟩
      cases hpre:AT b.2 q with
      |false=>rfl
      |true=>rw[Ly hpre]at o3;cases o3.2) (λid q hh=>(Nd hh).1) hlen' (s.t i)
    have hlr:(r'.map Ab.v).length=s.r.length:=by rw[List.length_map,k1]
    rw[hlr];simpa [hi,St.den]using J)
  refine⟨hdf,λx hx=>?_,hperm⟩
  have O:(s.t x).v s.r=.dead:=hdd x hx;show((s.t x).killP _).v r'=.dead;cases hy:s.t x with
  |one y=>
   rw[hy]at O;cases y with
   |dead=>rfl
   |c t d z=>exact O
   |nil=>cases O
   |nilp=>cases O
   |nilf=>cases O
   |nilm=>cases O
   |rf=>cases O
   |rs=>cases O
   |rp=>cases O
   |rm=>cases O
  |new l=>rw[hy]at O;cases O
  |agg l=>rw[hy]at O;cases O
  |tup l=>rw[hy]at O;cases O
  |pk t l=>rw[hy]at O;cases O
 rw[hdst];exact hn _ _ (sc_put hsc hp hsr)
end Go.Ve


namespace Go.Ve
theorem Ac8(d:Nat)(r:List Ab)(c:Cl):(fit d c).v r=c.v r/\(fit d c).v0=c.v0:=by
 cases c with
 |c t E x=>
  have e:fit d (.c t E x)=bif Nat.beq (Pl E t.dep) (Pl d t.dep)then .c t d x else .c t E x:=rfl;rw[e];cases h:Nat.beq (Pl E t.dep) (Pl d t.dep)with
  |false=>simp
  |true=>
   have:=bqE h;rw[IF,IF]at this;exact⟨(I8 this).symm,(I8 this).symm⟩
 |_=>trivial
def Mt(r:List Ab):List Cl->Option (List Cl×List (Option Nat))
 |[]=>some ([],[])
 |.rf id []::l=>match r.getD id .dead with
  |.arr false t d xs=>match Mt r l with
   |some (m,js)=>some (.c (.sl t) (d+1) xs::m,some id::js)
   |none=>none
  |_=>none
 |y::l=>bif y.imm then(match Mt r l with
   |some (m,js)=>some (y::m,none::js)
   |none=>none)else none
def apO:List (Option Nat)->Bool
 |[]=>true
 |none::l=>apO l
 |some a::l=>l.all (λb=>match b with
  |some b=>!Nat.beq a b
  |none=>true)&&apO l
def VY:List (Option Nat)->List Nat
 |[]=>[]
 |none::l=>VY l
 |some a::l=>a::VY l
def tBSM(s:St)(n:Nat)(ps:List (Nat×Option Sl)):Option TI->Option LR
 |some j=>bif Nat.blt 0 j.ty.w&&Nat.ble (n*j.ty.w) 16777216 then(match Vh (λi=>some (i*j.ty.w,j.ty.w)) (Acm n (Ii j.ty)) ps with
   |some l=>match Mt s.r l with
    |some (m,js)=>bif apO js then(match VY js with
     |[]=>none
     |_::_=>match OB j.ty j.sd n (m.map (fit j.sd))with
      |some xs=>some ⟨True,inferInstance,VY js,.c (.sl j.ty) (j.sd+1) xs⟩
      |none=>none)else none
    |none=>none
   |none=>none)
  else none
 |none=>none
theorem YS:∀{l:List (Option Nat)},apO l=true->∀i k a,i<l.length->k<l.length->i≠k->l.getD i none=some a->l.getD k none≠some a
 |none::l,h,i,k,a,hi,e,hne,h1=>by
  cases i with
  |zero=>cases h1
  |succ i=>cases k with
   |zero=>intro E;cases E
   |succ k=>exact YS (l:=l) h i k a (by simpa using hi) (by simpa using e) (by omega) (by simpa using h1)
 |some b::l,h,i,k,a,hi,e,hne,h1=>by
  simp only[apO,bAE]at h;have key:∀k,k<l.length->l.getD k none≠some b:=by
   intro k e E;have J:=aET.1 h.1 (l.getD k none) (by simp[e])
   simp_all
  cases i with
  |zero=>
   grind
  |succ i=>cases k with
   |zero=>
    intro E
    simp_all
   |succ k=>exact YS (l:=l) h.2 i k a (by simpa using hi) (by simpa using e) (by omega) (by simpa using h1)
 |[],_,_,_,_,hi,_,_,_=>by simp at hi
def M9:∀{l:List (Option Nat)}{k a:Nat},k<l.length->l.getD k none=some a->a∈VY l
 |none::l,k,a,hk,h=>by
  cases k with
  |zero=>cases h
  |succ k=>exact M9 (l:=l) (by simpa using hk) (by grind)
 |some b::l,k,a,hk,h=>by
  cases k with
  |zero=>cases h;exact List.mem_cons_self ..
  |succ k=>exact mCM _ (M9 (by simpa using hk) (by grind))
 |[],_,_,hk,_=>by grind
def ownF(F:Nat->Nat->Prop):Option Nat->Nat->Prop
 |some j=>F j
 |none=>noF
structure AbI(s:St)(w:World)(D:Nat->Prop)(F:Nat->Nat->Prop)(l m:List Cl)(js:List (Option Nat))(cvs:List Value):Prop where
 ml:m.length=l.length
 jl:js.length=l.length
 ro:∀j∈VY js,j<s.r.length/\(s.r.getD j .dead).ro=false
 rel:∀k,k<l.length->Rel D w noR ((m.map Cl.v0).getD k .dead) (cvs.getD k undef) (ownF F (js.getD k none))
theorem Mr{s:St}{w:World}{D:Nat->Prop}{ρ:Nat->Value}{F:Nat->Nat->Prop}(wr:Bl (s.r.map Ab.v) w D ρ F):∀(l m:List Cl) (js:List (Option Nat)) (cvs:List Value),Mt s.r l=some (m,js)->cvs.length=l.length->
  (∀k,k<l.length->Rel D w (Ak (s.r.map Ab.v) ρ w) ((l.map (Cl.v s.r)).getD k .dead) (cvs.getD k undef) noF)->AbI s w D F l m js cvs
 |[],m,js,cvs,h,_,_=>by
  cases h;exact⟨rfl,rfl,λj hj=>(by cases hj),λk U=>by simp at U⟩
 |y::l,m,js,cvs,h,hl,hr=>by
  cases cvs with
  |nil=>simp at hl
  |cons cv cvs=>
  have W:Rel D w (Ak (s.r.map Ab.v) ρ w) (y.v s.r) cv noF:=by simpa using hr 0 (by simp)
  have J:∀k,k<l.length->Rel D w (Ak (s.r.map Ab.v) ρ w) ((l.map (Cl.v s.r)).getD k .dead) (cvs.getD k undef) noF:=λk U=>by simpa using hr (k+1) (by simpa using U)
  have imm:y.imm=true->∀O e,Mt s.r l=some (O,e)->AbI s w D F (y::l) (y::O) (none::e) (cv::cvs):=λZ O e h1=>by
   obtain⟨g1,g2,g3,g4⟩:=Mr wr l O e cvs h1 (by simpa using hl) J
   refine⟨by simp[g1],by simp[g2],g3,λk U=>?_⟩
   cases k with
   |zero=>
    obtain⟨i1,i2⟩:=Qf (r:=s.r) Z;show Rel D w noR y.v0 cv noF;rw[<-i2];exact CF i1 W
   |succ k=>simpa using g4 k (by simpa using U)
  unfold Mt at h;split at h
  .rename_i he;cases he
  .rename_i id l' he
   cases he;split at h
   case h_2=>cases h
   rename_i t d xs E;split at h
   case h_2=>cases h
   rename_i O e h1;cases h;obtain⟨g1,g2,g3,g4⟩:=Mr wr l O e cvs h1 (by simpa using hl) J
   have Y:(Af s.r id []).len=xs.length:=by
    show(s.r.getD id .dead).len=_;rw[E];rfl
   have W:Rel D w (Ak (s.r.map Ab.v) ρ w) (.rs id [] 0 (Af s.r id []).len) cv noF:=W;rw[Y]at W
   have hσ:(s.r.map Ab.v).getD id .dead=.nd true true t.w xs.length (λi k=>(tyV t d (xs.getD i t.dflt)).getD k .dead):=by
    rw[Aw,E];rfl
   obtain⟨_,hrr⟩:=QX wr hσ W.1;have hid:id<s.r.length:=by simpa using W.1.1
   refine⟨by simp[g1],by simp[g2],λj hj=>?_,λk U=>?_⟩
   .rcases List.mem_cons.1 hj with rfl|hj
    .exact⟨hid,by rw[E];rfl⟩
    .exact g3 j hj
   .cases k with
    |zero=>exact hrr
    |succ k=>simpa using g4 k (by simpa using U)
  .rename_i y' l' hne he
   cases he;obtain⟨hi,h⟩:=A9 h;split at h
   case h_2=>cases h
   rename_i O e h1;cases h;exact imm hi O e h1
theorem Ab4{P:Program}{Θ:Tab}(hΘ:Θ.OK P){C:Ctx}{h:Cw}{s s':St}{o:Oper}{t:TypeId}{n:Nat}{ps:Array (Nat×Operand)}{a:Act}{w:World}{A:LR}{d:Nat}{next:Act->World->Prop}{Q:Exit->Act->World->Prop}
  (ho:o.op=.buildSlice t n ps) (hdst:o.dst=some d) (hfz:h.fz.contains d=false) (Y:tBSM s n (ps.toList.map λp=>(p.1,s.ev p.2)) (((Θ.look t).bind (·.elem)).bind Θ.look)=some A) (hp:(Ap A.js s).put h (some d) (.one A.y)=some s')
  (hs:AQ C h.n s.den a w) (hn:∀a' w',AQ C h.n s'.den a' w'->next a' w'):o.wp P a w next Q:=by
 obtain⟨hdf,hdd,D,ρ,F,J⟩:=hs;unfold tBSM at Y;split at Y
 case h_2=>cases Y
 rename_i j hj;obtain⟨e,hsl,_⟩:=Dh hΘ hj;obtain⟨E,Y⟩:=A9 Y;simp only[bAE]at E;have hw:=La E.1;have hnw:=blE E.2;split at Y
 case h_2=>cases Y
 rename_i l hl;split at Y
 case h_2=>cases Y
 rename_i m js hm;obtain⟨hap,Y⟩:=A9 Y;split at Y
 .cases Y
 rename_i j0 jr hjs;split at Y
 case h_2=>cases Y
 rename_i xs hxs;cases Y;obtain⟨h1,h2⟩:=MA _ _ _ hl;rw[Xq s.r j.ty n hw]at h2
 have hparts:Ml s.den.σ w D ρ F (ps.toList.map λp=>(p.1,s.den.ev p.2)) (ps.toList.map λp=>(p.1,a.eval p.2)):=by
  refine⟨by simp,λk i v U=>?_⟩
  simp only[List.getElem?_map]at U⊢;cases Z:ps.toList[k]? with
  |none=>simp[Z]at U
  |some q=>
   simp only[Z,Option.map_some,Option.some.injEq,Prod.mk.injEq]at U⊢;obtain⟨rfl,rfl⟩:=U;exact⟨_,⟨rfl,rfl⟩,noF,By J hdd q.2,λ_ h=>h.elim,λ_ _ _ h=>h⟩
 obtain⟨O,hrun,hrel,hll⟩:=bs_run (P:=P) ho hparts hsl h1 hw hnw h2;have hlen:l.length=n*j.ty.w:=by simpa using hll
 obtain⟨g1,g2,g3,g4⟩:=Mr J.wr l m js O.toList hm (by have:=hrel.1;simp at this;simpa using this) (λk U=>by
  have:=hrel.2 k (by simpa using U)
  simpa [St.den]using this)
 obtain⟨p1,p2,p3⟩:=PY s.r n _ xs hxs
 have hfitv:∀k,((m.map (fit j.sd)).map (Cl.v s.r)).getD k .dead=(m.map Cl.v0).getD k .dead:=by
  intro k;rw[p2,List.map_map]
  congr 1
  exact List.map_congr_left λy _=>(Ac8 _ s.r y).2
 let Fy:Nat->Nat->Nat->Prop:=λi k=>ownF F (js.getD (i*j.ty.w+k) none)
 have hFy:∀i k b,Fy i k b->∃q,js.getD (i*j.ty.w+k) none=some q/\F q b:=by
  intro i k b E;simp only[Fy]at E;cases Z:js.getD (i*j.ty.w+k) none with
  |none=>rw[Z]at E;exact E.elim
  |some q=>rw[Z]at E;exact⟨q,rfl,E⟩
 have W:∀i k,i<n->k<j.ty.w->i*j.ty.w+k<l.length:=λi k hi U=>by rw[hlen];exact Uz hi U
 have hG:∀i k b,i<n->k<j.ty.w->Fy i k b->∃q∈VY js,F q b:=by
  intro i k b hi U E;obtain⟨q,Z,E⟩:=hFy i k b E;exact⟨q,M9 (by rw[g2];exact W i k hi U) Z,E⟩
 have hblk:(w.alloc (.cells O e)).heap[w.heap.size]? =some (.cells O e (0,0)):=heap_alloc_new w _;have hsame:∀b,b<w.heap.size->(w.alloc (.cells O e)).heap[b]? =w.heap[b]?:=λb E=>Below.heap_alloc _ _ _ E
 have hsz:O.size=n*j.ty.w:=by rw[hrel.1];exact hll
 have hr:Rel D (w.alloc (.cells O e)) noR (.nd true true j.ty.w n λi k=>(m.map Cl.v0).getD (i*j.ty.w+k) .dead) (.slice (some ⟨w.heap.size,0,none⟩) n n) (λb=>b=w.heap.size\/∃i k,i<n/\k<j.ty.w/\Fy i k b):=by
  refine .inr ⟨w.heap.size,0,n,Fy,rfl,Nat.le_refl _,?_,(λh=>by cases h),λi k hi U=>?_,(λh=>by cases h),λ_=>⟨⟨O,e,.plain hblk,by rw[hsz,Nat.zero_add];exact Nat.le_refl _⟩,λi k hi U hF=>?_,λi k i' k' b hi U hi' hk' hne hF hF'=>?_,λ_=>Iff.rfl⟩⟩
  .have:=Nat.le_mul_of_pos_right n hw;unfold maxLen;omega
  .have hlt:=W i k hi U
   refine⟨O.getD (i*j.ty.w+k) undef,?_,?_⟩
   .rw[cellRow hblk,Nat.zero_add]
    have:i*j.ty.w+k<O.size:=by rw[hsz,<-hlen];exact hlt
    simp[this]
   .have h5:=g4 _ hlt
    have h6:Rel D w noR ((m.map Cl.v0).getD (i*j.ty.w+k) .dead) (O.getD (i*j.ty.w+k) undef) (Fy i k):=by
     show Rel D w noR _ _ (ownF F (js.getD (i*j.ty.w+k) none));simpa using h5
    refine Rel.mono (λ_ h=>h) (λ_ _ h=>h) _ _ _ (λb E=>hsame b ?_) h6
    rcases E with E|E
    .exact J.wr.Dlt b E
    .exact Rel.lt _ _ _ h6 b E
  .obtain⟨q,_,Z⟩:=hG i k _ hi U hF
   have:=J.wr.lt q _ Z;omega
  .obtain⟨q,Z,hF⟩:=hFy i k b hF
   obtain⟨q',hq',hF'⟩:=hFy i' k' b hF';have hne2:i*j.ty.w+k≠i'*j.ty.w+k':=by
    intro he;have e1:=congrArg (· /j.ty.w) he
    have e2:=congrArg (· % j.ty.w) he
    simp only[Kk U,Kk hk',Kj U,Kj hk']at e1 e2;omega
   have:=YS hap _ _ q (by rw[g2];exact W i k hi U) (by rw[g2];exact W i' k' hi' hk') hne2 Z
   exact J.wr.disj q q' b (λe=>this (by rw[hq',e])) hF hF'
 obtain⟨F',hcr',hF'⟩:=CH (VY js) J (λq Z=>(g3 q Z).1)
 have hr2:Rel D (w.alloc (.cells O e)) noR (cV (.sl j.ty) (j.sd+1) xs) (.slice (some ⟨w.heap.size,0,none⟩) n n) (λb=>b=w.heap.size\/∃i k,i<n/\k<j.ty.w/\Fy i k b):=by
  refine Rel.sub ?_ hr;show Sub _ (V.nd true true j.ty.w xs.length λi k=>(tyV j.ty j.sd (xs.getD i j.ty.dflt)).getD k .dead)
  rw[p1];refine⟨_,rfl,λi k hi U=>?_⟩
  have:=p3 i k hi U;rw[hfitv]at this;exact this
 have hfpG:∀b,(b=w.heap.size\/∃i k,i<n/\k<j.ty.w/\Fy i k b)->(∃q∈VY js,F q b)\/w.heap.size<=b:=by
  rintro b (rfl|⟨i,k,hi,U,hF⟩)
  .exact .inr (Nat.le_refl _)
  .exact .inl (hG i k b hi U hF)
 have hc:=CR.own hcr' (w':=w.alloc (.cells O e)) (G:=λb=>∃q∈VY js,F q b) (D':=D) (λi b E ⟨q,Z,hFq⟩=>by
   obtain⟨h1,h2⟩:=hF' i b E;exact J.wr.disj i q b (λe=>h2 (e▸Z)) h1 hFq) (λb E ⟨q,_,hFq⟩=>J.wr.dD q b hFq E) (λb ⟨q,_,hFq⟩=>J.Fn q b hFq) rfl rfl rfl (Nat.le_refl _) (by simp) (λc hc _=>hsame c hc) hr2 hfpG
  (λ_ h=>h) (λ_ h=>.inl h) (λb E=>⟨by have:=J.wr.Dlt b E;simp;omega,λh=>by
   rcases hfpG b h with⟨q,_,hFq⟩|h2
   .exact J.wr.dD q b hFq E
   .have:=J.wr.Dlt b E;omega⟩) d
 have hs':=XO (h:=h) hdf (BX (VY js) hdd) hfz hp hc;unfold Oper.wp;rw[hrun];show next (a.put o.dst _) _
 rw[hdst];exact hn _ _ hs'
end Go.Ve

