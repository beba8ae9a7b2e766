/- The typed machine: calls of functions that write their owned arguments. -/
import Derived.Test.YteakdlfnmhlifaaTy
import Derived.Test.YteakdlfnmhlifaaTd
open Nat(beq blt zero_add le_refl)
open List(append_nil length_map mem_singleton map_map getElem?_map mem_map mem_cons)
set_option linter.all false
namespace Go.Ve
variable{p:AI}{r r':Aa}{A B a:List (Db×Nat)}{σ σ0:List V}{d dep m:Nat}{ρ ρ0:Nat->Value}{s:St}{t u:Ty}{cv:Value}{w:World}
def Qr(s:St)(dep:Nat):Cl->Option (Cl×List (Db×Nat))
 |.c t _ x=>bif t.sc then some (.c t dep x,[])else none
 |.rf id p=>match Ac s.r id p with
  |.arr false u d xs=>match dep with
   |d0+1=>bif dOK u d d0 then some (.c (.sl u) (d0+1) xs,[((id,p),d)])else none
   |0=>none
  |_=>none
 |_=>none
def Qq(s:St)(dep:Nat):List Cl->Option (List Cl×List (Db×Nat))
 |[]=>some ([],[])
 |y::l=>match Qr s dep y with
  |some (c,a)=>match Qq s dep l with
   |some (cs,b)=>some (c::cs,a++b)
   |none=>none
  |none=>none
def YU(t:Ty)(dep:Nat):List Cl->Option (t.T×List Cl)
 |.c t' d x::l=>if h:t'=t then(bif beq d dep then some (h▸x,l)else none)else none
 |_=>none
def unC:(t:Ty)->Nat->List Cl->Option (t.T×List Cl)
 |.unit,_,l=>some ((),l)
 |.pair a b,d,l=>match unC a d l with
  |some (x,l)=>match unC b d l with
   |some (y,l)=>some ((x,y),l)
   |none=>none
  |none=>none
 |.int k,d,l=>YU (.int k) d l
 |.bool,d,l=>YU .bool d l
 |.str,d,l=>YU .str d l
 |.sl t,d,l=>YU (.sl t) d l
 |.ptr t,d,l=>YU (.ptr t) d l
 |.clo g t,d,l=>YU (.clo g t) d l
 |.osl t,d,l=>YU (.osl t) d l
 |.mp a b,d,l=>YU (.mp a b) d l
theorem DA(Z:t.one=true){l H:List Cl}{x:t.T}(h:YU t dep l=some (x,H)):l=Ar t dep x++H:=by
 unfold YU at h;split at h
 case h_2=>grind
 rename_i W d y m;split at h
 case isFalse=>grind
 rename_i Y;subst Y;cases U:beq d dep with
 |false=>grind
 |true=>
  rw[U]at h;cases h;rw[bqE U];cases W<;>first|rfl|trivial
def Qx:∀(t:Ty) (dep:Nat) (l H:List Cl) (x:t.T),unC t dep l=some (x,H)->l=Ar t dep x++H
 |.unit,dep,l,H,x,h=>by cases h;rfl
 |.pair a b,dep,l,H,x,h=>by
  unfold unC at h;split at h
  case h_2=>grind
  rename_i y m W;split at h
  case h_2=>grind
  rename_i z Y U;cases h;rw[Qx a dep _ _ _ W,Qx b dep _ _ _ U];simp[Ar]
 |.int _,dep,l,H,x,h=>DA rfl h
 |.bool,dep,l,H,x,h=>DA rfl h
 |.str,dep,l,H,x,h=>DA rfl h
 |.sl _,dep,l,H,x,h=>DA rfl h
 |.ptr _,dep,l,H,x,h=>DA rfl h
 |.clo _ _,dep,l,H,x,h=>DA rfl h
 |.osl _,dep,l,H,x,h=>DA rfl h
 |.mp _ _,dep,l,H,x,h=>DA rfl h
def UY(s:St)(p:WP):Option Sl->Option (p.2.2.T×List (Db×Nat))
 |some (.agg l)=>bif p.1&&p.2.1 then(match Qq s p.2.2.dep l with
  |some (cs,a)=>match unC p.2.2 p.2.2.dep cs with
   |some (x,[])=>some (x,a)
   |_=>none
  |none=>none)else none
 |some (.one y)=>bif p.2.1 then none else bif p.1 then(match Qr s p.2.2.dep y with
   |some (c,a)=>match unC p.2.2 p.2.2.dep [c]with
    |some (x,[])=>some (x,a)
    |_=>none
   |none=>none)
  else(match y with
   |.c H _ x=>if h:H=p.2.2 then(bif H.sc then some (h▸x,[])else none)else none
   |_=>none)
 |_=>none
def Qs(s:St):(ps:List WP)->List (Option Sl)->Option ((PTW ps).T×List (Db×Nat))
 |[],[]=>some ((),[])
 |[p],[y]=>UY s p y
 |p::q::l,y::ys=>match UY s p y with
  |some (x,a)=>match Qs s (q::l) ys with
   |some (z,b)=>some ((x,z),a++b)
   |none=>none
  |none=>none
 |_,_=>none
def Mg:List Db->Bool
 |[]=>true
 |a::l=>l.all (λb=>!beq a.1 b.1||dvP a.2 b.2)&&Mg l
def XY:AI->Option (AI×Nat×Nat)
 |[]=>none
 |(i,k)::q=>match XY q with
  |none=>some ([],i,k)
  |some (p0,j,l)=>some ((i,k)::p0,j,l)
def Aa.setPath(r:Aa)(p:AI)(u:Ty)(d:Nat)(xs:List u.T):Option Aa:=match XY p with
 |none=>match r with
  |.arr false _ _ _=>some (.arr false u d xs)
  |_=>none
 |some (p0,i,k)=>r.setAt p0 i k (.c (.sl u) (d+1) xs)
def C5:List (Db×Nat)->List (Σ t:Ty,t.T)->List Aa->Option (List Aa)
 |[],[],r=>some r
 |(a,d)::L,⟨.sl u,xs⟩::ys,r=>match(r.getD a.1 .dead).setPath a.2 u d xs with
  |some x=>C5 L ys (r.set a.1 x)
  |none=>none
 |_,_,_=>none
def Cl.killP(h:Nat->AI->Bool):Cl->Cl
 |.rf id q=>bif h id q then .dead else .rf id q
 |.rs id q off len=>bif h id q then .dead else .rs id q off len
 |.rp id q i k=>bif h id q then .dead else .rp id q i k
 |.rm id q=>bif h id q then .dead else .rm id q
 |y=>y
def Sl.killP(h:Nat->AI->Bool):Sl->Sl
 |.one y=>.one (y.killP h)
 |.new l=>.new l
 |.agg l=>.agg (l.map (Cl.killP h))
 |.tup l=>.tup (l.map λp=>(p.1,p.2.map (Cl.killP h)))
 |.pk t l=>.pk t (l.map (Cl.killP h))
def Z0(L:List Db)(N:Nat)(id:Nat)(q:AI):Bool:=!blt id N||L.any λa=>beq a.1 id&&(match a.2 with
 |[]=>(match q with
  |[]=>false
  |_::_=>true)
 |b::p=>pre ((b::p).map (·.2)) q)
structure YR where
 α:Type
 o:Option α
 st:α->Option St
 y:α->Cl
def NW(Γ:List EnW)(s:St)(f:FuncId)(xs:List (Option Sl)):Option YR:=match XS Γ f with
 |some e=>match Qs s e.S.ps xs with
  |some (z,LD)=>bif Mg (LD.map (·.1))then
    some ⟨e.S.rt.T×(wty (Di e.S.ps)).T,e.g z,λu=>match C5 LD (wOf (Di e.S.ps) u.2) s.r with
     |some r'=>some ⟨λi=>(s.t i).killP (Z0 (LD.map (·.1)) s.r.length),r'⟩
     |none=>none,λu=>.c e.S.rt 0 u.1⟩else none
  |none=>none
 |none=>none
theorem Pi:∀{L:List Db},Mg L=true->L.Pairwise Ib
 |[],_=>List.Pairwise.nil
 |a::l,h=>by
  simp only[Mg,bAE]at h;refine List.pairwise_cons.2 ⟨λb H=>?_,Pi h.2⟩
  have:=aET.1 h.1 b H;simp[Bool.not_eq_true']at this;exact this.imp (λh e=>by simp_all) id
theorem HV:∀{p:AI},(XY p=none->p=[])/\∀p0 i k,XY p=some (p0,i,k)->p=p0++[(i,k)]
 |[]=>⟨λ_=>rfl,λ_ _ _ h=>by cases h⟩
 |(i,k)::q=>by
  obtain⟨U,H⟩:=HV (p:=q);unfold XY
  grind
theorem W5{xs:List u.T}(h:r.setPath p u d xs=some r'):Sub (upd p r.v (cV (.sl u) (d+1) xs)) r'.v:=by
 unfold Aa.setPath at h;split at h
 .rename_i H
  rw[HV.1 H];split at h
  .cases h;exact Sub.refl _
  grind
 .rename_i p0 i k H
  rw[HV.2 _ _ _ H];exact Iq p0 r r' h
theorem PH{xs:List u.T}(h:r.setPath p u d xs=some r'){q:AI}(W:p≠[]->pre (p.map (·.2)) q=false)(U:p=[]->q=[]/\xs.length=r.len):(r'.at' q).len=(r.at' q).len:=by
 unfold Aa.setPath at h;split at h
 .rename_i H
  have H:=HV.1 H;split at h
  .cases h
   obtain⟨rfl,Y⟩:=U H
   trivial
  grind
 .rename_i p0 i k H
  have H:=HV.2 _ _ _ H;exact Kf p0 r r' h q (by simp_all)
theorem Lk{xs:List u.T}(h:r.setPath p u d xs=some r'):r≠.dead:=by
 unfold Aa.setPath at h;split at h
 .grind
 .exact ME h
def CW:∀(rs:List Aa) (ys:List (Σ t:Ty,t.T)),rs.length=ys.length->(Bq rs ys).length=rs.length
 |[],[],_=>rfl
 |r::rs,y::ys,h=>by simp[Bq,CW rs ys (by grind)]
 |[],_::_,h=>by rfl
 |_::_,[],h=>by grind
def Cm:∀(rs:List Aa) (ys:List (Σ t:Ty,t.T)) (k:Nat),rs.length=ys.length->k<rs.length->(Bq rs ys).getD k .dead=C7 (rs.getD k .dead) (ys.getD k ⟨.unit,()⟩)
 |r::rs,y::ys,0,_,_=>rfl
 |r::rs,y::ys,k+1,h,hk=>by simpa [Bq]using Cm rs ys k (by grind) (by grind)
 |[],_,_,_,hk=>by rfl
 |_::_,[],_,h,_=>by grind
theorem LE{y:Σ t:Ty,t.T}(h:C7 r y≠.dead):∃(ro:Bool) (u:Ty) (d:Nat) (xs ys:List u.T),r=.arr ro u d xs/\y=⟨.sl u,ys⟩/\C7 r y=.arr ro u d ys:=by
 unfold C7 at h;split at h
 .rename_i ro u d xs H ys
  split at h
  .rename_i U
   subst U;exact⟨ro,H,d,xs,ys,rfl,rfl,by simp[C7]⟩
  grind
 grind
structure WOK(s:St)(σ:List V)(ρ:Nat->Value)(w:World)(LD:List (Db×Nat))(R:List Aa):Prop where
 len:R.length=LD.length
 nd:∀k,k<LD.length->∃u d0 xs,R.getD k .dead=.arr false u d0 xs/\Ac s.r (LD.getD k ((0,[]),0)).1.1 (LD.getD k ((0,[]),0)).1.2=.arr false u (LD.getD k ((0,[]),0)).2 xs/\dOK u (LD.getD k ((0,[]),0)).2 d0=true
 at':∀a∈LD,a.1.1<σ.length/\∃sz n f c,At w a.1.2 (σ.getD a.1.1 .dead) (ρ a.1.1) (.nd true true sz n f) c
theorem WOK.app{R S:List Aa}(h:WOK s σ ρ w A R)(W:WOK s σ ρ w B S):WOK s σ ρ w (A++B) (R++S):=by
 refine⟨by simp[h.len,W.len],λk hk=>?_,λa U=>?_⟩
 .by_cases H:k<A.length
  .have Z:(A++B).getD k ((0,[]),0)=A.getD k ((0,[]),0):=by grind
   have Y:(R++S).getD k .dead=R.getD k .dead:=by
    have:k<R.length:=by rw[h.len];exact H
    simp[gAL this]
   rw[Z,Y];exact h.nd k H
  .have Z:(A++B).getD k ((0,[]),0)=B.getD (k-A.length) ((0,[]),0):=by
    grind
   have Y:(R++S).getD k .dead=S.getD (k-A.length) .dead:=by
    simp only[gDE];rw[gAR (by rw[h.len];omega),h.len]
   rw[Z,Y];exact W.nd _ (by simp at hk;omega)
 .rcases List.mem_append.1 U with U|U
  .exact h.at' a U
  .exact W.at' a U
def YY(s:St)(σ:List V)(ρ:Nat->Value)(w:World)(LD:List (Db×Nat))(m:Nat)(σ0:List V)(ρ0:Nat->Value):Prop:=
 ∀k,k<LD.length->m+k<σ0.length/\σ0.getD (m+k) .dead=sub (LD.getD k ((0,[]),0)).1.2 (σ.getD (LD.getD k ((0,[]),0)).1.1 .dead)/\
  At w (LD.getD k ((0,[]),0)).1.2 (σ.getD (LD.getD k ((0,[]),0)).1.1 .dead) (ρ (LD.getD k ((0,[]),0)).1.1) (sub (LD.getD k ((0,[]),0)).1.2 (σ.getD (LD.getD k ((0,[]),0)).1.1 .dead)) (ρ0 (m+k))
theorem YY.left(h:YY s σ ρ w (A++B) m σ0 ρ0):YY s σ ρ w A m σ0 ρ0:=by
 intro k H;have:=h k (by grind)
 grind
theorem YY.right(h:YY s σ ρ w (A++B) m σ0 ρ0):YY s σ ρ w B (m+A.length) σ0 ρ0:=by
 intro k H;have:=h (A.length+k) (by simp_all)
 have U:(A++B).getD (A.length+k) ((0,[]),0)=B.getD k ((0,[]),0):=by
  simp_all
 grind
def Aat(h:t.sc=true)(d:Nat)(x:t.T):cV t d x=.c (scV t x):=by cases t<;>first|rfl|cases h
section
variable {s:St}{ρ:Nat->Value}{w:World}{D:Nat->Prop}{F:Nat->Nat->Prop}
theorem NF(wr:Be (s.r.map Aa.v) w D ρ F){y c:Cl}(h:Qr s dep y=some (c,a))(H:Rel D w (Ae (s.r.map Aa.v) ρ w) (y.v s.r) cv noF):
  ∀m l,∃c' R,(Bn m (c::l)).1=c'::(Bn (m+R.length) l).1/\(Bn m (c::l)).2=R++(Bn (m+R.length) l).2/\WOK s (s.r.map Aa.v) ρ w a R/\
   ∀(R0:List Aa) σ0 ρ0,Has R0 m R->YY s (s.r.map Aa.v) ρ w a m σ0 ρ0->Rel D w (Ae σ0 ρ0 w) (c'.v R0) cv noF:=by
 intro m l;unfold Qr at h;split at h
 .rename_i t d x
  obtain⟨hs,h⟩:=A1 h;cases h
  have e:Bn m (.c t dep x::l)=(.c t dep x::(Bn m l).1,(Bn m l).2):=by
   cases t<;>first|rfl|cases hs
  refine⟨.c t dep x,[],by rw[e];rfl,by rw[e];rfl,⟨rfl,λk Y=>by simp at Y,λa Z=>by cases Z⟩,λR0 σ0 ρ0 _ _=>?_⟩
  have H:Rel D w (Ae (s.r.map Aa.v) ρ w) (cV t d x) cv noF:=H;show Rel D w (Ae σ0 ρ0 w) (cV t dep x) cv noF;rw[Aat hs]at H⊢;exact H
 .rename_i id p
  split at h
  case h_2=>cases h
  rename_i u d xs W;split at h
  case h_2=>cases h
  rename_i d0;obtain⟨hd,h⟩:=A1 h;cases h;have H:Rel D w (Ae (s.r.map Aa.v) ρ w) (.rs id p 0 (Ac s.r id p).len) cv noF:=H;rw[W]at H;have H:Rel D w (Ae (s.r.map Aa.v) ρ w) (.rs id p 0 xs.length) cv noF:=H;obtain⟨⟨hid,sz,n,f,cn,U,hle,hcv⟩,_⟩:=H;have hne:Ac s.r id p≠.dead:=by rw[W];intro h;cases h
  have hnode:sub p ((s.r.map Aa.v).getD id .dead)=arr true u.w (tyV u d) u.dflt xs:=(AV hne).trans (by rw[W];rfl)
  refine⟨.rf m [],[.arr false u d0 xs],rfl,rfl,⟨rfl,λk Y=>?_,λa Z=>?_⟩,λR0 σ0 ρ0 hR hW=>?_⟩
  .obtain rfl:k=0:=by simp at Y;exact Y
   exact⟨u,d0,xs,rfl,W,hd⟩
  .simp at Z;subst Z
   exact⟨hid,sz,n,f,cn,U⟩
  .obtain⟨h1,h2,h3⟩:=hW 0 (by simp)
   simp only[Nat.add_zero,List.getD_cons_zero]at h1 h2 h3;have hR0:R0.getD m .dead=.arr false u d0 xs:=hR 0 (by simp)
   show Rel D w (Ae σ0 ρ0 w) (.rs m [] 0 (Ac R0 m []).len) cv noF
   have hl:(Ac R0 m []).len=xs.length:=by
    show(R0.getD m .dead).len=_;rw[hR0];rfl
   rw[hl];have hcn:=At.det h3 U;refine⟨⟨h1,sz,n,f,cn,⟨?_,hcn.symm⟩,hle,hcv⟩,λ_ h=>h⟩
   rw[h2];exact At.sub U
 .cases h
def NE(wr:Be (s.r.map Aa.v) w D ρ F){dep:Nat}:∀(l:List Cl) (cs:List Cl) (a:List (Db×Nat)) (cvs:List Value),Qq s dep l=some (cs,a)->cvs.length=l.length->(∀i,i<l.length->Rel D w (Ae (s.r.map Aa.v) ρ w) ((l.getD i .dead).v s.r) (cvs.getD i undef) noF)->
  ∀m,(Bn m cs).1.length=l.length/\WOK s (s.r.map Aa.v) ρ w a (Bn m cs).2/\
   ∀(R0:List Aa) σ0 ρ0,Has R0 m (Bn m cs).2->YY s (s.r.map Aa.v) ρ w a m σ0 ρ0->∀i,i<l.length->Rel D w (Ae σ0 ρ0 w) (((Bn m cs).1.getD i .dead).v R0) (cvs.getD i undef) noF
 |[],cs,a,cvs,h,_,_,m=>by
  cases h;exact⟨rfl,⟨rfl,λk hk=>by grind,λa ha=>by cases ha⟩,λ_ _ _ _ _ i hi=>by simp at hi⟩
 |y::l,cs,a,cvs,h,hl,hr,m=>by
  cases cvs with
  |nil=>simp at hl
  |cons cv cvs=>
  unfold Qq at h;split at h
  case h_2=>cases h
  rename_i c a1 h1;split at h
  case h_2=>cases h
  rename_i U a2 h2;cases h;obtain⟨c',R,g1,g2,Z,g4⟩:=NF wr h1 (hr 0 (by simp)) m U
  obtain⟨k1,k2,k3⟩:=NE wr l U a2 cvs h2 (by simpa using hl) (λi hi=>by simpa using hr (i+1) (by simpa using hi)) (m+R.length)
  rw[g1,g2];refine⟨by simp[k1],Z.app k2,λR0 σ0 ρ0 Y W i hi=>?_⟩
  cases i with
  |zero=>exact g4 R0 σ0 ρ0 Y.left W.left
  |succ i=>
   have H:=W.right;rw[<-Z.len]at H;simpa using k3 R0 σ0 ρ0 Y.right H i (by simpa using hi)
theorem Qt(wr:Be (s.r.map Aa.v) w D ρ F){p:WP}{y:Sl}{x:p.2.2.T}(h:UY s p (some y)=some (x,a))(W:Rel D w (Ae (s.r.map Aa.v) ρ w) (y.v s.r) cv noF)(m:Nat):
  WOK s (s.r.map Aa.v) ρ w a (UZ p x m).2/\∀(R0:List Aa) σ0 ρ0,Has R0 m (UZ p x m).2->YY s (s.r.map Aa.v) ρ w a m σ0 ρ0->Rel D w (Ae σ0 ρ0 w) ((UZ p x m).1.v R0) cv noF:=by
 obtain⟨own,ag,t⟩:=p;unfold UY at h;split at h
 .rename_i l hy
  cases hy;cases hb:(own&&ag)with
  |false=>rw[show((own,ag,t):WP).1=own from rfl,show((own,ag,t):WP).2.1=ag from rfl,hb]at h;cases h
  |true=>
   simp only[bAE]at hb;obtain⟨rfl,rfl⟩:=hb;simp only[Bool.and_self,cond_true]at h;split at h
   case h_2=>cases h
   rename_i cs a' hc;split at h
   case h_2=>cases h
   rename_i x' hx;cases h;have he:=Qx _ _ _ _ _ hx;rw[append_nil]at he;have W:Rel D w (Ae (s.r.map Aa.v) ρ w) (Ah (l.map (Cl.v s.r))) cv noF:=W;obtain⟨cvs,Fx,hpk,Z,H,_,hfx⟩:=W;have hpk:cv=.agg cvs:=hpk;simp only[length_map]at Z H hfx
   have U:∀i,i<l.length->Rel D w (Ae (s.r.map Aa.v) ρ w) ((l.getD i .dead).v s.r) (cvs.toList.getD i undef) noF:=by
    intro i hi;have h1:=H i hi;have e:Fx i=noF:=A2 λb hb=>(hfx b).2 ⟨i,hi,hb⟩
    rw[e]at h1;have e2:(l.map (Cl.v s.r)).getD i .dead=(l.getD i .dead).v s.r:=Aw (f:=Cl.v s.r) (a:=.dead) rfl _ _;have h1:Rel D w (Ae (s.r.map Aa.v) ρ w) ((l.map (Cl.v s.r)).getD i .dead) (cvs.getD i undef) noF:=h1;rw[e2]at h1;simpa using h1
   obtain⟨g1,g2,g3⟩:=NE wr l cs a cvs.toList hc (by simpa using Z) U m
   rw[he]at g1 g2 g3;refine⟨g2,λR0 σ0 ρ0 hR hW=>?_⟩
   show Rel D w (Ae σ0 ρ0 w) (Ah ((Bn m (Ar t t.dep x)).1.map (Cl.v R0))) cv noF;have Y:((Bn m (Ar t t.dep x)).1.map (Cl.v R0)).length=l.length:=by rw[length_map,g1]
   refine⟨cvs,λ_=>noF,hpk,by rw[Y];exact Z,λk hk=>?_,λ_ _ _ _ _ _ h=>h.elim,λb=>⟨λh=>h.elim,fun⟨_,_,h⟩=>h⟩⟩
   rw[Y]at hk;have:=g3 R0 σ0 ρ0 hR hW k hk;show Rel D w (Ae σ0 ρ0 w) (((Bn m (Ar t t.dep x)).1.map (Cl.v R0)).getD k .dead) _ noF;rw[Aw (f:=Cl.v R0) (a:=.dead) rfl];simpa using this
 .rename_i y' hy
  cases hy;cases ag with
  |true=>cases h
  |false=>
   simp only[cond_false]at h;cases own with
   |true=>
    simp only[cond_true]at h;split at h
    case h_2=>cases h
    rename_i c a' hc;split at h
    case h_2=>cases h
    rename_i x' hx;cases h;have he:=Qx _ _ _ _ _ hx;rw[append_nil]at he;obtain⟨c',R,g1,g2,g3,g4⟩:=NF wr hc W m []
    have e1:(Bn m (Ar t t.dep x))=([c'],R):=by
     rw[<-he];exact Prod.ext (by rw[g1];rfl) (by rw[g2];simp[Bn])
    have e2:UZ (true,false,t) x m=(.one c',R):=by
     show(Sl.one ((Bn m (Ar t t.dep x)).1.getD 0 .dead),(Bn m (Ar t t.dep x)).2)=_;rw[e1];rfl
    rw[e2];exact⟨g3,λR0 σ0 ρ0 hR hW=>g4 R0 σ0 ρ0 hR hW⟩
   |false=>
    simp only[cond_false]at h;split at h
    case h_2=>cases h
    rename_i t' d z;split at h
    case isFalse=>cases h
    rename_i ht;have ht:t'=t:=ht;subst ht;obtain⟨hs,h⟩:=A1 h;cases h;refine⟨⟨rfl,λk hk=>by simp at hk,λa ha=>by cases ha⟩,λR0 σ0 ρ0 _ _=>?_⟩
    have W:Rel D w (Ae (s.r.map Aa.v) ρ w) (cV t' d z) cv noF:=W;show Rel D w (Ae σ0 ρ0 w) (cV t' 0 z) cv noF;rw[Aat hs]at W⊢;exact W
 .cases h
end
end Go.Ve


namespace Go.Ve
variable{a:Act}{h:BW}{C:Ctx}{r:List Aa}{N d:Nat}{s s':St}{w:World}
section
variable {s:St}{ρ:Nat->Value}{w:World}{D:Nat->Prop}{F:Nat->Nat->Prop}
def NG(wr:Be (s.r.map Aa.v) w D ρ F){a:Act}:∀(ps:List WP) (xs:List Operand) (z:(PTW ps).T) (LD:List (Db×Nat)),Qs s ps (xs.map s.ev)=some (z,LD)->(∀x∈xs,Rel D w (Ae (s.r.map Aa.v) ρ w) (s.den.ev x) (a.eval x) noF)->∀m,
  (AT ps z m).1.length=xs.length/\WOK s (s.r.map Aa.v) ρ w LD (AT ps z m).2/\
   ∀(R0:List Aa) σ0 ρ0,Has R0 m (AT ps z m).2->YY s (s.r.map Aa.v) ρ w LD m σ0 ρ0->∀i,i<xs.length->Rel D w (Ae σ0 ρ0 w) (((AT ps z m).1.getD i (.one .dead)).v R0) (a.eval (xs.getD i (.tmp 0))) noF
 |[],[],z,LD,h,_,m=>by
  cases h;exact⟨rfl,⟨rfl,λk hk=>by simp at hk,λa ha=>by cases ha⟩,λ_ _ _ _ _ i hi=>by simp at hi⟩
 |[p],[x],z,LD,h,hr,m=>by
  have h:UY s p (s.ev x)=some (z,LD):=h;cases H:s.ev x with
  |none=>rw[H]at h;cases h
  |some y=>
   rw[H]at h;have Y:=hr x (by simp)
   rw[Bg H]at Y;obtain⟨g1,g2⟩:=Qt wr h Y m;refine⟨rfl,g1,λR0 σ0 ρ0 U Z i hi=>?_⟩
   obtain rfl:i=0:=by simp at hi;exact hi
   exact g2 R0 σ0 ρ0 U Z
 |p::q::l,x::xs,z,LD,h,hr,m=>by
  have h:(match UY s p (s.ev x)with
   |some (x,a)=>match Qs s (q::l) (xs.map s.ev)with
    |some (z,b)=>some ((x,z),a++b)
    |none=>none
   |none=>none:Option ((PTW (p::q::l)).T×List (Db×Nat)))=some (z,LD):=h
  split at h
  case h_2=>cases h
  rename_i x1 a1 h1;split at h
  case h_2=>cases h
  rename_i z1 b1 h2;cases h;cases H:s.ev x with
  |none=>rw[H]at h1;cases h1
  |some y=>
   rw[H]at h1;have Y:=hr x (by simp)
   rw[Bg H]at Y;obtain⟨g1,g2⟩:=Qt wr h1 Y m;obtain⟨k1,k2,k3⟩:=NG wr (q::l) xs z1 b1 h2 (λy H=>hr y (mCM _ H)) (m+(UZ p x1 m).2.length)
   refine⟨by show(AT (q::l) z1 _).1.length+1=_;rw[k1];rfl,g1.app k2,λR0 σ0 ρ0 U Z i hi=>?_⟩
   have U:Has R0 m ((UZ p x1 m).2++(AT (q::l) z1 (m+(UZ p x1 m).2.length)).2):=U;cases i with
   |zero=>exact g2 R0 σ0 ρ0 U.left Z.left
   |succ i=>
    have W:=Z.right;rw[<-g1.len]at W;exact k3 R0 σ0 ρ0 U.right W i (by simpa using hi)
 |[],_::_,_,_,h,_,_=>by cases h
 |[_],[],_,_,h,_,_=>by cases h
 |[_],_::_::_,_,_,h,_,_=>by cases h
 |_::_::_,[],_,_,h,_,_=>by cases h
end
theorem BH.tyV0{π:Nat->Nat}{n:Nat}:∀(t:Ty) (x:t.T),∀v∈tyV t 0 x,BH π n v v
 |.int _,_,v,h=>by simp[tyV]at h;subst h;exact .inr (Sub.refl _)
 |.bool,_,v,h=>by simp[tyV]at h;subst h;exact .inr (Sub.refl _)
 |.str,_,v,h=>by simp[tyV]at h;subst h;exact .inr (Sub.refl _)
 |.sl _,_,v,h=>by simp[tyV,mem_singleton]at h;subst h;exact .inr (Sub.refl _)
 |.ptr _,_,v,h=>by simp[tyV,mem_singleton]at h;subst h;exact .inr (Sub.refl _)
 |.unit,_,v,h=>by trivial
 |.mp _ _,_,v,h=>by simp only[tyV,mem_singleton]at h;subst h;exact .inr (Sub.refl _)
 |.pair a b,x,v,h=>by
  simp[tyV,List.mem_append]at h;exact h.elim (BH.tyV0 a x.1 v) (BH.tyV0 b x.2 v)
 |.osl _,x,v,h=>by
  simp[tyV,mem_singleton]at h;subst h;cases x with
  |none=>exact BH.dead _ _ _
  |some xs=>exact .inr (Sub.refl _)
 |.clo g t,x,v,h=>by
  simp[tyV,mem_singleton]at h;subst h;refine .inr ⟨_,rfl,λk H=>?_⟩
  have H:k<(tyV t 0 x).length:=by rw[Ax];grind
  show BH π n ((tyV t 0 x).getD k .dead) ((tyV t 0 x).getD k .dead);rw[gDE,gEE H];exact BH.tyV0 t x _ (List.getElem_mem H)
theorem killP_ren{r':List Aa}{M:V->V}{h:Nat->AI->Bool}(H:Cr M (λid q=>h id q=false))(W:∀id q,h id q=false->id<N)(Y:∀id q,h id q=false->(Ac r' id q).len=(Ac r id q).len)(y:Cl):BH (λi=>i) N (M (y.v r)) ((y.killP h).v r'):=by
 cases y with
 |dead=>exact BH.dead _ _ _
 |nil=>show BH _ _ (M (.c _)) _;rw[H.m.c];exact .inr (Sub.refl _)
 |nilp=>show BH _ _ (M (.c _)) _;rw[H.m.c];exact .inr (Sub.refl _)
 |nilf=>show BH _ _ (M (.c _)) _;rw[H.m.c];exact .inr (Sub.refl _)
 |nilm=>show BH _ _ (M (.c _)) _;rw[H.m.c];exact .inr (Sub.refl _)
 |raw _ _=>show BH _ _ (M (.c _)) _;rw[H.m.c];exact .inr (Sub.refl _)
 |c t d x=>
  have e:M (cV t d x)=cV t d x:=by
   cases t with
   |int k=>exact H.m.c _
   |bool=>exact H.m.c _
   |str=>exact H.m.c _
   |sl t=>exact H.m.nd _ _ _ _ _
   |ptr t=>exact H.m.nd _ _ _ _ _
   |unit=>exact H.m.dead
   |clo g u=>exact H.m.clo
   |osl u=>exact H.m.osl
   |mp a b=>exact H.m.mp _ _
   |pair a b=>exact H.m.dead
  show BH _ _ (M (cV t d x)) (cV t d x);rw[e];cases t<;>first|exact .inr (Sub.refl _)|rfl|(cases x<;>first|rfl|exact .inr (Sub.refl _))|exact BH.tyV0 (.clo _ _) x _ (mem_singleton.2 rfl)
 |rf id q=>
  show BH _ _ (M (.rs id q 0 _)) ((bif h id q then Cl.dead else .rf id q).v r');cases U:h id q with
  |true=>exact BH.dead _ _ _
  |false=>
   rw[H.rs id q _ _ U];refine .inr ⟨id,W id q U,rfl,?_⟩;show V.rs id q 0 (Ac r' id q).len=_;rw[Y id q U]
 |rs id q off len=>
  show BH _ _ (M (.rs id q off len)) ((bif h id q then Cl.dead else .rs id q off len).v r');cases U:h id q with
  |true=>exact BH.dead _ _ _
  |false=>rw[H.rs id q _ _ U];exact .inr ⟨id,W id q U,rfl,rfl⟩
 |rm id q=>
  show BH _ _ (M (.rm id q)) ((bif h id q then Cl.dead else .rm id q).v r');cases U:h id q with
  |true=>exact BH.dead _ _ _
  |false=>rw[H.rm id q U];exact .inr ⟨id,W id q U,rfl,rfl⟩
 |rp id q i k=>
  show BH _ _ (M (.rp id q i k)) ((bif h id q then Cl.dead else .rp id q i k).v r');cases U:h id q with
  |true=>exact BH.dead _ _ _
  |false=>rw[H.rp id q _ _ U];exact .inr ⟨id,W id q U,rfl,rfl⟩
theorem Zz{l:List Cl}{f g:Cl->V}(U:f .dead=.dead)(H:g .dead=.dead)(h:∀y,BH (λi=>i) N (f y) (g y))(k:Nat):BH (λi=>i) N ((l.map f).getD k .dead) ((l.map g).getD k .dead):=by grind
theorem Sl.killP_ren{r r':List Aa}{M:V->V}{h:Nat->AI->Bool}{N:Nat}(H:Cr M (λid q=>h id q=false))(Y:∀id q,h id q=false->id<N)(W:∀id q,h id q=false->(Ac r' id q).len=(Ac r id q).len)(y:Sl):BH (λi=>i) N (M (y.v r)) ((y.killP h).v r'):=by
 have one:=Go.Ve.killP_ren H Y W
 have key:∀(l:List Cl) (k:Nat),BH (λi=>i) N (((l.map (Cl.v r)).map M).getD k .dead) (((l.map (Cl.killP h)).map (Cl.v r')).getD k .dead):=by
  intro l k;rw[map_map,map_map];exact Zz (f:=λy=>M (y.v r)) (g:=λy=>(y.killP h).v r') H.m.dead rfl one k
 cases y with
 |one c=>exact one c
 |new l=>
  show BH _ _ (M (A3 true (l.map Cl.v0))) (A3 true (l.map Cl.v0));rw[show M (A3 true (l.map Cl.v0))=A3 true (l.map Cl.v0)from H.m.nd _ _ _ _ _]
  exact .inr (Sub.refl _)
 |agg l=>
  show BH _ _ (M (Ah _)) (Ah _);rw[Adt H.m];exact QW (by simp) λk _=>key l k
 |pk t l=>
  show BH _ _ (M (pkL t _)) (pkL t _);rw[G_pk H.m];exact Xh (by simp) λk _=>key l k
 |tup l=>
  show BH _ _ (M (Dj _)) (Dj _);rw[AaB H.m];refine Xg (by simp) λk U=>?_
  have U:k<l.length:=by simpa using U
  simp only[gDE,getElem?_map,gEE U,Option.map_some,Option.getD_some];generalize l[k]=p;obtain⟨b,m⟩:=p;cases b with
  |true=>
   show BH _ _ (M (Ah (m.map (Cl.v r)))) (Ah ((m.map (Cl.killP h)).map (Cl.v r')));rw[Adt H.m];exact QW (by simp) λk _=>key m k
  |false=>
   have:=key m 0;cases m with
   |nil=>show BH _ _ (M .dead) .dead;exact BH.dead _ _ _
   |cons y m=>simpa using this
def Ox:∀(E:List (Db×V)) (i:Nat) {v v':V},Sub v v'->Sub (Dz E i v) (Dz E i v')
 |[],_,_,_,h=>h
 |a::E,i,v,v',h=>by
  refine Ox E i ?_;split
  .exact Sub.upd _ h
  grind
def Acm(a:Db×Nat)(y:Σ t:Ty,t.T):V:=match y with
 |⟨.sl u,xs⟩=>cV (.sl u) (a.2+1) xs
 |_=>.dead
theorem JO:∀(LD:List (Db×Nat)) (ys:List (Σ t:Ty,t.T)) (r r':List Aa),C5 LD ys r=some r'->r'.length=r.length/\LD.length=ys.length/\∀i,Sub (Dz ((LD.map (·.1)).zip (LD.zipWith Acm ys)) i ((r.getD i .dead).v)) (r'.getD i .dead).v
 |[],[],r,r',h=>by cases h;exact⟨rfl,rfl,λi=>Sub.refl _⟩
 |(a,d)::LD,⟨.sl u,xs⟩::ys,r,r',h=>by
  unfold C5 at h;split at h
  case h_2=>cases h
  rename_i x U;obtain⟨Z,Y,h3⟩:=JO LD ys _ _ h;have H:a.1<r.length:=by
   rcases Nat.lt_or_ge a.1 r.length with h|h
   .exact h
   .exact absurd (by rw[gDE,List.getElem?_eq_none h];rfl) (Lk U)
  refine⟨by rw[Z];simp,by simp[Y],λi=>?_⟩
  show Sub (Dz ((LD.map (·.1)).zip (LD.zipWith Acm ys)) i (if a.1=i then upd a.2 ((r.getD i .dead).v) (cV (.sl u) (d+1) xs)else(r.getD i .dead).v)) _
  refine Sub.trans (Ox _ i ?_) (h3 i);by_cases W:a.1=i
  .subst W
   rw[if_pos rfl];have e:(r.set a.1 x).getD a.1 .dead=x:=by simp[H]
   rw[e];exact W5 U
  .rw[if_neg W]
   have e:(r.set a.1 x).getD i .dead=r.getD i .dead:=by
    grind
   rw[e];exact Sub.refl _
 |[],_::_,_,_,h=>by cases h
 |_::_,[],_,_,h=>by cases h
 |_::_,⟨.int _,_⟩::_,_,_,h=>by cases h
 |_::_,⟨.bool,_⟩::_,_,_,h=>by cases h
 |_::_,⟨.str,_⟩::_,_,_,h=>by cases h
 |_::_,⟨.unit,_⟩::_,_,_,h=>by cases h
 |_::_,⟨.ptr _,_⟩::_,_,_,h=>by cases h
 |_::_,⟨.clo _ _,_⟩::_,_,_,h=>by cases h
 |_::_,⟨.osl _,_⟩::_,_,_,h=>by cases h
 |_::_,⟨.mp _ _,_⟩::_,_,_,h=>by cases h
 |_::_,⟨.pair _ _,_⟩::_,_,_,h=>by cases h
def lenD(y:Σ t:Ty,t.T):Nat:=match y with
 |⟨.sl _,xs⟩=>xs.length
 |_=>0
theorem DI{x:Aa}{i j:Nat}(h:i≠j):(r.set i x).getD j .dead=r.getD j .dead:=by grind
def JP{id:Nat}{q:AI}:∀(LD:List (Db×Nat)) (ys:List (Σ t:Ty,t.T)) (r r':List Aa),C5 LD ys r=some r'->(LD.map (·.1)).Pairwise Ib->
  (∀k,k<LD.length->(LD.getD k ((0,[]),0)).1.2=[]->lenD (ys.getD k ⟨.unit,()⟩)=(r.getD (LD.getD k ((0,[]),0)).1.1 .dead).len)->
  (∀a∈LD,a.1.1=id->(a.1.2=[]/\q=[])\/(a.1.2≠[]/\pre (a.1.2.map (·.2)) q=false))->(Ac r' id q).len=(Ac r id q).len
 |[],[],r,r',h,_,_,_=>by cases h;rfl
 |(a,d)::LD,⟨.sl u,xs⟩::ys,r,r',h,hp,hl,hq=>by
  unfold C5 at h;split at h
  case h_2=>cases h
  rename_i x hx;obtain⟨Z,W⟩:=List.pairwise_cons.1 hp;have Y:a.1<r.length:=by
   rcases Nat.lt_or_ge a.1 r.length with h|h
   .exact h
   .exact absurd (by rw[gDE,List.getElem?_eq_none h];rfl) (Lk hx)
  rw[JP LD ys _ _ h W (λk hk U=>?_) λb hb=>hq b (mCM _ hb)]
  .by_cases he:id=a.1
   .subst he
    rw[BI Y];have U:=hq _ (List.mem_cons_self ..) rfl;refine PH hx (λH=>(U.resolve_left λh=>H h.1).2) λhn=>⟨(U.resolve_right λh=>h.1 hn).2,?_⟩
    exact hl 0 (by simp) hn
   .rw[Bd he]
  .have h1:=hl (k+1) (by simpa using hk) (by simpa using U)
   simp only[List.getD_cons_succ]at h1;rw[h1]
   have H:a.1≠(LD.getD k ((0,[]),0)).1.1:=λe=>by
    rcases Z (LD.getD k ((0,[]),0)).1 (mem_map.2 ⟨_,by simp[hk],rfl⟩)with h2|h2
    .exact h2 e
    .rw[U,Yr]at h2;cases h2
   rw[DI H]
 |[],_::_,_,_,h,_,_,_=>by cases h
 |_::_,[],_,_,h,_,_,_=>by cases h
 |_::_,⟨.int _,_⟩::_,_,_,h,_,_,_=>by cases h
 |_::_,⟨.bool,_⟩::_,_,_,h,_,_,_=>by cases h
 |_::_,⟨.str,_⟩::_,_,_,h,_,_,_=>by cases h
 |_::_,⟨.unit,_⟩::_,_,_,h,_,_,_=>by cases h
 |_::_,⟨.ptr _,_⟩::_,_,_,h,_,_,_=>by cases h
 |_::_,⟨.clo _ _,_⟩::_,_,_,h,_,_,_=>by cases h
 |_::_,⟨.osl _,_⟩::_,_,_,h,_,_,_=>by cases h
 |_::_,⟨.mp _ _,_⟩::_,_,_,h,_,_,_=>by cases h
 |_::_,⟨.pair _ _,_⟩::_,_,_,h,_,_,_=>by cases h
theorem Nc{L:List Db}{id:Nat}{q:AI}(h:Z0 L N id q=false):id<N/\∀a∈L,a.1=id->(a.2=[]/\q=[])\/(a.2≠[]/\pre (a.2.map (·.2)) q=false):=by
 unfold Z0 at h;simp only[Bool.or_eq_false_iff,Bool.not_eq_false']at h;refine⟨blE h.1,λa U H=>?_⟩
 have W:=List.any_eq_false.1 h.2 a U;obtain⟨i,p⟩:=a;subst H;simp[Bool.true_and]at W
 grind
theorem sc_put{t:Ty}{x:t.T}(Z:t.sc=true)(Y:s.put h (some d) (.one (.c t 0 x))=some s')(hs:AA C h.n s.den a w):AA C h.n s'.den (a.put (some d) (scV t x)) w:=by
 refine AA.put Y ?_;obtain⟨hd,hdd,D,ρ,F,W⟩:=hs;have U:d<h.n:=by
  unfold St.put at Y;simp only at Y;cases hb:blt d h.n with
  |false=>grind
  |true=>simp_all
 have e:s.den.res h (some d) ((Sl.one (.c t 0 x)).v s.r)=⟨AD s.den.t d (.c (scV t x)),s.den.σ⟩:=by
  have e1:(Sl.one (.c t 0 x)).v s.r=.c (scV t x):=Aat Z 0 x;rw[e1];unfold Ms.res;simp only[U,if_true];split
  .rfl
  .show Ms.mk (AD s.den.t d (.c _)) (s.den.σ++[])=_
   rw[append_nil]
 rw[e];have H:(scV t x).oneCell'=true:=by cases t<;>first|rfl|cases Z
 have h1:=W.setv (Below.refl _ _) (r:=.c (scV t x)) (v':=scV t x) ⟨rfl,H,λ_ h=>h⟩ (λ_ h=>h) (λ_ h=>.inl h) (λb hb=>W.wr.Dlt b hb) d
 refine⟨hd,λy hy=>?_,?_⟩
 .show AD s.den.t d _ y=.dead
  unfold AD
  grind
 .rw[BO U]at h1
  exact h1
theorem Abm{u:Ty}{d0:Nat}(h:dOK u d d0=true)(xs:List u.T):cV (.sl u) (d+1) xs=cV (.sl u) (d0+1) xs:=by
 have e:tyV u d=tyV u d0:=funext λz=>C3 _ _ _ z (Kw h)
 show arr true u.w (tyV u d) u.dflt xs=arr true u.w (tyV u d0) u.dflt xs
 grind
theorem WT{P:Program}{Γ:List EnW}(hΓ:∀e∈Γ,e.OK P){C:Ctx}{h:BW}{s s1 s':St}{o:Oper}{f:FuncId}{xs:Array Operand}{ats:Array TypeId}{a:Act}{w:World}{A:YR}{u:A.α}{d:Nat}{next:Act->World->Prop}{Q:Exit->Act->World->Prop}
  (ho:o.op=.call ⟨.value (.func f),xs,ats⟩) (hdst:o.dst=some d) (ha:NW Γ s f (xs.toList.map s.ev)=some A) (hu:A.o=some u) (hst:A.st u=some s1) (hp:s1.put h (some d) (.one (A.y u))=some s')
  (hs:AA C h.n s.den a w) (hn:∀a' w',AA C h.n s'.den a' w'->next a' w'):o.wp P a w next Q:=by
 obtain⟨hdf,hdd,D,ρ,F,hcr⟩:=hs;unfold NW at ha;split at ha
 case h_2=>cases ha
 rename_i e he;split at ha
 case h_2=>cases ha
 rename_i z LD hz;cases hap:Mg (LD.map (·.1))with
 |false=>rw[hap]at ha;cases ha
 |true=>
 rw[hap]at ha;cases ha;have hap:=Pi hap;obtain⟨⟨H,hft⟩,hfe⟩:=Un hΓ he;rw[hfe]at H hft;have hu:e.g z=some u:=hu
 have hst:(match C5 LD (wOf (Di e.S.ps) u.2) s.r with
  |some r'=>some (⟨λi=>(s.t i).killP (Z0 (LD.map (·.1)) s.r.length),r'⟩:St)
  |none=>none)=some s1:=hst
 have hp:s1.put h (some d) (.one (.c e.S.rt 0 u.1))=some s':=hp;split at hst
 case h_2=>cases hst
 rename_i r' hr';cases hst;obtain⟨hsc,hlen,hnd,hfc⟩:=hft z u hu;obtain⟨g1,g2,g3⟩:=NG hcr.wr e.S.ps xs.toList z LD hz (λx _=>Bh hcr hdd x) 0
 obtain⟨k1,k2,k3⟩:=JO _ _ _ _ hr';have hRL:=g2.len
 -- the trees that are handed over
 have hσ0:(AT e.S.ps z 0).2.map Aa.v=(LD.map (·.1)).map λa=>sub a.2 ((s.r.map Aa.v).getD a.1 .dead):=by
  apply List.ext_getElem
  .simp[hRL]
  .intro k h1 h2
   have U:k<LD.length:=by simp at h2;exact h2
   obtain⟨u',d0,ys,e1,e2,e3⟩:=g2.nd k U;have Z:k<(AT e.S.ps z 0).2.length:=by omega
   have e1:(AT e.S.ps z 0).2[k]=.arr false u' d0 ys:=by rw[<-e1];simp[Z]
   have e4:LD.getD k ((0,[]),0)=LD[k]:=by simp[U]
   rw[e4]at e2 e3;simp only[List.getElem_map,e1];have Y:Ac s.r LD[k].1.1 LD[k].1.2≠.dead:=by rw[e2];intro h;cases h
   rw[AV Y,e2];exact(Abm e3 ys).symm
 have hσ1:(Bq (AT e.S.ps z 0).2 (wOf (Di e.S.ps) u.2)).map Aa.v=LD.zipWith Acm (wOf (Di e.S.ps) u.2):=by
  apply List.ext_getElem
  .rw[length_map,CW _ _ hlen.symm,List.length_zipWith];omega
  .intro k h1 h2
   have U:k<LD.length:=by simp at h2;omega
   have Z:k<(AT e.S.ps z 0).2.length:=by omega
   obtain⟨u',d0,ys,e1,e2,e3⟩:=g2.nd k U;have hg:=Cm (AT e.S.ps z 0).2 (wOf (Di e.S.ps) u.2) k hlen.symm Z;have Y:=hnd k Z;rw[hg]at Y;obtain⟨ro,u2,d2,xs2,ys2,f1,f2,f3⟩:=LE Y;rw[e1]at f1;cases f1;have h3:k<(Bq (AT e.S.ps z 0).2 (wOf (Di e.S.ps) u.2)).length:=by simpa using h1
   have hy:k<(wOf (Di e.S.ps) u.2).length:=by omega
   have f2:(wOf (Di e.S.ps) u.2)[k]=⟨.sl u',ys2⟩:=by rw[<-f2];simp[hy]
   have f4:(Bq (AT e.S.ps z 0).2 (wOf (Di e.S.ps) u.2))[k]=.arr false u' d0 ys2:=by
    rw[<-f3,<-hg];simp[h3]
   rw[List.getElem_map,List.getElem_zipWith,f4,f2];have e4:LD.getD k ((0,[]),0)=LD[k]:=by simp[U]
   rw[e4]at e3;exact(Abm e3 ys2).symm
 rw[hσ0,hσ1]at hfc;have hmem:∀k,k<LD.length->LD.getD k ((0,[]),0)∈LD:=λk U=>by simp[U]
 have hLk:∀k,k<LD.length->(LD.map (·.1)).getD k (0,[])=(LD.getD k ((0,[]),0)).1:=λk U=>by simp[U]
 have hcall2:=Aaq hcr (cvs:=xs.map a.eval) (L:=LD.map (·.1)) hfc (λb hb=>by
   obtain⟨c,hc,rfl⟩:=mem_map.1 hb;exact g2.at' c hc) hap (by rw[List.length_zipWith,length_map];omega) (λk U=>by
   have U:k<LD.length:=by simpa using U
   obtain⟨u',d0,ys,e1,e2,e3⟩:=g2.nd k U;have Z:k<(AT e.S.ps z 0).2.length:=by omega
   have hg:=Cm (AT e.S.ps z 0).2 (wOf (Di e.S.ps) u.2) k hlen.symm Z;have Y:=hnd k Z;rw[hg]at Y;obtain⟨ro,u2,d2,xs2,ys2,f1,f2,f3⟩:=LE Y;rw[e1]at f1;cases f1;have hne2:Ac s.r (LD.getD k ((0,[]),0)).1.1 (LD.getD k ((0,[]),0)).1.2≠.dead:=by rw[e2];intro h;cases h
   have e5:(LD.zipWith Acm (wOf (Di e.S.ps) u.2)).getD k .dead=Acm (LD.getD k ((0,[]),0)) ((wOf (Di e.S.ps) u.2).getD k ⟨.unit,()⟩):=by
    have hy:k<(wOf (Di e.S.ps) u.2).length:=by omega
    simp[List.getElem?_zipWith,U,hy]
   rw[hLk k U]
   exact⟨_,_,_,_,_,(show _=V.nd true true u'.w ys.length (λi j=>(tyV u' (LD.getD k ((0,[]),0)).2 (ys.getD i u'.dflt)).getD j .dead)from(AV hne2).trans (by rw[e2];rfl)),
    (show _=V.nd true true u'.w ys2.length (λi j=>(tyV u' (LD.getD k ((0,[]),0)).2 (ys2.getD i u'.dflt)).getD j .dead)from by rw[e5,f2];rfl)⟩) (by simp[g1]) (λρ0 F0 wr0 hval i hi=>by
   have hi:i<xs.toList.length:=by simpa [g1]using hi
   have h1:=g3 (AT e.S.ps z 0).2 ((LD.map (·.1)).map λa=>sub a.2 ((s.r.map Aa.v).getD a.1 .dead)) ρ0 (λj _=>by rw[zero_add]) (λk U=>by
    refine⟨by simpa using U,?_,?_⟩
    .simp[U]
    .have h2:=hval k (by simpa using U)
     rw[hLk k U]at h2;rw[zero_add];exact h2) i hi
   have e6:((AT e.S.ps z 0).1.map (Sl.v (AT e.S.ps z 0).2)).getD i .dead=((AT e.S.ps z 0).1.getD i (.one .dead)).v (AT e.S.ps z 0).2:=Aw (f:=Sl.v _) (a:=.one .dead) rfl _ _;rw[e6];have hi':i<xs.size:=by simpa using hi
   have e7:(xs.map a.eval).getD i undef=a.eval (xs.toList.getD i (.tmp 0)):=by simp[hi']
   rw[e7];exact h1)
 have hrun:(execOp a.eval o).run P w=.ok (.enter f (xs.map a.eval)) w:=by
  unfold AE at H;split at H
  .rename_i fn hfn
   simp only[bAE,Bool.not_eq_true']at H;obtain⟨h1,h2⟩:=H;have h2':fn.body.isNone=false:=by cases hb:fn.body<;>simp[hb]at h2⊢
   have e0:a.eval (.func f)=.func (.func f) #[] #[]:=rfl;unfold execOp;rw[ho];simp[resolve,e0,Deferred.ofValue,invoke,callFunc,hfn,h2'];simp at h1;simp[h1];intro hb;simp[hb]at h2
  .cases H
 unfold Oper.wp;rw[hrun,Oper.upon_enter];refine hcall2.mono λen w' hpost=>?_
 obtain⟨rfl,σ3,M,⟨D3,ρ3,F3,hc3⟩,hl3,hM,hσ3,hsame⟩:=hpost
 have hsr:AA C h.n (St.den ⟨λi=>(s.t i).killP (Z0 (LD.map (·.1)) s.r.length),r'⟩) a w':=by
  have hlen':∀id q,Z0 (LD.map (·.1)) s.r.length id q=false->(Ac r' id q).len=(Ac s.r id q).len:=by
   intro id q hh;obtain⟨_,hoff⟩:=Nc hh;refine JP LD _ _ _ hr' hap (λk U W=>?_) λb hb=>hoff b.1 (mem_map.2 ⟨b,hb,rfl⟩)
   obtain⟨sz,n,f1,f2,q1,q2⟩:=hsame k (by simpa using U)
   rw[hLk k U,W]at q1;have hy:k<(wOf (Di e.S.ps) u.2).length:=by omega
   have e5:(LD.zipWith Acm (wOf (Di e.S.ps) u.2)).getD k .dead=Acm (LD.getD k ((0,[]),0)) ((wOf (Di e.S.ps) u.2).getD k ⟨.unit,()⟩):=by
    simp[List.getElem?_zipWith,U,hy]
   rw[e5]at q2;have q1:((s.r.map Aa.v).getD (LD.getD k ((0,[]),0)).1.1 .dead)=.nd true true sz n f1:=q1;rw[Ai]at q1
   have hr1:(s.r.getD (LD.getD k ((0,[]),0)).1.1 .dead).len=n:=by
    generalize s.r.getD (LD.getD k ((0,[]),0)).1.1 .dead=R at q1;cases R with
    |dead=>cases q1
    |obj ro l=>cases q1
    |arr ro t d xs=>cases q1;rfl
    |mp=>cases q1
    |opt ro t d x=>cases x with
     |none=>cases q1
     |some xs=>cases q1;rfl
   have hr2:lenD ((wOf (Di e.S.ps) u.2).getD k ⟨.unit,()⟩)=n:=by
    generalize (wOf (Di e.S.ps) u.2).getD k ⟨.unit,()⟩=y at q2;obtain⟨ty,x⟩:=y;cases ty with
    |sl u'=>cases q2;rfl
    |_=>cases q2
   rw[hr1,hr2]
  have hperm:=hc3.perm (σ':=r'.map Aa.v) (ts':=(List.range h.n).map (St.den ⟨λi=>(s.t i).killP (Z0 (LD.map (·.1)) s.r.length),r'⟩).t) (π:=λi=>i) (λi hi=>by
    rw[length_map,k1]at hi;have:(s.r.map Aa.v).length=s.r.length:=by simp
    have hl3:(s.r.map Aa.v).length<=σ3.length:=hl3;omega) (λ_ _ _ _ h=>h) (λi hi=>by
    have hi':i<(s.r.map Aa.v).length:=by rw[length_map,k1]at hi;simpa using hi
    rw[hσ3 i hi',Ai];have:=k3 i;have e8:(s.den.σ).getD i .dead=(s.r.getD i .dead).v:=Ai _ _;rw[e8];exact this) (λ_ _=>rfl) (by
    have:=hcr.ml;rw[length_map,k1];simpa [St.den]using this) (by simp) (λi hi=>by
    have hi:i<h.n:=by simpa using hi
    have U:=Sl.killP_ren (r:=s.r) (r':=r') (h:=Z0 (LD.map (·.1)) s.r.length) (N:=s.r.length) (M:=M) (hM.weak λid q hh=>by
     obtain⟨o1,o2⟩:=Nc hh;refine⟨by simpa [St.den]using o1,λb hb hbe=>?_⟩
     rcases o2 b hb hbe with o3|o3
     .exact .inl o3
     .refine .inr ⟨o3.1,?_⟩
      cases hpre:AN b.2 q with
      |false=>rfl
      |true=>rw[Lw hpre]at o3;cases o3.2) (λid q hh=>(Nc hh).1) hlen' (s.t i)
    have hlr:(r'.map Aa.v).length=s.r.length:=by rw[length_map,k1]
    rw[hlr];simpa [hi,St.den]using U)
  refine⟨hdf,λx hx=>?_,hperm⟩
  have W:(s.t x).v s.r=.dead:=hdd x hx;show((s.t x).killP _).v r'=.dead;cases hy:s.t x with
  |one y=>
   rw[hy]at W;cases y with
   |dead=>rfl
   |c t d z=>exact W
   |nil=>cases W
   |nilp=>cases W
   |nilf=>cases W
   |nilm=>cases W
   |raw _ _=>cases W
   |rf=>cases W
   |rs=>cases W
   |rp=>cases W
   |rm=>cases W
  |new l=>rw[hy]at W;cases W
  |agg l=>rw[hy]at W;cases W
  |tup l=>rw[hy]at W;cases W
  |pk t l=>rw[hy]at W;cases W
 rw[hdst];exact hn _ _ (sc_put hsc hp hsr)
end Go.Ve


namespace Go.Ve
variable{i k n sz:Nat}{f:Nat->Nat->V}{D:Nat->Prop}{cv:Value}{w:World}
theorem AcR(d:Nat)(r:List Aa)(c:Cl):(fit d c).v r=c.v r/\(fit d c).v0=c.v0:=by
 cases c with
 |c t H x=>
  have e:fit d (.c t H x)=bif beq (Pm H t.dep) (Pm d t.dep)then .c t d x else .c t H x:=rfl;rw[e];cases h:beq (Pm H t.dep) (Pm d t.dep)with
  |false=>simp
  |true=>
   have:=bqE h;rw[ID,ID]at this;exact⟨(Ma this).symm,(Ma this).symm⟩
 |_=>trivial
def KU(r:List Aa):List Cl->Option (List Cl×List (Option Nat))
 |[]=>some ([],[])
 |.rf id []::l=>match r.getD id .dead with
  |.arr false t d xs=>match KU r l with
   |some (m,js)=>some (.c (.sl t) (d+1) xs::m,some id::js)
   |none=>none
  |_=>none
 |.rf id [(0,k)]::l=>match r.getD id .dead with
  |.obj false cl=>match cl.getD k .dead with
   |.c (.sl t) (d+1) xs=>match KU r l with
    |some (m,js)=>some (.c (.sl t) (d+1) xs::m,some id::js)
    |none=>none
   |_=>none
  |_=>none
 |y::l=>bif y.imm then(match KU r l with
   |some (m,js)=>some (y::m,none::js)
   |none=>none)else none
def apO:List (Option Nat)->Bool
 |[]=>true
 |none::l=>apO l
 |some a::l=>l.all (λb=>match b with
  |some b=>!beq a b
  |none=>true)&&apO l
def VO:List (Option Nat)->List Nat
 |[]=>[]
 |none::l=>VO l
 |some a::l=>a::VO l
def tBSM(s:St)(n:Nat)(ps:List (Nat×Option Sl)):Option TI->Option LR
 |some j=>bif blt 0 j.ty.w&&Nat.ble (n*j.ty.w) 16777216 then(match Vc (λi=>some (i*j.ty.w,j.ty.w)) (Ab6 n (Ii j.ty)) ps with
   |some l=>match KU s.r l with
    |some (m,js)=>bif apO js then(match VO js with
     |[]=>none
     |_::_=>match OB j.ty j.sd n (m.map (fit j.sd))with
      |some xs=>some ⟨True,inferInstance,VO js,.c (.sl j.ty) (j.sd+1) xs⟩
      |none=>none)else none
    |none=>none
   |none=>none)
  else none
 |none=>none
theorem YG:∀{l:List (Option Nat)},apO l=true->∀i k a,i<l.length->k<l.length->i≠k->l.getD i none=some a->l.getD k none≠some a
 |none::l,h,i,k,a,hi,H,hne,h1=>by
  cases i with
  |zero=>cases h1
  |succ i=>cases k with
   |zero=>intro U;cases U
   |succ k=>exact YG (l:=l) h i k a (by simpa using hi) (by simpa using H) (by omega) (by simpa using h1)
 |some b::l,h,i,k,a,hi,H,hne,h1=>by
  simp only[apO,bAE]at h;have key:∀k,k<l.length->l.getD k none≠some b:=by
   intro k H U;have h3:=aET.1 h.1 (l.getD k none) (by simp[H])
   simp_all
  cases i with
  |zero=>
   grind
  |succ i=>cases k with
   |zero=>
    intro U
    simp_all
   |succ k=>exact YG (l:=l) h.2 i k a (by simpa using hi) (by simpa using H) (by omega) (by simpa using h1)
 |[],_,_,_,_,hi,_,_,_=>by simp at hi
def M8:∀{l:List (Option Nat)}{k a:Nat},k<l.length->l.getD k none=some a->a∈VO l
 |none::l,k,a,hk,h=>by
  cases k with
  |zero=>cases h
  |succ k=>exact M8 (l:=l) (by simpa using hk) (by grind)
 |some b::l,k,a,hk,h=>by
  cases k with
  |zero=>cases h;exact List.mem_cons_self ..
  |succ k=>exact mCM _ (M8 (by simpa using hk) (by grind))
 |[],_,_,hk,_=>by grind
def ownF(F:Nat->Nat->Prop):Option Nat->Nat->Prop
 |some j=>F j
 |none=>noF
structure Abr(s:St)(w:World)(D:Nat->Prop)(F:Nat->Nat->Prop)(l m:List Cl)(js:List (Option Nat))(cvs:List Value):Prop where
 ml:m.length=l.length
 jl:js.length=l.length
 ro:∀j∈VO js,j<s.r.length/\(s.r.getD j .dead).ro=false
 rel:∀k,k<l.length->∃G:Nat->Prop,(∀b,G b->ownF F (js.getD k none) b)/\Rel D w noR ((m.map Cl.v0).getD k .dead) (cvs.getD k undef) G
theorem part1{s:Bool}{v':V}{c':Value}{fp:Nat->Prop}(hr:Rel D w noR (.nd s true sz n f) cv fp)(ha:At w [(i,k)] (.nd s true sz n f) cv v' c'):v'=f i k/\∃G:Nat->Prop,(∀b,G b->fp b)/\Rel D w noR (f i k) c' G:=by
 obtain⟨hi,hk,b,o,cap,x,Y,hx,hv,Z⟩:=ha;subst Y hv Z;rcases hr with⟨h0,_⟩|⟨b',o',cap',F,U,hcap,hmax,hs1,Z,himm,ho⟩
 .omega
 obtain⟨rfl,rfl,hcc⟩:=Am U;obtain⟨x',H,W⟩:=Z i k hi hk;rw[hx]at H;cases H;exact⟨rfl,F i k,λb hb=>((ho rfl).2.2.2 b).2 (.inr ⟨i,k,hi,hk,hb⟩),W⟩
theorem ZH{σ:List V}{ρ:Nat->Value}{F:Nat->Nat->Prop}(wr:Be σ w D ρ F){id s0 n0:Nat}{b0:Bool}{f0:Nat->Nat->V}(U:σ.getD id .dead=.nd b0 true s0 n0 f0)(hf:f0 i k=.nd true true sz n f)(hr:Ae σ ρ w (.rs id [(i,k)] 0 n) cv):
  ∃G:Nat->Prop,(∀b,G b->F id b)/\Rel D w noR (.nd true true sz n f) cv G:=by
 obtain⟨W,sz',n',f',cn,Z,hle,Y⟩:=hr;have H:=wr.rel id W;rw[U]at Z H;obtain⟨hv,G,hG,hR⟩:=part1 H Z;rw[hf]at hv hR;cases hv;have e:cv=cn:=by
  rcases Y with⟨b,o,cap,h3,h4⟩|⟨h3,a,h4,h5,_⟩
  .rw[h4,h3];simp[Av]
  grind
 exact⟨G,hG,e▸hR⟩
theorem Jh{s:St}{w:World}{D:Nat->Prop}{ρ:Nat->Value}{F:Nat->Nat->Prop}(wr:Be (s.r.map Aa.v) w D ρ F):∀(l m:List Cl) (js:List (Option Nat)) (cvs:List Value),KU s.r l=some (m,js)->cvs.length=l.length->
  (∀k,k<l.length->Rel D w (Ae (s.r.map Aa.v) ρ w) ((l.map (Cl.v s.r)).getD k .dead) (cvs.getD k undef) noF)->Abr s w D F l m js cvs
 |[],m,js,cvs,h,_,_=>by
  cases h;exact⟨rfl,rfl,λj hj=>(by cases hj),λk hk=>by simp at hk⟩
 |y::l,m,js,cvs,h,hl,hr=>by
  cases cvs with
  |nil=>simp at hl
  |cons cv cvs=>
  have h0:Rel D w (Ae (s.r.map Aa.v) ρ w) (y.v s.r) cv noF:=by simpa using hr 0 (by simp)
  have Y:∀k,k<l.length->Rel D w (Ae (s.r.map Aa.v) ρ w) ((l.map (Cl.v s.r)).getD k .dead) (cvs.getD k undef) noF:=λk hk=>by simpa using hr (k+1) (by simpa using hk)
  have imm:y.imm=true->∀m' W,KU s.r l=some (m',W)->Abr s w D F (y::l) (y::m') (none::W) (cv::cvs):=λhimm m' W h1=>by
   obtain⟨g1,g2,g3,g4⟩:=Jh wr l m' W cvs h1 (by simpa using hl) Y
   refine⟨by simp[g1],by simp[g2],g3,λk hk=>?_⟩
   cases k with
   |zero=>
    obtain⟨i1,i2⟩:=Qc (r:=s.r) himm;refine⟨noF,λ_ h=>h,?_⟩
    show Rel D w noR y.v0 cv noF;rw[<-i2];exact CH i1 h0
   |succ k=>simpa using g4 k (by simpa using hk)
  unfold KU at h;split at h
  .rename_i he;cases he
  .rename_i id l' he
   cases he;split at h
   case h_2=>cases h
   rename_i t d xs H;split at h
   case h_2=>cases h
   rename_i m' W h1;cases h;obtain⟨g1,g2,g3,g4⟩:=Jh wr l m' W cvs h1 (by simpa using hl) Y
   have Z:(Ac s.r id []).len=xs.length:=by
    show(s.r.getD id .dead).len=_;rw[H];rfl
   have h0:Rel D w (Ae (s.r.map Aa.v) ρ w) (.rs id [] 0 (Ac s.r id []).len) cv noF:=h0;rw[Z]at h0
   have hσ:(s.r.map Aa.v).getD id .dead=.nd true true t.w xs.length (λi k=>(tyV t d (xs.getD i t.dflt)).getD k .dead):=by
    rw[Ai,H];rfl
   obtain⟨_,hrr⟩:=MG wr hσ h0.1;have hid:id<s.r.length:=by simpa using h0.1.1
   refine⟨by simp[g1],by simp[g2],λj hj=>?_,λk hk=>?_⟩
   .rcases mem_cons.1 hj with rfl|hj
    .exact⟨hid,by rw[H];rfl⟩
    .exact g3 j hj
   .cases k with
    |zero=>exact⟨F id,λ_ h=>h,hrr⟩
    |succ k=>simpa using g4 k (by simpa using hk)
  .rename_i id k l' he
   cases he;split at h
   case h_2=>cases h
   rename_i cl H;split at h
   case h_2=>cases h
   rename_i t d xs U;split at h
   case h_2=>cases h
   rename_i m' W h1;cases h;obtain⟨g1,g2,g3,g4⟩:=Jh wr l m' W cvs h1 (by simpa using hl) Y
   have hkl:k<cl.length:=by
    by_cases hkl:k<cl.length
    .exact hkl
    .rw[gDE,List.getElem?_eq_none (by omega)]at U
     cases U
   have Z:(Ac s.r id [(0,k)]).len=xs.length:=by
    show((s.r.getD id .dead).at' [(0,k)]).len=_;rw[H];show Aa.len (Aa.at' (Cl.node false (cl.getD k .dead)) [])=_;rw[U];rfl
   have h0:Rel D w (Ae (s.r.map Aa.v) ρ w) (.rs id [(0,k)] 0 (Ac s.r id [(0,k)]).len) cv noF:=h0;rw[Z]at h0
   have hσ:(s.r.map Aa.v).getD id .dead=A3 true (cl.map Cl.v0):=by
    rw[Ai,H];rfl
   have hf:(cl.map Cl.v0).getD k .dead=.nd true true t.w xs.length (λi k=>(tyV t d (xs.getD i t.dflt)).getD k .dead):=by
    rw[gDE,getElem?_map];rw[gDE,gEE hkl]at U;rw[gEE hkl];have U:cl[k]=_:=U;show(Cl.v0 cl[k])=_;rw[U];rfl
   obtain⟨G,hG,hrr⟩:=ZH wr (i:=0) hσ hf h0.1;have hid:id<s.r.length:=by simpa using h0.1.1
   refine⟨by simp[g1],by simp[g2],λj hj=>?_,λk' hk=>?_⟩
   .rcases mem_cons.1 hj with rfl|hj
    .exact⟨hid,by rw[H];rfl⟩
    .exact g3 j hj
   .cases k' with
    |zero=>exact⟨G,hG,hrr⟩
    |succ k=>simpa using g4 k (by simpa using hk)
  .rename_i y' l' hne he
   cases he;obtain⟨hi,h⟩:=A1 h;split at h
   case h_2=>cases h
   rename_i m' W h1;cases h;exact imm hi m' W h1
theorem AbQ{P:Program}{Θ:Tab}(hΘ:Θ.OK P){C:Ctx}{h:BW}{s s':St}{o:Oper}{t:TypeId}{n:Nat}{ps:Array (Nat×Operand)}{a:Act}{w:World}{A:LR}{d:Nat}{next:Act->World->Prop}{Q:Exit->Act->World->Prop}
  (ho:o.op=.buildSlice t n ps) (hdst:o.dst=some d) (hfz:h.fz.contains d=false) (ha:tBSM s n (ps.toList.map λp=>(p.1,s.ev p.2)) (((Θ.look t).bind (·.elem)).bind Θ.look)=some A) (hp:(Aj A.js s).put h (some d) (.one A.y)=some s')
  (hs:AA C h.n s.den a w) (hn:∀a' w',AA C h.n s'.den a' w'->next a' w'):o.wp P a w next Q:=by
 obtain⟨hdf,hdd,D,ρ,F,W⟩:=hs;unfold tBSM at ha;split at ha
 case h_2=>cases ha
 rename_i j hj;obtain⟨e,hsl,_⟩:=DW hΘ hj;obtain⟨H,ha⟩:=A1 ha;simp only[bAE]at H;have hw:=Mb H.1;have hnw:=blE H.2;split at ha
 case h_2=>cases ha
 rename_i l hl;split at ha
 case h_2=>cases ha
 rename_i m js hm;obtain⟨hap,ha⟩:=A1 ha;split at ha
 .cases ha
 rename_i j0 jr hjs;split at ha
 case h_2=>cases ha
 rename_i xs hxs;cases ha;obtain⟨h1,h2⟩:=Mu _ _ _ hl;rw[Xf s.r j.ty n hw]at h2
 have hparts:Mh s.den.σ w D ρ F (ps.toList.map λp=>(p.1,s.den.ev p.2)) (ps.toList.map λp=>(p.1,a.eval p.2)):=by
  refine⟨by simp,λk i v Y=>?_⟩
  simp only[getElem?_map]at Y⊢;cases hq:ps.toList[k]? with
  |none=>simp[hq]at Y
  |some q=>
   simp only[hq,Option.map_some,Option.some.injEq,Prod.mk.injEq]at Y⊢;obtain⟨rfl,rfl⟩:=Y;exact⟨_,⟨rfl,rfl⟩,noF,Bh W hdd q.2,λ_ h=>h.elim,λ_ _ _ h=>h⟩
 obtain⟨U,hrun,hrel,hll⟩:=bs_run (P:=P) ho hparts hsl h1 hw hnw h2;have hlen:l.length=n*j.ty.w:=by simpa using hll
 obtain⟨g1,g2,g3,g4⟩:=Jh W.wr l m js U.toList hm (by have:=hrel.1;simp at this;simpa using this) (λk Y=>by
  have:=hrel.2 k (by simpa using Y)
  simpa [St.den]using this)
 obtain⟨p1,p2,p3⟩:=PV s.r n _ xs hxs
 have hfitv:∀k,((m.map (fit j.sd)).map (Cl.v s.r)).getD k .dead=(m.map Cl.v0).getD k .dead:=by
  intro k;rw[p2,map_map]
  congr 1
  exact List.map_congr_left λy _=>(AcR _ s.r y).2
 obtain⟨fk,hfk⟩:∃fk:Nat->Nat->Prop,∀q,(∀b,fk q b->ownF F (js.getD q none) b)/\(q<l.length->Rel D w noR ((m.map Cl.v0).getD q .dead) (U.toList.getD q undef) (fk q)):=by
  refine⟨λq=>if h:q<l.length then Classical.choose (g4 q h)else noF,λq=>?_⟩
  by_cases h:q<l.length
  .simp only[dif_pos h]
   exact⟨(Classical.choose_spec (g4 q h)).1,λ_=>(Classical.choose_spec (g4 q h)).2⟩
  .simp only[dif_neg h]
   exact⟨λb H=>H.elim,λh'=>absurd h' h⟩
 let Fy:Nat->Nat->Nat->Prop:=λi k=>fk (i*j.ty.w+k)
 have hFy:∀i k b,Fy i k b->∃q,js.getD (i*j.ty.w+k) none=some q/\F q b:=by
  intro i k b H;have H:=(hfk _).1 b H;cases hq:js.getD (i*j.ty.w+k) none with
  |none=>rw[hq]at H;exact H.elim
  |some q=>rw[hq]at H;exact⟨q,rfl,H⟩
 have Z:∀i k,i<n->k<j.ty.w->i*j.ty.w+k<l.length:=λi k hi Y=>by rw[hlen];exact Uu hi Y
 have hG:∀i k b,i<n->k<j.ty.w->Fy i k b->∃q∈VO js,F q b:=by
  intro i k b hi Y H;obtain⟨q,hq,H⟩:=hFy i k b H;exact⟨q,M8 (by rw[g2];exact Z i k hi Y) hq,H⟩
 have hblk:(w.alloc (.cells U e)).heap[w.heap.size]? =some (.cells U e (0,0)):=heap_alloc_new w _;have hsame:∀b,b<w.heap.size->(w.alloc (.cells U e)).heap[b]? =w.heap[b]?:=λb H=>Below.heap_alloc _ _ _ H
 have hsz:U.size=n*j.ty.w:=by rw[hrel.1];exact hll
 have hr:Rel D (w.alloc (.cells U e)) noR (.nd true true j.ty.w n λi k=>(m.map Cl.v0).getD (i*j.ty.w+k) .dead) (.slice (some ⟨w.heap.size,0,none⟩) n n) (λb=>b=w.heap.size\/∃i k,i<n/\k<j.ty.w/\Fy i k b):=by
  refine .inr ⟨w.heap.size,0,n,Fy,rfl,le_refl _,?_,(λh=>by cases h),λi k hi Y=>?_,(λh=>by cases h),λ_=>⟨⟨U,e,.plain hblk,by rw[hsz,zero_add];exact le_refl _⟩,λi k hi Y hF=>?_,λi k i' k' b hi Y hi' hk' hne hF hF'=>?_,λ_=>Iff.rfl⟩⟩
  .have:=Nat.le_mul_of_pos_right n hw;unfold maxLen;omega
  .have hlt:=Z i k hi Y
   refine⟨U.getD (i*j.ty.w+k) undef,?_,?_⟩
   .rw[cellRow hblk,zero_add]
    have:i*j.ty.w+k<U.size:=by rw[hsz,<-hlen];exact hlt
    simp[this]
   .have h5:=(hfk _).2 hlt
    have h6:Rel D w noR ((m.map Cl.v0).getD (i*j.ty.w+k) .dead) (U.getD (i*j.ty.w+k) undef) (Fy i k):=by
     show Rel D w noR _ _ (fk (i*j.ty.w+k));simpa using h5
    refine Rel.mono (λ_ h=>h) (λ_ _ h=>h) _ _ _ (λb H=>hsame b ?_) h6
    rcases H with H|H
    .exact W.wr.Dlt b H
    .exact Rel.lt _ _ _ h6 b H
  .obtain⟨q,_,hq⟩:=hG i k _ hi Y hF
   have:=W.wr.lt q _ hq;omega
  .obtain⟨q,hq,hF⟩:=hFy i k b hF
   obtain⟨q',hq',hF'⟩:=hFy i' k' b hF';have hne2:i*j.ty.w+k≠i'*j.ty.w+k':=by
    intro he;have e1:=congrArg (· /j.ty.w) he
    have e2:=congrArg (· % j.ty.w) he
    simp only[Kj Y,Kj hk',Ki Y,Ki hk']at e1 e2;omega
   have:=YG hap _ _ q (by rw[g2];exact Z i k hi Y) (by rw[g2];exact Z i' k' hi' hk') hne2 hq
   exact W.wr.disj q q' b (λe=>this (by rw[hq',e])) hF hF'
 obtain⟨F',hcr',hF'⟩:=Cn (VO js) W (λq hq=>(g3 q hq).1)
 have hr2:Rel D (w.alloc (.cells U e)) noR (cV (.sl j.ty) (j.sd+1) xs) (.slice (some ⟨w.heap.size,0,none⟩) n n) (λb=>b=w.heap.size\/∃i k,i<n/\k<j.ty.w/\Fy i k b):=by
  refine Rel.sub ?_ hr;show Sub _ (V.nd true true j.ty.w xs.length λi k=>(tyV j.ty j.sd (xs.getD i j.ty.dflt)).getD k .dead)
  rw[p1];refine⟨_,rfl,λi k hi Y=>?_⟩
  have:=p3 i k hi Y;rw[hfitv]at this;exact this
 have hfpG:∀b,(b=w.heap.size\/∃i k,i<n/\k<j.ty.w/\Fy i k b)->(∃q∈VO js,F q b)\/w.heap.size<=b:=by
  rintro b (rfl|⟨i,k,hi,Y,hF⟩)
  .exact .inr (le_refl _)
  .exact .inl (hG i k b hi Y hF)
 have hc:=CR.own hcr' (w':=w.alloc (.cells U e)) (G:=λb=>∃q∈VO js,F q b) (D':=D) (λi b H ⟨q,hq,hFq⟩=>by
   obtain⟨h1,h2⟩:=hF' i b H;exact W.wr.disj i q b (λe=>h2 (e▸hq)) h1 hFq) (λb H ⟨q,_,hFq⟩=>W.wr.dD q b hFq H) (λb ⟨q,_,hFq⟩=>W.Fn q b hFq) rfl rfl rfl (le_refl _) (by simp) (λc hc _=>hsame c hc) hr2 hfpG
  (λ_ h=>h) (λ_ h=>.inl h) (λb H=>⟨by have:=W.wr.Dlt b H;simp;omega,λh=>by
   rcases hfpG b h with⟨q,_,hFq⟩|h2
   .exact W.wr.dD q b hFq H
   .have:=W.wr.Dlt b H;omega⟩) d
 have hs':=XD (h:=h) hdf (BT (VO js) hdd) hfz hp hc;unfold Oper.wp;rw[hrun];show next (a.put o.dst _) _
 rw[hdst];exact hn _ _ hs'
end Go.Ve

