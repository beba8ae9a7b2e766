/- The typed machine. -/
import Derived.Test.YteakdlfnmhlifaaTy
import Derived.Test.YteakdlfnmhlifaaTd
open Nat(beq blt zero_add le_refl)
open List(append_nil length_map mem_singleton map_map getElem?_map mem_map mem_cons)
set_option linter.all false
namespace Go.Ve
variable{p:AG}{r r':Ab}{A B a:List (Dh×Nat)}{σ σ0:List V}{d dep m:Nat}{ρ ρ0:Nat->Value}{s:St}{t u:Ty}{cv:Value}{w:World}
def QU(s:St)(dep:Nat):Cl->Option (Cl×List (Dh×Nat))
 |.c t _ x=>bif t.sc then some (.c t dep x,[])else none
 |.rf id p=>match Ac s.r id p with
  |.arr false u d xs=>match dep with
   |d0+1=>bif dOK u d d0 then some (.c (.sl u) (d0+1) xs,[((id,p),d)])else none
   |0=>none
  |_=>none
 |_=>none
def QT(s:St)(dep:Nat):List Cl->Option (List Cl×List (Dh×Nat))
 |[]=>some ([],[])
 |y::l=>match QU s dep y with
  |some (c,a)=>match QT s dep l with
   |some (cs,b)=>some (c::cs,a++b)
   |none=>none
  |none=>none
def Zq(t:Ty)(dep:Nat):List Cl->Option (t.T×List Cl)
 |.c t' d x::l=>if h:t'=t then(bif beq d dep then some (h▸x,l)else none)else none
 |_=>none
def unC:(t:Ty)->Nat->List Cl->Option (t.T×List Cl)
 |.unit,_,l=>some ((),l)
 |.pair a b,d,l=>match unC a d l with
  |some (x,l)=>match unC b d l with
   |some (y,l)=>some ((x,y),l)
   |none=>none
  |none=>none
 |.int k,d,l=>Zq (.int k) d l
 |.bool,d,l=>Zq .bool d l
 |.str,d,l=>Zq .str d l
 |.sl t,d,l=>Zq (.sl t) d l
 |.ptr t,d,l=>Zq (.ptr t) d l
 |.clo g t,d,l=>Zq (.clo g t) d l
 |.osl t,d,l=>Zq (.osl t) d l
 |.mp a b,d,l=>Zq (.mp a b) d l
theorem DJ(O:t.one=true){l e:List Cl}{x:t.T}(h:Zq t dep l=some (x,e)):l=Aq t dep x++e:=by
 unfold Zq at h;split at h
 case h_2=>grind
 rename_i H d y m;split at h
 case isFalse=>grind
 rename_i J;subst J;cases E:beq d dep with
 |false=>grind
 |true=>
  rw[E]at h;cases h;rw[bqE E];cases H<;>first|rfl|trivial
def Q2:∀(t:Ty) (dep:Nat) (l e:List Cl) (x:t.T),unC t dep l=some (x,e)->l=Aq t dep x++e
 |.unit,dep,l,e,x,h=>by cases h;rfl
 |.pair a b,dep,l,e,x,h=>by
  unfold unC at h;split at h
  case h_2=>grind
  rename_i y m H;split at h
  case h_2=>grind
  rename_i z J E;cases h;rw[Q2 a dep _ _ _ H,Q2 b dep _ _ _ E];simp[Aq]
 |.int _,dep,l,e,x,h=>DJ rfl h
 |.bool,dep,l,e,x,h=>DJ rfl h
 |.str,dep,l,e,x,h=>DJ rfl h
 |.sl _,dep,l,e,x,h=>DJ rfl h
 |.ptr _,dep,l,e,x,h=>DJ rfl h
 |.clo _ _,dep,l,e,x,h=>DJ rfl h
 |.osl _,dep,l,e,x,h=>DJ rfl h
 |.mp _ _,dep,l,e,x,h=>DJ rfl h
def Vn(s:St)(p:WP):Option Sl->Option (p.2.2.T×List (Dh×Nat))
 |some (.agg l)=>bif p.1&&p.2.1 then(match QT s p.2.2.dep l with
  |some (cs,a)=>match unC p.2.2 p.2.2.dep cs with
   |some (x,[])=>some (x,a)
   |_=>none
  |none=>none)else none
 |some (.one y)=>bif p.2.1 then none else bif p.1 then(match QU s p.2.2.dep y with
   |some (c,a)=>match unC p.2.2 p.2.2.dep [c]with
    |some (x,[])=>some (x,a)
    |_=>none
   |none=>none)
  else(match y with
   |.c e _ x=>if h:e=p.2.2 then(bif e.sc then some (h▸x,[])else none)else none
   |_=>none)
 |_=>none
def QV(s:St):(ps:List WP)->List (Option Sl)->Option ((PTW ps).T×List (Dh×Nat))
 |[],[]=>some ((),[])
 |[p],[y]=>Vn s p y
 |p::q::l,y::ys=>match Vn s p y with
  |some (x,a)=>match QV s (q::l) ys with
   |some (z,b)=>some ((x,z),a++b)
   |none=>none
  |none=>none
 |_,_=>none
def Mq:List Dh->Bool
 |[]=>true
 |a::l=>l.all (λb=>!beq a.1 b.1||dvP a.2 b.2)&&Mq l
def Yx:AG->Option (AG×Nat×Nat)
 |[]=>none
 |(i,k)::q=>match Yx q with
  |none=>some ([],i,k)
  |some (p0,j,l)=>some ((i,k)::p0,j,l)
def Ab.setPath(r:Ab)(p:AG)(u:Ty)(d:Nat)(xs:List u.T):Option Ab:=match Yx p with
 |none=>match r with
  |.arr false _ _ _=>some (.arr false u d xs)
  |_=>none
 |some (p0,i,k)=>r.setAt p0 i k (.c (.sl u) (d+1) xs)
def Db:List (Dh×Nat)->List (Σ t:Ty,t.T)->List Ab->Option (List Ab)
 |[],[],r=>some r
 |(a,d)::L,⟨.sl u,xs⟩::ys,r=>match(r.getD a.1 .dead).setPath a.2 u d xs with
  |some x=>Db L ys (r.set a.1 x)
  |none=>none
 |_,_,_=>none
def Cl.killP(h:Nat->AG->Bool):Cl->Cl
 |.rf id q=>bif h id q then .dead else .rf id q
 |.rs id q off len=>bif h id q then .dead else .rs id q off len
 |.rp id q i k=>bif h id q then .dead else .rp id q i k
 |.rm id q=>bif h id q then .dead else .rm id q
 |y=>y
def Sl.killP(h:Nat->AG->Bool):Sl->Sl
 |.one y=>.one (y.killP h)
 |.new l=>.new l
 |.agg l=>.agg (l.map (Cl.killP h))
 |.tup l=>.tup (l.map λp=>(p.1,p.2.map (Cl.killP h)))
 |.pk t l=>.pk t (l.map (Cl.killP h))
def AaA(L:List Dh)(N:Nat)(id:Nat)(q:AG):Bool:=!blt id N||L.any λa=>beq a.1 id&&(match a.2 with
 |[]=>(match q with
  |[]=>false
  |_::_=>true)
 |b::p=>pre ((b::p).map (·.2)) q)
structure Zn where
 α:Type
 o:Option α
 st:α->Option St
 y:α->Cl
def N6(Γ:List EnW)(s:St)(f:FuncId)(xs:List (Option Sl)):Option Zn:=match Yq Γ f with
 |some e=>match QV s e.S.ps xs with
  |some (z,LD)=>bif Mq (LD.map (·.1))then
    some ⟨e.S.rt.T×(wty (Dp e.S.ps)).T,e.g z,λu=>match Db LD (wOf (Dp e.S.ps) u.2) s.r with
     |some r'=>some ⟨λi=>(s.t i).killP (AaA (LD.map (·.1)) s.r.length),r'⟩
     |none=>none,λu=>.c e.S.rt 0 u.1⟩else none
  |none=>none
 |none=>none
theorem Pz:∀{L:List Dh},Mq L=true->L.Pairwise Il
 |[],_=>List.Pairwise.nil
 |a::l,h=>by
  simp only[Mq,bAE]at h;refine List.pairwise_cons.2 ⟨λb E=>?_,Pz h.2⟩
  have:=aET.1 h.1 b E;simp[Bool.not_eq_true']at this;exact this.imp (λh e=>by simp_all) id
theorem H8:∀{p:AG},(Yx p=none->p=[])/\∀p0 i k,Yx p=some (p0,i,k)->p=p0++[(i,k)]
 |[]=>⟨λ_=>rfl,λ_ _ _ h=>by cases h⟩
 |(i,k)::q=>by
  obtain⟨E,e⟩:=H8 (p:=q);unfold Yx
  grind
theorem Xx{xs:List u.T}(h:r.setPath p u d xs=some r'):Sub (upd p r.v (cV (.sl u) (d+1) xs)) r'.v:=by
 unfold Ab.setPath at h;split at h
 .rename_i e
  rw[H8.1 e];split at h
  .cases h;exact Sub.refl _
  grind
 .rename_i p0 i k e
  rw[H8.2 _ _ _ e];exact Hx p0 r r' h
theorem P5{xs:List u.T}(h:r.setPath p u d xs=some r'){q:AG}(H:p≠[]->pre (p.map (·.2)) q=false)(E:p=[]->q=[]/\xs.length=r.len):(r'.at' q).len=(r.at' q).len:=by
 unfold Ab.setPath at h;split at h
 .rename_i e
  have e:=H8.1 e;split at h
  .cases h
   obtain⟨rfl,J⟩:=E e
   trivial
  grind
 .rename_i p0 i k e
  have e:=H8.2 _ _ _ e;exact Jb p0 r r' h q (by simp_all)
theorem Lt{xs:List u.T}(h:r.setPath p u d xs=some r'):r≠.dead:=by
 unfold Ab.setPath at h;split at h
 .grind
 .exact ML h
def C5:∀(rs:List Ab) (ys:List (Σ t:Ty,t.T)),rs.length=ys.length->(Br rs ys).length=rs.length
 |[],[],_=>rfl
 |r::rs,y::ys,h=>by simp[Br,C5 rs ys (by grind)]
 |[],_::_,h=>by rfl
 |_::_,[],h=>by grind
def Cp:∀(rs:List Ab) (ys:List (Σ t:Ty,t.T)) (k:Nat),rs.length=ys.length->k<rs.length->(Br rs ys).getD k .dead=Dd (rs.getD k .dead) (ys.getD k ⟨.unit,()⟩)
 |r::rs,y::ys,0,_,_=>rfl
 |r::rs,y::ys,k+1,h,hk=>by simpa [Br]using Cp rs ys k (by grind) (by grind)
 |[],_,_,_,hk=>by rfl
 |_::_,[],_,h,_=>by grind
theorem LS{y:Σ t:Ty,t.T}(h:Dd r y≠.dead):∃(ro:Bool) (u:Ty) (d:Nat) (xs ys:List u.T),r=.arr ro u d xs/\y=⟨.sl u,ys⟩/\Dd r y=.arr ro u d ys:=by
 unfold Dd at h;split at h
 .rename_i ro u d xs e ys
  split at h
  .rename_i E
   subst E;exact⟨ro,e,d,xs,ys,rfl,rfl,by simp[Dd]⟩
  grind
 grind
structure WOK(s:St)(σ:List V)(ρ:Nat->Value)(w:World)(LD:List (Dh×Nat))(R:List Ab):Prop where
 len:R.length=LD.length
 nd:∀k,k<LD.length->∃u d0 xs,R.getD k .dead=.arr false u d0 xs/\Ac s.r (LD.getD k ((0,[]),0)).1.1 (LD.getD k ((0,[]),0)).1.2=.arr false u (LD.getD k ((0,[]),0)).2 xs/\dOK u (LD.getD k ((0,[]),0)).2 d0=true
 at':∀a∈LD,a.1.1<σ.length/\∃sz n f c,At w a.1.2 (σ.getD a.1.1 .dead) (ρ a.1.1) (.nd true true sz n f) c
theorem WOK.app{R S:List Ab}(h:WOK s σ ρ w A R)(H:WOK s σ ρ w B S):WOK s σ ρ w (A++B) (R++S):=by
 refine⟨by simp[h.len,H.len],λk U=>?_,λa E=>?_⟩
 .by_cases e:k<A.length
  .have O:(A++B).getD k ((0,[]),0)=A.getD k ((0,[]),0):=by grind
   have J:(R++S).getD k .dead=R.getD k .dead:=by
    have:k<R.length:=by rw[h.len];exact e
    simp[gAL this]
   rw[O,J];exact h.nd k e
  .have O:(A++B).getD k ((0,[]),0)=B.getD (k-A.length) ((0,[]),0):=by
    grind
   have J:(R++S).getD k .dead=S.getD (k-A.length) .dead:=by
    simp only[gDE];rw[gAR (by rw[h.len];omega),h.len]
   rw[O,J];exact H.nd _ (by simp at U;omega)
 .rcases List.mem_append.1 E with E|E
  .exact h.at' a E
  .exact H.at' a E
def Zw(s:St)(σ:List V)(ρ:Nat->Value)(w:World)(LD:List (Dh×Nat))(m:Nat)(σ0:List V)(ρ0:Nat->Value):Prop:=
 ∀k,k<LD.length->m+k<σ0.length/\σ0.getD (m+k) .dead=sub (LD.getD k ((0,[]),0)).1.2 (σ.getD (LD.getD k ((0,[]),0)).1.1 .dead)/\
  At w (LD.getD k ((0,[]),0)).1.2 (σ.getD (LD.getD k ((0,[]),0)).1.1 .dead) (ρ (LD.getD k ((0,[]),0)).1.1) (sub (LD.getD k ((0,[]),0)).1.2 (σ.getD (LD.getD k ((0,[]),0)).1.1 .dead)) (ρ0 (m+k))
theorem Zw.left(h:Zw s σ ρ w (A++B) m σ0 ρ0):Zw s σ ρ w A m σ0 ρ0:=by
 intro k e;have:=h k (by grind)
 grind
theorem Zw.right(h:Zw s σ ρ w (A++B) m σ0 ρ0):Zw s σ ρ w B (m+A.length) σ0 ρ0:=by
 intro k e;have:=h (A.length+k) (by simp_all)
 have E:(A++B).getD (A.length+k) ((0,[]),0)=B.getD k ((0,[]),0):=by
  simp_all
 grind
def AaZ(h:t.sc=true)(d:Nat)(x:t.T):cV t d x=.c (scV t x):=by cases t<;>first|rfl|cases h
section
variable {s:St}{ρ:Nat->Value}{w:World}{D:Nat->Prop}{F:Nat->Nat->Prop}
theorem NR(wr:Bg (s.r.map Ab.v) w D ρ F){y c:Cl}(h:QU s dep y=some (c,a))(E:Rel D w (Ai (s.r.map Ab.v) ρ w) (y.v s.r) cv noF):
  ∀m l,∃c' R,(Bo m (c::l)).1=c'::(Bo (m+R.length) l).1/\(Bo m (c::l)).2=R++(Bo (m+R.length) l).2/\WOK s (s.r.map Ab.v) ρ w a R/\
   ∀(R0:List Ab) σ0 ρ0,Has R0 m R->Zw s (s.r.map Ab.v) ρ w a m σ0 ρ0->Rel D w (Ai σ0 ρ0 w) (c'.v R0) cv noF:=by
 intro m l;unfold QU at h;split at h
 .rename_i t d x
  obtain⟨hs,h⟩:=A1 h;cases h
  have e:Bo m (.c t dep x::l)=(.c t dep x::(Bo m l).1,(Bo m l).2):=by
   cases t<;>first|rfl|cases hs
  refine⟨.c t dep x,[],by rw[e];rfl,by rw[e];rfl,⟨rfl,λk O=>by simp at O,λa U=>by cases U⟩,λR0 σ0 ρ0 _ _=>?_⟩
  have E:Rel D w (Ai (s.r.map Ab.v) ρ w) (cV t d x) cv noF:=E;show Rel D w (Ai σ0 ρ0 w) (cV t dep x) cv noF;rw[AaZ hs]at E⊢;exact E
 .rename_i id p
  split at h
  case h_2=>cases h
  rename_i u d xs J;split at h
  case h_2=>cases h
  rename_i d0;obtain⟨hd,h⟩:=A1 h;cases h;have E:Rel D w (Ai (s.r.map Ab.v) ρ w) (.rs id p 0 (Ac s.r id p).len) cv noF:=E;rw[J]at E;have E:Rel D w (Ai (s.r.map Ab.v) ρ w) (.rs id p 0 xs.length) cv noF:=E;obtain⟨⟨hid,sz,n,f,cn,H,Z,hcv⟩,_⟩:=E;have Y:Ac s.r id p≠.dead:=by rw[J];intro h;cases h
  have W:sub p ((s.r.map Ab.v).getD id .dead)=arr true u.w (tyV u d) u.dflt xs:=(AS Y).trans (by rw[J];rfl)
  refine⟨.rf m [],[.arr false u d0 xs],rfl,rfl,⟨rfl,λk O=>?_,λa U=>?_⟩,λR0 σ0 ρ0 hR hW=>?_⟩
  .obtain rfl:k=0:=by simp at O;exact O
   exact⟨u,d0,xs,rfl,J,hd⟩
  .simp at U;subst U
   exact⟨hid,sz,n,f,cn,H⟩
  .obtain⟨h1,h2,h3⟩:=hW 0 (by simp)
   simp only[Nat.add_zero,List.getD_cons_zero]at h1 h2 h3;have hR0:R0.getD m .dead=.arr false u d0 xs:=hR 0 (by simp)
   show Rel D w (Ai σ0 ρ0 w) (.rs m [] 0 (Ac R0 m []).len) cv noF
   have hl:(Ac R0 m []).len=xs.length:=by
    show(R0.getD m .dead).len=_;rw[hR0];rfl
   rw[hl];have hcn:=At.det h3 H;refine⟨⟨h1,sz,n,f,cn,⟨?_,hcn.symm⟩,Z,hcv⟩,λ_ h=>h⟩
   rw[h2];exact At.sub H
 .cases h
def NQ(wr:Bg (s.r.map Ab.v) w D ρ F){dep:Nat}:∀(l:List Cl) (cs:List Cl) (a:List (Dh×Nat)) (cvs:List Value),QT s dep l=some (cs,a)->cvs.length=l.length->(∀i,i<l.length->Rel D w (Ai (s.r.map Ab.v) ρ w) ((l.getD i .dead).v s.r) (cvs.getD i undef) noF)->
  ∀m,(Bo m cs).1.length=l.length/\WOK s (s.r.map Ab.v) ρ w a (Bo m cs).2/\
   ∀(R0:List Ab) σ0 ρ0,Has R0 m (Bo m cs).2->Zw s (s.r.map Ab.v) ρ w a m σ0 ρ0->∀i,i<l.length->Rel D w (Ai σ0 ρ0 w) (((Bo m cs).1.getD i .dead).v R0) (cvs.getD i undef) noF
 |[],cs,a,cvs,h,_,_,m=>by
  cases h;exact⟨rfl,⟨rfl,λk hk=>by grind,λa U=>by cases U⟩,λ_ _ _ _ _ i hi=>by simp at hi⟩
 |y::l,cs,a,cvs,h,hl,hr,m=>by
  cases cvs with
  |nil=>simp at hl
  |cons cv cvs=>
  unfold QT at h;split at h
  case h_2=>cases h
  rename_i c a1 Y;split at h
  case h_2=>cases h
  rename_i E a2 W;cases h;obtain⟨c',R,g1,g2,O,Z⟩:=NR wr Y (hr 0 (by simp)) m E
  obtain⟨k1,k2,k3⟩:=NQ wr l E a2 cvs W (by simpa using hl) (λi hi=>by simpa using hr (i+1) (by simpa using hi)) (m+R.length)
  rw[g1,g2];refine⟨by simp[k1],O.app k2,λR0 σ0 ρ0 J H i hi=>?_⟩
  cases i with
  |zero=>exact Z R0 σ0 ρ0 J.left H.left
  |succ i=>
   have e:=H.right;rw[<-O.len]at e;simpa using k3 R0 σ0 ρ0 J.right e i (by simpa using hi)
theorem QW(wr:Bg (s.r.map Ab.v) w D ρ F){p:WP}{y:Sl}{x:p.2.2.T}(h:Vn s p (some y)=some (x,a))(J:Rel D w (Ai (s.r.map Ab.v) ρ w) (y.v s.r) cv noF)(m:Nat):
  WOK s (s.r.map Ab.v) ρ w a (Vo p x m).2/\∀(R0:List Ab) σ0 ρ0,Has R0 m (Vo p x m).2->Zw s (s.r.map Ab.v) ρ w a m σ0 ρ0->Rel D w (Ai σ0 ρ0 w) ((Vo p x m).1.v R0) cv noF:=by
 obtain⟨own,ag,t⟩:=p;unfold Vn at h;split at h
 .rename_i l hy
  cases hy;cases hb:(own&&ag)with
  |false=>rw[show((own,ag,t):WP).1=own from rfl,show((own,ag,t):WP).2.1=ag from rfl,hb]at h;cases h
  |true=>
   simp only[bAE]at hb;obtain⟨rfl,rfl⟩:=hb;simp only[Bool.and_self,cond_true]at h;split at h
   case h_2=>cases h
   rename_i cs a' hc;split at h
   case h_2=>cases h
   rename_i x' hx;cases h;have Z:=Q2 _ _ _ _ _ hx;rw[append_nil]at Z;have J:Rel D w (Ai (s.r.map Ab.v) ρ w) (Ag (l.map (Cl.v s.r))) cv noF:=J;obtain⟨cvs,Fx,W,U,E,_,Y⟩:=J;have W:cv=.agg cvs:=W;simp only[length_map]at U E Y
   have H:∀i,i<l.length->Rel D w (Ai (s.r.map Ab.v) ρ w) ((l.getD i .dead).v s.r) (cvs.toList.getD i undef) noF:=by
    intro i hi;have h1:=E i hi;have e:Fx i=noF:=A4 λb hb=>(Y b).2 ⟨i,hi,hb⟩
    rw[e]at h1;have e2:(l.map (Cl.v s.r)).getD i .dead=(l.getD i .dead).v s.r:=Az (f:=Cl.v s.r) (a:=.dead) rfl _ _;have h1:Rel D w (Ai (s.r.map Ab.v) ρ w) ((l.map (Cl.v s.r)).getD i .dead) (cvs.getD i undef) noF:=h1;rw[e2]at h1;simpa using h1
   obtain⟨g1,g2,g3⟩:=NQ wr l cs a cvs.toList hc (by simpa using U) H m
   rw[Z]at g1 g2 g3;refine⟨g2,λR0 σ0 ρ0 hR hW=>?_⟩
   show Rel D w (Ai σ0 ρ0 w) (Ag ((Bo m (Aq t t.dep x)).1.map (Cl.v R0))) cv noF;have O:((Bo m (Aq t t.dep x)).1.map (Cl.v R0)).length=l.length:=by rw[length_map,g1]
   refine⟨cvs,λ_=>noF,W,by rw[O];exact U,λk hk=>?_,λ_ _ _ _ _ _ h=>h.elim,λb=>⟨λh=>h.elim,fun⟨_,_,h⟩=>h⟩⟩
   rw[O]at hk;have:=g3 R0 σ0 ρ0 hR hW k hk;show Rel D w (Ai σ0 ρ0 w) (((Bo m (Aq t t.dep x)).1.map (Cl.v R0)).getD k .dead) _ noF;rw[Az (f:=Cl.v R0) (a:=.dead) rfl];simpa using this
 .rename_i y' hy
  cases hy;cases ag with
  |true=>cases h
  |false=>
   simp only[cond_false]at h;cases own with
   |true=>
    simp only[cond_true]at h;split at h
    case h_2=>cases h
    rename_i c a' hc;split at h
    case h_2=>cases h
    rename_i x' hx;cases h;have Z:=Q2 _ _ _ _ _ hx;rw[append_nil]at Z;obtain⟨c',R,g1,g2,g3,g4⟩:=NR wr hc J m []
    have e1:(Bo m (Aq t t.dep x))=([c'],R):=by
     rw[<-Z];exact Prod.ext (by rw[g1];rfl) (by rw[g2];simp[Bo])
    have e2:Vo (true,false,t) x m=(.one c',R):=by
     show(Sl.one ((Bo m (Aq t t.dep x)).1.getD 0 .dead),(Bo m (Aq t t.dep x)).2)=_;rw[e1];rfl
    rw[e2];exact⟨g3,λR0 σ0 ρ0 hR hW=>g4 R0 σ0 ρ0 hR hW⟩
   |false=>
    simp only[cond_false]at h;split at h
    case h_2=>cases h
    rename_i t' d z;split at h
    case isFalse=>cases h
    rename_i ht;have ht:t'=t:=ht;subst ht;obtain⟨hs,h⟩:=A1 h;cases h;refine⟨⟨rfl,λk hk=>by simp at hk,λa ha=>by cases ha⟩,λR0 σ0 ρ0 _ _=>?_⟩
    have J:Rel D w (Ai (s.r.map Ab.v) ρ w) (cV t' d z) cv noF:=J;show Rel D w (Ai σ0 ρ0 w) (cV t' 0 z) cv noF;rw[AaZ hs]at J⊢;exact J
 .cases h
end
end Go.Ve


namespace Go.Ve
variable{a:Act}{h:Cd}{C:Ctx}{r:List Ab}{N d:Nat}{s s':St}{w:World}
section
variable {s:St}{ρ:Nat->Value}{w:World}{D:Nat->Prop}{F:Nat->Nat->Prop}
def NS(wr:Bg (s.r.map Ab.v) w D ρ F){a:Act}:∀(ps:List WP) (xs:List Operand) (z:(PTW ps).T) (LD:List (Dh×Nat)),QV s ps (xs.map s.ev)=some (z,LD)->(∀x∈xs,Rel D w (Ai (s.r.map Ab.v) ρ w) (s.den.ev x) (a.eval x) noF)->∀m,
  (AW ps z m).1.length=xs.length/\WOK s (s.r.map Ab.v) ρ w LD (AW ps z m).2/\
   ∀(R0:List Ab) σ0 ρ0,Has R0 m (AW ps z m).2->Zw s (s.r.map Ab.v) ρ w LD m σ0 ρ0->∀i,i<xs.length->Rel D w (Ai σ0 ρ0 w) (((AW ps z m).1.getD i (.one .dead)).v R0) (a.eval (xs.getD i (.tmp 0))) noF
 |[],[],z,LD,h,_,m=>by
  cases h;exact⟨rfl,⟨rfl,λk Z=>by simp at Z,λa ha=>by cases ha⟩,λ_ _ _ _ _ i hi=>by simp at hi⟩
 |[p],[x],z,LD,h,hr,m=>by
  have h:Vn s p (s.ev x)=some (z,LD):=h;cases e:s.ev x with
  |none=>rw[e]at h;cases h
  |some y=>
   rw[e]at h;have J:=hr x (by simp)
   rw[Bd e]at J;obtain⟨g1,g2⟩:=QW wr h J m;refine⟨rfl,g1,λR0 σ0 ρ0 E O i hi=>?_⟩
   obtain rfl:i=0:=by simp at hi;exact hi
   exact g2 R0 σ0 ρ0 E O
 |p::q::l,x::xs,z,LD,h,hr,m=>by
  have h:(match Vn s p (s.ev x)with
   |some (x,a)=>match QV s (q::l) (xs.map s.ev)with
    |some (z,b)=>some ((x,z),a++b)
    |none=>none
   |none=>none:Option ((PTW (p::q::l)).T×List (Dh×Nat)))=some (z,LD):=h
  split at h
  case h_2=>cases h
  rename_i Y a1 U;split at h
  case h_2=>cases h
  rename_i W b1 h2;cases h;cases e:s.ev x with
  |none=>rw[e]at U;cases U
  |some y=>
   rw[e]at U;have J:=hr x (by simp)
   rw[Bd e]at J;obtain⟨g1,g2⟩:=QW wr U J m;obtain⟨k1,k2,k3⟩:=NS wr (q::l) xs W b1 h2 (λy e=>hr y (mCM _ e)) (m+(Vo p Y m).2.length)
   refine⟨by show(AW (q::l) W _).1.length+1=_;rw[k1];rfl,g1.app k2,λR0 σ0 ρ0 E O i hi=>?_⟩
   have E:Has R0 m ((Vo p Y m).2++(AW (q::l) W (m+(Vo p Y m).2.length)).2):=E;cases i with
   |zero=>exact g2 R0 σ0 ρ0 E.left O.left
   |succ i=>
    have H:=O.right;rw[<-g1.len]at H;exact k3 R0 σ0 ρ0 E.right H i (by simpa using hi)
 |[],_::_,_,_,h,_,_=>by cases h
 |[_],[],_,_,h,_,_=>by cases h
 |[_],_::_::_,_,_,h,_,_=>by cases h
 |_::_::_,[],_,_,h,_,_=>by cases h
end
theorem BS.tyV0{π:Nat->Nat}{n:Nat}:∀(t:Ty) (x:t.T),∀v∈tyV t 0 x,BS π n v v
 |.int _,_,v,h=>by simp[tyV]at h;subst h;exact .inr (Sub.refl _)
 |.bool,_,v,h=>by simp[tyV]at h;subst h;exact .inr (Sub.refl _)
 |.str,_,v,h=>by simp[tyV]at h;subst h;exact .inr (Sub.refl _)
 |.sl _,_,v,h=>by simp[tyV,mem_singleton]at h;subst h;exact .inr (Sub.refl _)
 |.ptr _,_,v,h=>by simp[tyV,mem_singleton]at h;subst h;exact .inr (Sub.refl _)
 |.unit,_,v,h=>by trivial
 |.mp _ _,_,v,h=>by simp only[tyV,mem_singleton]at h;subst h;exact .inr (Sub.refl _)
 |.pair a b,x,v,h=>by
  simp[tyV,List.mem_append]at h;exact h.elim (BS.tyV0 a x.1 v) (BS.tyV0 b x.2 v)
 |.osl _,x,v,h=>by
  simp[tyV,mem_singleton]at h;subst h;cases x with
  |none=>exact BS.dead _ _ _
  |some xs=>exact .inr (Sub.refl _)
 |.clo g t,x,v,h=>by
  simp[tyV,mem_singleton]at h;subst h;refine .inr ⟨_,rfl,λk e=>?_⟩
  have e:k<(tyV t 0 x).length:=by rw[Av];grind
  show BS π n ((tyV t 0 x).getD k .dead) ((tyV t 0 x).getD k .dead);rw[gDE,gEE e];exact BS.tyV0 t x _ (List.getElem_mem e)
theorem killP_ren{r':List Ab}{M:V->V}{h:Nat->AG->Bool}(E:Cx M (λid q=>h id q=false))(J:∀id q,h id q=false->id<N)(O:∀id q,h id q=false->(Ac r' id q).len=(Ac r id q).len)(y:Cl):BS (λi=>i) N (M (y.v r)) ((y.killP h).v r'):=by
 cases y with
 |dead=>exact BS.dead _ _ _
 |nil=>show BS _ _ (M (.c _)) _;rw[E.m.c];exact .inr (Sub.refl _)
 |nilp=>show BS _ _ (M (.c _)) _;rw[E.m.c];exact .inr (Sub.refl _)
 |nilf=>show BS _ _ (M (.c _)) _;rw[E.m.c];exact .inr (Sub.refl _)
 |nilm=>show BS _ _ (M (.c _)) _;rw[E.m.c];exact .inr (Sub.refl _)
 |c t d x=>
  have e:M (cV t d x)=cV t d x:=by
   cases t with
   |int k=>exact E.m.c _
   |bool=>exact E.m.c _
   |str=>exact E.m.c _
   |sl t=>exact E.m.nd _ _ _ _ _
   |ptr t=>exact E.m.nd _ _ _ _ _
   |unit=>exact E.m.dead
   |clo g u=>exact E.m.clo
   |osl u=>exact E.m.osl
   |mp a b=>exact E.m.mp _ _
   |pair a b=>exact E.m.dead
  show BS _ _ (M (cV t d x)) (cV t d x);rw[e];cases t<;>first|exact .inr (Sub.refl _)|rfl|(cases x<;>first|rfl|exact .inr (Sub.refl _))|exact BS.tyV0 (.clo _ _) x _ (mem_singleton.2 rfl)
 |rf id q=>
  show BS _ _ (M (.rs id q 0 _)) ((bif h id q then Cl.dead else .rf id q).v r');cases H:h id q with
  |true=>exact BS.dead _ _ _
  |false=>
   rw[E.rs id q _ _ H];refine .inr ⟨id,J id q H,rfl,?_⟩;show V.rs id q 0 (Ac r' id q).len=_;rw[O id q H]
 |rs id q off len=>
  show BS _ _ (M (.rs id q off len)) ((bif h id q then Cl.dead else .rs id q off len).v r');cases H:h id q with
  |true=>exact BS.dead _ _ _
  |false=>rw[E.rs id q _ _ H];exact .inr ⟨id,J id q H,rfl,rfl⟩
 |rm id q=>
  show BS _ _ (M (.rm id q)) ((bif h id q then Cl.dead else .rm id q).v r');cases H:h id q with
  |true=>exact BS.dead _ _ _
  |false=>rw[E.rm id q H];exact .inr ⟨id,J id q H,rfl,rfl⟩
 |rp id q i k=>
  show BS _ _ (M (.rp id q i k)) ((bif h id q then Cl.dead else .rp id q i k).v r');cases H:h id q with
  |true=>exact BS.dead _ _ _
  |false=>rw[E.rp id q _ _ H];exact .inr ⟨id,J id q H,rfl,rfl⟩
theorem Z7{l:List Cl}{f g:Cl->V}(E:f .dead=.dead)(e:g .dead=.dead)(h:∀y,BS (λi=>i) N (f y) (g y))(k:Nat):BS (λi=>i) N ((l.map f).getD k .dead) ((l.map g).getD k .dead):=by grind
theorem Sl.killP_ren{r r':List Ab}{M:V->V}{h:Nat->AG->Bool}{N:Nat}(e:Cx M (λid q=>h id q=false))(J:∀id q,h id q=false->id<N)(H:∀id q,h id q=false->(Ac r' id q).len=(Ac r id q).len)(y:Sl):BS (λi=>i) N (M (y.v r)) ((y.killP h).v r'):=by
 have one:=Go.Ve.killP_ren e J H
 have key:∀(l:List Cl) (k:Nat),BS (λi=>i) N (((l.map (Cl.v r)).map M).getD k .dead) (((l.map (Cl.killP h)).map (Cl.v r')).getD k .dead):=by
  intro l k;rw[map_map,map_map];exact Z7 (f:=λy=>M (y.v r)) (g:=λy=>(y.killP h).v r') e.m.dead rfl one k
 cases y with
 |one c=>exact one c
 |new l=>
  show BS _ _ (M (A8 true (l.map Cl.v0))) (A8 true (l.map Cl.v0));rw[show M (A8 true (l.map Cl.v0))=A8 true (l.map Cl.v0)from e.m.nd _ _ _ _ _]
  exact .inr (Sub.refl _)
 |agg l=>
  show BS _ _ (M (Ag _)) (Ag _);rw[AdX e.m];exact Um (by simp) λk _=>key l k
 |pk t l=>
  show BS _ _ (M (pkL t _)) (pkL t _);rw[G_pk e.m];exact XK (by simp) λk _=>key l k
 |tup l=>
  show BS _ _ (M (Dq _)) (Dq _);rw[Aa9 e.m];refine XJ (by simp) λk E=>?_
  have E:k<l.length:=by simpa using E
  simp only[gDE,getElem?_map,gEE E,Option.map_some,Option.getD_some];generalize l[k]=p;obtain⟨b,m⟩:=p;cases b with
  |true=>
   show BS _ _ (M (Ag (m.map (Cl.v r)))) (Ag ((m.map (Cl.killP h)).map (Cl.v r')));rw[AdX e.m];exact Um (by simp) λk _=>key m k
  |false=>
   have:=key m 0;cases m with
   |nil=>show BS _ _ (M .dead) .dead;exact BS.dead _ _ _
   |cons y m=>simpa using this
def OM:∀(E:List (Dh×V)) (i:Nat) {v v':V},Sub v v'->Sub (DG E i v) (DG E i v')
 |[],_,_,_,h=>h
 |a::E,i,v,v',h=>by
  refine OM E i ?_;split
  .exact Sub.upd _ h
  grind
def AcS(a:Dh×Nat)(y:Σ t:Ty,t.T):V:=match y with
 |⟨.sl u,xs⟩=>cV (.sl u) (a.2+1) xs
 |_=>.dead
theorem JW:∀(LD:List (Dh×Nat)) (ys:List (Σ t:Ty,t.T)) (r r':List Ab),Db LD ys r=some r'->r'.length=r.length/\LD.length=ys.length/\∀i,Sub (DG ((LD.map (·.1)).zip (LD.zipWith AcS ys)) i ((r.getD i .dead).v)) (r'.getD i .dead).v
 |[],[],r,r',h=>by cases h;exact⟨rfl,rfl,λi=>Sub.refl _⟩
 |(a,d)::LD,⟨.sl u,xs⟩::ys,r,r',h=>by
  unfold Db at h;split at h
  case h_2=>cases h
  rename_i x H;obtain⟨W,U,O⟩:=JW LD ys _ _ h;have E:a.1<r.length:=by
   rcases Nat.lt_or_ge a.1 r.length with h|h
   .exact h
   .exact absurd (by rw[gDE,List.getElem?_eq_none h];rfl) (Lt H)
  refine⟨by rw[W];simp,by simp[U],λi=>?_⟩
  show Sub (DG ((LD.map (·.1)).zip (LD.zipWith AcS ys)) i (if a.1=i then upd a.2 ((r.getD i .dead).v) (cV (.sl u) (d+1) xs)else(r.getD i .dead).v)) _
  refine Sub.trans (OM _ i ?_) (O i);by_cases J:a.1=i
  .subst J
   rw[if_pos rfl];have e:(r.set a.1 x).getD a.1 .dead=x:=by simp[E]
   rw[e];exact Xx H
  .rw[if_neg J]
   have e:(r.set a.1 x).getD i .dead=r.getD i .dead:=by
    grind
   rw[e];exact Sub.refl _
 |[],_::_,_,_,h=>by cases h
 |_::_,[],_,_,h=>by cases h
 |_::_,⟨.int _,_⟩::_,_,_,h=>by cases h
 |_::_,⟨.bool,_⟩::_,_,_,h=>by cases h
 |_::_,⟨.str,_⟩::_,_,_,h=>by cases h
 |_::_,⟨.unit,_⟩::_,_,_,h=>by cases h
 |_::_,⟨.ptr _,_⟩::_,_,_,h=>by cases h
 |_::_,⟨.clo _ _,_⟩::_,_,_,h=>by cases h
 |_::_,⟨.osl _,_⟩::_,_,_,h=>by cases h
 |_::_,⟨.mp _ _,_⟩::_,_,_,h=>by cases h
 |_::_,⟨.pair _ _,_⟩::_,_,_,h=>by cases h
def lenD(y:Σ t:Ty,t.T):Nat:=match y with
 |⟨.sl _,xs⟩=>xs.length
 |_=>0
theorem DR{x:Ab}{i j:Nat}(h:i≠j):(r.set i x).getD j .dead=r.getD j .dead:=by grind
def JX{id:Nat}{q:AG}:∀(LD:List (Dh×Nat)) (ys:List (Σ t:Ty,t.T)) (r r':List Ab),Db LD ys r=some r'->(LD.map (·.1)).Pairwise Il->
  (∀k,k<LD.length->(LD.getD k ((0,[]),0)).1.2=[]->lenD (ys.getD k ⟨.unit,()⟩)=(r.getD (LD.getD k ((0,[]),0)).1.1 .dead).len)->
  (∀a∈LD,a.1.1=id->(a.1.2=[]/\q=[])\/(a.1.2≠[]/\pre (a.1.2.map (·.2)) q=false))->(Ac r' id q).len=(Ac r id q).len
 |[],[],r,r',h,_,_,_=>by cases h;rfl
 |(a,d)::LD,⟨.sl u,xs⟩::ys,r,r',h,hp,hl,hq=>by
  unfold Db at h;split at h
  case h_2=>cases h
  rename_i x W;obtain⟨U,J⟩:=List.pairwise_cons.1 hp;have O:a.1<r.length:=by
   rcases Nat.lt_or_ge a.1 r.length with h|h
   .exact h
   .exact absurd (by rw[gDE,List.getElem?_eq_none h];rfl) (Lt W)
  rw[JX LD ys _ _ h J (λk Z H=>?_) λb hb=>hq b (mCM _ hb)]
  .by_cases he:id=a.1
   .subst he
    rw[Bz O];have H:=hq _ (List.mem_cons_self ..) rfl;refine P5 W (λE=>(H.resolve_left λh=>E h.1).2) λY=>⟨(H.resolve_right λh=>h.1 Y).2,?_⟩
    exact hl 0 (by simp) Y
   .rw[A9 he]
  .have h1:=hl (k+1) (by simpa using Z) (by simpa using H)
   simp only[List.getD_cons_succ]at h1;rw[h1]
   have E:a.1≠(LD.getD k ((0,[]),0)).1.1:=λe=>by
    rcases U (LD.getD k ((0,[]),0)).1 (mem_map.2 ⟨_,by simp[Z],rfl⟩)with h2|h2
    .exact h2 e
    .rw[H,YX]at h2;cases h2
   rw[DR E]
 |[],_::_,_,_,h,_,_,_=>by cases h
 |_::_,[],_,_,h,_,_,_=>by cases h
 |_::_,⟨.int _,_⟩::_,_,_,h,_,_,_=>by cases h
 |_::_,⟨.bool,_⟩::_,_,_,h,_,_,_=>by cases h
 |_::_,⟨.str,_⟩::_,_,_,h,_,_,_=>by cases h
 |_::_,⟨.unit,_⟩::_,_,_,h,_,_,_=>by cases h
 |_::_,⟨.ptr _,_⟩::_,_,_,h,_,_,_=>by cases h
 |_::_,⟨.clo _ _,_⟩::_,_,_,h,_,_,_=>by cases h
 |_::_,⟨.osl _,_⟩::_,_,_,h,_,_,_=>by cases h
 |_::_,⟨.mp _ _,_⟩::_,_,_,h,_,_,_=>by cases h
 |_::_,⟨.pair _ _,_⟩::_,_,_,h,_,_,_=>by cases h
theorem Np{L:List Dh}{id:Nat}{q:AG}(h:AaA L N id q=false):id<N/\∀a∈L,a.1=id->(a.2=[]/\q=[])\/(a.2≠[]/\pre (a.2.map (·.2)) q=false):=by
 unfold AaA at h;simp only[Bool.or_eq_false_iff,Bool.not_eq_false']at h;refine⟨blE h.1,λa E e=>?_⟩
 have H:=List.any_eq_false.1 h.2 a E;obtain⟨i,p⟩:=a;subst e;simp[Bool.true_and]at H
 grind
theorem sc_put{t:Ty}{x:t.T}(U:t.sc=true)(O:s.put h (some d) (.one (.c t 0 x))=some s')(Z:AN C h.n s.den a w):AN C h.n s'.den (a.put (some d) (scV t x)) w:=by
 refine AN.put O ?_;obtain⟨hd,hdd,D,ρ,F,J⟩:=Z;have H:d<h.n:=by
  unfold St.put at O;simp only at O;cases W:blt d h.n with
  |false=>grind
  |true=>simp_all
 have e:s.den.res h (some d) ((Sl.one (.c t 0 x)).v s.r)=⟨AD s.den.t d (.c (scV t x)),s.den.σ⟩:=by
  have e1:(Sl.one (.c t 0 x)).v s.r=.c (scV t x):=AaZ U 0 x;rw[e1];unfold Ms.res;simp only[H,if_true];split
  .rfl
  .show Ms.mk (AD s.den.t d (.c _)) (s.den.σ++[])=_
   rw[append_nil]
 rw[e];have E:(scV t x).oneCell'=true:=by cases t<;>first|rfl|cases U
 have Y:=J.setv (Below.refl _ _) (r:=.c (scV t x)) (v':=scV t x) ⟨rfl,E,λ_ h=>h⟩ (λ_ h=>h) (λ_ h=>.inl h) (λb W=>J.wr.Dlt b W) d
 refine⟨hd,λy hy=>?_,?_⟩
 .show AD s.den.t d _ y=.dead
  unfold AD
  grind
 .rw[Co H]at Y
  exact Y
theorem AbR{u:Ty}{d0:Nat}(h:dOK u d d0=true)(xs:List u.T):cV (.sl u) (d+1) xs=cV (.sl u) (d0+1) xs:=by
 have e:tyV u d=tyV u d0:=funext λz=>Da _ _ _ z (KH h)
 show arr true u.w (tyV u d) u.dflt xs=arr true u.w (tyV u d0) u.dflt xs
 grind
theorem Xk{P:Program}{Γ:List EnW}(hΓ:∀e∈Γ,e.OK P){C:Ctx}{h:Cd}{s s1 s':St}{o:Oper}{f:FuncId}{xs:Array Operand}{ats:Array TypeId}{a:Act}{w:World}{A:Zn}{u:A.α}{d:Nat}{next:Act->World->Prop}{Q:Exit->Act->World->Prop}
  (ho:o.op=.call ⟨.value (.func f),xs,ats⟩) (hdst:o.dst=some d) (ha:N6 Γ s f (xs.toList.map s.ev)=some A) (hu:A.o=some u) (hst:A.st u=some s1) (hp:s1.put h (some d) (.one (A.y u))=some s')
  (hs:AN C h.n s.den a w) (hn:∀a' w',AN C h.n s'.den a' w'->next a' w'):o.wp P a w next Q:=by
 obtain⟨hdf,hdd,D,ρ,F,hcr⟩:=hs;unfold N6 at ha;split at ha
 case h_2=>cases ha
 rename_i e he;split at ha
 case h_2=>cases ha
 rename_i z LD hz;cases Y:Mq (LD.map (·.1))with
 |false=>rw[Y]at ha;cases ha
 |true=>
 rw[Y]at ha;cases ha;have Y:=Pz Y;obtain⟨⟨E,hft⟩,hfe⟩:=UO hΓ he;rw[hfe]at E hft;have hu:e.g z=some u:=hu
 have hst:(match Db LD (wOf (Dp e.S.ps) u.2) s.r with
  |some r'=>some (⟨λi=>(s.t i).killP (AaA (LD.map (·.1)) s.r.length),r'⟩:St)
  |none=>none)=some s1:=hst
 have hp:s1.put h (some d) (.one (.c e.S.rt 0 u.1))=some s':=hp;split at hst
 case h_2=>cases hst
 rename_i r' hr';cases hst;obtain⟨hsc,hlen,hnd,hfc⟩:=hft z u hu;obtain⟨g1,g2,g3⟩:=NS hcr.wr e.S.ps xs.toList z LD hz (λx _=>Bq hcr hdd x) 0
 obtain⟨k1,k2,k3⟩:=JW _ _ _ _ hr';have hRL:=g2.len
 -- the trees that are handed over
 have hσ0:(AW e.S.ps z 0).2.map Ab.v=(LD.map (·.1)).map λa=>sub a.2 ((s.r.map Ab.v).getD a.1 .dead):=by
  apply List.ext_getElem
  .simp[hRL]
  .intro k h1 h2
   have H:k<LD.length:=by simp at h2;exact h2
   obtain⟨Z,d0,ys,e1,e2,e3⟩:=g2.nd k H;have U:k<(AW e.S.ps z 0).2.length:=by omega
   have e1:(AW e.S.ps z 0).2[k]=.arr false Z d0 ys:=by rw[<-e1];simp[U]
   have e4:LD.getD k ((0,[]),0)=LD[k]:=by simp[H]
   rw[e4]at e2 e3;simp only[List.getElem_map,e1];have O:Ac s.r LD[k].1.1 LD[k].1.2≠.dead:=by rw[e2];intro h;cases h
   rw[AS O,e2];exact(AbR e3 ys).symm
 have hσ1:(Br (AW e.S.ps z 0).2 (wOf (Dp e.S.ps) u.2)).map Ab.v=LD.zipWith AcS (wOf (Dp e.S.ps) u.2):=by
  apply List.ext_getElem
  .rw[length_map,C5 _ _ hlen.symm,List.length_zipWith];omega
  .intro k h1 h2
   have H:k<LD.length:=by simp at h2;omega
   have U:k<(AW e.S.ps z 0).2.length:=by omega
   obtain⟨Z,d0,ys,e1,e2,e3⟩:=g2.nd k H;have hg:=Cp (AW e.S.ps z 0).2 (wOf (Dp e.S.ps) u.2) k hlen.symm U;have O:=hnd k U;rw[hg]at O;obtain⟨ro,u2,d2,xs2,W,f1,f2,f3⟩:=LS O;rw[e1]at f1;cases f1;have h3:k<(Br (AW e.S.ps z 0).2 (wOf (Dp e.S.ps) u.2)).length:=by simpa using h1
   have hy:k<(wOf (Dp e.S.ps) u.2).length:=by omega
   have f2:(wOf (Dp e.S.ps) u.2)[k]=⟨.sl Z,W⟩:=by rw[<-f2];simp[hy]
   have f4:(Br (AW e.S.ps z 0).2 (wOf (Dp e.S.ps) u.2))[k]=.arr false Z d0 W:=by
    rw[<-f3,<-hg];simp[h3]
   rw[List.getElem_map,List.getElem_zipWith,f4,f2];have e4:LD.getD k ((0,[]),0)=LD[k]:=by simp[H]
   rw[e4]at e3;exact(AbR e3 W).symm
 rw[hσ0,hσ1]at hfc;have hmem:∀k,k<LD.length->LD.getD k ((0,[]),0)∈LD:=λk H=>by simp[H]
 have hLk:∀k,k<LD.length->(LD.map (·.1)).getD k (0,[])=(LD.getD k ((0,[]),0)).1:=λk H=>by simp[H]
 have hcall2:=AaV hcr (cvs:=xs.map a.eval) (L:=LD.map (·.1)) hfc (λb hb=>by
   obtain⟨c,hc,rfl⟩:=mem_map.1 hb;exact g2.at' c hc) Y (by rw[List.length_zipWith,length_map];omega) (λk H=>by
   have H:k<LD.length:=by simpa using H
   obtain⟨Z,d0,ys,e1,e2,e3⟩:=g2.nd k H;have U:k<(AW e.S.ps z 0).2.length:=by omega
   have hg:=Cp (AW e.S.ps z 0).2 (wOf (Dp e.S.ps) u.2) k hlen.symm U;have O:=hnd k U;rw[hg]at O;obtain⟨ro,u2,d2,xs2,W,f1,f2,f3⟩:=LS O;rw[e1]at f1;cases f1;have hne2:Ac s.r (LD.getD k ((0,[]),0)).1.1 (LD.getD k ((0,[]),0)).1.2≠.dead:=by rw[e2];intro h;cases h
   have e5:(LD.zipWith AcS (wOf (Dp e.S.ps) u.2)).getD k .dead=AcS (LD.getD k ((0,[]),0)) ((wOf (Dp e.S.ps) u.2).getD k ⟨.unit,()⟩):=by
    have hy:k<(wOf (Dp e.S.ps) u.2).length:=by omega
    simp[List.getElem?_zipWith,H,hy]
   rw[hLk k H]
   exact⟨_,_,_,_,_,(show _=V.nd true true Z.w ys.length (λi j=>(tyV Z (LD.getD k ((0,[]),0)).2 (ys.getD i Z.dflt)).getD j .dead)from(AS hne2).trans (by rw[e2];rfl)),
    (show _=V.nd true true Z.w W.length (λi j=>(tyV Z (LD.getD k ((0,[]),0)).2 (W.getD i Z.dflt)).getD j .dead)from by rw[e5,f2];rfl)⟩) (by simp[g1]) (λρ0 F0 wr0 hval i hi=>by
   have hi:i<xs.toList.length:=by simpa [g1]using hi
   have h1:=g3 (AW e.S.ps z 0).2 ((LD.map (·.1)).map λa=>sub a.2 ((s.r.map Ab.v).getD a.1 .dead)) ρ0 (λj _=>by rw[zero_add]) (λk H=>by
    refine⟨by simpa using H,?_,?_⟩
    .simp[H]
    .have h2:=hval k (by simpa using H)
     rw[hLk k H]at h2;rw[zero_add];exact h2) i hi
   have e6:((AW e.S.ps z 0).1.map (Sl.v (AW e.S.ps z 0).2)).getD i .dead=((AW e.S.ps z 0).1.getD i (.one .dead)).v (AW e.S.ps z 0).2:=Az (f:=Sl.v _) (a:=.one .dead) rfl _ _;rw[e6];have hi':i<xs.size:=by simpa using hi
   have e7:(xs.map a.eval).getD i undef=a.eval (xs.toList.getD i (.tmp 0)):=by simp[hi']
   rw[e7];exact h1)
 have hrun:(execOp a.eval o).run P w=.ok (.enter f (xs.map a.eval)) w:=by
  unfold AA at E;split at E
  .rename_i fn hfn
   simp only[bAE,Bool.not_eq_true']at E;obtain⟨h1,h2⟩:=E;have h2':fn.body.isNone=false:=by cases hb:fn.body<;>simp[hb]at h2⊢
   have e0:a.eval (.func f)=.func (.func f) #[] #[]:=rfl;unfold execOp;rw[ho];simp[resolve,e0,Deferred.ofValue,invoke,callFunc,hfn,h2'];simp at h1;simp[h1];intro hb;simp[hb]at h2
  .cases E
 unfold Oper.wp;rw[hrun,Oper.upon_enter];refine hcall2.mono λen w' hpost=>?_
 obtain⟨rfl,σ3,M,⟨D3,ρ3,F3,hc3⟩,hl3,hM,hσ3,hsame⟩:=hpost
 have hsr:AN C h.n (St.den ⟨λi=>(s.t i).killP (AaA (LD.map (·.1)) s.r.length),r'⟩) a w':=by
  have hlen':∀id q,AaA (LD.map (·.1)) s.r.length id q=false->(Ac r' id q).len=(Ac s.r id q).len:=by
   intro id q hh;obtain⟨_,hoff⟩:=Np hh;refine JX LD _ _ _ hr' Y (λk H J=>?_) λb hb=>hoff b.1 (mem_map.2 ⟨b,hb,rfl⟩)
   obtain⟨sz,n,f1,f2,q1,q2⟩:=hsame k (by simpa using H)
   rw[hLk k H,J]at q1;have hy:k<(wOf (Dp e.S.ps) u.2).length:=by omega
   have e5:(LD.zipWith AcS (wOf (Dp e.S.ps) u.2)).getD k .dead=AcS (LD.getD k ((0,[]),0)) ((wOf (Dp e.S.ps) u.2).getD k ⟨.unit,()⟩):=by
    simp[List.getElem?_zipWith,H,hy]
   rw[e5]at q2;have q1:((s.r.map Ab.v).getD (LD.getD k ((0,[]),0)).1.1 .dead)=.nd true true sz n f1:=q1;rw[Ak]at q1
   have hr1:(s.r.getD (LD.getD k ((0,[]),0)).1.1 .dead).len=n:=by
    generalize s.r.getD (LD.getD k ((0,[]),0)).1.1 .dead=R at q1;cases R with
    |dead=>cases q1
    |obj ro l=>cases q1
    |arr ro t d xs=>cases q1;rfl
    |mp=>cases q1
    |opt ro t d x=>cases x with
     |none=>cases q1
     |some xs=>cases q1;rfl
   have hr2:lenD ((wOf (Dp e.S.ps) u.2).getD k ⟨.unit,()⟩)=n:=by
    generalize (wOf (Dp e.S.ps) u.2).getD k ⟨.unit,()⟩=y at q2;obtain⟨ty,x⟩:=y;cases ty with
    |sl Z=>cases q2;rfl
    |_=>cases q2
   rw[hr1,hr2]
  have hperm:=hc3.perm (σ':=r'.map Ab.v) (ts':=(List.range h.n).map (St.den ⟨λi=>(s.t i).killP (AaA (LD.map (·.1)) s.r.length),r'⟩).t) (π:=λi=>i) (λi hi=>by
    rw[length_map,k1]at hi;have:(s.r.map Ab.v).length=s.r.length:=by simp
    have hl3:(s.r.map Ab.v).length<=σ3.length:=hl3;omega) (λ_ _ _ _ h=>h) (λi hi=>by
    have hi':i<(s.r.map Ab.v).length:=by rw[length_map,k1]at hi;simpa using hi
    rw[hσ3 i hi',Ak];have:=k3 i;have e8:(s.den.σ).getD i .dead=(s.r.getD i .dead).v:=Ak _ _;rw[e8];exact this) (λ_ _=>rfl) (by
    have:=hcr.ml;rw[length_map,k1];simpa [St.den]using this) (by simp) (λi hi=>by
    have hi:i<h.n:=by simpa using hi
    have H:=Sl.killP_ren (r:=s.r) (r':=r') (h:=AaA (LD.map (·.1)) s.r.length) (N:=s.r.length) (M:=M) (hM.weak λid q hh=>by
     obtain⟨o1,o2⟩:=Np hh;refine⟨by simpa [St.den]using o1,λb hb hbe=>?_⟩
     rcases o2 b hb hbe with o3|o3
     .exact .inl o3
     .refine .inr ⟨o3.1,?_⟩
      cases hpre:AR b.2 q with
      |false=>rfl
      |true=>rw[LG hpre]at o3;cases o3.2) (λid q hh=>(Np hh).1) hlen' (s.t i)
    have hlr:(r'.map Ab.v).length=s.r.length:=by rw[length_map,k1]
    rw[hlr];simpa [hi,St.den]using H)
  refine⟨hdf,λx hx=>?_,hperm⟩
  have J:(s.t x).v s.r=.dead:=hdd x hx;show((s.t x).killP _).v r'=.dead;cases hy:s.t x with
  |one y=>
   rw[hy]at J;cases y with
   |dead=>rfl
   |c t d z=>exact J
   |nil=>cases J
   |nilp=>cases J
   |nilf=>cases J
   |nilm=>cases J
   |rf=>cases J
   |rs=>cases J
   |rp=>cases J
   |rm=>cases J
  |new l=>rw[hy]at J;cases J
  |agg l=>rw[hy]at J;cases J
  |tup l=>rw[hy]at J;cases J
  |pk t l=>rw[hy]at J;cases J
 rw[hdst];exact hn _ _ (sc_put hsc hp hsr)
end Go.Ve


namespace Go.Ve
variable{i k n sz:Nat}{f:Nat->Nat->V}{D:Nat->Prop}{cv:Value}{w:World}
theorem Adr(d:Nat)(r:List Ab)(c:Cl):(fit d c).v r=c.v r/\(fit d c).v0=c.v0:=by
 cases c with
 |c t E x=>
  have e:fit d (.c t E x)=bif beq (PC E t.dep) (PC d t.dep)then .c t d x else .c t E x:=rfl;rw[e];cases h:beq (PC E t.dep) (PC d t.dep)with
  |false=>simp
  |true=>
   have:=bqE h;rw[IJ,IJ]at this;exact⟨(Mk this).symm,(Mk this).symm⟩
 |_=>trivial
def K4(r:List Ab):List Cl->Option (List Cl×List (Option Nat))
 |[]=>some ([],[])
 |.rf id []::l=>match r.getD id .dead with
  |.arr false t d xs=>match K4 r l with
   |some (m,js)=>some (.c (.sl t) (d+1) xs::m,some id::js)
   |none=>none
  |_=>none
 |.rf id [(0,k)]::l=>match r.getD id .dead with
  |.obj false cl=>match cl.getD k .dead with
   |.c (.sl t) (d+1) xs=>match K4 r l with
    |some (m,js)=>some (.c (.sl t) (d+1) xs::m,some id::js)
    |none=>none
   |_=>none
  |_=>none
 |y::l=>bif y.imm then(match K4 r l with
   |some (m,js)=>some (y::m,none::js)
   |none=>none)else none
def apO:List (Option Nat)->Bool
 |[]=>true
 |none::l=>apO l
 |some a::l=>l.all (λb=>match b with
  |some b=>!beq a b
  |none=>true)&&apO l
def Wh:List (Option Nat)->List Nat
 |[]=>[]
 |none::l=>Wh l
 |some a::l=>a::Wh l
def tBSM(s:St)(n:Nat)(ps:List (Nat×Option Sl)):Option TI->Option LR
 |some j=>bif blt 0 j.ty.w&&Nat.ble (n*j.ty.w) 16777216 then(match VB (λi=>some (i*j.ty.w,j.ty.w)) (AcC n (Ir j.ty)) ps with
   |some l=>match K4 s.r l with
    |some (m,js)=>bif apO js then(match Wh js with
     |[]=>none
     |_::_=>match OQ j.ty j.sd n (m.map (fit j.sd))with
      |some xs=>some ⟨True,inferInstance,Wh js,.c (.sl j.ty) (j.sd+1) xs⟩
      |none=>none)else none
    |none=>none
   |none=>none)
  else none
 |none=>none
theorem Zb:∀{l:List (Option Nat)},apO l=true->∀i k a,i<l.length->k<l.length->i≠k->l.getD i none=some a->l.getD k none≠some a
 |none::l,h,i,k,a,hi,e,hne,h1=>by
  cases i with
  |zero=>cases h1
  |succ i=>cases k with
   |zero=>intro E;cases E
   |succ k=>exact Zb (l:=l) h i k a (by simpa using hi) (by simpa using e) (by omega) (by simpa using h1)
 |some b::l,h,i,k,a,hi,e,hne,h1=>by
  simp only[apO,bAE]at h;have key:∀k,k<l.length->l.getD k none≠some b:=by
   intro k e E;have H:=aET.1 h.1 (l.getD k none) (by simp[e])
   simp_all
  cases i with
  |zero=>
   grind
  |succ i=>cases k with
   |zero=>
    intro E
    simp_all
   |succ k=>exact Zb (l:=l) h.2 i k a (by simpa using hi) (by simpa using e) (by omega) (by simpa using h1)
 |[],_,_,_,_,hi,_,_,_=>by simp at hi
def Nk:∀{l:List (Option Nat)}{k a:Nat},k<l.length->l.getD k none=some a->a∈Wh l
 |none::l,k,a,hk,h=>by
  cases k with
  |zero=>cases h
  |succ k=>exact Nk (l:=l) (by simpa using hk) (by grind)
 |some b::l,k,a,hk,h=>by
  cases k with
  |zero=>cases h;exact List.mem_cons_self ..
  |succ k=>exact mCM _ (Nk (by simpa using hk) (by grind))
 |[],_,_,hk,_=>by grind
def ownF(F:Nat->Nat->Prop):Option Nat->Nat->Prop
 |some j=>F j
 |none=>noF
structure AbZ(s:St)(w:World)(D:Nat->Prop)(F:Nat->Nat->Prop)(l m:List Cl)(js:List (Option Nat))(cvs:List Value):Prop where
 ml:m.length=l.length
 jl:js.length=l.length
 ro:∀j∈Wh js,j<s.r.length/\(s.r.getD j .dead).ro=false
 rel:∀k,k<l.length->∃G:Nat->Prop,(∀b,G b->ownF F (js.getD k none) b)/\Rel D w noR ((m.map Cl.v0).getD k .dead) (cvs.getD k undef) G
theorem part1{s:Bool}{v':V}{c':Value}{fp:Nat->Prop}(hr:Rel D w noR (.nd s true sz n f) cv fp)(ha:At w [(i,k)] (.nd s true sz n f) cv v' c'):v'=f i k/\∃G:Nat->Prop,(∀b,G b->fp b)/\Rel D w noR (f i k) c' G:=by
 obtain⟨hi,W,b,o,cap,x,J,hx,hv,O⟩:=ha;subst J hv O;rcases hr with⟨h0,_⟩|⟨b',o',cap',F,E,Z,U,hs1,O,Y,ho⟩
 .omega
 obtain⟨rfl,rfl,hcc⟩:=As E;obtain⟨x',e,H⟩:=O i k hi W;rw[hx]at e;cases e;exact⟨rfl,F i k,λb hb=>((ho rfl).2.2.2 b).2 (.inr ⟨i,k,hi,W,hb⟩),H⟩
theorem Aag{σ:List V}{ρ:Nat->Value}{F:Nat->Nat->Prop}(wr:Bg σ w D ρ F){id s0 n0:Nat}{b0:Bool}{f0:Nat->Nat->V}(H:σ.getD id .dead=.nd b0 true s0 n0 f0)(hf:f0 i k=.nd true true sz n f)(hr:Ai σ ρ w (.rs id [(i,k)] 0 n) cv):
  ∃G:Nat->Prop,(∀b,G b->F id b)/\Rel D w noR (.nd true true sz n f) cv G:=by
 obtain⟨J,sz',n',f',cn,W,hle,O⟩:=hr;have E:=wr.rel id J;rw[H]at W E;obtain⟨U,G,hG,Y⟩:=part1 E W;rw[hf]at U Y;cases U;have e:cv=cn:=by
  rcases O with⟨b,o,cap,h3,Z⟩|⟨h3,a,Z,h5,_⟩
  .rw[Z,h3];simp[Ay]
  grind
 exact⟨G,hG,e▸Y⟩
theorem Ju{s:St}{w:World}{D:Nat->Prop}{ρ:Nat->Value}{F:Nat->Nat->Prop}(wr:Bg (s.r.map Ab.v) w D ρ F):∀(l m:List Cl) (js:List (Option Nat)) (cvs:List Value),K4 s.r l=some (m,js)->cvs.length=l.length->
  (∀k,k<l.length->Rel D w (Ai (s.r.map Ab.v) ρ w) ((l.map (Cl.v s.r)).getD k .dead) (cvs.getD k undef) noF)->AbZ s w D F l m js cvs
 |[],m,js,cvs,h,_,_=>by
  cases h;exact⟨rfl,rfl,λj hj=>(by cases hj),λk Z=>by simp at Z⟩
 |y::l,m,js,cvs,h,hl,hr=>by
  cases cvs with
  |nil=>simp at hl
  |cons cv cvs=>
  have U:Rel D w (Ai (s.r.map Ab.v) ρ w) (y.v s.r) cv noF:=by simpa using hr 0 (by simp)
  have J:∀k,k<l.length->Rel D w (Ai (s.r.map Ab.v) ρ w) ((l.map (Cl.v s.r)).getD k .dead) (cvs.getD k undef) noF:=λk Z=>by simpa using hr (k+1) (by simpa using Z)
  have imm:y.imm=true->∀W H,K4 s.r l=some (W,H)->AbZ s w D F (y::l) (y::W) (none::H) (cv::cvs):=λhimm W H h1=>by
   obtain⟨g1,g2,g3,g4⟩:=Ju wr l W H cvs h1 (by simpa using hl) J
   refine⟨by simp[g1],by simp[g2],g3,λk Z=>?_⟩
   cases k with
   |zero=>
    obtain⟨i1,i2⟩:=QA (r:=s.r) himm;refine⟨noF,λ_ h=>h,?_⟩
    show Rel D w noR y.v0 cv noF;rw[<-i2];exact CO i1 U
   |succ k=>simpa using g4 k (by simpa using Z)
  unfold K4 at h;split at h
  .rename_i he;cases he
  .rename_i id l' he
   cases he;split at h
   case h_2=>cases h
   rename_i t d xs e;split at h
   case h_2=>cases h
   rename_i W H h1;cases h;obtain⟨g1,g2,g3,g4⟩:=Ju wr l W H cvs h1 (by simpa using hl) J
   have O:(Ac s.r id []).len=xs.length:=by
    show(s.r.getD id .dead).len=_;rw[e];rfl
   have U:Rel D w (Ai (s.r.map Ab.v) ρ w) (.rs id [] 0 (Ac s.r id []).len) cv noF:=U;rw[O]at U
   have hσ:(s.r.map Ab.v).getD id .dead=.nd true true t.w xs.length (λi k=>(tyV t d (xs.getD i t.dflt)).getD k .dead):=by
    rw[Ak,e];rfl
   obtain⟨_,hrr⟩:=MO wr hσ U.1;have hid:id<s.r.length:=by simpa using U.1.1
   refine⟨by simp[g1],by simp[g2],λj hj=>?_,λk Z=>?_⟩
   .rcases mem_cons.1 hj with rfl|hj
    .exact⟨hid,by rw[e];rfl⟩
    .exact g3 j hj
   .cases k with
    |zero=>exact⟨F id,λ_ h=>h,hrr⟩
    |succ k=>simpa using g4 k (by simpa using Z)
  .rename_i id k l' he
   cases he;split at h
   case h_2=>cases h
   rename_i cl e;split at h
   case h_2=>cases h
   rename_i t d xs E;split at h
   case h_2=>cases h
   rename_i W H h1;cases h;obtain⟨g1,g2,g3,g4⟩:=Ju wr l W H cvs h1 (by simpa using hl) J
   have Y:k<cl.length:=by
    by_cases Y:k<cl.length
    .exact Y
    .rw[gDE,List.getElem?_eq_none (by omega)]at E
     cases E
   have O:(Ac s.r id [(0,k)]).len=xs.length:=by
    show((s.r.getD id .dead).at' [(0,k)]).len=_;rw[e];show Ab.len (Ab.at' (Cl.node false (cl.getD k .dead)) [])=_;rw[E];rfl
   have U:Rel D w (Ai (s.r.map Ab.v) ρ w) (.rs id [(0,k)] 0 (Ac s.r id [(0,k)]).len) cv noF:=U;rw[O]at U
   have hσ:(s.r.map Ab.v).getD id .dead=A8 true (cl.map Cl.v0):=by
    rw[Ak,e];rfl
   have hf:(cl.map Cl.v0).getD k .dead=.nd true true t.w xs.length (λi k=>(tyV t d (xs.getD i t.dflt)).getD k .dead):=by
    rw[gDE,getElem?_map];rw[gDE,gEE Y]at E;rw[gEE Y];have E:cl[k]=_:=E;show(Cl.v0 cl[k])=_;rw[E];rfl
   obtain⟨G,hG,hrr⟩:=Aag wr (i:=0) hσ hf U.1;have hid:id<s.r.length:=by simpa using U.1.1
   refine⟨by simp[g1],by simp[g2],λj hj=>?_,λk' Z=>?_⟩
   .rcases mem_cons.1 hj with rfl|hj
    .exact⟨hid,by rw[e];rfl⟩
    .exact g3 j hj
   .cases k' with
    |zero=>exact⟨G,hG,hrr⟩
    |succ k=>simpa using g4 k (by simpa using Z)
  .rename_i y' l' hne he
   cases he;obtain⟨hi,h⟩:=A1 h;split at h
   case h_2=>cases h
   rename_i W H h1;cases h;exact imm hi W H h1
theorem Acm{P:Program}{Θ:Tab}(hΘ:Θ.OK P){C:Ctx}{h:Cd}{s s':St}{o:Oper}{t:TypeId}{n:Nat}{ps:Array (Nat×Operand)}{a:Act}{w:World}{A:LR}{d:Nat}{next:Act->World->Prop}{Q:Exit->Act->World->Prop}
  (ho:o.op=.buildSlice t n ps) (hdst:o.dst=some d) (hfz:h.fz.contains d=false) (W:tBSM s n (ps.toList.map λp=>(p.1,s.ev p.2)) (((Θ.look t).bind (·.elem)).bind Θ.look)=some A) (hp:(Am A.js s).put h (some d) (.one A.y)=some s')
  (hs:AN C h.n s.den a w) (hn:∀a' w',AN C h.n s'.den a' w'->next a' w'):o.wp P a w next Q:=by
 obtain⟨hdf,hdd,D,ρ,F,J⟩:=hs;unfold tBSM at W;split at W
 case h_2=>cases W
 rename_i j hj;obtain⟨e,hsl,_⟩:=Hd hΘ hj;obtain⟨E,W⟩:=A1 W;simp only[bAE]at E;have hw:=Ml E.1;have hnw:=blE E.2;split at W
 case h_2=>cases W
 rename_i l hl;split at W
 case h_2=>cases W
 rename_i m js hm;obtain⟨hap,W⟩:=A1 W;split at W
 .cases W
 rename_i j0 jr hjs;split at W
 case h_2=>cases W
 rename_i xs hxs;cases W;obtain⟨h1,h2⟩:=MC _ _ _ hl;rw[XI s.r j.ty n hw]at h2
 have hparts:Mr s.den.σ w D ρ F (ps.toList.map λp=>(p.1,s.den.ev p.2)) (ps.toList.map λp=>(p.1,a.eval p.2)):=by
  refine⟨by simp,λk i v O=>?_⟩
  simp only[getElem?_map]at O⊢;cases Y:ps.toList[k]? with
  |none=>simp[Y]at O
  |some q=>
   simp only[Y,Option.map_some,Option.some.injEq,Prod.mk.injEq]at O⊢;obtain⟨rfl,rfl⟩:=O;exact⟨_,⟨rfl,rfl⟩,noF,Bq J hdd q.2,λ_ h=>h.elim,λ_ _ _ h=>h⟩
 obtain⟨H,hrun,hrel,hll⟩:=bs_run (P:=P) ho hparts hsl h1 hw hnw h2;have hlen:l.length=n*j.ty.w:=by simpa using hll
 obtain⟨g1,g2,g3,g4⟩:=Ju J.wr l m js H.toList hm (by have:=hrel.1;simp at this;simpa using this) (λk O=>by
  have:=hrel.2 k (by simpa using O)
  simpa [St.den]using this)
 obtain⟨p1,p2,p3⟩:=Qk s.r n _ xs hxs
 have hfitv:∀k,((m.map (fit j.sd)).map (Cl.v s.r)).getD k .dead=(m.map Cl.v0).getD k .dead:=by
  intro k;rw[p2,map_map]
  congr 1
  exact List.map_congr_left λy _=>(Adr _ s.r y).2
 obtain⟨fk,hfk⟩:∃fk:Nat->Nat->Prop,∀q,(∀b,fk q b->ownF F (js.getD q none) b)/\(q<l.length->Rel D w noR ((m.map Cl.v0).getD q .dead) (H.toList.getD q undef) (fk q)):=by
  refine⟨λq=>if h:q<l.length then Classical.choose (g4 q h)else noF,λq=>?_⟩
  by_cases h:q<l.length
  .simp only[dif_pos h]
   exact⟨(Classical.choose_spec (g4 q h)).1,λ_=>(Classical.choose_spec (g4 q h)).2⟩
  .simp only[dif_neg h]
   exact⟨λb E=>E.elim,λh'=>absurd h' h⟩
 let Fy:Nat->Nat->Nat->Prop:=λi k=>fk (i*j.ty.w+k)
 have hFy:∀i k b,Fy i k b->∃q,js.getD (i*j.ty.w+k) none=some q/\F q b:=by
  intro i k b E;have E:=(hfk _).1 b E;cases Y:js.getD (i*j.ty.w+k) none with
  |none=>rw[Y]at E;exact E.elim
  |some q=>rw[Y]at E;exact⟨q,rfl,E⟩
 have U:∀i k,i<n->k<j.ty.w->i*j.ty.w+k<l.length:=λi k hi O=>by rw[hlen];exact UW hi O
 have hG:∀i k b,i<n->k<j.ty.w->Fy i k b->∃q∈Wh js,F q b:=by
  intro i k b hi O E;obtain⟨q,Y,E⟩:=hFy i k b E;exact⟨q,Nk (by rw[g2];exact U i k hi O) Y,E⟩
 have hblk:(w.alloc (.cells H e)).heap[w.heap.size]? =some (.cells H e (0,0)):=heap_alloc_new w _;have hsame:∀b,b<w.heap.size->(w.alloc (.cells H e)).heap[b]? =w.heap[b]?:=λb E=>Below.heap_alloc _ _ _ E
 have hsz:H.size=n*j.ty.w:=by rw[hrel.1];exact hll
 have hr:Rel D (w.alloc (.cells H e)) noR (.nd true true j.ty.w n λi k=>(m.map Cl.v0).getD (i*j.ty.w+k) .dead) (.slice (some ⟨w.heap.size,0,none⟩) n n) (λb=>b=w.heap.size\/∃i k,i<n/\k<j.ty.w/\Fy i k b):=by
  refine .inr ⟨w.heap.size,0,n,Fy,rfl,le_refl _,?_,(λh=>by cases h),λi k hi O=>?_,(λh=>by cases h),λ_=>⟨⟨H,e,.plain hblk,by rw[hsz,zero_add];exact le_refl _⟩,λi k hi O hF=>?_,λi k i' k' b hi O hi' hk' hne hF hF'=>?_,λ_=>Iff.rfl⟩⟩
  .have:=Nat.le_mul_of_pos_right n hw;unfold maxLen;omega
  .have hlt:=U i k hi O
   refine⟨H.getD (i*j.ty.w+k) undef,?_,?_⟩
   .rw[cellRow hblk,zero_add]
    have:i*j.ty.w+k<H.size:=by rw[hsz,<-hlen];exact hlt
    simp[this]
   .have h5:=(hfk _).2 hlt
    have h6:Rel D w noR ((m.map Cl.v0).getD (i*j.ty.w+k) .dead) (H.getD (i*j.ty.w+k) undef) (Fy i k):=by
     show Rel D w noR _ _ (fk (i*j.ty.w+k));simpa using h5
    refine Rel.mono (λ_ h=>h) (λ_ _ h=>h) _ _ _ (λb E=>hsame b ?_) h6
    rcases E with E|E
    .exact J.wr.Dlt b E
    .exact Rel.lt _ _ _ h6 b E
  .obtain⟨q,_,Y⟩:=hG i k _ hi O hF
   have:=J.wr.lt q _ Y;omega
  .obtain⟨q,Y,hF⟩:=hFy i k b hF
   obtain⟨q',hq',hF'⟩:=hFy i' k' b hF';have hne2:i*j.ty.w+k≠i'*j.ty.w+k':=by
    intro he;have e1:=congrArg (· /j.ty.w) he
    have e2:=congrArg (· % j.ty.w) he
    simp only[Ku O,Ku hk',Ks O,Ks hk']at e1 e2;omega
   have:=Zb hap _ _ q (by rw[g2];exact U i k hi O) (by rw[g2];exact U i' k' hi' hk') hne2 Y
   exact J.wr.disj q q' b (λe=>this (by rw[hq',e])) hF hF'
 obtain⟨F',hcr',hF'⟩:=Cr (Wh js) J (λq Y=>(g3 q Y).1)
 have hr2:Rel D (w.alloc (.cells H e)) noR (cV (.sl j.ty) (j.sd+1) xs) (.slice (some ⟨w.heap.size,0,none⟩) n n) (λb=>b=w.heap.size\/∃i k,i<n/\k<j.ty.w/\Fy i k b):=by
  refine Rel.sub ?_ hr;show Sub _ (V.nd true true j.ty.w xs.length λi k=>(tyV j.ty j.sd (xs.getD i j.ty.dflt)).getD k .dead)
  rw[p1];refine⟨_,rfl,λi k hi O=>?_⟩
  have:=p3 i k hi O;rw[hfitv]at this;exact this
 have hfpG:∀b,(b=w.heap.size\/∃i k,i<n/\k<j.ty.w/\Fy i k b)->(∃q∈Wh js,F q b)\/w.heap.size<=b:=by
  rintro b (rfl|⟨i,k,hi,O,hF⟩)
  .exact .inr (le_refl _)
  .exact .inl (hG i k b hi O hF)
 have hc:=CR.own hcr' (w':=w.alloc (.cells H e)) (G:=λb=>∃q∈Wh js,F q b) (D':=D) (λi b E ⟨q,Y,Z⟩=>by
   obtain⟨h1,h2⟩:=hF' i b E;exact J.wr.disj i q b (λe=>h2 (e▸Y)) h1 Z) (λb E ⟨q,_,Z⟩=>J.wr.dD q b Z E) (λb ⟨q,_,Z⟩=>J.Fn q b Z) rfl rfl rfl (le_refl _) (by simp) (λc hc _=>hsame c hc) hr2 hfpG
  (λ_ h=>h) (λ_ h=>.inl h) (λb E=>⟨by have:=J.wr.Dlt b E;simp;omega,λh=>by
   rcases hfpG b h with⟨q,_,Z⟩|h2
   .exact J.wr.dD q b Z E
   .have:=J.wr.Dlt b E;omega⟩) d
 have hs':=Yb (h:=h) hdf (BY (Wh js) hdd) hfz hp hc;unfold Oper.wp;rw[hrun];show next (a.put o.dst _) _
 rw[hdst];exact hn _ _ hs'
end Go.Ve

