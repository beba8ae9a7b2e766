/- The typed machine: calls of functions that write their owned arguments. -/
import Derived.Test.YtbbhfpbalccohaaGreatTy
import Derived.Test.YtbbhfpbalccohaaGreatTud
namespace Go.Ve
def OU(s:St)(dep:Nat):Cl->Option (Cl×List (CE×Nat))
 | .c t _ x=>bif t.sc then some (.c t dep x,[])else none
 | .rf id p=>match Af s.r id p with
  | .arr false u d xs=>match dep with
   |d0+1=>bif dOK u d d0 then some (.c (.sl u) (d0+1) xs,[((id,p),d)])else none
   |0=>none
  |_=>none
 |_=>none
def OT(s:St)(dep:Nat):List Cl->Option (List Cl×List (CE×Nat))
 | []=>some ([],[])
 |y::l=>match OU s dep y with
  |some (c,a)=>match OT s dep l with
   |some (cs,b)=>some (c::cs,a++b)
   |none=>none
  |none=>none
def Xe(t:Ty)(dep:Nat):List Cl->Option (t.T×List Cl)
 | .c t' d x::l=>if h:t'=t then(bif Nat.beq d dep then some (h▸x,l)else none)else none
 |_=>none
def unC:(t:Ty)->Nat->List Cl->Option (t.T×List Cl)
 | .unit,_,l=>some ((),l)
 | .pair a b,d,l=>match unC a d l with
  |some (x,l)=>match unC b d l with
   |some (y,l)=>some ((x,y),l)
   |none=>none
  |none=>none
 | .int k,d,l=>Xe (.int k) d l
 | .bool,d,l=>Xe .bool d l
 | .str,d,l=>Xe .str d l
 | .sl t,d,l=>Xe (.sl t) d l
 | .ptr t,d,l=>Xe (.ptr t) d l
 | .clo g t,d,l=>Xe (.clo g t) d l
 | .osl t,d,l=>Xe (.osl t) d l
theorem DM{t:Ty}(ht:t.one=true){dep:Nat}{l l':List Cl}{x:t.T}(h:Xe t dep l=some (x,l')):l=Au t dep x++l':=by
 unfold Xe at h;split at h
 case h_2=>cases h
 rename_i t' d y m;split at h
 case isFalse=>cases h
 rename_i he;subst he;cases hb:Nat.beq d dep with
 |false=>rw [hb]at h;cases h
 |true=>
  rw [hb]at h;cases h;rw [bqE hb];cases t'<;>first|rfl|cases ht
theorem O0: ∀ (t:Ty) (dep:Nat) (l l':List Cl) (x:t.T),unC t dep l=some (x,l')->l=Au t dep x++l'
 | .unit,dep,l,l',x,h=>by cases h;rfl
 | .pair a b,dep,l,l',x,h=>by
  unfold unC at h;split at h
  case h_2=>cases h
  rename_i y m hy;split at h
  case h_2=>cases h
  rename_i z m' hz;cases h;rw [O0 a dep _ _ _ hy,O0 b dep _ _ _ hz];simp [Au]
 | .int _,dep,l,l',x,h=>DM rfl h
 | .bool,dep,l,l',x,h=>DM rfl h
 | .str,dep,l,l',x,h=>DM rfl h
 | .sl _,dep,l,l',x,h=>DM rfl h
 | .ptr _,dep,l,l',x,h=>DM rfl h
 | .clo _ _,dep,l,l',x,h=>DM rfl h
 | .osl _,dep,l,l',x,h=>DM rfl h
def Qa(s:St)(p:WP):Option Sl->Option (p.2.2.T×List (CE×Nat))
 |some (.agg l)=>bif p.1&&p.2.1 then(match OT s p.2.2.dep l with
  |some (cs,a)=>match unC p.2.2 p.2.2.dep cs with
   |some (x,[])=>some (x,a)
   |_=>none
  |none=>none)else none
 |some (.one y)=>bif p.2.1 then none else bif p.1 then(match OU s p.2.2.dep y with
   |some (c,a)=>match unC p.2.2 p.2.2.dep [c]with
    |some (x,[])=>some (x,a)
    |_=>none
   |none=>none)
  else(match y with
   | .c t' _ x=>if h:t'=p.2.2 then(bif t'.sc then some (h▸x,[])else none)else none
   |_=>none)
 |_=>none
def OV(s:St):(ps:List WP)->List (Option Sl)->Option ((PTW ps).T×List (CE×Nat))
 | [],[]=>some ((),[])
 | [p],[y]=>Qa s p y
 |p::q::l,y::ys=>match Qa s p y with
  |some (x,a)=>match OV s (q::l) ys with
   |some (z,b)=>some ((x,z),a++b)
   |none=>none
  |none=>none
 |_,_=>none
def K0:List CE->Bool
 | []=>true
 |a::l=>l.all (fun b=>!Nat.beq a.1 b.1||dvP a.2 b.2)&&K0 l
def V4:AP->Option (AP×Nat×Nat)
 | []=>none
 |(i,k)::q=>match V4 q with
  |none=>some ([],i,k)
  |some (p0,j,l)=>some ((i,k)::p0,j,l)
def Ae.setPath(r:Ae)(p:AP)(u:Ty)(d:Nat)(xs:List u.T):Option Ae:=match V4 p with
 |none=>match r with
  | .arr false _ _ _=>some (.arr false u d xs)
  |_=>none
 |some (p0,i,k)=>r.setAt p0 i k (.c (.sl u) (d+1) xs)
def CA:List (CE×Nat)->List (Σ t:Ty,t.T)->List Ae->Option (List Ae)
 | [],[],r=>some r
 |(a,d)::L,⟨.sl u,xs⟩::ys,r=>match(r.getD a.1 .dead).setPath a.2 u d xs with
  |some x=>CA L ys (r.set a.1 x)
  |none=>none
 |_,_,_=>none
def Cl.killP(h:Nat->AP->Bool):Cl->Cl
 | .rf id q=>bif h id q then .dead else .rf id q
 | .rs id q off len=>bif h id q then .dead else .rs id q off len
 | .rp id q i k=>bif h id q then .dead else .rp id q i k
 |y=>y
def Sl.killP(h:Nat->AP->Bool):Sl->Sl
 | .one y=>.one (y.killP h)
 | .new l=>.new l
 | .agg l=>.agg (l.map (Cl.killP h))
 | .tup l=>.tup (l.map fun p=>(p.1,p.2.map (Cl.killP h)))
 | .pk t l=>.pk t (l.map (Cl.killP h))
def X2(L:List CE)(N:Nat)(id:Nat)(q:AP):Bool:=!Nat.blt id N||L.any fun a=>Nat.beq a.1 id&&(match a.2 with
 | []=>(match q with
  | []=>false
  |_::_=>true)
 |b::p=>pre ((b::p).map (·.2)) q)
structure WU where
 α:Type
 o:Option α
 st:α->Option St
 y:α->Cl
def MD(Γ:List EnW)(s:St)(f:FuncId)(xs:List (Option Sl)):Option WU:=match VU Γ f with
 |some e=>match OV s e.S.ps xs with
  |some (z,LD)=>bif K0 (LD.map (·.1))then
    some ⟨e.S.rt.T×(wty (H7 e.S.ps)).T,e.g z,fun u=>match CA LD (wOf (H7 e.S.ps) u.2) s.r with
     |some r'=>some ⟨fun i=>(s.t i).killP (X2 (LD.map (·.1)) s.r.length),r'⟩
     |none=>none,fun u=>.c e.S.rt 0 u.1⟩else none
  |none=>none
 |none=>none
theorem NH: ∀ {L:List CE},K0 L=true->L.Pairwise HF
 | [],_=>List.Pairwise.nil
 |a::l,h=>by
  simp only [K0,bAE]at h;refine List.pairwise_cons.2 ⟨fun b hb=>?_,NH h.2⟩
  have:=aET.1 h.1 b hb;simp only [Bool.or_eq_true,Bool.not_eq_true']at this;exact this.imp (fun h e=>by rw [e,Nat.beq_refl]at h;cases h) id
theorem Hu: ∀ {p:AP},(V4 p=none->p= [])/\∀p0 i k,V4 p=some (p0,i,k)->p=p0++ [(i,k)]
 | []=>⟨fun _=>rfl,fun _ _ _ h=>by cases h⟩
 |(i,k)::q=>by
  obtain⟨h1,h2⟩:=Hu (p:=q);unfold V4;split
  ·rename_i hq
   exact⟨fun h=>by (cases h),fun p0 j l h=>by cases h;rw [h1 hq];rfl⟩
  ·rename_i p0 j l hq
   refine⟨fun h=>by (cases h),fun p1 j' l' h=>?_⟩
   cases h;rw [h2 _ _ _ hq];rfl
theorem U5{r r':Ae}{p:AP}{u:Ty}{d:Nat}{xs:List u.T}(h:r.setPath p u d xs=some r'):Sub (upd p r.v (cV (.sl u) (d+1) xs)) r'.v:=by
 unfold Ae.setPath at h;split at h
 ·rename_i hp
  rw [Hu.1 hp];split at h
  ·cases h;exact Sub.refl _
  ·cases h
 ·rename_i p0 i k hp
  rw [Hu.2 _ _ _ hp];exact Lo p0 r r' h
theorem N1{r r':Ae}{p:AP}{u:Ty}{d:Nat}{xs:List u.T}(h:r.setPath p u d xs=some r'){q:AP}(hq:p≠[]->pre (p.map (·.2)) q=false)(hr:p= []->q= []/\xs.length=r.len):(r'.at' q).len=(r.at' q).len:=by
 unfold Ae.setPath at h;split at h
 ·rename_i hp
  have hp:=Hu.1 hp;split at h
  ·cases h
   obtain⟨rfl,h2⟩:=hr hp;exact h2
  ·cases h
 ·rename_i p0 i k hp
  have hp:=Hu.2 _ _ _ hp;exact PN p0 r r' h q (by rw [<-hp];exact hq (by rw [hp];simp))
theorem J7{r r':Ae}{p:AP}{u:Ty}{d:Nat}{xs:List u.T}(h:r.setPath p u d xs=some r'):r≠.dead:=by
 unfold Ae.setPath at h;split at h
 ·split at h
  ·intro h;cases h
  ·cases h
 ·exact Lq h
theorem Ih: ∀ (rs:List Ae) (ys:List (Σ t:Ty,t.T)),rs.length=ys.length->(B0 rs ys).length=rs.length
 | [],[],_=>rfl
 |r::rs,y::ys,h=>by simp [B0,Ih rs ys (by simpa using h)]
 | [],_::_,h=>by simp at h
 |_::_,[],h=>by simp at h
theorem Do: ∀ (rs:List Ae) (ys:List (Σ t:Ty,t.T)) (k:Nat),rs.length=ys.length->k<rs.length->(B0 rs ys).getD k .dead=HX (rs.getD k .dead) (ys.getD k ⟨.unit,()⟩)
 |r::rs,y::ys,0,_,_=>rfl
 |r::rs,y::ys,k+1,h,hk=>by simpa [B0]using Do rs ys k (by simpa using h) (by simpa using hk)
 | [],_,_,_,hk=>by simp at hk
 |_::_,[],_,h,_=>by simp at h
theorem Kq{r:Ae}{y:Σ t:Ty,t.T}(h:HX r y≠.dead): ∃ (ro:Bool) (u:Ty) (d:Nat) (xs ys:List u.T),r= .arr ro u d xs/\y=⟨.sl u,ys⟩/\HX r y= .arr ro u d ys:=by
 unfold HX at h;split at h
 ·rename_i ro u d xs u' ys
  split at h
  ·rename_i he
   subst he;exact⟨ro,u',d,xs,ys,rfl,rfl,by simp [HX]⟩
  ·exact absurd rfl h
 ·exact absurd rfl h
structure WOK(s:St)(σ:List V)(ρ:Nat->Value)(w:World)(LD:List (CE×Nat))(R:List Ae):Prop where
 len:R.length=LD.length
 nd: ∀k,k<LD.length->∃u d0 xs,R.getD k .dead= .arr false u d0 xs/\Af s.r (LD.getD k ((0,[]),0)).1.1 (LD.getD k ((0,[]),0)).1.2= .arr false u (LD.getD k ((0,[]),0)).2 xs/\dOK u (LD.getD k ((0,[]),0)).2 d0=true
 at': ∀a∈LD,a.1.1<σ.length/\∃sz n f c,At w a.1.2 (σ.getD a.1.1 .dead) (ρ a.1.1) (.nd true true sz n f) c
theorem WOK.app{s:St}{σ:List V}{ρ:Nat->Value}{w:World}{A B:List (CE×Nat)}{R S:List Ae}(h:WOK s σ ρ w A R)(h':WOK s σ ρ w B S):WOK s σ ρ w (A++B) (R++S):=by
 refine⟨by simp [h.len,h'.len],fun k hk=>?_,fun a ha=>?_⟩
 ·by_cases hkA:k<A.length
  ·have e1:(A++B).getD k ((0,[]),0)=A.getD k ((0,[]),0):=by simp [gAL hkA]
   have e2:(R++S).getD k .dead=R.getD k .dead:=by
    have:k<R.length:=by rw [h.len];exact hkA
    simp [gAL this]
   rw [e1,e2];exact h.nd k hkA
  ·have e1:(A++B).getD k ((0,[]),0)=B.getD (k-A.length) ((0,[]),0):=by
    simp only [gDE];rw [gAR (by omega)]
   have e2:(R++S).getD k .dead=S.getD (k-A.length) .dead:=by
    simp only [gDE];rw [gAR (by rw [h.len];omega),h.len]
   rw [e1,e2];exact h'.nd _ (by simp at hk;omega)
 ·rcases List.mem_append.1 ha with ha|ha
  ·exact h.at' a ha
  ·exact h'.at' a ha
def W9(s:St)(σ:List V)(ρ:Nat->Value)(w:World)(LD:List (CE×Nat))(m:Nat)(σ0:List V)(ρ0:Nat->Value):Prop:=
 ∀k,k<LD.length->m+k<σ0.length/\σ0.getD (m+k) .dead=sub (LD.getD k ((0,[]),0)).1.2 (σ.getD (LD.getD k ((0,[]),0)).1.1 .dead)/\
  At w (LD.getD k ((0,[]),0)).1.2 (σ.getD (LD.getD k ((0,[]),0)).1.1 .dead) (ρ (LD.getD k ((0,[]),0)).1.1) (sub (LD.getD k ((0,[]),0)).1.2 (σ.getD (LD.getD k ((0,[]),0)).1.1 .dead)) (ρ0 (m+k))
theorem W9.left{s:St}{σ:List V}{ρ:Nat->Value}{w:World}{A B:List (CE×Nat)}{m:Nat}{σ0:List V}{ρ0:Nat->Value}(h:W9 s σ ρ w (A++B) m σ0 ρ0):W9 s σ ρ w A m σ0 ρ0:=by
 intro k hk;have:=h k (by simp;omega)
 have e1:(A++B).getD k ((0,[]),0)=A.getD k ((0,[]),0):=by simp [gAL hk]
 rw [e1]at this;exact this
theorem W9.right{s:St}{σ:List V}{ρ:Nat->Value}{w:World}{A B:List (CE×Nat)}{m:Nat}{σ0:List V}{ρ0:Nat->Value}(h:W9 s σ ρ w (A++B) m σ0 ρ0):W9 s σ ρ w B (m+A.length) σ0 ρ0:=by
 intro k hk;have:=h (A.length+k) (by simp;omega)
 have e1:(A++B).getD (A.length+k) ((0,[]),0)=B.getD k ((0,[]),0):=by
  simp only [gDE];rw [gAR (by omega),Nat.add_sub_cancel_left]
 rw [e1,<-Nat.add_assoc]at this;exact this
theorem AaP{t:Ty}(h:t.sc=true)(d:Nat)(x:t.T):cV t d x= .c (scV t x):=by cases t<;>first|rfl|cases h
section
variable {s:St} {ρ:Nat->Value} {w:World} {D:Nat->Prop} {F:Nat->Nat->Prop}
theorem Mn(wr:Bk (s.r.map Ae.v) w D ρ F){dep:Nat}{y c:Cl}{a:List (CE×Nat)}(h:OU s dep y=some (c,a)){cv:Value}(hr:Rel D w (An (s.r.map Ae.v) ρ w) (y.v s.r) cv noF):
  ∀m l,∃c' R,(Ba m (c::l)).1=c'::(Ba (m+R.length) l).1/\(Ba m (c::l)).2=R++(Ba (m+R.length) l).2/\WOK s (s.r.map Ae.v) ρ w a R/\
   ∀ (R0:List Ae) σ0 ρ0,Has R0 m R->W9 s (s.r.map Ae.v) ρ w a m σ0 ρ0->Rel D w (An σ0 ρ0 w) (c'.v R0) cv noF:=by
 intro m l;unfold OU at h;split at h
 ·rename_i t d x
  cases hs:t.sc with
  |false=>rw [hs]at h;cases h
  |true=>
   rw [hs]at h;cases h
   have e:Ba m (.c t dep x::l)=(.c t dep x::(Ba m l).1,(Ba m l).2):=by
    cases t<;>first|rfl|cases hs
   refine⟨.c t dep x,[],by rw [e];rfl,by rw [e];rfl,⟨rfl,fun k hk=>by simp at hk,fun a ha=>by cases ha⟩,fun R0 σ0 ρ0 _ _=>?_⟩
   have hr:Rel D w (An (s.r.map Ae.v) ρ w) (cV t d x) cv noF:=hr;show Rel D w (An σ0 ρ0 w) (cV t dep x) cv noF;rw [AaP hs]at hr⊢;exact hr
 ·rename_i id p
  split at h
  case h_2=>cases h
  rename_i u d xs hn;split at h
  case h_2=>cases h
  rename_i d0;cases hd:dOK u d d0 with
  |false=>rw [hd]at h;cases h
  |true=>
   rw [hd]at h;cases h;have hr:Rel D w (An (s.r.map Ae.v) ρ w) (.rs id p 0 (Af s.r id p).len) cv noF:=hr;rw [hn]at hr;have hr:Rel D w (An (s.r.map Ae.v) ρ w) (.rs id p 0 xs.length) cv noF:=hr;obtain⟨⟨hid,sz,n,f,cn,hat,hle,hcv⟩,_⟩:=hr;have hne:Af s.r id p≠.dead:=by rw [hn];intro h;cases h
   have hnode:sub p ((s.r.map Ae.v).getD id .dead)=arr true u.w (tyV u d) u.dflt xs:=(AL hne).trans (by rw [hn];rfl)
   refine⟨.rf m [],[.arr false u d0 xs],rfl,rfl,⟨rfl,fun k hk=>?_,fun a ha=>?_⟩,fun R0 σ0 ρ0 hR hW=>?_⟩
   ·obtain rfl:k=0:=by simp at hk;exact hk
    exact⟨u,d0,xs,rfl,hn,hd⟩
   ·simp at ha;subst ha
    exact⟨hid,sz,n,f,cn,hat⟩
   ·obtain⟨h1,h2,h3⟩:=hW 0 (by simp)
    simp only [Nat.add_zero,List.getD_cons_zero]at h1 h2 h3;have hR0:R0.getD m .dead= .arr false u d0 xs:=hR 0 (by simp)
    show Rel D w (An σ0 ρ0 w) (.rs m [] 0 (Af R0 m []).len) cv noF
    have hl:(Af R0 m []).len=xs.length:=by
     show(R0.getD m .dead).len=_;rw [hR0];rfl
    rw [hl];have hcn:=At.det h3 hat;refine⟨⟨h1,sz,n,f,cn,⟨?_,hcn.symm⟩,hle,hcv⟩,fun _ h=>h⟩
    rw [h2];exact At.sub hat
 ·cases h
theorem Mm(wr:Bk (s.r.map Ae.v) w D ρ F){dep:Nat}: ∀ (l:List Cl) (cs:List Cl) (a:List (CE×Nat)) (cvs:List Value),OT s dep l=some (cs,a)->cvs.length=l.length->(∀i,i<l.length->Rel D w (An (s.r.map Ae.v) ρ w) ((l.getD i .dead).v s.r) (cvs.getD i undef) noF)->
  ∀m,(Ba m cs).1.length=l.length/\WOK s (s.r.map Ae.v) ρ w a (Ba m cs).2/\
   ∀ (R0:List Ae) σ0 ρ0,Has R0 m (Ba m cs).2->W9 s (s.r.map Ae.v) ρ w a m σ0 ρ0->∀i,i<l.length->Rel D w (An σ0 ρ0 w) (((Ba m cs).1.getD i .dead).v R0) (cvs.getD i undef) noF
 | [],cs,a,cvs,h,_,_,m=>by
  cases h;exact⟨rfl,⟨rfl,fun k hk=>by simp [Ba]at hk,fun a ha=>by cases ha⟩,fun _ _ _ _ _ i hi=>by simp at hi⟩
 |y::l,cs,a,cvs,h,hl,hr,m=>by
  cases cvs with
  |nil=>simp at hl
  |cons cv cvs=>
  unfold OT at h;split at h
  case h_2=>cases h
  rename_i c a1 h1;split at h
  case h_2=>cases h
  rename_i cs' a2 h2;cases h;obtain⟨c',R,g1,g2,g3,g4⟩:=Mn wr h1 (hr 0 (by simp)) m cs'
  obtain⟨k1,k2,k3⟩:=Mm wr l cs' a2 cvs h2 (by simpa using hl) (fun i hi=>by simpa using hr (i+1) (by simpa using hi)) (m+R.length)
  rw [g1,g2];refine⟨by simp [k1],g3.app k2,fun R0 σ0 ρ0 hR hW i hi=>?_⟩
  cases i with
  |zero=>exact g4 R0 σ0 ρ0 hR.left hW.left
  |succ i=>
   have hW2:=hW.right;rw [<-g3.len]at hW2;simpa using k3 R0 σ0 ρ0 hR.right hW2 i (by simpa using hi)
theorem OW(wr:Bk (s.r.map Ae.v) w D ρ F){p:WP}{y:Sl}{x:p.2.2.T}{a:List (CE×Nat)}(h:Qa s p (some y)=some (x,a)){cv:Value}(hr:Rel D w (An (s.r.map Ae.v) ρ w) (y.v s.r) cv noF)(m:Nat):
  WOK s (s.r.map Ae.v) ρ w a (Qb p x m).2/\∀ (R0:List Ae) σ0 ρ0,Has R0 m (Qb p x m).2->W9 s (s.r.map Ae.v) ρ w a m σ0 ρ0->Rel D w (An σ0 ρ0 w) ((Qb p x m).1.v R0) cv noF:=by
 obtain⟨own,ag,t⟩:=p;unfold Qa at h;split at h
 ·rename_i l hy
  cases hy;cases hb:(own&&ag)with
  |false=>rw [show((own,ag,t):WP).1=own from rfl,show((own,ag,t):WP).2.1=ag from rfl,hb]at h;cases h
  |true=>
   simp only [bAE]at hb;obtain⟨rfl,rfl⟩:=hb;simp only [Bool.and_self,cond_true]at h;split at h
   case h_2=>cases h
   rename_i cs a' hc;split at h
   case h_2=>cases h
   rename_i x' hx;cases h;have he:=O0 _ _ _ _ _ hx;rw [List.append_nil]at he;have hr:Rel D w (An (s.r.map Ae.v) ρ w) (Ai (l.map (Cl.v s.r))) cv noF:=hr;obtain⟨cvs,Fx,hpk,hsz,hcell,_,hfx⟩:=hr;have hpk:cv= .agg cvs:=hpk;simp only [List.length_map]at hsz hcell hfx
   have hcell': ∀i,i<l.length->Rel D w (An (s.r.map Ae.v) ρ w) ((l.getD i .dead).v s.r) (cvs.toList.getD i undef) noF:=by
    intro i hi;have h1:=hcell i hi;have e:Fx i=noF:=A0 fun b hb=>(hfx b).2 ⟨i,hi,hb⟩
    rw [e]at h1;have e2:(l.map (Cl.v s.r)).getD i .dead=(l.getD i .dead).v s.r:=Aw (f:=Cl.v s.r) (a:=.dead) rfl _ _;have h1:Rel D w (An (s.r.map Ae.v) ρ w) ((l.map (Cl.v s.r)).getD i .dead) (cvs.getD i undef) noF:=h1;rw [e2]at h1;simpa using h1
   obtain⟨g1,g2,g3⟩:=Mm wr l cs a cvs.toList hc (by simpa using hsz) hcell' m
   rw [he]at g1 g2 g3;refine⟨g2,fun R0 σ0 ρ0 hR hW=>?_⟩
   show Rel D w (An σ0 ρ0 w) (Ai ((Ba m (Au t t.dep x)).1.map (Cl.v R0))) cv noF;have hlen:((Ba m (Au t t.dep x)).1.map (Cl.v R0)).length=l.length:=by rw [List.length_map,g1]
   refine⟨cvs,fun _=>noF,hpk,by rw [hlen];exact hsz,fun k hk=>?_,fun _ _ _ _ _ _ h=>h.elim,fun b=>⟨fun h=>h.elim,fun⟨_,_,h⟩=>h⟩⟩
   rw [hlen]at hk;have:=g3 R0 σ0 ρ0 hR hW k hk;show Rel D w (An σ0 ρ0 w) (((Ba m (Au t t.dep x)).1.map (Cl.v R0)).getD k .dead) _ noF;rw [Aw (f:=Cl.v R0) (a:=.dead) rfl];simpa using this
 ·rename_i y' hy
  cases hy;cases ag with
  |true=>cases h
  |false=>
   simp only [cond_false]at h;cases own with
   |true=>
    simp only [cond_true]at h;split at h
    case h_2=>cases h
    rename_i c a' hc;split at h
    case h_2=>cases h
    rename_i x' hx;cases h;have he:=O0 _ _ _ _ _ hx;rw [List.append_nil]at he;obtain⟨c',R,g1,g2,g3,g4⟩:=Mn wr hc hr m []
    have e1:(Ba m (Au t t.dep x))=([c'],R):=by
     rw [<-he];exact Prod.ext (by rw [g1];rfl) (by rw [g2];simp [Ba])
    have e2:Qb (true,false,t) x m=(.one c',R):=by
     show(Sl.one ((Ba m (Au t t.dep x)).1.getD 0 .dead),(Ba m (Au t t.dep x)).2)=_;rw [e1];rfl
    rw [e2];exact⟨g3,fun R0 σ0 ρ0 hR hW=>g4 R0 σ0 ρ0 hR hW⟩
   |false=>
    simp only [cond_false]at h;split at h
    case h_2=>cases h
    rename_i t' d z;split at h
    case isFalse=>cases h
    rename_i ht;have ht:t'=t:=ht;subst ht;cases hs:t'.sc with
    |false=>rw [hs]at h;cases h
    |true=>
     rw [hs]at h;cases h;refine⟨⟨rfl,fun k hk=>by simp at hk,fun a ha=>by cases ha⟩,fun R0 σ0 ρ0 _ _=>?_⟩
     have hr:Rel D w (An (s.r.map Ae.v) ρ w) (cV t' d z) cv noF:=hr;show Rel D w (An σ0 ρ0 w) (cV t' 0 z) cv noF;rw [AaP hs]at hr⊢;exact hr
 ·cases h
end
end Go.Ve

