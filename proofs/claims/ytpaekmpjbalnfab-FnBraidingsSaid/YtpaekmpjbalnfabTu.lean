/- The typed machine: calls of functions that write their owned arguments. -/
import Derived.Test.YtpaekmpjbalnfabTy
import Derived.Test.YtpaekmpjbalnfabTd
namespace Go.Ve
def Pm(s:St)(dep:Nat):Cl->Option (Cl×List (C4×Nat))
 | .c t _ x=>bif t.sc then some (.c t dep x,[])else none
 | .rf id p=>match Ag s.r id p with
  | .arr false u d xs=>match dep with
   |d0+1=>bif dOK u d d0 then some (.c (.sl u) (d0+1) xs,[((id,p),d)])else none
   |0=>none
  |_=>none
 |_=>none
def Pl(s:St)(dep:Nat):List Cl->Option (List Cl×List (C4×Nat))
 | []=>some ([],[])
 |y::l=>match Pm s dep y with
  |some (c,a)=>match Pl s dep l with
   |some (cs,b)=>some (c::cs,a++b)
   |none=>none
  |none=>none
def Xw(t:Ty)(dep:Nat):List Cl->Option (t.T×List Cl)
 | .c t' d x::l=>if h:t'=t then(bif Nat.beq d dep then some (h▸x,l)else none)else none
 |_=>none
def unC:(t:Ty)->Nat->List Cl->Option (t.T×List Cl)
 | .unit,_,l=>some ((),l)
 | .pair a b,d,l=>match unC a d l with
  |some (x,l)=>match unC b d l with
   |some (y,l)=>some ((x,y),l)
   |none=>none
  |none=>none
 | .int k,d,l=>Xw (.int k) d l
 | .bool,d,l=>Xw .bool d l
 | .str,d,l=>Xw .str d l
 | .sl t,d,l=>Xw (.sl t) d l
 | .ptr t,d,l=>Xw (.ptr t) d l
 | .clo g t,d,l=>Xw (.clo g t) d l
 | .osl t,d,l=>Xw (.osl t) d l
theorem Hc{t:Ty}(ht:t.one=true){dep:Nat}{l l':List Cl}{x:t.T}(h:Xw t dep l=some (x,l')):l=Ax t dep x++l':=by
 unfold Xw at h;split at h
 case h_2=>cases h
 rename_i t' d y m;split at h
 case isFalse=>cases h
 rename_i he;subst he;cases hb:Nat.beq d dep with
 |false=>rw [hb]at h;cases h
 |true=>
  rw [hb]at h;cases h;rw [bqE hb];cases t'<;>first|rfl|cases ht
theorem Ps: ∀ (t:Ty) (dep:Nat) (l l':List Cl) (x:t.T),unC t dep l=some (x,l')->l=Ax t dep x++l'
 | .unit,dep,l,l',x,h=>by cases h;rfl
 | .pair a b,dep,l,l',x,h=>by
  unfold unC at h;split at h
  case h_2=>cases h
  rename_i y m hy;split at h
  case h_2=>cases h
  rename_i z m' hz;cases h;rw [Ps a dep _ _ _ hy,Ps b dep _ _ _ hz];simp [Ax]
 | .int _,dep,l,l',x,h=>Hc rfl h
 | .bool,dep,l,l',x,h=>Hc rfl h
 | .str,dep,l,l',x,h=>Hc rfl h
 | .sl _,dep,l,l',x,h=>Hc rfl h
 | .ptr _,dep,l,l',x,h=>Hc rfl h
 | .clo _ _,dep,l,l',x,h=>Hc rfl h
 | .osl _,dep,l,l',x,h=>Hc rfl h
def Qz(s:St)(p:WP):Option Sl->Option (p.2.2.T×List (C4×Nat))
 |some (.agg l)=>bif p.1&&p.2.1 then(match Pl s p.2.2.dep l with
  |some (cs,a)=>match unC p.2.2 p.2.2.dep cs with
   |some (x,[])=>some (x,a)
   |_=>none
  |none=>none)else none
 |some (.one y)=>bif p.2.1 then none else bif p.1 then(match Pm s p.2.2.dep y with
   |some (c,a)=>match unC p.2.2 p.2.2.dep [c]with
    |some (x,[])=>some (x,a)
    |_=>none
   |none=>none)
  else(match y with
   | .c t' _ x=>if h:t'=p.2.2 then(bif t'.sc then some (h▸x,[])else none)else none
   |_=>none)
 |_=>none
def Pn(s:St):(ps:List WP)->List (Option Sl)->Option ((PTW ps).T×List (C4×Nat))
 | [],[]=>some ((),[])
 | [p],[y]=>Qz s p y
 |p::q::l,y::ys=>match Qz s p y with
  |some (x,a)=>match Pn s (q::l) ys with
   |some (z,b)=>some ((x,z),a++b)
   |none=>none
  |none=>none
 |_,_=>none
def Li:List C4->Bool
 | []=>true
 |a::l=>l.all (fun b=>!Nat.beq a.1 b.1||dvP a.2 b.2)&&Li l
def Wk:A1->Option (A1×Nat×Nat)
 | []=>none
 |(i,k)::q=>match Wk q with
  |none=>some ([],i,k)
  |some (p0,j,l)=>some ((i,k)::p0,j,l)
def Ae.setPath(r:Ae)(p:A1)(u:Ty)(d:Nat)(xs:List u.T):Option Ae:=match Wk p with
 |none=>match r with
  | .arr false _ _ _=>some (.arr false u d xs)
  |_=>none
 |some (p0,i,k)=>r.setAt p0 i k (.c (.sl u) (d+1) xs)
def C1:List (C4×Nat)->List (Σ t:Ty,t.T)->List Ae->Option (List Ae)
 | [],[],r=>some r
 |(a,d)::L,⟨.sl u,xs⟩::ys,r=>match(r.getD a.1 .dead).setPath a.2 u d xs with
  |some x=>C1 L ys (r.set a.1 x)
  |none=>none
 |_,_,_=>none
def Cl.killP(h:Nat->A1->Bool):Cl->Cl
 | .rf id q=>bif h id q then .dead else .rf id q
 | .rs id q off len=>bif h id q then .dead else .rs id q off len
 | .rp id q i k=>bif h id q then .dead else .rp id q i k
 |y=>y
def Sl.killP(h:Nat->A1->Bool):Sl->Sl
 | .one y=>.one (y.killP h)
 | .new l=>.new l
 | .agg l=>.agg (l.map (Cl.killP h))
 | .tup l=>.tup (l.map fun p=>(p.1,p.2.map (Cl.killP h)))
 | .pk t l=>.pk t (l.map (Cl.killP h))
def Yj(L:List C4)(N:Nat)(id:Nat)(q:A1):Bool:=!Nat.blt id N||L.any fun a=>Nat.beq a.1 id&&(match a.2 with
 | []=>(match q with
  | []=>false
  |_::_=>true)
 |b::p=>pre ((b::p).map (·.2)) q)
structure Xf where
 α:Type
 o:Option α
 st:α->Option St
 y:α->Cl
def MV(Γ:List EnW)(s:St)(f:FuncId)(xs:List (Option Sl)):Option Xf:=match Wc Γ f with
 |some e=>match Pn s e.S.ps xs with
  |some (z,LD)=>bif Li (LD.map (·.1))then
    some ⟨e.S.rt.T×(wty (IF e.S.ps)).T,e.g z,fun u=>match C1 LD (wOf (IF e.S.ps) u.2) s.r with
     |some r'=>some ⟨fun i=>(s.t i).killP (Yj (LD.map (·.1)) s.r.length),r'⟩
     |none=>none,fun u=>.c e.S.rt 0 u.1⟩else none
  |none=>none
 |none=>none
theorem Ob: ∀ {L:List C4},Li L=true->L.Pairwise H5
 | [],_=>List.Pairwise.nil
 |a::l,h=>by
  simp only [Li,bAE]at h;refine List.pairwise_cons.2 ⟨fun b hb=>?_,Ob h.2⟩
  have:=aET.1 h.1 b hb;simp only [Bool.or_eq_true,Bool.not_eq_true']at this;exact this.imp (fun h e=>by rw [e,Nat.beq_refl]at h;cases h) id
theorem HR: ∀ {p:A1},(Wk p=none->p= [])/\∀p0 i k,Wk p=some (p0,i,k)->p=p0++ [(i,k)]
 | []=>⟨fun _=>rfl,fun _ _ _ h=>by cases h⟩
 |(i,k)::q=>by
  obtain⟨h1,h2⟩:=HR (p:=q);unfold Wk;split
  ·rename_i hq
   exact⟨fun h=>by (cases h),fun p0 j l h=>by cases h;rw [h1 hq];rfl⟩
  ·rename_i p0 j l hq
   refine⟨fun h=>by (cases h),fun p1 j' l' h=>?_⟩
   cases h;rw [h2 _ _ _ hq];rfl
theorem Vz{r r':Ae}{p:A1}{u:Ty}{d:Nat}{xs:List u.T}(h:r.setPath p u d xs=some r'):Sub (upd p r.v (cV (.sl u) (d+1) xs)) r'.v:=by
 unfold Ae.setPath at h;split at h
 ·rename_i hp
  rw [HR.1 hp];split at h
  ·cases h;exact Sub.refl _
  ·cases h
 ·rename_i p0 i k hp
  rw [HR.2 _ _ _ hp];exact LE p0 r r' h
theorem OA{r r':Ae}{p:A1}{u:Ty}{d:Nat}{xs:List u.T}(h:r.setPath p u d xs=some r'){q:A1}(hq:p≠[]->pre (p.map (·.2)) q=false)(hr:p= []->q= []/\xs.length=r.len):(r'.at' q).len=(r.at' q).len:=by
 unfold Ae.setPath at h;split at h
 ·rename_i hp
  have hp:=HR.1 hp;split at h
  ·cases h
   obtain⟨rfl,h2⟩:=hr hp;exact h2
  ·cases h
 ·rename_i p0 i k hp
  have hp:=HR.2 _ _ _ hp;exact NL p0 r r' h q (by rw [<-hp];exact hq (by rw [hp];simp))
theorem Ks{r r':Ae}{p:A1}{u:Ty}{d:Nat}{xs:List u.T}(h:r.setPath p u d xs=some r'):r≠.dead:=by
 unfold Ae.setPath at h;split at h
 ·split at h
  ·intro h;cases h
  ·cases h
 ·exact LF h
theorem IN: ∀ (rs:List Ae) (ys:List (Σ t:Ty,t.T)),rs.length=ys.length->(Ci rs ys).length=rs.length
 | [],[],_=>rfl
 |r::rs,y::ys,h=>by simp [Ci,IN rs ys (by simpa using h)]
 | [],_::_,h=>by simp at h
 |_::_,[],h=>by simp at h
theorem DM: ∀ (rs:List Ae) (ys:List (Σ t:Ty,t.T)) (k:Nat),rs.length=ys.length->k<rs.length->(Ci rs ys).getD k .dead=Iv (rs.getD k .dead) (ys.getD k ⟨.unit,()⟩)
 |r::rs,y::ys,0,_,_=>rfl
 |r::rs,y::ys,k+1,h,hk=>by simpa [Ci]using DM rs ys k (by simpa using h) (by simpa using hk)
 | [],_,_,_,hk=>by simp at hk
 |_::_,[],_,h,_=>by simp at h
theorem KM{r:Ae}{y:Σ t:Ty,t.T}(h:Iv r y≠.dead): ∃ (ro:Bool) (u:Ty) (d:Nat) (xs ys:List u.T),r= .arr ro u d xs/\y=⟨.sl u,ys⟩/\Iv r y= .arr ro u d ys:=by
 unfold Iv at h;split at h
 ·rename_i ro u d xs u' ys
  split at h
  ·rename_i he
   subst he;exact⟨ro,u',d,xs,ys,rfl,rfl,by simp [Iv]⟩
  ·exact absurd rfl h
 ·exact absurd rfl h
structure WOK(s:St)(σ:List V)(ρ:Nat->Value)(w:World)(LD:List (C4×Nat))(R:List Ae):Prop where
 len:R.length=LD.length
 nd: ∀k,k<LD.length->∃u d0 xs,R.getD k .dead= .arr false u d0 xs/\Ag s.r (LD.getD k ((0,[]),0)).1.1 (LD.getD k ((0,[]),0)).1.2= .arr false u (LD.getD k ((0,[]),0)).2 xs/\dOK u (LD.getD k ((0,[]),0)).2 d0=true
 at': ∀a∈LD,a.1.1<σ.length/\∃sz n f c,At w a.1.2 (σ.getD a.1.1 .dead) (ρ a.1.1) (.nd true true sz n f) c
theorem WOK.app{s:St}{σ:List V}{ρ:Nat->Value}{w:World}{A B:List (C4×Nat)}{R S:List Ae}(h:WOK s σ ρ w A R)(h':WOK s σ ρ w B S):WOK s σ ρ w (A++B) (R++S):=by
 refine⟨by simp [h.len,h'.len],fun k hk=>?_,fun a ha=>?_⟩
 ·by_cases hkA:k<A.length
  ·have e1:(A++B).getD k ((0,[]),0)=A.getD k ((0,[]),0):=by simp [gAL hkA]
   have e2:(R++S).getD k .dead=R.getD k .dead:=by
    have:k<R.length:=by rw [h.len];exact hkA
    simp [gAL this]
   rw [e1,e2];exact h.nd k hkA
  ·have e1:(A++B).getD k ((0,[]),0)=B.getD (k-A.length) ((0,[]),0):=by
    simp only [gDE];rw [gAR (by omega)]
   have e2:(R++S).getD k .dead=S.getD (k-A.length) .dead:=by
    simp only [gDE];rw [gAR (by rw [h.len];omega),h.len]
   rw [e1,e2];exact h'.nd _ (by simp at hk;omega)
 ·rcases List.mem_append.1 ha with ha|ha
  ·exact h.at' a ha
  ·exact h'.at' a ha
def Xr(s:St)(σ:List V)(ρ:Nat->Value)(w:World)(LD:List (C4×Nat))(m:Nat)(σ0:List V)(ρ0:Nat->Value):Prop:=
 ∀k,k<LD.length->m+k<σ0.length/\σ0.getD (m+k) .dead=sub (LD.getD k ((0,[]),0)).1.2 (σ.getD (LD.getD k ((0,[]),0)).1.1 .dead)/\
  At w (LD.getD k ((0,[]),0)).1.2 (σ.getD (LD.getD k ((0,[]),0)).1.1 .dead) (ρ (LD.getD k ((0,[]),0)).1.1) (sub (LD.getD k ((0,[]),0)).1.2 (σ.getD (LD.getD k ((0,[]),0)).1.1 .dead)) (ρ0 (m+k))
theorem Xr.left{s:St}{σ:List V}{ρ:Nat->Value}{w:World}{A B:List (C4×Nat)}{m:Nat}{σ0:List V}{ρ0:Nat->Value}(h:Xr s σ ρ w (A++B) m σ0 ρ0):Xr s σ ρ w A m σ0 ρ0:=by
 intro k hk;have:=h k (by simp;omega)
 have e1:(A++B).getD k ((0,[]),0)=A.getD k ((0,[]),0):=by simp [gAL hk]
 rw [e1]at this;exact this
theorem Xr.right{s:St}{σ:List V}{ρ:Nat->Value}{w:World}{A B:List (C4×Nat)}{m:Nat}{σ0:List V}{ρ0:Nat->Value}(h:Xr s σ ρ w (A++B) m σ0 ρ0):Xr s σ ρ w B (m+A.length) σ0 ρ0:=by
 intro k hk;have:=h (A.length+k) (by simp;omega)
 have e1:(A++B).getD (A.length+k) ((0,[]),0)=B.getD k ((0,[]),0):=by
  simp only [gDE];rw [gAR (by omega),Nat.add_sub_cancel_left]
 rw [e1,<-Nat.add_assoc]at this;exact this
theorem Aaz{t:Ty}(h:t.sc=true)(d:Nat)(x:t.T):cV t d x= .c (scV t x):=by cases t<;>first|rfl|cases h
section
variable {s:St} {ρ:Nat->Value} {w:World} {D:Nat->Prop} {F:Nat->Nat->Prop}
theorem MD(wr:Bt (s.r.map Ae.v) w D ρ F){dep:Nat}{y c:Cl}{a:List (C4×Nat)}(h:Pm s dep y=some (c,a)){cv:Value}(hr:Rel D w (An (s.r.map Ae.v) ρ w) (y.v s.r) cv noF):
  ∀m l,∃c' R,(Bm m (c::l)).1=c'::(Bm (m+R.length) l).1/\(Bm m (c::l)).2=R++(Bm (m+R.length) l).2/\WOK s (s.r.map Ae.v) ρ w a R/\
   ∀ (R0:List Ae) σ0 ρ0,Has R0 m R->Xr s (s.r.map Ae.v) ρ w a m σ0 ρ0->Rel D w (An σ0 ρ0 w) (c'.v R0) cv noF:=by
 intro m l;unfold Pm at h;split at h
 ·rename_i t d x
  cases hs:t.sc with
  |false=>rw [hs]at h;cases h
  |true=>
   rw [hs]at h;cases h
   have e:Bm m (.c t dep x::l)=(.c t dep x::(Bm m l).1,(Bm m l).2):=by
    cases t<;>first|rfl|cases hs
   refine⟨.c t dep x,[],by rw [e];rfl,by rw [e];rfl,⟨rfl,fun k hk=>by simp at hk,fun a ha=>by cases ha⟩,fun R0 σ0 ρ0 _ _=>?_⟩
   have hr:Rel D w (An (s.r.map Ae.v) ρ w) (cV t d x) cv noF:=hr;show Rel D w (An σ0 ρ0 w) (cV t dep x) cv noF;rw [Aaz hs]at hr⊢;exact hr
 ·rename_i id p
  split at h
  case h_2=>cases h
  rename_i u d xs hn;split at h
  case h_2=>cases h
  rename_i d0;cases hd:dOK u d d0 with
  |false=>rw [hd]at h;cases h
  |true=>
   rw [hd]at h;cases h;have hr:Rel D w (An (s.r.map Ae.v) ρ w) (.rs id p 0 (Ag s.r id p).len) cv noF:=hr;rw [hn]at hr;have hr:Rel D w (An (s.r.map Ae.v) ρ w) (.rs id p 0 xs.length) cv noF:=hr;obtain⟨⟨hid,sz,n,f,cn,hat,hle,hcv⟩,_⟩:=hr;have hne:Ag s.r id p≠.dead:=by rw [hn];intro h;cases h
   have hnode:sub p ((s.r.map Ae.v).getD id .dead)=arr true u.w (tyV u d) u.dflt xs:=(AZ hne).trans (by rw [hn];rfl)
   refine⟨.rf m [],[.arr false u d0 xs],rfl,rfl,⟨rfl,fun k hk=>?_,fun a ha=>?_⟩,fun R0 σ0 ρ0 hR hW=>?_⟩
   ·obtain rfl:k=0:=by simp at hk;exact hk
    exact⟨u,d0,xs,rfl,hn,hd⟩
   ·simp at ha;subst ha
    exact⟨hid,sz,n,f,cn,hat⟩
   ·obtain⟨h1,h2,h3⟩:=hW 0 (by simp)
    simp only [Nat.add_zero,List.getD_cons_zero]at h1 h2 h3;have hR0:R0.getD m .dead= .arr false u d0 xs:=hR 0 (by simp)
    show Rel D w (An σ0 ρ0 w) (.rs m [] 0 (Ag R0 m []).len) cv noF
    have hl:(Ag R0 m []).len=xs.length:=by
     show(R0.getD m .dead).len=_;rw [hR0];rfl
    rw [hl];have hcn:=At.det h3 hat;refine⟨⟨h1,sz,n,f,cn,⟨?_,hcn.symm⟩,hle,hcv⟩,fun _ h=>h⟩
    rw [h2];exact At.sub hat
 ·cases h
theorem MB(wr:Bt (s.r.map Ae.v) w D ρ F){dep:Nat}: ∀ (l:List Cl) (cs:List Cl) (a:List (C4×Nat)) (cvs:List Value),Pl s dep l=some (cs,a)->cvs.length=l.length->(∀i,i<l.length->Rel D w (An (s.r.map Ae.v) ρ w) ((l.getD i .dead).v s.r) (cvs.getD i undef) noF)->
  ∀m,(Bm m cs).1.length=l.length/\WOK s (s.r.map Ae.v) ρ w a (Bm m cs).2/\
   ∀ (R0:List Ae) σ0 ρ0,Has R0 m (Bm m cs).2->Xr s (s.r.map Ae.v) ρ w a m σ0 ρ0->∀i,i<l.length->Rel D w (An σ0 ρ0 w) (((Bm m cs).1.getD i .dead).v R0) (cvs.getD i undef) noF
 | [],cs,a,cvs,h,_,_,m=>by
  cases h;exact⟨rfl,⟨rfl,fun k hk=>by simp [Bm]at hk,fun a ha=>by cases ha⟩,fun _ _ _ _ _ i hi=>by simp at hi⟩
 |y::l,cs,a,cvs,h,hl,hr,m=>by
  cases cvs with
  |nil=>simp at hl
  |cons cv cvs=>
  unfold Pl at h;split at h
  case h_2=>cases h
  rename_i c a1 h1;split at h
  case h_2=>cases h
  rename_i cs' a2 h2;cases h;obtain⟨c',R,g1,g2,g3,g4⟩:=MD wr h1 (hr 0 (by simp)) m cs'
  obtain⟨k1,k2,k3⟩:=MB wr l cs' a2 cvs h2 (by simpa using hl) (fun i hi=>by simpa using hr (i+1) (by simpa using hi)) (m+R.length)
  rw [g1,g2];refine⟨by simp [k1],g3.app k2,fun R0 σ0 ρ0 hR hW i hi=>?_⟩
  cases i with
  |zero=>exact g4 R0 σ0 ρ0 hR.left hW.left
  |succ i=>
   have hW2:=hW.right;rw [<-g3.len]at hW2;simpa using k3 R0 σ0 ρ0 hR.right hW2 i (by simpa using hi)
theorem Po(wr:Bt (s.r.map Ae.v) w D ρ F){p:WP}{y:Sl}{x:p.2.2.T}{a:List (C4×Nat)}(h:Qz s p (some y)=some (x,a)){cv:Value}(hr:Rel D w (An (s.r.map Ae.v) ρ w) (y.v s.r) cv noF)(m:Nat):
  WOK s (s.r.map Ae.v) ρ w a (QA p x m).2/\∀ (R0:List Ae) σ0 ρ0,Has R0 m (QA p x m).2->Xr s (s.r.map Ae.v) ρ w a m σ0 ρ0->Rel D w (An σ0 ρ0 w) ((QA p x m).1.v R0) cv noF:=by
 obtain⟨own,ag,t⟩:=p;unfold Qz at h;split at h
 ·rename_i l hy
  cases hy;cases hb:(own&&ag)with
  |false=>rw [show((own,ag,t):WP).1=own from rfl,show((own,ag,t):WP).2.1=ag from rfl,hb]at h;cases h
  |true=>
   simp only [bAE]at hb;obtain⟨rfl,rfl⟩:=hb;simp only [Bool.and_self,cond_true]at h;split at h
   case h_2=>cases h
   rename_i cs a' hc;split at h
   case h_2=>cases h
   rename_i x' hx;cases h;have he:=Ps _ _ _ _ _ hx;rw [List.append_nil]at he;have hr:Rel D w (An (s.r.map Ae.v) ρ w) (Ai (l.map (Cl.v s.r))) cv noF:=hr;obtain⟨cvs,Fx,hpk,hsz,hcell,_,hfx⟩:=hr;have hpk:cv= .agg cvs:=hpk;simp only [List.length_map]at hsz hcell hfx
   have hcell': ∀i,i<l.length->Rel D w (An (s.r.map Ae.v) ρ w) ((l.getD i .dead).v s.r) (cvs.toList.getD i undef) noF:=by
    intro i hi;have h1:=hcell i hi;have e:Fx i=noF:=Bb fun b hb=>(hfx b).2 ⟨i,hi,hb⟩
    rw [e]at h1;have e2:(l.map (Cl.v s.r)).getD i .dead=(l.getD i .dead).v s.r:=AB (f:=Cl.v s.r) (a:=.dead) rfl _ _;have h1:Rel D w (An (s.r.map Ae.v) ρ w) ((l.map (Cl.v s.r)).getD i .dead) (cvs.getD i undef) noF:=h1;rw [e2]at h1;simpa using h1
   obtain⟨g1,g2,g3⟩:=MB wr l cs a cvs.toList hc (by simpa using hsz) hcell' m
   rw [he]at g1 g2 g3;refine⟨g2,fun R0 σ0 ρ0 hR hW=>?_⟩
   show Rel D w (An σ0 ρ0 w) (Ai ((Bm m (Ax t t.dep x)).1.map (Cl.v R0))) cv noF;have hlen:((Bm m (Ax t t.dep x)).1.map (Cl.v R0)).length=l.length:=by rw [List.length_map,g1]
   refine⟨cvs,fun _=>noF,hpk,by rw [hlen];exact hsz,fun k hk=>?_,fun _ _ _ _ _ _ h=>h.elim,fun b=>⟨fun h=>h.elim,fun⟨_,_,h⟩=>h⟩⟩
   rw [hlen]at hk;have:=g3 R0 σ0 ρ0 hR hW k hk;show Rel D w (An σ0 ρ0 w) (((Bm m (Ax t t.dep x)).1.map (Cl.v R0)).getD k .dead) _ noF;rw [AB (f:=Cl.v R0) (a:=.dead) rfl];simpa using this
 ·rename_i y' hy
  cases hy;cases ag with
  |true=>cases h
  |false=>
   simp only [cond_false]at h;cases own with
   |true=>
    simp only [cond_true]at h;split at h
    case h_2=>cases h
    rename_i c a' hc;split at h
    case h_2=>cases h
    rename_i x' hx;cases h;have he:=Ps _ _ _ _ _ hx;rw [List.append_nil]at he;obtain⟨c',R,g1,g2,g3,g4⟩:=MD wr hc hr m []
    have e1:(Bm m (Ax t t.dep x))=([c'],R):=by
     rw [<-he];exact Prod.ext (by rw [g1];rfl) (by rw [g2];simp [Bm])
    have e2:QA (true,false,t) x m=(.one c',R):=by
     show(Sl.one ((Bm m (Ax t t.dep x)).1.getD 0 .dead),(Bm m (Ax t t.dep x)).2)=_;rw [e1];rfl
    rw [e2];exact⟨g3,fun R0 σ0 ρ0 hR hW=>g4 R0 σ0 ρ0 hR hW⟩
   |false=>
    simp only [cond_false]at h;split at h
    case h_2=>cases h
    rename_i t' d z;split at h
    case isFalse=>cases h
    rename_i ht;have ht:t'=t:=ht;subst ht;cases hs:t'.sc with
    |false=>rw [hs]at h;cases h
    |true=>
     rw [hs]at h;cases h;refine⟨⟨rfl,fun k hk=>by simp at hk,fun a ha=>by cases ha⟩,fun R0 σ0 ρ0 _ _=>?_⟩
     have hr:Rel D w (An (s.r.map Ae.v) ρ w) (cV t' d z) cv noF:=hr;show Rel D w (An σ0 ρ0 w) (cV t' 0 z) cv noF;rw [Aaz hs]at hr⊢;exact hr
 ·cases h
end
end Go.Ve


namespace Go.Ve
section
variable {s:St} {ρ:Nat->Value} {w:World} {D:Nat->Prop} {F:Nat->Nat->Prop}
theorem ME(wr:Bt (s.r.map Ae.v) w D ρ F){a:Act}: ∀ (ps:List WP) (xs:List Operand) (z:(PTW ps).T) (LD:List (C4×Nat)),Pn s ps (xs.map s.ev)=some (z,LD)->(∀x∈xs,Rel D w (An (s.r.map Ae.v) ρ w) (s.den.ev x) (a.eval x) noF)->∀m,
  (BP ps z m).1.length=xs.length/\WOK s (s.r.map Ae.v) ρ w LD (BP ps z m).2/\
   ∀ (R0:List Ae) σ0 ρ0,Has R0 m (BP ps z m).2->Xr s (s.r.map Ae.v) ρ w LD m σ0 ρ0->∀i,i<xs.length->Rel D w (An σ0 ρ0 w) (((BP ps z m).1.getD i (.one .dead)).v R0) (a.eval (xs.getD i (.tmp 0))) noF
 | [],[],z,LD,h,_,m=>by
  cases h;exact⟨rfl,⟨rfl,fun k hk=>by simp at hk,fun a ha=>by cases ha⟩,fun _ _ _ _ _ i hi=>by simp at hi⟩
 | [p],[x],z,LD,h,hr,m=>by
  have h:Qz s p (s.ev x)=some (z,LD):=h;cases hy:s.ev x with
  |none=>rw [hy]at h;cases h
  |some y=>
   rw [hy]at h;have h0:=hr x (by simp)
   rw [Bd hy]at h0;obtain⟨g1,g2⟩:=Po wr h h0 m;refine⟨rfl,g1,fun R0 σ0 ρ0 hR hW i hi=>?_⟩
   obtain rfl:i=0:=by simp at hi;exact hi
   exact g2 R0 σ0 ρ0 hR hW
 |p::q::l,x::xs,z,LD,h,hr,m=>by
  have h:(match Qz s p (s.ev x)with
   |some (x,a)=>match Pn s (q::l) (xs.map s.ev)with
    |some (z,b)=>some ((x,z),a++b)
    |none=>none
   |none=>none:Option ((PTW (p::q::l)).T×List (C4×Nat)))=some (z,LD):=h
  split at h
  case h_2=>cases h
  rename_i x1 a1 h1;split at h
  case h_2=>cases h
  rename_i z1 b1 h2;cases h;cases hy:s.ev x with
  |none=>rw [hy]at h1;cases h1
  |some y=>
   rw [hy]at h1;have h0:=hr x (by simp)
   rw [Bd hy]at h0;obtain⟨g1,g2⟩:=Po wr h1 h0 m;obtain⟨k1,k2,k3⟩:=ME wr (q::l) xs z1 b1 h2 (fun y hy=>hr y (mCM _ hy)) (m+(QA p x1 m).2.length)
   refine⟨by show(BP (q::l) z1 _).1.length+1=_;rw [k1];rfl,g1.app k2,fun R0 σ0 ρ0 hR hW i hi=>?_⟩
   have hR:Has R0 m ((QA p x1 m).2++(BP (q::l) z1 (m+(QA p x1 m).2.length)).2):=hR;cases i with
   |zero=>exact g2 R0 σ0 ρ0 hR.left hW.left
   |succ i=>
    have hW2:=hW.right;rw [<-g1.len]at hW2;exact k3 R0 σ0 ρ0 hR.right hW2 i (by simpa using hi)
 | [],_::_,_,_,h,_,_=>by cases h
 | [_],[],_,_,h,_,_=>by cases h
 | [_],_::_::_,_,_,h,_,_=>by cases h
 |_::_::_,[],_,_,h,_,_=>by cases h
end
theorem B3.tyV0{π:Nat->Nat}{n:Nat}: ∀ (t:Ty) (x:t.T),∀v∈tyV t 0 x,B3 π n v v
 | .int _,_,v,h=>by simp [tyV]at h;subst h;exact .inr (Sub.refl _)
 | .bool,_,v,h=>by simp [tyV]at h;subst h;exact .inr (Sub.refl _)
 | .str,_,v,h=>by simp [tyV]at h;subst h;exact .inr (Sub.refl _)
 | .sl _,_,v,h=>by simp only [tyV,List.mem_singleton]at h;subst h;exact .inr (Sub.refl _)
 | .ptr _,_,v,h=>by simp only [tyV,List.mem_singleton]at h;subst h;exact .inr (Sub.refl _)
 | .unit,_,v,h=>by simp [tyV]at h
 | .pair a b,x,v,h=>by
  simp only [tyV,List.mem_append]at h;exact h.elim (B3.tyV0 a x.1 v) (B3.tyV0 b x.2 v)
 | .osl _,x,v,h=>by
  simp only [tyV,List.mem_singleton]at h;subst h;cases x with
  |none=>exact B3.dead _ _ _
  |some xs=>exact .inr (Sub.refl _)
 | .clo g t,x,v,h=>by
  simp only [tyV,List.mem_singleton]at h;subst h;refine .inr ⟨_,rfl,fun k hk=>?_⟩
  have hk:k<(tyV t 0 x).length:=by rw [AA];exact hk
  show B3 π n ((tyV t 0 x).getD k .dead) ((tyV t 0 x).getD k .dead);rw [gDE,gEE hk];exact B3.tyV0 t x _ (List.getElem_mem hk)
theorem killP_ren{r r':List Ae}{M:V->V}{h:Nat->A1->Bool}{N:Nat}(hM:CS M (fun id q=>h id q=false))(hN: ∀id q,h id q=false->id<N)(hr: ∀id q,h id q=false->(Ag r' id q).len=(Ag r id q).len)(y:Cl):B3 (fun i=>i) N (M (y.v r)) ((y.killP h).v r'):=by
 cases y with
 |dead=>show B3 _ _ (M .dead) .dead;exact B3.dead _ _ _
 |nil=>show B3 _ _ (M (.c _)) _;rw [hM.m.c];exact .inr (Sub.refl _)
 |nilp=>show B3 _ _ (M (.c _)) _;rw [hM.m.c];exact .inr (Sub.refl _)
 |nilf=>show B3 _ _ (M (.c _)) _;rw [hM.m.c];exact .inr (Sub.refl _)
 |c t d x=>
  have e:M (cV t d x)=cV t d x:=by
   cases t with
   |int k=>exact hM.m.c _
   |bool=>exact hM.m.c _
   |str=>exact hM.m.c _
   |sl t=>exact hM.m.nd _ _ _ _ _
   |ptr t=>exact hM.m.nd _ _ _ _ _
   |unit=>exact hM.m.dead
   |clo g u=>exact hM.m.clo
   |osl u=>exact hM.m.osl
   |pair a b=>exact hM.m.dead
  show B3 _ _ (M (cV t d x)) (cV t d x);rw [e];cases t<;>first|exact .inr (Sub.refl _)|exact .inl rfl|(cases x<;>first|exact B3.dead _ _ _|exact .inr (Sub.refl _))|exact B3.tyV0 (.clo _ _) x _ (List.mem_singleton.2 rfl)
 |rf id q=>
  show B3 _ _ (M (.rs id q 0 _)) ((bif h id q then Cl.dead else .rf id q).v r');cases hb:h id q with
  |true=>exact B3.dead _ _ _
  |false=>
   rw [hM.rs id q _ _ hb];refine .inr ⟨id,hN id q hb,rfl,?_⟩;show V.rs id q 0 (Ag r' id q).len=_;rw [hr id q hb]
 |rs id q off len=>
  show B3 _ _ (M (.rs id q off len)) ((bif h id q then Cl.dead else .rs id q off len).v r');cases hb:h id q with
  |true=>exact B3.dead _ _ _
  |false=>rw [hM.rs id q _ _ hb];exact .inr ⟨id,hN id q hb,rfl,rfl⟩
 |rp id q i k=>
  show B3 _ _ (M (.rp id q i k)) ((bif h id q then Cl.dead else .rp id q i k).v r');cases hb:h id q with
  |true=>exact B3.dead _ _ _
  |false=>rw [hM.rp id q _ _ hb];exact .inr ⟨id,hN id q hb,rfl,rfl⟩
theorem XV{l:List Cl}{f g:Cl->V}{N:Nat}(hf:f .dead= .dead)(hg:g .dead= .dead)(h: ∀y,B3 (fun i=>i) N (f y) (g y))(k:Nat):B3 (fun i=>i) N ((l.map f).getD k .dead) ((l.map g).getD k .dead):=by
 rw [AB (f:=f) (a:=.dead) hf,AB (f:=g) (a:=.dead) hg];exact h _
theorem Sl.killP_ren{r r':List Ae}{M:V->V}{h:Nat->A1->Bool}{N:Nat}(hM:CS M (fun id q=>h id q=false))(hN: ∀id q,h id q=false->id<N)(hr: ∀id q,h id q=false->(Ag r' id q).len=(Ag r id q).len)(y:Sl):B3 (fun i=>i) N (M (y.v r)) ((y.killP h).v r'):=by
 have one:=Go.Ve.killP_ren hM hN hr
 have key: ∀ (l:List Cl) (k:Nat),B3 (fun i=>i) N (((l.map (Cl.v r)).map M).getD k .dead) (((l.map (Cl.killP h)).map (Cl.v r')).getD k .dead):=by
  intro l k;rw [List.map_map,List.map_map];exact XV (f:=fun y=>M (y.v r)) (g:=fun y=>(y.killP h).v r') hM.m.dead rfl one k
 cases y with
 |one c=>exact one c
 |new l=>
  show B3 _ _ (M (Bk true (l.map Cl.v0))) (Bk true (l.map Cl.v0));rw [show M (Bk true (l.map Cl.v0))=Bk true (l.map Cl.v0)from hM.m.nd _ _ _ _ _]
  exact .inr (Sub.refl _)
 |agg l=>
  show B3 _ _ (M (Ai _)) (Ai _);rw [G_mk hM.m];exact PJ (by simp) fun k _=>key l k
 |pk t l=>
  show B3 _ _ (M (pkL t _)) (pkL t _);rw [G_pk hM.m];exact YQ (by simp) fun k _=>key l k
 |tup l=>
  show B3 _ _ (M (Df _)) (Df _);rw [AaF hM.m];refine VN (by simp) fun k hk=>?_
  have hk:k<l.length:=by simpa using hk
  simp only [gDE,List.getElem?_map,gEE hk,Option.map_some,Option.getD_some];generalize l[k]=p;obtain⟨b,m⟩:=p;cases b with
  |true=>
   show B3 _ _ (M (Ai (m.map (Cl.v r)))) (Ai ((m.map (Cl.killP h)).map (Cl.v r')));rw [G_mk hM.m];exact PJ (by simp) fun k _=>key m k
  |false=>
   have:=key m 0;cases m with
   |nil=>show B3 _ _ (M .dead) .dead;exact B3.dead _ _ _
   |cons y m=>simpa using this
theorem Nx: ∀ (E:List (C4×V)) (i:Nat) {v v':V},Sub v v'->Sub (Dn E i v) (Dn E i v')
 | [],_,_,_,h=>h
 |a::E,i,v,v',h=>by
  unfold Dn;refine Nx E i ?_;split
  ·exact Sub.upd _ h
  ·exact h
def Z4(a:C4×Nat)(y:Σ t:Ty,t.T):V:=match y with
 |⟨.sl u,xs⟩=>cV (.sl u) (a.2+1) xs
 |_=>.dead
theorem Jm: ∀ (LD:List (C4×Nat)) (ys:List (Σ t:Ty,t.T)) (r r':List Ae),C1 LD ys r=some r'->r'.length=r.length/\LD.length=ys.length/\∀i,Sub (Dn ((LD.map (·.1)).zip (LD.zipWith Z4 ys)) i ((r.getD i .dead).v)) (r'.getD i .dead).v
 | [],[],r,r',h=>by cases h;exact⟨rfl,rfl,fun i=>Sub.refl _⟩
 |(a,d)::LD,⟨.sl u,xs⟩::ys,r,r',h=>by
  unfold C1 at h;split at h
  case h_2=>cases h
  rename_i x hx;obtain⟨h1,h2,h3⟩:=Jm LD ys _ _ h;have hlt:a.1<r.length:=by
   rcases Nat.lt_or_ge a.1 r.length with h|h
   ·exact h
   ·exact absurd (by rw [gDE,List.getElem?_eq_none h];rfl) (Ks hx)
  refine⟨by rw [h1];simp,by simp [h2],fun i=>?_⟩
  show Sub (Dn ((LD.map (·.1)).zip (LD.zipWith Z4 ys)) i (if a.1=i then upd a.2 ((r.getD i .dead).v) (cV (.sl u) (d+1) xs)else(r.getD i .dead).v)) _
  refine Sub.trans (Nx _ i ?_) (h3 i);by_cases he:a.1=i
  ·subst he
   rw [if_pos rfl];have e:(r.set a.1 x).getD a.1 .dead=x:=by simp [hlt]
   rw [e];exact Vz hx
  ·rw [if_neg he]
   have e:(r.set a.1 x).getD i .dead=r.getD i .dead:=by
    simp only [gDE,List.getElem?_set_ne he]
   rw [e];exact Sub.refl _
 | [],_::_,_,_,h=>by cases h
 |_::_,[],_,_,h=>by cases h
 |_::_,⟨.int _,_⟩::_,_,_,h=>by cases h
 |_::_,⟨.bool,_⟩::_,_,_,h=>by cases h
 |_::_,⟨.str,_⟩::_,_,_,h=>by cases h
 |_::_,⟨.unit,_⟩::_,_,_,h=>by cases h
 |_::_,⟨.ptr _,_⟩::_,_,_,h=>by cases h
 |_::_,⟨.clo _ _,_⟩::_,_,_,h=>by cases h
 |_::_,⟨.osl _,_⟩::_,_,_,h=>by cases h
 |_::_,⟨.pair _ _,_⟩::_,_,_,h=>by cases h
def lenD(y:Σ t:Ty,t.T):Nat:=match y with
 |⟨.sl _,xs⟩=>xs.length
 |_=>0
theorem Ii{r:List Ae}{x:Ae}{i j:Nat}(h:i≠j):(r.set i x).getD j .dead=r.getD j .dead:=by
 simp only [gDE,List.getElem?_set_ne h]
theorem Jn{id:Nat}{q:A1}: ∀ (LD:List (C4×Nat)) (ys:List (Σ t:Ty,t.T)) (r r':List Ae),C1 LD ys r=some r'->(LD.map (·.1)).Pairwise H5->
  (∀k,k<LD.length->(LD.getD k ((0,[]),0)).1.2= []->lenD (ys.getD k ⟨.unit,()⟩)=(r.getD (LD.getD k ((0,[]),0)).1.1 .dead).len)->
  (∀a∈LD,a.1.1=id->(a.1.2= []/\q= [])\/(a.1.2≠[]/\pre (a.1.2.map (·.2)) q=false))->(Ag r' id q).len=(Ag r id q).len
 | [],[],r,r',h,_,_,_=>by cases h;rfl
 |(a,d)::LD,⟨.sl u,xs⟩::ys,r,r',h,hp,hl,hq=>by
  unfold C1 at h;split at h
  case h_2=>cases h
  rename_i x hx;obtain⟨hap,hp'⟩:=List.pairwise_cons.1 hp;have hlt:a.1<r.length:=by
   rcases Nat.lt_or_ge a.1 r.length with h|h
   ·exact h
   ·exact absurd (by rw [gDE,List.getElem?_eq_none h];rfl) (Ks hx)
  rw [Jn LD ys _ _ h hp' (fun k hk h0=>?_) fun b hb=>hq b (mCM _ hb)]
  ·by_cases he:id=a.1
   ·subst he
    rw [Ce hlt];have h0:=hq _ (List.mem_cons_self ..) rfl;refine OA hx (fun hne=>(h0.resolve_left fun h=>hne h.1).2) fun hn=>⟨(h0.resolve_right fun h=>h.1 hn).2,?_⟩
    exact hl 0 (by simp) hn
   ·rw [BF he]
  ·have h1:=hl (k+1) (by simpa using hk) (by simpa using h0)
   simp only [List.getD_cons_succ]at h1;rw [h1]
   have hne:a.1≠(LD.getD k ((0,[]),0)).1.1:=fun e=>by
    rcases hap (LD.getD k ((0,[]),0)).1 (List.mem_map.2 ⟨_,by simp [hk],rfl⟩)with h2|h2
    ·exact h2 e
    ·rw [h0,Pc]at h2;cases h2
   rw [Ii hne]
 | [],_::_,_,_,h,_,_,_=>by cases h
 |_::_,[],_,_,h,_,_,_=>by cases h
 |_::_,⟨.int _,_⟩::_,_,_,h,_,_,_=>by cases h
 |_::_,⟨.bool,_⟩::_,_,_,h,_,_,_=>by cases h
 |_::_,⟨.str,_⟩::_,_,_,h,_,_,_=>by cases h
 |_::_,⟨.unit,_⟩::_,_,_,h,_,_,_=>by cases h
 |_::_,⟨.ptr _,_⟩::_,_,_,h,_,_,_=>by cases h
 |_::_,⟨.clo _ _,_⟩::_,_,_,h,_,_,_=>by cases h
 |_::_,⟨.osl _,_⟩::_,_,_,h,_,_,_=>by cases h
 |_::_,⟨.pair _ _,_⟩::_,_,_,h,_,_,_=>by cases h
theorem Mb{L:List C4}{N id:Nat}{q:A1}(h:Yj L N id q=false):id<N/\∀a∈L,a.1=id->(a.2= []/\q= [])\/(a.2≠[]/\pre (a.2.map (·.2)) q=false):=by
 unfold Yj at h;simp only [Bool.or_eq_false_iff,Bool.not_eq_false']at h;refine⟨blE h.1,fun a ha he=>?_⟩
 have h2:=List.any_eq_false.1 h.2 a ha;obtain⟨i,p⟩:=a;simp only at he;subst he;simp only [Nat.beq_refl,Bool.true_and]at h2;cases p with
 |nil=>
  cases q with
  |nil=>exact .inl ⟨rfl,rfl⟩
  |cons b q=>simp at h2
 |cons b p=>exact .inr ⟨by simp,by simpa using h2⟩
theorem sc_put{C:Ctx}{h:CC}{s s':St}{d:Nat}{t:Ty}{x:t.T}{a:Act}{w:World}(ht:t.sc=true)(hp:s.put h (some d) (.one (.c t 0 x))=some s')(hs:A0 C h.n s.den a w):A0 C h.n s'.den (a.put (some d) (scV t x)) w:=by
 refine A0.put hp ?_;obtain⟨hd,hdd,D,ρ,F,hcr⟩:=hs;have hdn:d<h.n:=by
  unfold St.put at hp;simp only at hp;cases hb:Nat.blt d h.n with
  |false=>rw [hb]at hp;cases hp
  |true=>exact blE hb
 have e:s.den.res h (some d) ((Sl.one (.c t 0 x)).v s.r)=⟨AV s.den.t d (.c (scV t x)),s.den.σ⟩:=by
  have e1:(Sl.one (.c t 0 x)).v s.r= .c (scV t x):=Aaz ht 0 x;rw [e1];unfold Ms.res;simp only [hdn,if_true];split
  ·rfl
  ·show Ms.mk (AV s.den.t d (.c _)) (s.den.σ++ [])=_
   rw [List.append_nil]
 rw [e];have hone:(scV t x).oneCell'=true:=by cases t<;>first|rfl|cases ht
 have h1:=hcr.setv (Below.refl _ _) (r:=.c (scV t x)) (v':=scV t x) ⟨rfl,hone,fun _ h=>h⟩ (fun _ h=>h) (fun _ h=>.inl h) (fun b hb=>hcr.wr.Dlt b hb) d
 refine⟨hd,fun y hy=>?_,?_⟩
 ·show AV s.den.t d _ y= .dead
  unfold AV;rw [if_neg (by omega)]
  exact hdd y hy
 ·rw [C6 hdn]at h1
  exact h1
theorem Ze{u:Ty}{d d0:Nat}(h:dOK u d d0=true)(xs:List u.T):cV (.sl u) (d+1) xs=cV (.sl u) (d0+1) xs:=by
 have e:tyV u d=tyV u d0:=funext fun z=>Dg _ _ _ z (Mf h)
 show arr true u.w (tyV u d) u.dflt xs=arr true u.w (tyV u d0) u.dflt xs;rw [e]
theorem Vp{P:Program}{Γ:List EnW}(hΓ: ∀e∈Γ,e.OK P){C:Ctx}{h:CC}{s s1 s':St}{o:Oper}{f:FuncId}{xs:Array Operand}{ats:Array TypeId}{a:Act}{w:World}{A:Xf}{u:A.α}{d:Nat}{next:Act->World->Prop}{Q:Exit->Act->World->Prop}
  (ho:o.op= .call ⟨.value (.func f),xs,ats⟩) (hdst:o.dst=some d) (ha:MV Γ s f (xs.toList.map s.ev)=some A) (hu:A.o=some u) (hst:A.st u=some s1) (hp:s1.put h (some d) (.one (A.y u))=some s')
  (hs:A0 C h.n s.den a w) (hn: ∀a' w',A0 C h.n s'.den a' w'->next a' w'):o.wp P a w next Q:=by
 obtain⟨hdf,hdd,D,ρ,F,hcr⟩:=hs;unfold MV at ha;split at ha
 case h_2=>cases ha
 rename_i e he;split at ha
 case h_2=>cases ha
 rename_i z LD hz;cases hap:Li (LD.map (·.1))with
 |false=>rw [hap]at ha;cases ha
 |true=>
 rw [hap]at ha;cases ha;have hap:=Ob hap;obtain⟨⟨hcall,hft⟩,hfe⟩:=P9 hΓ he;rw [hfe]at hcall hft;have hu:e.g z=some u:=hu
 have hst:(match C1 LD (wOf (IF e.S.ps) u.2) s.r with
  |some r'=>some (⟨fun i=>(s.t i).killP (Yj (LD.map (·.1)) s.r.length),r'⟩:St)
  |none=>none)=some s1:=hst
 have hp:s1.put h (some d) (.one (.c e.S.rt 0 u.1))=some s':=hp;split at hst
 case h_2=>cases hst
 rename_i r' hr';cases hst;obtain⟨hsc,hlen,hnd,hfc⟩:=hft z u hu;obtain⟨g1,g2,g3⟩:=ME hcr.wr e.S.ps xs.toList z LD hz (fun x _=>B7 hcr hdd x) 0
 obtain⟨k1,k2,k3⟩:=Jm _ _ _ _ hr';have hRL:=g2.len
 -- the trees that are handed over
 have hσ0:(BP e.S.ps z 0).2.map Ae.v=(LD.map (·.1)).map fun a=>sub a.2 ((s.r.map Ae.v).getD a.1 .dead):=by
  apply List.ext_getElem
  ·simp [hRL]
  ·intro k h1 h2
   have hk:k<LD.length:=by simp at h2;exact h2
   obtain⟨u',d0,ys,e1,e2,e3⟩:=g2.nd k hk;have hk':k<(BP e.S.ps z 0).2.length:=by omega
   have e1:(BP e.S.ps z 0).2[k]= .arr false u' d0 ys:=by rw [<-e1];simp [hk']
   have e4:LD.getD k ((0,[]),0)=LD[k]:=by simp [hk]
   rw [e4]at e2 e3;simp only [List.getElem_map,e1];have hne:Ag s.r LD[k].1.1 LD[k].1.2≠.dead:=by rw [e2];intro h;cases h
   rw [AZ hne,e2];exact(Ze e3 ys).symm
 have hσ1:(Ci (BP e.S.ps z 0).2 (wOf (IF e.S.ps) u.2)).map Ae.v=LD.zipWith Z4 (wOf (IF e.S.ps) u.2):=by
  apply List.ext_getElem
  ·rw [List.length_map,IN _ _ hlen.symm,List.length_zipWith];omega
  ·intro k h1 h2
   have hk:k<LD.length:=by simp at h2;omega
   have hk':k<(BP e.S.ps z 0).2.length:=by omega
   obtain⟨u',d0,ys,e1,e2,e3⟩:=g2.nd k hk;have hg:=DM (BP e.S.ps z 0).2 (wOf (IF e.S.ps) u.2) k hlen.symm hk';have hne:=hnd k hk';rw [hg]at hne;obtain⟨ro,u2,d2,xs2,ys2,f1,f2,f3⟩:=KM hne;rw [e1]at f1;cases f1;have h3:k<(Ci (BP e.S.ps z 0).2 (wOf (IF e.S.ps) u.2)).length:=by simpa using h1
   have hy:k<(wOf (IF e.S.ps) u.2).length:=by omega
   have f2:(wOf (IF e.S.ps) u.2)[k]=⟨.sl u',ys2⟩:=by rw [<-f2];simp [hy]
   have f4:(Ci (BP e.S.ps z 0).2 (wOf (IF e.S.ps) u.2))[k]= .arr false u' d0 ys2:=by
    rw [<-f3,<-hg];simp [h3]
   rw [List.getElem_map,List.getElem_zipWith,f4,f2];have e4:LD.getD k ((0,[]),0)=LD[k]:=by simp [hk]
   rw [e4]at e3;exact(Ze e3 ys2).symm
 rw [hσ0,hσ1]at hfc;have hmem: ∀k,k<LD.length->LD.getD k ((0,[]),0)∈LD:=fun k hk=>by simp [hk]
 have hLk: ∀k,k<LD.length->(LD.map (·.1)).getD k (0,[])=(LD.getD k ((0,[]),0)).1:=fun k hk=>by simp [hk]
 have hcall2:=Yx hcr (cvs:=xs.map a.eval) (L:=LD.map (·.1)) hfc (fun b hb=>by
   obtain⟨c,hc,rfl⟩:=List.mem_map.1 hb;exact g2.at' c hc) hap (by rw [List.length_zipWith,List.length_map];omega) (fun k hk=>by
   have hk:k<LD.length:=by simpa using hk
   obtain⟨u',d0,ys,e1,e2,e3⟩:=g2.nd k hk;have hk':k<(BP e.S.ps z 0).2.length:=by omega
   have hg:=DM (BP e.S.ps z 0).2 (wOf (IF e.S.ps) u.2) k hlen.symm hk';have hne:=hnd k hk';rw [hg]at hne;obtain⟨ro,u2,d2,xs2,ys2,f1,f2,f3⟩:=KM hne;rw [e1]at f1;cases f1;have hne2:Ag s.r (LD.getD k ((0,[]),0)).1.1 (LD.getD k ((0,[]),0)).1.2≠.dead:=by rw [e2];intro h;cases h
   have e5:(LD.zipWith Z4 (wOf (IF e.S.ps) u.2)).getD k .dead=Z4 (LD.getD k ((0,[]),0)) ((wOf (IF e.S.ps) u.2).getD k ⟨.unit,()⟩):=by
    have hy:k<(wOf (IF e.S.ps) u.2).length:=by omega
    simp [List.getElem?_zipWith,hk,hy]
   rw [hLk k hk]
   exact⟨_,_,_,_,_,(show _=V.nd true true u'.w ys.length (fun i j=>(tyV u' (LD.getD k ((0,[]),0)).2 (ys.getD i u'.dflt)).getD j .dead)from(AZ hne2).trans (by rw [e2];rfl)),
    (show _=V.nd true true u'.w ys2.length (fun i j=>(tyV u' (LD.getD k ((0,[]),0)).2 (ys2.getD i u'.dflt)).getD j .dead)from by rw [e5,f2];rfl)⟩) (by simp [g1]) (fun ρ0 F0 wr0 hval i hi=>by
   have hi:i<xs.toList.length:=by simpa [g1]using hi
   have h1:=g3 (BP e.S.ps z 0).2 ((LD.map (·.1)).map fun a=>sub a.2 ((s.r.map Ae.v).getD a.1 .dead)) ρ0 (fun j _=>by rw [Nat.zero_add]) (fun k hk=>by
    refine⟨by simpa using hk,?_,?_⟩
    ·simp [hk]
    ·have h2:=hval k (by simpa using hk)
     rw [hLk k hk]at h2;rw [Nat.zero_add];exact h2) i hi
   have e6:((BP e.S.ps z 0).1.map (Sl.v (BP e.S.ps z 0).2)).getD i .dead=((BP e.S.ps z 0).1.getD i (.one .dead)).v (BP e.S.ps z 0).2:=AB (f:=Sl.v _) (a:=.one .dead) rfl _ _;rw [e6];have hi':i<xs.size:=by simpa using hi
   have e7:(xs.map a.eval).getD i undef=a.eval (xs.toList.getD i (.tmp 0)):=by simp [hi']
   rw [e7];exact h1)
 have hrun:(execOp a.eval o).run P w= .ok (.enter f (xs.map a.eval)) w:=by
  unfold Af at hcall;split at hcall
  ·rename_i fn hfn
   simp only [bAE,Bool.not_eq_true']at hcall;obtain⟨h1,h2⟩:=hcall;have h2':fn.body.isNone=false:=by cases hb:fn.body<;>simp [hb]at h2⊢
   have e0:a.eval (.func f)= .func (.func f) #[] #[]:=rfl;unfold execOp;rw [ho];simp [resolve,e0,Deferred.ofValue,invoke,callFunc,hfn,h2'];simp at h1;simp [h1];intro hb;simp [hb]at h2
  ·cases hcall
 unfold Oper.wp;rw [hrun,Oper.upon_enter];refine hcall2.mono fun en w' hpost=>?_
 obtain⟨rfl,σ3,M,⟨D3,ρ3,F3,hc3⟩,hl3,hM,hσ3,hsame⟩:=hpost
 have hsr:A0 C h.n (St.den ⟨fun i=>(s.t i).killP (Yj (LD.map (·.1)) s.r.length),r'⟩) a w':=by
  have hlen': ∀id q,Yj (LD.map (·.1)) s.r.length id q=false->(Ag r' id q).len=(Ag s.r id q).len:=by
   intro id q hh;obtain⟨_,hoff⟩:=Mb hh;refine Jn LD _ _ _ hr' hap (fun k hk h0=>?_) fun b hb=>hoff b.1 (List.mem_map.2 ⟨b,hb,rfl⟩)
   obtain⟨sz,n,f1,f2,q1,q2⟩:=hsame k (by simpa using hk)
   rw [hLk k hk,h0]at q1;have hy:k<(wOf (IF e.S.ps) u.2).length:=by omega
   have e5:(LD.zipWith Z4 (wOf (IF e.S.ps) u.2)).getD k .dead=Z4 (LD.getD k ((0,[]),0)) ((wOf (IF e.S.ps) u.2).getD k ⟨.unit,()⟩):=by
    simp [List.getElem?_zipWith,hk,hy]
   rw [e5]at q2;have q1:((s.r.map Ae.v).getD (LD.getD k ((0,[]),0)).1.1 .dead)= .nd true true sz n f1:=q1;rw [AI]at q1
   have hr1:(s.r.getD (LD.getD k ((0,[]),0)).1.1 .dead).len=n:=by
    generalize s.r.getD (LD.getD k ((0,[]),0)).1.1 .dead=R at q1;cases R with
    |dead=>cases q1
    |obj ro l=>cases q1
    |arr ro t d xs=>cases q1;rfl
    |opt ro t d x=>cases x with
     |none=>cases q1
     |some xs=>cases q1;rfl
   have hr2:lenD ((wOf (IF e.S.ps) u.2).getD k ⟨.unit,()⟩)=n:=by
    generalize (wOf (IF e.S.ps) u.2).getD k ⟨.unit,()⟩=y at q2;obtain⟨ty,x⟩:=y;cases ty with
    |sl u'=>cases q2;rfl
    |_=>cases q2
   rw [hr1,hr2]
  have hperm:=hc3.perm (σ':=r'.map Ae.v) (ts':=(List.range h.n).map (St.den ⟨fun i=>(s.t i).killP (Yj (LD.map (·.1)) s.r.length),r'⟩).t) (π:=fun i=>i) (fun i hi=>by
    rw [List.length_map,k1]at hi;have:(s.r.map Ae.v).length=s.r.length:=by simp
    have hl3:(s.r.map Ae.v).length<=σ3.length:=hl3;omega) (fun _ _ _ _ h=>h) (fun i hi=>by
    have hi':i<(s.r.map Ae.v).length:=by rw [List.length_map,k1]at hi;simpa using hi
    rw [hσ3 i hi',AI];have:=k3 i;have e8:(s.den.σ).getD i .dead=(s.r.getD i .dead).v:=AI _ _;rw [e8];exact this) (fun _ _=>rfl) (by
    have:=hcr.ml;rw [List.length_map,k1];simpa [St.den]using this) (by simp) (fun i hi=>by
    have hi:i<h.n:=by simpa using hi
    have hk:=Sl.killP_ren (r:=s.r) (r':=r') (h:=Yj (LD.map (·.1)) s.r.length) (N:=s.r.length) (M:=M) (hM.weak fun id q hh=>by
     obtain⟨o1,o2⟩:=Mb hh;refine⟨by simpa [St.den]using o1,fun b hb hbe=>?_⟩
     rcases o2 b hb hbe with o3|o3
     ·exact .inl o3
     ·refine .inr ⟨o3.1,?_⟩
      cases hpre:Ba b.2 q with
      |false=>rfl
      |true=>rw [KF hpre]at o3;cases o3.2) (fun id q hh=>(Mb hh).1) hlen' (s.t i)
    have hlr:(r'.map Ae.v).length=s.r.length:=by rw [List.length_map,k1]
    rw [hlr];simpa [hi,St.den]using hk)
  refine⟨hdf,fun x hx=>?_,hperm⟩
  have h0:(s.t x).v s.r= .dead:=hdd x hx;show((s.t x).killP _).v r'= .dead;cases hy:s.t x with
  |one y=>
   rw [hy]at h0;cases y with
   |dead=>rfl
   |c t d z=>exact h0
   |nil=>cases h0
   |nilp=>cases h0
   |nilf=>cases h0
   |rf=>cases h0
   |rs=>cases h0
   |rp=>cases h0
  |new l=>rw [hy]at h0;cases h0
  |agg l=>rw [hy]at h0;cases h0
  |tup l=>rw [hy]at h0;cases h0
  |pk t l=>rw [hy]at h0;cases h0
 rw [hdst];exact hn _ _ (sc_put hsc hp hsr)
end Go.Ve


namespace Go.Ve
theorem Aau(d:Nat)(r:List Ae)(c:Cl):(fit d c).v r=c.v r/\(fit d c).v0=c.v0:=by
 cases c with
 |c t d' x=>
  have e:fit d (.c t d' x)=bif Nat.beq (UT d' t.dep) (UT d t.dep)then .c t d x else .c t d' x:=rfl;rw [e];cases h:Nat.beq (UT d' t.dep) (UT d t.dep)with
  |false=>exact⟨rfl,rfl⟩
  |true=>
   have:=bqE h;rw [LY,LY]at this;exact⟨(JW (x:=x) this).symm,(JW (x:=x) this).symm⟩
 |_=>exact⟨rfl,rfl⟩
def Lo(r:List Ae):List Cl->Option (List Cl×List (Option Nat))
 | []=>some ([],[])
 | .rf id []::l=>match r.getD id .dead with
  | .arr false t d xs=>match Lo r l with
   |some (m,js)=>some (.c (.sl t) (d+1) xs::m,some id::js)
   |none=>none
  |_=>none
 |y::l=>bif y.imm then(match Lo r l with
   |some (m,js)=>some (y::m,none::js)
   |none=>none)else none
def apO:List (Option Nat)->Bool
 | []=>true
 |none::l=>apO l
 |some a::l=>l.all (fun b=>match b with
  |some b=>!Nat.beq a b
  |none=>true)&&apO l
def Ut:List (Option Nat)->List Nat
 | []=>[]
 |none::l=>Ut l
 |some a::l=>a::Ut l
def tBSM(s:St)(n:Nat)(ps:List (Nat×Option Sl)):Option TI->Option LR
 |some j=>bif Nat.blt 0 j.ty.w&&Nat.ble (n*j.ty.w) 16777216 then(match QR (fun i=>some (i*j.ty.w,j.ty.w)) (ZS n (Hq j.ty)) ps with
   |some l=>match Lo s.r l with
    |some (m,js)=>bif apO js then(match Ut js with
     | []=>none
     |_::_=>match NA j.ty j.sd n (m.map (fit j.sd))with
      |some xs=>some ⟨True,inferInstance,Ut js,.c (.sl j.ty) (j.sd+1) xs⟩
      |none=>none)else none
    |none=>none
   |none=>none)
  else none
 |none=>none
theorem W5: ∀ {l:List (Option Nat)},apO l=true->∀i k a,i<l.length->k<l.length->i≠k->l.getD i none=some a->l.getD k none≠some a
 |none::l,h,i,k,a,hi,hk,hne,h1=>by
  cases i with
  |zero=>cases h1
  |succ i=>cases k with
   |zero=>intro h2;cases h2
   |succ k=>exact W5 (l:=l) h i k a (by simpa using hi) (by simpa using hk) (by omega) (by simpa using h1)
 |some b::l,h,i,k,a,hi,hk,hne,h1=>by
  simp only [apO,bAE]at h;have key: ∀k,k<l.length->l.getD k none≠some b:=by
   intro k hk h2;have h3:=aET.1 h.1 (l.getD k none) (by simp [hk])
   rw [h2]at h3;simp [Nat.beq_refl]at h3
  cases i with
  |zero=>
   cases h1;cases k with
   |zero=>omega
   |succ k=>simpa using key k (by simpa using hk)
  |succ i=>cases k with
   |zero=>
    intro h2;cases h2;exact key i (by simpa using hi) (by simpa using h1)
   |succ k=>exact W5 (l:=l) h.2 i k a (by simpa using hi) (by simpa using hk) (by omega) (by simpa using h1)
 | [],_,_,_,_,hi,_,_,_=>by simp at hi
theorem L7: ∀ {l:List (Option Nat)} {k a:Nat},k<l.length->l.getD k none=some a->a∈Ut l
 |none::l,k,a,hk,h=>by
  cases k with
  |zero=>cases h
  |succ k=>exact L7 (l:=l) (k:=k) (by simpa using hk) (by simpa using h)
 |some b::l,k,a,hk,h=>by
  cases k with
  |zero=>cases h;exact List.mem_cons_self ..
  |succ k=>exact mCM _ (L7 (l:=l) (k:=k) (by simpa using hk) (by simpa using h))
 | [],_,_,hk,_=>by simp at hk
def ownF(F:Nat->Nat->Prop):Option Nat->Nat->Prop
 |some j=>F j
 |none=>noF
structure Zk(s:St)(w:World)(D:Nat->Prop)(F:Nat->Nat->Prop)(l m:List Cl)(js:List (Option Nat))(cvs:List Value):Prop where
 ml:m.length=l.length
 jl:js.length=l.length
 ro: ∀j∈Ut js,j<s.r.length/\(s.r.getD j .dead).ro=false
 rel: ∀k,k<l.length->Rel D w noR ((m.map Cl.v0).getD k .dead) (cvs.getD k undef) (ownF F (js.getD k none))
theorem Ln{s:St}{w:World}{D:Nat->Prop}{ρ:Nat->Value}{F:Nat->Nat->Prop}(wr:Bt (s.r.map Ae.v) w D ρ F): ∀ (l m:List Cl) (js:List (Option Nat)) (cvs:List Value),Lo s.r l=some (m,js)->cvs.length=l.length->
  (∀k,k<l.length->Rel D w (An (s.r.map Ae.v) ρ w) ((l.map (Cl.v s.r)).getD k .dead) (cvs.getD k undef) noF)->Zk s w D F l m js cvs
 | [],m,js,cvs,h,_,_=>by
  cases h;exact⟨rfl,rfl,fun j hj=>(by cases hj),fun k hk=>by simp at hk⟩
 |y::l,m,js,cvs,h,hl,hr=>by
  cases cvs with
  |nil=>simp at hl
  |cons cv cvs=>
  have h0:Rel D w (An (s.r.map Ae.v) ρ w) (y.v s.r) cv noF:=by simpa using hr 0 (by simp)
  have hrest: ∀k,k<l.length->Rel D w (An (s.r.map Ae.v) ρ w) ((l.map (Cl.v s.r)).getD k .dead) (cvs.getD k undef) noF:=fun k hk=>by simpa using hr (k+1) (by simpa using hk)
  have imm:y.imm=true->∀m' js',Lo s.r l=some (m',js')->Zk s w D F (y::l) (y::m') (none::js') (cv::cvs):=fun himm m' js' h1=>by
   obtain⟨g1,g2,g3,g4⟩:=Ln wr l m' js' cvs h1 (by simpa using hl) hrest
   refine⟨by simp [g1],by simp [g2],g3,fun k hk=>?_⟩
   cases k with
   |zero=>
    obtain⟨i1,i2⟩:=O4 (r:=s.r) himm;show Rel D w noR y.v0 cv noF;rw [<-i2];exact CL i1 h0
   |succ k=>simpa using g4 k (by simpa using hk)
  unfold Lo at h;split at h
  ·rename_i he;cases he
  ·rename_i id l' he
   cases he;split at h
   case h_2=>cases h
   rename_i t d xs hroot;split at h
   case h_2=>cases h
   rename_i m' js' h1;cases h;obtain⟨g1,g2,g3,g4⟩:=Ln wr l m' js' cvs h1 (by simpa using hl) hrest
   have hlen:(Ag s.r id []).len=xs.length:=by
    show(s.r.getD id .dead).len=_;rw [hroot];rfl
   have h0:Rel D w (An (s.r.map Ae.v) ρ w) (.rs id [] 0 (Ag s.r id []).len) cv noF:=h0;rw [hlen]at h0
   have hσ:(s.r.map Ae.v).getD id .dead= .nd true true t.w xs.length (fun i k=>(tyV t d (xs.getD i t.dflt)).getD k .dead):=by
    rw [AI,hroot];rfl
   obtain⟨_,hrr⟩:=PF wr hσ h0.1;have hid:id<s.r.length:=by simpa using h0.1.1
   refine⟨by simp [g1],by simp [g2],fun j hj=>?_,fun k hk=>?_⟩
   ·rcases List.mem_cons.1 hj with rfl|hj
    ·exact⟨hid,by rw [hroot];rfl⟩
    ·exact g3 j hj
   ·cases k with
    |zero=>exact hrr
    |succ k=>simpa using g4 k (by simpa using hk)
  ·rename_i y' l' hne he
   cases he;cases hi:y.imm with
   |false=>rw [hi]at h;cases h
   |true=>
    rw [hi]at h;simp only [cond_true]at h;split at h
    case h_2=>cases h
    rename_i m' js' h1;cases h;exact imm hi m' js' h1
theorem ZE{P:Program}{Θ:Tab}(hΘ:Θ.OK P){C:Ctx}{h:CC}{s s':St}{o:Oper}{t:TypeId}{n:Nat}{ps:Array (Nat×Operand)}{a:Act}{w:World}{A:LR}{d:Nat}{next:Act->World->Prop}{Q:Exit->Act->World->Prop}
  (ho:o.op= .buildSlice t n ps) (hdst:o.dst=some d) (hfz:h.fz.contains d=false) (ha:tBSM s n (ps.toList.map fun p=>(p.1,s.ev p.2)) (((Θ.look t).bind (·.elem)).bind Θ.look)=some A) (hp:(BA A.js s).put h (some d) (.one A.y)=some s')
  (hs:A0 C h.n s.den a w) (hn: ∀a' w',A0 C h.n s'.den a' w'->next a' w'):o.wp P a w next Q:=by
 obtain⟨hdf,hdd,D,ρ,F,hcr⟩:=hs;unfold tBSM at ha;split at ha
 case h_2=>cases ha
 rename_i j hj;obtain⟨e,hsl,_⟩:=DR hΘ hj;cases hb:(Nat.blt 0 j.ty.w&&Nat.ble (n*j.ty.w) 16777216)with
 |false=>rw [hb]at ha;cases ha
 |true=>
 rw [hb]at ha;simp only [cond_true]at ha;simp only [bAE]at hb;have hw:=Qv hb.1;have hnw:=blE hb.2;split at ha
 case h_2=>cases ha
 rename_i l hl;split at ha
 case h_2=>cases ha
 rename_i m js hm;cases hap:apO js with
 |false=>rw [hap]at ha;cases ha
 |true=>
 rw [hap]at ha;simp only [cond_true]at ha;split at ha
 ·cases ha
 rename_i j0 jr hjs;split at ha
 case h_2=>cases ha
 rename_i xs hxs;cases ha;obtain⟨h1,h2⟩:=Ls _ _ _ hl;rw [VM s.r j.ty n hw]at h2
 have hparts:Lj s.den.σ w D ρ F (ps.toList.map fun p=>(p.1,s.den.ev p.2)) (ps.toList.map fun p=>(p.1,a.eval p.2)):=by
  refine⟨by simp,fun k i v hk=>?_⟩
  simp only [List.getElem?_map]at hk⊢;cases hq:ps.toList[k]? with
  |none=>simp [hq]at hk
  |some q=>
   simp only [hq,Option.map_some,Option.some.injEq,Prod.mk.injEq]at hk⊢;obtain⟨rfl,rfl⟩:=hk;exact⟨_,⟨rfl,rfl⟩,noF,B7 hcr hdd q.2,fun _ h=>h.elim,fun _ _ _ h=>h⟩
 obtain⟨cs',hrun,hrel,hll⟩:=bs_run (P:=P) ho hparts hsl h1 hw hnw h2;have hlen:l.length=n*j.ty.w:=by simpa using hll
 obtain⟨g1,g2,g3,g4⟩:=Ln hcr.wr l m js cs'.toList hm (by have:=hrel.1;simp at this;simpa using this) (fun k hk=>by
  have:=hrel.2 k (by simpa using hk)
  simpa [St.den]using this)
 obtain⟨p1,p2,p3⟩:=OL s.r n _ xs hxs
 have hfitv: ∀k,((m.map (fit j.sd)).map (Cl.v s.r)).getD k .dead=(m.map Cl.v0).getD k .dead:=by
  intro k;rw [p2,List.map_map]
  congr 1
  exact List.map_congr_left fun y _=>(Aau _ s.r y).2
 let Fy:Nat->Nat->Nat->Prop:=fun i k=>ownF F (js.getD (i*j.ty.w+k) none)
 have hFy: ∀i k b,Fy i k b->∃q,js.getD (i*j.ty.w+k) none=some q/\F q b:=by
  intro i k b hb;simp only [Fy]at hb;cases hq:js.getD (i*j.ty.w+k) none with
  |none=>rw [hq]at hb;exact hb.elim
  |some q=>rw [hq]at hb;exact⟨q,rfl,hb⟩
 have hcell: ∀i k,i<n->k<j.ty.w->i*j.ty.w+k<l.length:=fun i k hi hk=>by rw [hlen];exact Qf hi hk
 have hG: ∀i k b,i<n->k<j.ty.w->Fy i k b->∃q∈Ut js,F q b:=by
  intro i k b hi hk hb;obtain⟨q,hq,hb⟩:=hFy i k b hb;exact⟨q,L7 (by rw [g2];exact hcell i k hi hk) hq,hb⟩
 have hblk:(w.alloc (.cells cs' e)).heap[w.heap.size]? =some (.cells cs' e (0,0)):=heap_alloc_new w _;have hsame: ∀b,b<w.heap.size->(w.alloc (.cells cs' e)).heap[b]? =w.heap[b]?:=fun b hb=>Below.heap_alloc _ _ _ hb
 have hsz:cs'.size=n*j.ty.w:=by rw [hrel.1];exact hll
 have hr:Rel D (w.alloc (.cells cs' e)) noR (.nd true true j.ty.w n fun i k=>(m.map Cl.v0).getD (i*j.ty.w+k) .dead) (.slice (some ⟨w.heap.size,0,none⟩) n n) (fun b=>b=w.heap.size\/∃i k,i<n/\k<j.ty.w/\Fy i k b):=by
  refine .inr ⟨w.heap.size,0,n,Fy,rfl,Nat.le_refl _,?_,(fun h=>by cases h),fun i k hi hk=>?_,(fun h=>by cases h),fun _=>⟨⟨cs',e,.plain hblk,by rw [hsz,Nat.zero_add];exact Nat.le_refl _⟩,fun i k hi hk hF=>?_,fun i k i' k' b hi hk hi' hk' hne hF hF'=>?_,fun _=>Iff.rfl⟩⟩
  ·have:=Nat.le_mul_of_pos_right n hw;unfold maxLen;omega
  ·have hlt:=hcell i k hi hk
   refine⟨cs'.getD (i*j.ty.w+k) undef,?_,?_⟩
   ·rw [cellRow hblk,Nat.zero_add]
    have:i*j.ty.w+k<cs'.size:=by rw [hsz,<-hlen];exact hlt
    simp [this]
   ·have h5:=g4 _ hlt
    have h6:Rel D w noR ((m.map Cl.v0).getD (i*j.ty.w+k) .dead) (cs'.getD (i*j.ty.w+k) undef) (Fy i k):=by
     show Rel D w noR _ _ (ownF F (js.getD (i*j.ty.w+k) none));simpa using h5
    refine Rel.mono (fun _ h=>h) (fun _ _ h=>h) _ _ _ (fun b hb=>hsame b ?_) h6
    rcases hb with hb|hb
    ·exact hcr.wr.Dlt b hb
    ·exact Rel.lt _ _ _ h6 b hb
  ·obtain⟨q,_,hq⟩:=hG i k _ hi hk hF
   have:=hcr.wr.lt q _ hq;omega
  ·obtain⟨q,hq,hF⟩:=hFy i k b hF
   obtain⟨q',hq',hF'⟩:=hFy i' k' b hF';have hne2:i*j.ty.w+k≠i'*j.ty.w+k':=by
    intro he;have e1:=congrArg (· /j.ty.w) he
    have e2:=congrArg (· % j.ty.w) he
    simp only [JJ hk,JJ hk',JI hk,JI hk']at e1 e2;omega
   have:=W5 hap _ _ q (by rw [g2];exact hcell i k hi hk) (by rw [g2];exact hcell i' k' hi' hk') hne2 hq
   exact hcr.wr.disj q q' b (fun e=>this (by rw [hq',e])) hF hF'
 obtain⟨F',hcr',hF'⟩:=HZ (Ut js) hcr (fun q hq=>(g3 q hq).1)
 have hr2:Rel D (w.alloc (.cells cs' e)) noR (cV (.sl j.ty) (j.sd+1) xs) (.slice (some ⟨w.heap.size,0,none⟩) n n) (fun b=>b=w.heap.size\/∃i k,i<n/\k<j.ty.w/\Fy i k b):=by
  refine Rel.sub ?_ hr;show Sub _ (V.nd true true j.ty.w xs.length fun i k=>(tyV j.ty j.sd (xs.getD i j.ty.dflt)).getD k .dead)
  rw [p1];refine⟨_,rfl,fun i k hi hk=>?_⟩
  have:=p3 i k hi hk;rw [hfitv]at this;exact this
 have hfpG: ∀b,(b=w.heap.size\/∃i k,i<n/\k<j.ty.w/\Fy i k b)->(∃q∈Ut js,F q b)\/w.heap.size<=b:=by
  rintro b (rfl|⟨i,k,hi,hk,hF⟩)
  ·exact .inr (Nat.le_refl _)
  ·exact .inl (hG i k b hi hk hF)
 have hc:=CR.own hcr' (w':=w.alloc (.cells cs' e)) (G:=fun b=>∃q∈Ut js,F q b) (D':=D) (fun i b hb ⟨q,hq,hFq⟩=>by
   obtain⟨h1,h2⟩:=hF' i b hb;exact hcr.wr.disj i q b (fun e=>h2 (e▸hq)) h1 hFq) (fun b hb ⟨q,_,hFq⟩=>hcr.wr.dD q b hFq hb) (fun b ⟨q,_,hFq⟩=>hcr.Fn q b hFq) rfl rfl rfl (Nat.le_refl _) (by simp) (fun c hc _=>hsame c hc) hr2 hfpG
  (fun _ h=>h) (fun _ h=>.inl h) (fun b hb=>⟨by have:=hcr.wr.Dlt b hb;simp;omega,fun h=>by
   rcases hfpG b h with⟨q,_,hFq⟩|h2
   ·exact hcr.wr.dD q b hFq hb
   ·have:=hcr.wr.Dlt b hb;omega⟩) d
 have hs':=V3 (h:=h) hdf (Dc (Ut js) hdd) hfz hp hc;unfold Oper.wp;rw [hrun];show next (a.put o.dst _) _
 rw [hdst];exact hn _ _ hs'
end Go.Ve

