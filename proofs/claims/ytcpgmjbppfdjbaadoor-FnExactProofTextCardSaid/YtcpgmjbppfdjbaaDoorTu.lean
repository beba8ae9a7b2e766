/- The typed machine: calls of functions that write their owned arguments. -/
import Derived.Test.YtcpgmjbppfdjbaaDoorTy
import Derived.Test.YtcpgmjbppfdjbaaDoorTd
namespace Go.Ve
variable{p:AR}{r r':Aa}{A B a:List (CP×Nat)}{σ σ0:List V}{d dep m:Nat}{ρ ρ0:Nat->Value}{s:St}{t u:Ty}{cv:Value}{w:World}
def Pc(s:St)(dep:Nat):Cl->Option (Cl×List (CP×Nat))
 | .c t _ x=>bif t.sc then some (.c t dep x,[])else none
 | .rf id p=>match Ab s.r id p with
  | .arr false u d xs=>match dep with
   |d0+1=>bif dOK u d d0 then some (.c (.sl u) (d0+1) xs,[((id,p),d)])else none
   |0=>none
  |_=>none
 |_=>none
def Pb(s:St)(dep:Nat):List Cl->Option (List Cl×List (CP×Nat))
 | []=>some ([],[])
 |y::l=>match Pc s dep y with
  |some (c,a)=>match Pb s dep l with
   |some (cs,b)=>some (c::cs,a++b)
   |none=>none
  |none=>none
def Xj(t:Ty)(dep:Nat):List Cl->Option (t.T×List Cl)
 | .c t' d x::l=>if h:t'=t then(bif Nat.beq d dep then some (h▸x,l)else none)else none
 |_=>none
def unC:(t:Ty)->Nat->List Cl->Option (t.T×List Cl)
 | .unit,_,l=>some ((),l)
 | .pair a b,d,l=>match unC a d l with
  |some (x,l)=>match unC b d l with
   |some (y,l)=>some ((x,y),l)
   |none=>none
  |none=>none
 | .int k,d,l=>Xj (.int k) d l
 | .bool,d,l=>Xj .bool d l
 | .str,d,l=>Xj .str d l
 | .sl t,d,l=>Xj (.sl t) d l
 | .ptr t,d,l=>Xj (.ptr t) d l
 | .clo g t,d,l=>Xj (.clo g t) d l
 | .osl t,d,l=>Xj (.osl t) d l
theorem DK(ht:t.one=true){l l':List Cl}{x:t.T}(h:Xj t dep l=some (x,l')):l=Am t dep x++l':=by
 unfold Xj at h;split at h
 case h_2=>grind
 rename_i t' d y m;split at h
 case isFalse=>grind
 rename_i he;subst he;cases hb:Nat.beq d dep with
 |false=>grind
 |true=>
  rw [hb]at h;cases h;rw [bqE hb];cases t'<;>first|rfl|trivial
theorem Pi: ∀ (t:Ty) (dep:Nat) (l l':List Cl) (x:t.T),unC t dep l=some (x,l')->l=Am t dep x++l'
 | .unit,dep,l,l',x,h=>by cases h;rfl
 | .pair a b,dep,l,l',x,h=>by
  unfold unC at h;split at h
  case h_2=>grind
  rename_i y m hy;split at h
  case h_2=>grind
  rename_i z m' hz;cases h;rw [Pi a dep _ _ _ hy,Pi b dep _ _ _ hz];simp [Am]
 | .int _,dep,l,l',x,h=>DK rfl h
 | .bool,dep,l,l',x,h=>DK rfl h
 | .str,dep,l,l',x,h=>DK rfl h
 | .sl _,dep,l,l',x,h=>DK rfl h
 | .ptr _,dep,l,l',x,h=>DK rfl h
 | .clo _ _,dep,l,l',x,h=>DK rfl h
 | .osl _,dep,l,l',x,h=>DK rfl h
def Qq(s:St)(p:WP):Option Sl->Option (p.2.2.T×List (CP×Nat))
 |some (.agg l)=>bif p.1&&p.2.1 then(match Pb s p.2.2.dep l with
  |some (cs,a)=>match unC p.2.2 p.2.2.dep cs with
   |some (x,[])=>some (x,a)
   |_=>none
  |none=>none)else none
 |some (.one y)=>bif p.2.1 then none else bif p.1 then(match Pc s p.2.2.dep y with
   |some (c,a)=>match unC p.2.2 p.2.2.dep [c]with
    |some (x,[])=>some (x,a)
    |_=>none
   |none=>none)
  else(match y with
   | .c t' _ x=>if h:t'=p.2.2 then(bif t'.sc then some (h▸x,[])else none)else none
   |_=>none)
 |_=>none
def Pd(s:St):(ps:List WP)->List (Option Sl)->Option ((PTW ps).T×List (CP×Nat))
 | [],[]=>some ((),[])
 | [p],[y]=>Qq s p y
 |p::q::l,y::ys=>match Qq s p y with
  |some (x,a)=>match Pd s (q::l) ys with
   |some (z,b)=>some ((x,z),a++b)
   |none=>none
  |none=>none
 |_,_=>none
def Ld:List CP->Bool
 | []=>true
 |a::l=>l.all (λb=>!Nat.beq a.1 b.1||dvP a.2 b.2)&&Ld l
def Wi:AR->Option (AR×Nat×Nat)
 | []=>none
 |(i,k)::q=>match Wi q with
  |none=>some ([],i,k)
  |some (p0,j,l)=>some ((i,k)::p0,j,l)
def Aa.setPath(r:Aa)(p:AR)(u:Ty)(d:Nat)(xs:List u.T):Option Aa:=match Wi p with
 |none=>match r with
  | .arr false _ _ _=>some (.arr false u d xs)
  |_=>none
 |some (p0,i,k)=>r.setAt p0 i k (.c (.sl u) (d+1) xs)
def CK:List (CP×Nat)->List (Σ t:Ty,t.T)->List Aa->Option (List Aa)
 | [],[],r=>some r
 |(a,d)::L,⟨.sl u,xs⟩::ys,r=>match(r.getD a.1 .dead).setPath a.2 u d xs with
  |some x=>CK L ys (r.set a.1 x)
  |none=>none
 |_,_,_=>none
def Cl.killP(h:Nat->AR->Bool):Cl->Cl
 | .rf id q=>bif h id q then .dead else .rf id q
 | .rs id q off len=>bif h id q then .dead else .rs id q off len
 | .rp id q i k=>bif h id q then .dead else .rp id q i k
 |y=>y
def Sl.killP(h:Nat->AR->Bool):Sl->Sl
 | .one y=>.one (y.killP h)
 | .new l=>.new l
 | .agg l=>.agg (l.map (Cl.killP h))
 | .tup l=>.tup (l.map λp=>(p.1,p.2.map (Cl.killP h)))
 | .pk t l=>.pk t (l.map (Cl.killP h))
def X6(L:List CP)(N:Nat)(id:Nat)(q:AR):Bool:=!Nat.blt id N||L.any λa=>Nat.beq a.1 id&&(match a.2 with
 | []=>(match q with
  | []=>false
  |_::_=>true)
 |b::p=>pre ((b::p).map (·.2)) q)
structure W5 where
 α:Type
 o:Option α
 st:α->Option St
 y:α->Cl
def ML(Γ:List EnW)(s:St)(f:FuncId)(xs:List (Option Sl)):Option W5:=match Wb Γ f with
 |some e=>match Pd s e.S.ps xs with
  |some (z,LD)=>bif Ld (LD.map (·.1))then
    some ⟨e.S.rt.T×(wty (Ii e.S.ps)).T,e.g z,λu=>match CK LD (wOf (Ii e.S.ps) u.2) s.r with
     |some r'=>some ⟨λi=>(s.t i).killP (X6 (LD.map (·.1)) s.r.length),r'⟩
     |none=>none,λu=>.c e.S.rt 0 u.1⟩else none
  |none=>none
 |none=>none
theorem N6: ∀ {L:List CP},Ld L=true->L.Pairwise Hz
 | [],_=>List.Pairwise.nil
 |a::l,h=>by
  simp only [Ld,bAE]at h;refine List.pairwise_cons.2 ⟨λb hb=>?_,N6 h.2⟩
  have:=aET.1 h.1 b hb;simp [Bool.not_eq_true']at this;exact this.imp (λh e=>by simp_all) id
theorem Ho: ∀ {p:AR},(Wi p=none->p= [])/\∀p0 i k,Wi p=some (p0,i,k)->p=p0++ [(i,k)]
 | []=>⟨λ_=>rfl,λ_ _ _ h=>by cases h⟩
 |(i,k)::q=>by
  obtain⟨h1,h2⟩:=Ho (p:=q);unfold Wi
  grind
theorem Vq{xs:List u.T}(h:r.setPath p u d xs=some r'):Sub (upd p r.v (cV (.sl u) (d+1) xs)) r'.v:=by
 unfold Aa.setPath at h;split at h
 ·rename_i hp
  rw [Ho.1 hp];split at h
  ·cases h;exact Sub.refl _
  grind
 ·rename_i p0 i k hp
  rw [Ho.2 _ _ _ hp];exact Jd p0 r r' h
theorem Ou{xs:List u.T}(h:r.setPath p u d xs=some r'){q:AR}(hq:p≠[]->pre (p.map (·.2)) q=false)(hr:p= []->q= []/\xs.length=r.len):(r'.at' q).len=(r.at' q).len:=by
 unfold Aa.setPath at h;split at h
 ·rename_i hp
  have hp:=Ho.1 hp;split at h
  ·cases h
   obtain⟨rfl,h2⟩:=hr hp
   trivial
  grind
 ·rename_i p0 i k hp
  have hp:=Ho.2 _ _ _ hp;exact JA p0 r r' h q (by simp_all)
theorem Kq{xs:List u.T}(h:r.setPath p u d xs=some r'):r≠.dead:=by
 unfold Aa.setPath at h;split at h
 ·grind
 ·exact Lz h
theorem It: ∀ (rs:List Aa) (ys:List (Σ t:Ty,t.T)),rs.length=ys.length->(B1 rs ys).length=rs.length
 | [],[],_=>rfl
 |r::rs,y::ys,h=>by simp [B1,It rs ys (by grind)]
 | [],_::_,h=>by rfl
 |_::_,[],h=>by grind
theorem Do: ∀ (rs:List Aa) (ys:List (Σ t:Ty,t.T)) (k:Nat),rs.length=ys.length->k<rs.length->(B1 rs ys).getD k .dead=H3 (rs.getD k .dead) (ys.getD k ⟨.unit,()⟩)
 |r::rs,y::ys,0,_,_=>rfl
 |r::rs,y::ys,k+1,h,hk=>by simpa [B1]using Do rs ys k (by grind) (by grind)
 | [],_,_,_,hk=>by rfl
 |_::_,[],_,h,_=>by grind
theorem KH{y:Σ t:Ty,t.T}(h:H3 r y≠.dead): ∃ (ro:Bool) (u:Ty) (d:Nat) (xs ys:List u.T),r= .arr ro u d xs/\y=⟨.sl u,ys⟩/\H3 r y= .arr ro u d ys:=by
 unfold H3 at h;split at h
 ·rename_i ro u d xs u' ys
  split at h
  ·rename_i he
   subst he;exact⟨ro,u',d,xs,ys,rfl,rfl,by simp [H3]⟩
  grind
 grind
structure WOK(s:St)(σ:List V)(ρ:Nat->Value)(w:World)(LD:List (CP×Nat))(R:List Aa):Prop where
 len:R.length=LD.length
 nd: ∀k,k<LD.length->∃u d0 xs,R.getD k .dead= .arr false u d0 xs/\Ab s.r (LD.getD k ((0,[]),0)).1.1 (LD.getD k ((0,[]),0)).1.2= .arr false u (LD.getD k ((0,[]),0)).2 xs/\dOK u (LD.getD k ((0,[]),0)).2 d0=true
 at': ∀a∈LD,a.1.1<σ.length/\∃sz n f c,At w a.1.2 (σ.getD a.1.1 .dead) (ρ a.1.1) (.nd true true sz n f) c
theorem WOK.app{R S:List Aa}(h:WOK s σ ρ w A R)(h':WOK s σ ρ w B S):WOK s σ ρ w (A++B) (R++S):=by
 refine⟨by simp [h.len,h'.len],λk hk=>?_,λa ha=>?_⟩
 ·by_cases hkA:k<A.length
  ·have e1:(A++B).getD k ((0,[]),0)=A.getD k ((0,[]),0):=by grind
   have e2:(R++S).getD k .dead=R.getD k .dead:=by
    have:k<R.length:=by rw [h.len];exact hkA
    simp [gAL this]
   rw [e1,e2];exact h.nd k hkA
  ·have e1:(A++B).getD k ((0,[]),0)=B.getD (k-A.length) ((0,[]),0):=by
    grind
   have e2:(R++S).getD k .dead=S.getD (k-A.length) .dead:=by
    simp only [gDE];rw [gAR (by rw [h.len];omega),h.len]
   rw [e1,e2];exact h'.nd _ (by simp at hk;omega)
 ·rcases List.mem_append.1 ha with ha|ha
  ·exact h.at' a ha
  ·exact h'.at' a ha
def Xe(s:St)(σ:List V)(ρ:Nat->Value)(w:World)(LD:List (CP×Nat))(m:Nat)(σ0:List V)(ρ0:Nat->Value):Prop:=
 ∀k,k<LD.length->m+k<σ0.length/\σ0.getD (m+k) .dead=sub (LD.getD k ((0,[]),0)).1.2 (σ.getD (LD.getD k ((0,[]),0)).1.1 .dead)/\
  At w (LD.getD k ((0,[]),0)).1.2 (σ.getD (LD.getD k ((0,[]),0)).1.1 .dead) (ρ (LD.getD k ((0,[]),0)).1.1) (sub (LD.getD k ((0,[]),0)).1.2 (σ.getD (LD.getD k ((0,[]),0)).1.1 .dead)) (ρ0 (m+k))
theorem Xe.left(h:Xe s σ ρ w (A++B) m σ0 ρ0):Xe s σ ρ w A m σ0 ρ0:=by
 intro k hk;have:=h k (by grind)
 grind
theorem Xe.right(h:Xe s σ ρ w (A++B) m σ0 ρ0):Xe s σ ρ w B (m+A.length) σ0 ρ0:=by
 intro k hk;have:=h (A.length+k) (by simp_all)
 have e1:(A++B).getD (A.length+k) ((0,[]),0)=B.getD k ((0,[]),0):=by
  simp_all
 grind
theorem Aaz(h:t.sc=true)(d:Nat)(x:t.T):cV t d x= .c (scV t x):=by cases t<;>first|rfl|cases h
section
variable {s:St} {ρ:Nat->Value} {w:World} {D:Nat->Prop} {F:Nat->Nat->Prop}
theorem Mw(wr:Bj (s.r.map Aa.v) w D ρ F){y c:Cl}(h:Pc s dep y=some (c,a))(hr:Rel D w (Ag (s.r.map Aa.v) ρ w) (y.v s.r) cv noF):
  ∀m l,∃c' R,(Bf m (c::l)).1=c'::(Bf (m+R.length) l).1/\(Bf m (c::l)).2=R++(Bf (m+R.length) l).2/\WOK s (s.r.map Aa.v) ρ w a R/\
   ∀ (R0:List Aa) σ0 ρ0,Has R0 m R->Xe s (s.r.map Aa.v) ρ w a m σ0 ρ0->Rel D w (Ag σ0 ρ0 w) (c'.v R0) cv noF:=by
 intro m l;unfold Pc at h;split at h
 ·rename_i t d x
  obtain⟨hs,h⟩:=A1 h;cases h
  have e:Bf m (.c t dep x::l)=(.c t dep x::(Bf m l).1,(Bf m l).2):=by
   cases t<;>first|rfl|cases hs
  refine⟨.c t dep x,[],by rw [e];rfl,by rw [e];rfl,⟨rfl,λk hk=>by simp at hk,λa ha=>by cases ha⟩,λR0 σ0 ρ0 _ _=>?_⟩
  have hr:Rel D w (Ag (s.r.map Aa.v) ρ w) (cV t d x) cv noF:=hr;show Rel D w (Ag σ0 ρ0 w) (cV t dep x) cv noF;rw [Aaz hs]at hr⊢;exact hr
 ·rename_i id p
  split at h
  case h_2=>cases h
  rename_i u d xs hn;split at h
  case h_2=>cases h
  rename_i d0;obtain⟨hd,h⟩:=A1 h;cases h;have hr:Rel D w (Ag (s.r.map Aa.v) ρ w) (.rs id p 0 (Ab s.r id p).len) cv noF:=hr;rw [hn]at hr;have hr:Rel D w (Ag (s.r.map Aa.v) ρ w) (.rs id p 0 xs.length) cv noF:=hr;obtain⟨⟨hid,sz,n,f,cn,hat,hle,hcv⟩,_⟩:=hr;have hne:Ab s.r id p≠.dead:=by rw [hn];intro h;cases h
  have hnode:sub p ((s.r.map Aa.v).getD id .dead)=arr true u.w (tyV u d) u.dflt xs:=(AP hne).trans (by rw [hn];rfl)
  refine⟨.rf m [],[.arr false u d0 xs],rfl,rfl,⟨rfl,λk hk=>?_,λa ha=>?_⟩,λR0 σ0 ρ0 hR hW=>?_⟩
  ·obtain rfl:k=0:=by simp at hk;exact hk
   exact⟨u,d0,xs,rfl,hn,hd⟩
  ·simp at ha;subst ha
   exact⟨hid,sz,n,f,cn,hat⟩
  ·obtain⟨h1,h2,h3⟩:=hW 0 (by simp)
   simp only [Nat.add_zero,List.getD_cons_zero]at h1 h2 h3;have hR0:R0.getD m .dead= .arr false u d0 xs:=hR 0 (by simp)
   show Rel D w (Ag σ0 ρ0 w) (.rs m [] 0 (Ab R0 m []).len) cv noF
   have hl:(Ab R0 m []).len=xs.length:=by
    show(R0.getD m .dead).len=_;rw [hR0];rfl
   rw [hl];have hcn:=At.det h3 hat;refine⟨⟨h1,sz,n,f,cn,⟨?_,hcn.symm⟩,hle,hcv⟩,λ_ h=>h⟩
   rw [h2];exact At.sub hat
 ·cases h
theorem Mu(wr:Bj (s.r.map Aa.v) w D ρ F){dep:Nat}: ∀ (l:List Cl) (cs:List Cl) (a:List (CP×Nat)) (cvs:List Value),Pb s dep l=some (cs,a)->cvs.length=l.length->(∀i,i<l.length->Rel D w (Ag (s.r.map Aa.v) ρ w) ((l.getD i .dead).v s.r) (cvs.getD i undef) noF)->
  ∀m,(Bf m cs).1.length=l.length/\WOK s (s.r.map Aa.v) ρ w a (Bf m cs).2/\
   ∀ (R0:List Aa) σ0 ρ0,Has R0 m (Bf m cs).2->Xe s (s.r.map Aa.v) ρ w a m σ0 ρ0->∀i,i<l.length->Rel D w (Ag σ0 ρ0 w) (((Bf m cs).1.getD i .dead).v R0) (cvs.getD i undef) noF
 | [],cs,a,cvs,h,_,_,m=>by
  cases h;exact⟨rfl,⟨rfl,λk hk=>by grind,λa ha=>by cases ha⟩,λ_ _ _ _ _ i hi=>by simp at hi⟩
 |y::l,cs,a,cvs,h,hl,hr,m=>by
  cases cvs with
  |nil=>simp at hl
  |cons cv cvs=>
  unfold Pb at h;split at h
  case h_2=>cases h
  rename_i c a1 h1;split at h
  case h_2=>cases h
  rename_i cs' a2 h2;cases h;obtain⟨c',R,g1,g2,g3,g4⟩:=Mw wr h1 (hr 0 (by simp)) m cs'
  obtain⟨k1,k2,k3⟩:=Mu wr l cs' a2 cvs h2 (by simpa using hl) (λi hi=>by simpa using hr (i+1) (by simpa using hi)) (m+R.length)
  rw [g1,g2];refine⟨by simp [k1],g3.app k2,λR0 σ0 ρ0 hR hW i hi=>?_⟩
  cases i with
  |zero=>exact g4 R0 σ0 ρ0 hR.left hW.left
  |succ i=>
   have hW2:=hW.right;rw [<-g3.len]at hW2;simpa using k3 R0 σ0 ρ0 hR.right hW2 i (by simpa using hi)
theorem Pe(wr:Bj (s.r.map Aa.v) w D ρ F){p:WP}{y:Sl}{x:p.2.2.T}(h:Qq s p (some y)=some (x,a))(hr:Rel D w (Ag (s.r.map Aa.v) ρ w) (y.v s.r) cv noF)(m:Nat):
  WOK s (s.r.map Aa.v) ρ w a (Qr p x m).2/\∀ (R0:List Aa) σ0 ρ0,Has R0 m (Qr p x m).2->Xe s (s.r.map Aa.v) ρ w a m σ0 ρ0->Rel D w (Ag σ0 ρ0 w) ((Qr p x m).1.v R0) cv noF:=by
 obtain⟨own,ag,t⟩:=p;unfold Qq at h;split at h
 ·rename_i l hy
  cases hy;cases hb:(own&&ag)with
  |false=>rw [show((own,ag,t):WP).1=own from rfl,show((own,ag,t):WP).2.1=ag from rfl,hb]at h;cases h
  |true=>
   simp only [bAE]at hb;obtain⟨rfl,rfl⟩:=hb;simp only [Bool.and_self,cond_true]at h;split at h
   case h_2=>cases h
   rename_i cs a' hc;split at h
   case h_2=>cases h
   rename_i x' hx;cases h;have he:=Pi _ _ _ _ _ hx;rw [List.append_nil]at he;have hr:Rel D w (Ag (s.r.map Aa.v) ρ w) (Ac (l.map (Cl.v s.r))) cv noF:=hr;obtain⟨cvs,Fx,hpk,hsz,hcell,_,hfx⟩:=hr;have hpk:cv= .agg cvs:=hpk;simp only [List.length_map]at hsz hcell hfx
   have hcell': ∀i,i<l.length->Rel D w (Ag (s.r.map Aa.v) ρ w) ((l.getD i .dead).v s.r) (cvs.toList.getD i undef) noF:=by
    intro i hi;have h1:=hcell i hi;have e:Fx i=noF:=AY λb hb=>(hfx b).2 ⟨i,hi,hb⟩
    rw [e]at h1;have e2:(l.map (Cl.v s.r)).getD i .dead=(l.getD i .dead).v s.r:=Ay (f:=Cl.v s.r) (a:=.dead) rfl _ _;have h1:Rel D w (Ag (s.r.map Aa.v) ρ w) ((l.map (Cl.v s.r)).getD i .dead) (cvs.getD i undef) noF:=h1;rw [e2]at h1;simpa using h1
   obtain⟨g1,g2,g3⟩:=Mu wr l cs a cvs.toList hc (by simpa using hsz) hcell' m
   rw [he]at g1 g2 g3;refine⟨g2,λR0 σ0 ρ0 hR hW=>?_⟩
   show Rel D w (Ag σ0 ρ0 w) (Ac ((Bf m (Am t t.dep x)).1.map (Cl.v R0))) cv noF;have hlen:((Bf m (Am t t.dep x)).1.map (Cl.v R0)).length=l.length:=by rw [List.length_map,g1]
   refine⟨cvs,λ_=>noF,hpk,by rw [hlen];exact hsz,λk hk=>?_,λ_ _ _ _ _ _ h=>h.elim,λb=>⟨λh=>h.elim,fun⟨_,_,h⟩=>h⟩⟩
   rw [hlen]at hk;have:=g3 R0 σ0 ρ0 hR hW k hk;show Rel D w (Ag σ0 ρ0 w) (((Bf m (Am t t.dep x)).1.map (Cl.v R0)).getD k .dead) _ noF;rw [Ay (f:=Cl.v R0) (a:=.dead) rfl];simpa using this
 ·rename_i y' hy
  cases hy;cases ag with
  |true=>cases h
  |false=>
   simp only [cond_false]at h;cases own with
   |true=>
    simp only [cond_true]at h;split at h
    case h_2=>cases h
    rename_i c a' hc;split at h
    case h_2=>cases h
    rename_i x' hx;cases h;have he:=Pi _ _ _ _ _ hx;rw [List.append_nil]at he;obtain⟨c',R,g1,g2,g3,g4⟩:=Mw wr hc hr m []
    have e1:(Bf m (Am t t.dep x))=([c'],R):=by
     rw [<-he];exact Prod.ext (by rw [g1];rfl) (by rw [g2];simp [Bf])
    have e2:Qr (true,false,t) x m=(.one c',R):=by
     show(Sl.one ((Bf m (Am t t.dep x)).1.getD 0 .dead),(Bf m (Am t t.dep x)).2)=_;rw [e1];rfl
    rw [e2];exact⟨g3,λR0 σ0 ρ0 hR hW=>g4 R0 σ0 ρ0 hR hW⟩
   |false=>
    simp only [cond_false]at h;split at h
    case h_2=>cases h
    rename_i t' d z;split at h
    case isFalse=>cases h
    rename_i ht;have ht:t'=t:=ht;subst ht;obtain⟨hs,h⟩:=A1 h;cases h;refine⟨⟨rfl,λk hk=>by simp at hk,λa ha=>by cases ha⟩,λR0 σ0 ρ0 _ _=>?_⟩
    have hr:Rel D w (Ag (s.r.map Aa.v) ρ w) (cV t' d z) cv noF:=hr;show Rel D w (Ag σ0 ρ0 w) (cV t' 0 z) cv noF;rw [Aaz hs]at hr⊢;exact hr
 ·cases h
end
end Go.Ve


namespace Go.Ve
variable{a:Act}{h:Cg}{C:Ctx}{r:List Aa}{N d:Nat}{s s':St}{w:World}
section
variable {s:St} {ρ:Nat->Value} {w:World} {D:Nat->Prop} {F:Nat->Nat->Prop}
theorem Mx(wr:Bj (s.r.map Aa.v) w D ρ F){a:Act}: ∀ (ps:List WP) (xs:List Operand) (z:(PTW ps).T) (LD:List (CP×Nat)),Pd s ps (xs.map s.ev)=some (z,LD)->(∀x∈xs,Rel D w (Ag (s.r.map Aa.v) ρ w) (s.den.ev x) (a.eval x) noF)->∀m,
  (BD ps z m).1.length=xs.length/\WOK s (s.r.map Aa.v) ρ w LD (BD ps z m).2/\
   ∀ (R0:List Aa) σ0 ρ0,Has R0 m (BD ps z m).2->Xe s (s.r.map Aa.v) ρ w LD m σ0 ρ0->∀i,i<xs.length->Rel D w (Ag σ0 ρ0 w) (((BD ps z m).1.getD i (.one .dead)).v R0) (a.eval (xs.getD i (.tmp 0))) noF
 | [],[],z,LD,h,_,m=>by
  cases h;exact⟨rfl,⟨rfl,λk hk=>by simp at hk,λa ha=>by cases ha⟩,λ_ _ _ _ _ i hi=>by simp at hi⟩
 | [p],[x],z,LD,h,hr,m=>by
  have h:Qq s p (s.ev x)=some (z,LD):=h;cases hy:s.ev x with
  |none=>rw [hy]at h;cases h
  |some y=>
   rw [hy]at h;have h0:=hr x (by simp)
   rw [AZ hy]at h0;obtain⟨g1,g2⟩:=Pe wr h h0 m;refine⟨rfl,g1,λR0 σ0 ρ0 hR hW i hi=>?_⟩
   obtain rfl:i=0:=by simp at hi;exact hi
   exact g2 R0 σ0 ρ0 hR hW
 |p::q::l,x::xs,z,LD,h,hr,m=>by
  have h:(match Qq s p (s.ev x)with
   |some (x,a)=>match Pd s (q::l) (xs.map s.ev)with
    |some (z,b)=>some ((x,z),a++b)
    |none=>none
   |none=>none:Option ((PTW (p::q::l)).T×List (CP×Nat)))=some (z,LD):=h
  split at h
  case h_2=>cases h
  rename_i x1 a1 h1;split at h
  case h_2=>cases h
  rename_i z1 b1 h2;cases h;cases hy:s.ev x with
  |none=>rw [hy]at h1;cases h1
  |some y=>
   rw [hy]at h1;have h0:=hr x (by simp)
   rw [AZ hy]at h0;obtain⟨g1,g2⟩:=Pe wr h1 h0 m;obtain⟨k1,k2,k3⟩:=Mx wr (q::l) xs z1 b1 h2 (λy hy=>hr y (mCM _ hy)) (m+(Qr p x1 m).2.length)
   refine⟨by show(BD (q::l) z1 _).1.length+1=_;rw [k1];rfl,g1.app k2,λR0 σ0 ρ0 hR hW i hi=>?_⟩
   have hR:Has R0 m ((Qr p x1 m).2++(BD (q::l) z1 (m+(Qr p x1 m).2.length)).2):=hR;cases i with
   |zero=>exact g2 R0 σ0 ρ0 hR.left hW.left
   |succ i=>
    have hW2:=hW.right;rw [<-g1.len]at hW2;exact k3 R0 σ0 ρ0 hR.right hW2 i (by simpa using hi)
 | [],_::_,_,_,h,_,_=>by cases h
 | [_],[],_,_,h,_,_=>by cases h
 | [_],_::_::_,_,_,h,_,_=>by cases h
 |_::_::_,[],_,_,h,_,_=>by cases h
end
theorem B2.tyV0{π:Nat->Nat}{n:Nat}: ∀ (t:Ty) (x:t.T),∀v∈tyV t 0 x,B2 π n v v
 | .int _,_,v,h=>by simp [tyV]at h;subst h;exact .inr (Sub.refl _)
 | .bool,_,v,h=>by simp [tyV]at h;subst h;exact .inr (Sub.refl _)
 | .str,_,v,h=>by simp [tyV]at h;subst h;exact .inr (Sub.refl _)
 | .sl _,_,v,h=>by simp [tyV,List.mem_singleton]at h;subst h;exact .inr (Sub.refl _)
 | .ptr _,_,v,h=>by simp [tyV,List.mem_singleton]at h;subst h;exact .inr (Sub.refl _)
 | .unit,_,v,h=>by trivial
 | .pair a b,x,v,h=>by
  simp [tyV,List.mem_append]at h;exact h.elim (B2.tyV0 a x.1 v) (B2.tyV0 b x.2 v)
 | .osl _,x,v,h=>by
  simp [tyV,List.mem_singleton]at h;subst h;cases x with
  |none=>exact B2.dead _ _ _
  |some xs=>exact .inr (Sub.refl _)
 | .clo g t,x,v,h=>by
  simp [tyV,List.mem_singleton]at h;subst h;refine .inr ⟨_,rfl,λk hk=>?_⟩
  have hk:k<(tyV t 0 x).length:=by rw [Aq];grind
  show B2 π n ((tyV t 0 x).getD k .dead) ((tyV t 0 x).getD k .dead);rw [gDE,gEE hk];exact B2.tyV0 t x _ (List.getElem_mem hk)
theorem killP_ren{r':List Aa}{M:V->V}{h:Nat->AR->Bool}(hM:Cx M (λid q=>h id q=false))(hN: ∀id q,h id q=false->id<N)(hr: ∀id q,h id q=false->(Ab r' id q).len=(Ab r id q).len)(y:Cl):B2 (λi=>i) N (M (y.v r)) ((y.killP h).v r'):=by
 cases y with
 |dead=>exact B2.dead _ _ _
 |nil=>show B2 _ _ (M (.c _)) _;rw [hM.m.c];exact .inr (Sub.refl _)
 |nilp=>show B2 _ _ (M (.c _)) _;rw [hM.m.c];exact .inr (Sub.refl _)
 |nilf=>show B2 _ _ (M (.c _)) _;rw [hM.m.c];exact .inr (Sub.refl _)
 |c t d x=>
  have e:M (cV t d x)=cV t d x:=by
   cases t with
   |int k=>exact hM.m.c _
   |bool=>exact hM.m.c _
   |str=>exact hM.m.c _
   |sl t=>exact hM.m.nd _ _ _ _ _
   |ptr t=>exact hM.m.nd _ _ _ _ _
   |unit=>exact hM.m.dead
   |clo g u=>exact hM.m.clo
   |osl u=>exact hM.m.osl
   |pair a b=>exact hM.m.dead
  show B2 _ _ (M (cV t d x)) (cV t d x);rw [e];cases t<;>first|exact .inr (Sub.refl _)|rfl|(cases x<;>first|rfl|exact .inr (Sub.refl _))|exact B2.tyV0 (.clo _ _) x _ (List.mem_singleton.2 rfl)
 |rf id q=>
  show B2 _ _ (M (.rs id q 0 _)) ((bif h id q then Cl.dead else .rf id q).v r');cases hb:h id q with
  |true=>exact B2.dead _ _ _
  |false=>
   rw [hM.rs id q _ _ hb];refine .inr ⟨id,hN id q hb,rfl,?_⟩;show V.rs id q 0 (Ab r' id q).len=_;rw [hr id q hb]
 |rs id q off len=>
  show B2 _ _ (M (.rs id q off len)) ((bif h id q then Cl.dead else .rs id q off len).v r');cases hb:h id q with
  |true=>exact B2.dead _ _ _
  |false=>rw [hM.rs id q _ _ hb];exact .inr ⟨id,hN id q hb,rfl,rfl⟩
 |rp id q i k=>
  show B2 _ _ (M (.rp id q i k)) ((bif h id q then Cl.dead else .rp id q i k).v r');cases hb:h id q with
  |true=>exact B2.dead _ _ _
  |false=>rw [hM.rp id q _ _ hb];exact .inr ⟨id,hN id q hb,rfl,rfl⟩
theorem XK{l:List Cl}{f g:Cl->V}(hf:f .dead= .dead)(hg:g .dead= .dead)(h: ∀y,B2 (λi=>i) N (f y) (g y))(k:Nat):B2 (λi=>i) N ((l.map f).getD k .dead) ((l.map g).getD k .dead):=by grind
theorem Sl.killP_ren{r r':List Aa}{M:V->V}{h:Nat->AR->Bool}{N:Nat}(hM:Cx M (λid q=>h id q=false))(hN: ∀id q,h id q=false->id<N)(hr: ∀id q,h id q=false->(Ab r' id q).len=(Ab r id q).len)(y:Sl):B2 (λi=>i) N (M (y.v r)) ((y.killP h).v r'):=by
 have one:=Go.Ve.killP_ren hM hN hr
 have key: ∀ (l:List Cl) (k:Nat),B2 (λi=>i) N (((l.map (Cl.v r)).map M).getD k .dead) (((l.map (Cl.killP h)).map (Cl.v r')).getD k .dead):=by
  intro l k;rw [List.map_map,List.map_map];exact XK (f:=λy=>M (y.v r)) (g:=λy=>(y.killP h).v r') hM.m.dead rfl one k
 cases y with
 |one c=>exact one c
 |new l=>
  show B2 _ _ (M (A7 true (l.map Cl.v0))) (A7 true (l.map Cl.v0));rw [show M (A7 true (l.map Cl.v0))=A7 true (l.map Cl.v0)from hM.m.nd _ _ _ _ _]
  exact .inr (Sub.refl _)
 |agg l=>
  show B2 _ _ (M (Ac _)) (Ac _);rw [G_mk hM.m];exact Pw (by simp) λk _=>key l k
 |pk t l=>
  show B2 _ _ (M (pkL t _)) (pkL t _);rw [G_pk hM.m];exact YO (by simp) λk _=>key l k
 |tup l=>
  show B2 _ _ (M (C8 _)) (C8 _);rw [AaD hM.m];refine VF (by simp) λk hk=>?_
  have hk:k<l.length:=by simpa using hk
  simp only [gDE,List.getElem?_map,gEE hk,Option.map_some,Option.getD_some];generalize l[k]=p;obtain⟨b,m⟩:=p;cases b with
  |true=>
   show B2 _ _ (M (Ac (m.map (Cl.v r)))) (Ac ((m.map (Cl.killP h)).map (Cl.v r')));rw [G_mk hM.m];exact Pw (by simp) λk _=>key m k
  |false=>
   have:=key m 0;cases m with
   |nil=>show B2 _ _ (M .dead) .dead;exact B2.dead _ _ _
   |cons y m=>simpa using this
theorem Nm: ∀ (E:List (CP×V)) (i:Nat) {v v':V},Sub v v'->Sub (Dc E i v) (Dc E i v')
 | [],_,_,_,h=>h
 |a::E,i,v,v',h=>by
  refine Nm E i ?_;split
  ·exact Sub.upd _ h
  grind
def ZZ(a:CP×Nat)(y:Σ t:Ty,t.T):V:=match y with
 |⟨.sl u,xs⟩=>cV (.sl u) (a.2+1) xs
 |_=>.dead
theorem Jb: ∀ (LD:List (CP×Nat)) (ys:List (Σ t:Ty,t.T)) (r r':List Aa),CK LD ys r=some r'->r'.length=r.length/\LD.length=ys.length/\∀i,Sub (Dc ((LD.map (·.1)).zip (LD.zipWith ZZ ys)) i ((r.getD i .dead).v)) (r'.getD i .dead).v
 | [],[],r,r',h=>by cases h;exact⟨rfl,rfl,λi=>Sub.refl _⟩
 |(a,d)::LD,⟨.sl u,xs⟩::ys,r,r',h=>by
  unfold CK at h;split at h
  case h_2=>cases h
  rename_i x hx;obtain⟨h1,h2,h3⟩:=Jb LD ys _ _ h;have hlt:a.1<r.length:=by
   rcases Nat.lt_or_ge a.1 r.length with h|h
   ·exact h
   ·exact absurd (by rw [gDE,List.getElem?_eq_none h];rfl) (Kq hx)
  refine⟨by rw [h1];simp,by simp [h2],λi=>?_⟩
  show Sub (Dc ((LD.map (·.1)).zip (LD.zipWith ZZ ys)) i (if a.1=i then upd a.2 ((r.getD i .dead).v) (cV (.sl u) (d+1) xs)else(r.getD i .dead).v)) _
  refine Sub.trans (Nm _ i ?_) (h3 i);by_cases he:a.1=i
  ·subst he
   rw [if_pos rfl];have e:(r.set a.1 x).getD a.1 .dead=x:=by simp [hlt]
   rw [e];exact Vq hx
  ·rw [if_neg he]
   have e:(r.set a.1 x).getD i .dead=r.getD i .dead:=by
    grind
   rw [e];exact Sub.refl _
 | [],_::_,_,_,h=>by cases h
 |_::_,[],_,_,h=>by cases h
 |_::_,⟨.int _,_⟩::_,_,_,h=>by cases h
 |_::_,⟨.bool,_⟩::_,_,_,h=>by cases h
 |_::_,⟨.str,_⟩::_,_,_,h=>by cases h
 |_::_,⟨.unit,_⟩::_,_,_,h=>by cases h
 |_::_,⟨.ptr _,_⟩::_,_,_,h=>by cases h
 |_::_,⟨.clo _ _,_⟩::_,_,_,h=>by cases h
 |_::_,⟨.osl _,_⟩::_,_,_,h=>by cases h
 |_::_,⟨.pair _ _,_⟩::_,_,_,h=>by cases h
def lenD(y:Σ t:Ty,t.T):Nat:=match y with
 |⟨.sl _,xs⟩=>xs.length
 |_=>0
theorem Jf{x:Aa}{i j:Nat}(h:i≠j):(r.set i x).getD j .dead=r.getD j .dead:=by grind
theorem Jc{id:Nat}{q:AR}: ∀ (LD:List (CP×Nat)) (ys:List (Σ t:Ty,t.T)) (r r':List Aa),CK LD ys r=some r'->(LD.map (·.1)).Pairwise Hz->
  (∀k,k<LD.length->(LD.getD k ((0,[]),0)).1.2= []->lenD (ys.getD k ⟨.unit,()⟩)=(r.getD (LD.getD k ((0,[]),0)).1.1 .dead).len)->
  (∀a∈LD,a.1.1=id->(a.1.2= []/\q= [])\/(a.1.2≠[]/\pre (a.1.2.map (·.2)) q=false))->(Ab r' id q).len=(Ab r id q).len
 | [],[],r,r',h,_,_,_=>by cases h;rfl
 |(a,d)::LD,⟨.sl u,xs⟩::ys,r,r',h,hp,hl,hq=>by
  unfold CK at h;split at h
  case h_2=>cases h
  rename_i x hx;obtain⟨hap,hp'⟩:=List.pairwise_cons.1 hp;have hlt:a.1<r.length:=by
   rcases Nat.lt_or_ge a.1 r.length with h|h
   ·exact h
   ·exact absurd (by rw [gDE,List.getElem?_eq_none h];rfl) (Kq hx)
  rw [Jc LD ys _ _ h hp' (λk hk h0=>?_) λb hb=>hq b (mCM _ hb)]
  ·by_cases he:id=a.1
   ·subst he
    rw [BA hlt];have h0:=hq _ (List.mem_cons_self ..) rfl;refine Ou hx (λhne=>(h0.resolve_left λh=>hne h.1).2) λhn=>⟨(h0.resolve_right λh=>h.1 hn).2,?_⟩
    exact hl 0 (by simp) hn
   ·rw [Bg he]
  ·have h1:=hl (k+1) (by simpa using hk) (by simpa using h0)
   simp only [List.getD_cons_succ]at h1;rw [h1]
   have hne:a.1≠(LD.getD k ((0,[]),0)).1.1:=λe=>by
    rcases hap (LD.getD k ((0,[]),0)).1 (List.mem_map.2 ⟨_,by simp [hk],rfl⟩)with h2|h2
    ·exact h2 e
    ·rw [h0,WD]at h2;cases h2
   rw [Jf hne]
 | [],_::_,_,_,h,_,_,_=>by cases h
 |_::_,[],_,_,h,_,_,_=>by cases h
 |_::_,⟨.int _,_⟩::_,_,_,h,_,_,_=>by cases h
 |_::_,⟨.bool,_⟩::_,_,_,h,_,_,_=>by cases h
 |_::_,⟨.str,_⟩::_,_,_,h,_,_,_=>by cases h
 |_::_,⟨.unit,_⟩::_,_,_,h,_,_,_=>by cases h
 |_::_,⟨.ptr _,_⟩::_,_,_,h,_,_,_=>by cases h
 |_::_,⟨.clo _ _,_⟩::_,_,_,h,_,_,_=>by cases h
 |_::_,⟨.osl _,_⟩::_,_,_,h,_,_,_=>by cases h
 |_::_,⟨.pair _ _,_⟩::_,_,_,h,_,_,_=>by cases h
theorem L7{L:List CP}{id:Nat}{q:AR}(h:X6 L N id q=false):id<N/\∀a∈L,a.1=id->(a.2= []/\q= [])\/(a.2≠[]/\pre (a.2.map (·.2)) q=false):=by
 unfold X6 at h;simp only [Bool.or_eq_false_iff,Bool.not_eq_false']at h;refine⟨blE h.1,λa ha he=>?_⟩
 have h2:=List.any_eq_false.1 h.2 a ha;obtain⟨i,p⟩:=a;subst he;simp [Bool.true_and]at h2
 grind
theorem sc_put{t:Ty}{x:t.T}(ht:t.sc=true)(hp:s.put h (some d) (.one (.c t 0 x))=some s')(hs:AI C h.n s.den a w):AI C h.n s'.den (a.put (some d) (scV t x)) w:=by
 refine AI.put hp ?_;obtain⟨hd,hdd,D,ρ,F,hcr⟩:=hs;have hdn:d<h.n:=by
  unfold St.put at hp;simp only at hp;cases hb:Nat.blt d h.n with
  |false=>grind
  |true=>simp_all
 have e:s.den.res h (some d) ((Sl.one (.c t 0 x)).v s.r)=⟨Az s.den.t d (.c (scV t x)),s.den.σ⟩:=by
  have e1:(Sl.one (.c t 0 x)).v s.r= .c (scV t x):=Aaz ht 0 x;rw [e1];unfold Ms.res;simp only [hdn,if_true];split
  ·rfl
  ·show Ms.mk (Az s.den.t d (.c _)) (s.den.σ++ [])=_
   rw [List.append_nil]
 rw [e];have hone:(scV t x).oneCell'=true:=by cases t<;>first|rfl|cases ht
 have h1:=hcr.setv (Below.refl _ _) (r:=.c (scV t x)) (v':=scV t x) ⟨rfl,hone,λ_ h=>h⟩ (λ_ h=>h) (λ_ h=>.inl h) (λb hb=>hcr.wr.Dlt b hb) d
 refine⟨hd,λy hy=>?_,?_⟩
 ·show Az s.den.t d _ y= .dead
  unfold Az
  grind
 ·rw [Cn hdn]at h1
  exact h1
theorem Za{u:Ty}{d0:Nat}(h:dOK u d d0=true)(xs:List u.T):cV (.sl u) (d+1) xs=cV (.sl u) (d0+1) xs:=by
 have e:tyV u d=tyV u d0:=funext λz=>CJ _ _ _ z (JP h)
 show arr true u.w (tyV u d) u.dflt xs=arr true u.w (tyV u d0) u.dflt xs
 grind
theorem Vg{P:Program}{Γ:List EnW}(hΓ: ∀e∈Γ,e.OK P){C:Ctx}{h:Cg}{s s1 s':St}{o:Oper}{f:FuncId}{xs:Array Operand}{ats:Array TypeId}{a:Act}{w:World}{A:W5}{u:A.α}{d:Nat}{next:Act->World->Prop}{Q:Exit->Act->World->Prop}
  (ho:o.op= .call ⟨.value (.func f),xs,ats⟩) (hdst:o.dst=some d) (ha:ML Γ s f (xs.toList.map s.ev)=some A) (hu:A.o=some u) (hst:A.st u=some s1) (hp:s1.put h (some d) (.one (A.y u))=some s')
  (hs:AI C h.n s.den a w) (hn: ∀a' w',AI C h.n s'.den a' w'->next a' w'):o.wp P a w next Q:=by
 obtain⟨hdf,hdd,D,ρ,F,hcr⟩:=hs;unfold ML at ha;split at ha
 case h_2=>cases ha
 rename_i e he;split at ha
 case h_2=>cases ha
 rename_i z LD hz;cases hap:Ld (LD.map (·.1))with
 |false=>rw [hap]at ha;cases ha
 |true=>
 rw [hap]at ha;cases ha;have hap:=N6 hap;obtain⟨⟨hcall,hft⟩,hfe⟩:=PX hΓ he;rw [hfe]at hcall hft;have hu:e.g z=some u:=hu
 have hst:(match CK LD (wOf (Ii e.S.ps) u.2) s.r with
  |some r'=>some (⟨λi=>(s.t i).killP (X6 (LD.map (·.1)) s.r.length),r'⟩:St)
  |none=>none)=some s1:=hst
 have hp:s1.put h (some d) (.one (.c e.S.rt 0 u.1))=some s':=hp;split at hst
 case h_2=>cases hst
 rename_i r' hr';cases hst;obtain⟨hsc,hlen,hnd,hfc⟩:=hft z u hu;obtain⟨g1,g2,g3⟩:=Mx hcr.wr e.S.ps xs.toList z LD hz (λx _=>BB hcr hdd x) 0
 obtain⟨k1,k2,k3⟩:=Jb _ _ _ _ hr';have hRL:=g2.len
 -- the trees that are handed over
 have hσ0:(BD e.S.ps z 0).2.map Aa.v=(LD.map (·.1)).map λa=>sub a.2 ((s.r.map Aa.v).getD a.1 .dead):=by
  apply List.ext_getElem
  ·simp [hRL]
  ·intro k h1 h2
   have hk:k<LD.length:=by simp at h2;exact h2
   obtain⟨u',d0,ys,e1,e2,e3⟩:=g2.nd k hk;have hk':k<(BD e.S.ps z 0).2.length:=by omega
   have e1:(BD e.S.ps z 0).2[k]= .arr false u' d0 ys:=by rw [<-e1];simp [hk']
   have e4:LD.getD k ((0,[]),0)=LD[k]:=by simp [hk]
   rw [e4]at e2 e3;simp only [List.getElem_map,e1];have hne:Ab s.r LD[k].1.1 LD[k].1.2≠.dead:=by rw [e2];intro h;cases h
   rw [AP hne,e2];exact(Za e3 ys).symm
 have hσ1:(B1 (BD e.S.ps z 0).2 (wOf (Ii e.S.ps) u.2)).map Aa.v=LD.zipWith ZZ (wOf (Ii e.S.ps) u.2):=by
  apply List.ext_getElem
  ·rw [List.length_map,It _ _ hlen.symm,List.length_zipWith];omega
  ·intro k h1 h2
   have hk:k<LD.length:=by simp at h2;omega
   have hk':k<(BD e.S.ps z 0).2.length:=by omega
   obtain⟨u',d0,ys,e1,e2,e3⟩:=g2.nd k hk;have hg:=Do (BD e.S.ps z 0).2 (wOf (Ii e.S.ps) u.2) k hlen.symm hk';have hne:=hnd k hk';rw [hg]at hne;obtain⟨ro,u2,d2,xs2,ys2,f1,f2,f3⟩:=KH hne;rw [e1]at f1;cases f1;have h3:k<(B1 (BD e.S.ps z 0).2 (wOf (Ii e.S.ps) u.2)).length:=by simpa using h1
   have hy:k<(wOf (Ii e.S.ps) u.2).length:=by omega
   have f2:(wOf (Ii e.S.ps) u.2)[k]=⟨.sl u',ys2⟩:=by rw [<-f2];simp [hy]
   have f4:(B1 (BD e.S.ps z 0).2 (wOf (Ii e.S.ps) u.2))[k]= .arr false u' d0 ys2:=by
    rw [<-f3,<-hg];simp [h3]
   rw [List.getElem_map,List.getElem_zipWith,f4,f2];have e4:LD.getD k ((0,[]),0)=LD[k]:=by simp [hk]
   rw [e4]at e3;exact(Za e3 ys2).symm
 rw [hσ0,hσ1]at hfc;have hmem: ∀k,k<LD.length->LD.getD k ((0,[]),0)∈LD:=λk hk=>by simp [hk]
 have hLk: ∀k,k<LD.length->(LD.map (·.1)).getD k (0,[])=(LD.getD k ((0,[]),0)).1:=λk hk=>by simp [hk]
 have hcall2:=Ys hcr (cvs:=xs.map a.eval) (L:=LD.map (·.1)) hfc (λb hb=>by
   obtain⟨c,hc,rfl⟩:=List.mem_map.1 hb;exact g2.at' c hc) hap (by rw [List.length_zipWith,List.length_map];omega) (λk hk=>by
   have hk:k<LD.length:=by simpa using hk
   obtain⟨u',d0,ys,e1,e2,e3⟩:=g2.nd k hk;have hk':k<(BD e.S.ps z 0).2.length:=by omega
   have hg:=Do (BD e.S.ps z 0).2 (wOf (Ii e.S.ps) u.2) k hlen.symm hk';have hne:=hnd k hk';rw [hg]at hne;obtain⟨ro,u2,d2,xs2,ys2,f1,f2,f3⟩:=KH hne;rw [e1]at f1;cases f1;have hne2:Ab s.r (LD.getD k ((0,[]),0)).1.1 (LD.getD k ((0,[]),0)).1.2≠.dead:=by rw [e2];intro h;cases h
   have e5:(LD.zipWith ZZ (wOf (Ii e.S.ps) u.2)).getD k .dead=ZZ (LD.getD k ((0,[]),0)) ((wOf (Ii e.S.ps) u.2).getD k ⟨.unit,()⟩):=by
    have hy:k<(wOf (Ii e.S.ps) u.2).length:=by omega
    simp [List.getElem?_zipWith,hk,hy]
   rw [hLk k hk]
   exact⟨_,_,_,_,_,(show _=V.nd true true u'.w ys.length (λi j=>(tyV u' (LD.getD k ((0,[]),0)).2 (ys.getD i u'.dflt)).getD j .dead)from(AP hne2).trans (by rw [e2];rfl)),
    (show _=V.nd true true u'.w ys2.length (λi j=>(tyV u' (LD.getD k ((0,[]),0)).2 (ys2.getD i u'.dflt)).getD j .dead)from by rw [e5,f2];rfl)⟩) (by simp [g1]) (λρ0 F0 wr0 hval i hi=>by
   have hi:i<xs.toList.length:=by simpa [g1]using hi
   have h1:=g3 (BD e.S.ps z 0).2 ((LD.map (·.1)).map λa=>sub a.2 ((s.r.map Aa.v).getD a.1 .dead)) ρ0 (λj _=>by rw [Nat.zero_add]) (λk hk=>by
    refine⟨by simpa using hk,?_,?_⟩
    ·simp [hk]
    ·have h2:=hval k (by simpa using hk)
     rw [hLk k hk]at h2;rw [Nat.zero_add];exact h2) i hi
   have e6:((BD e.S.ps z 0).1.map (Sl.v (BD e.S.ps z 0).2)).getD i .dead=((BD e.S.ps z 0).1.getD i (.one .dead)).v (BD e.S.ps z 0).2:=Ay (f:=Sl.v _) (a:=.one .dead) rfl _ _;rw [e6];have hi':i<xs.size:=by simpa using hi
   have e7:(xs.map a.eval).getD i undef=a.eval (xs.toList.getD i (.tmp 0)):=by simp [hi']
   rw [e7];exact h1)
 have hrun:(execOp a.eval o).run P w= .ok (.enter f (xs.map a.eval)) w:=by
  unfold Aj at hcall;split at hcall
  ·rename_i fn hfn
   simp only [bAE,Bool.not_eq_true']at hcall;obtain⟨h1,h2⟩:=hcall;have h2':fn.body.isNone=false:=by cases hb:fn.body<;>simp [hb]at h2⊢
   have e0:a.eval (.func f)= .func (.func f) #[] #[]:=rfl;unfold execOp;rw [ho];simp [resolve,e0,Deferred.ofValue,invoke,callFunc,hfn,h2'];simp at h1;simp [h1];intro hb;simp [hb]at h2
  ·cases hcall
 unfold Oper.wp;rw [hrun,Oper.upon_enter];refine hcall2.mono λen w' hpost=>?_
 obtain⟨rfl,σ3,M,⟨D3,ρ3,F3,hc3⟩,hl3,hM,hσ3,hsame⟩:=hpost
 have hsr:AI C h.n (St.den ⟨λi=>(s.t i).killP (X6 (LD.map (·.1)) s.r.length),r'⟩) a w':=by
  have hlen': ∀id q,X6 (LD.map (·.1)) s.r.length id q=false->(Ab r' id q).len=(Ab s.r id q).len:=by
   intro id q hh;obtain⟨_,hoff⟩:=L7 hh;refine Jc LD _ _ _ hr' hap (λk hk h0=>?_) λb hb=>hoff b.1 (List.mem_map.2 ⟨b,hb,rfl⟩)
   obtain⟨sz,n,f1,f2,q1,q2⟩:=hsame k (by simpa using hk)
   rw [hLk k hk,h0]at q1;have hy:k<(wOf (Ii e.S.ps) u.2).length:=by omega
   have e5:(LD.zipWith ZZ (wOf (Ii e.S.ps) u.2)).getD k .dead=ZZ (LD.getD k ((0,[]),0)) ((wOf (Ii e.S.ps) u.2).getD k ⟨.unit,()⟩):=by
    simp [List.getElem?_zipWith,hk,hy]
   rw [e5]at q2;have q1:((s.r.map Aa.v).getD (LD.getD k ((0,[]),0)).1.1 .dead)= .nd true true sz n f1:=q1;rw [An]at q1
   have hr1:(s.r.getD (LD.getD k ((0,[]),0)).1.1 .dead).len=n:=by
    generalize s.r.getD (LD.getD k ((0,[]),0)).1.1 .dead=R at q1;cases R with
    |dead=>cases q1
    |obj ro l=>cases q1
    |arr ro t d xs=>cases q1;rfl
    |opt ro t d x=>cases x with
     |none=>cases q1
     |some xs=>cases q1;rfl
   have hr2:lenD ((wOf (Ii e.S.ps) u.2).getD k ⟨.unit,()⟩)=n:=by
    generalize (wOf (Ii e.S.ps) u.2).getD k ⟨.unit,()⟩=y at q2;obtain⟨ty,x⟩:=y;cases ty with
    |sl u'=>cases q2;rfl
    |_=>cases q2
   rw [hr1,hr2]
  have hperm:=hc3.perm (σ':=r'.map Aa.v) (ts':=(List.range h.n).map (St.den ⟨λi=>(s.t i).killP (X6 (LD.map (·.1)) s.r.length),r'⟩).t) (π:=λi=>i) (λi hi=>by
    rw [List.length_map,k1]at hi;have:(s.r.map Aa.v).length=s.r.length:=by simp
    have hl3:(s.r.map Aa.v).length<=σ3.length:=hl3;omega) (λ_ _ _ _ h=>h) (λi hi=>by
    have hi':i<(s.r.map Aa.v).length:=by rw [List.length_map,k1]at hi;simpa using hi
    rw [hσ3 i hi',An];have:=k3 i;have e8:(s.den.σ).getD i .dead=(s.r.getD i .dead).v:=An _ _;rw [e8];exact this) (λ_ _=>rfl) (by
    have:=hcr.ml;rw [List.length_map,k1];simpa [St.den]using this) (by simp) (λi hi=>by
    have hi:i<h.n:=by simpa using hi
    have hk:=Sl.killP_ren (r:=s.r) (r':=r') (h:=X6 (LD.map (·.1)) s.r.length) (N:=s.r.length) (M:=M) (hM.weak λid q hh=>by
     obtain⟨o1,o2⟩:=L7 hh;refine⟨by simpa [St.den]using o1,λb hb hbe=>?_⟩
     rcases o2 b hb hbe with o3|o3
     ·exact .inl o3
     ·refine .inr ⟨o3.1,?_⟩
      cases hpre:AW b.2 q with
      |false=>rfl
      |true=>rw [KB hpre]at o3;cases o3.2) (λid q hh=>(L7 hh).1) hlen' (s.t i)
    have hlr:(r'.map Aa.v).length=s.r.length:=by rw [List.length_map,k1]
    rw [hlr];simpa [hi,St.den]using hk)
  refine⟨hdf,λx hx=>?_,hperm⟩
  have h0:(s.t x).v s.r= .dead:=hdd x hx;show((s.t x).killP _).v r'= .dead;cases hy:s.t x with
  |one y=>
   rw [hy]at h0;cases y with
   |dead=>rfl
   |c t d z=>exact h0
   |nil=>cases h0
   |nilp=>cases h0
   |nilf=>cases h0
   |rf=>cases h0
   |rs=>cases h0
   |rp=>cases h0
  |new l=>rw [hy]at h0;cases h0
  |agg l=>rw [hy]at h0;cases h0
  |tup l=>rw [hy]at h0;cases h0
  |pk t l=>rw [hy]at h0;cases h0
 rw [hdst];exact hn _ _ (sc_put hsc hp hsr)
end Go.Ve


namespace Go.Ve
theorem Aaq(d:Nat)(r:List Aa)(c:Cl):(fit d c).v r=c.v r/\(fit d c).v0=c.v0:=by
 cases c with
 |c t d' x=>
  have e:fit d (.c t d' x)=bif Nat.beq (Oa d' t.dep) (Oa d t.dep)then .c t d x else .c t d' x:=rfl;rw [e];cases h:Nat.beq (Oa d' t.dep) (Oa d t.dep)with
  |false=>simp
  |true=>
   have:=bqE h;rw [H4,H4]at this;exact⟨(Ix this).symm,(Ix this).symm⟩
 |_=>trivial
def Ln(r:List Aa):List Cl->Option (List Cl×List (Option Nat))
 | []=>some ([],[])
 | .rf id []::l=>match r.getD id .dead with
  | .arr false t d xs=>match Ln r l with
   |some (m,js)=>some (.c (.sl t) (d+1) xs::m,some id::js)
   |none=>none
  |_=>none
 |y::l=>bif y.imm then(match Ln r l with
   |some (m,js)=>some (y::m,none::js)
   |none=>none)else none
def apO:List (Option Nat)->Bool
 | []=>true
 |none::l=>apO l
 |some a::l=>l.all (λb=>match b with
  |some b=>!Nat.beq a b
  |none=>true)&&apO l
def Um:List (Option Nat)->List Nat
 | []=>[]
 |none::l=>Um l
 |some a::l=>a::Um l
def tBSM(s:St)(n:Nat)(ps:List (Nat×Option Sl)):Option TI->Option LR
 |some j=>bif Nat.blt 0 j.ty.w&&Nat.ble (n*j.ty.w) 16777216 then(match QH (λi=>some (i*j.ty.w,j.ty.w)) (ZM n (HF j.ty)) ps with
   |some l=>match Ln s.r l with
    |some (m,js)=>bif apO js then(match Um js with
     | []=>none
     |_::_=>match Nq j.ty j.sd n (m.map (fit j.sd))with
      |some xs=>some ⟨True,inferInstance,Um js,.c (.sl j.ty) (j.sd+1) xs⟩
      |none=>none)else none
    |none=>none
   |none=>none)
  else none
 |none=>none
theorem WW: ∀ {l:List (Option Nat)},apO l=true->∀i k a,i<l.length->k<l.length->i≠k->l.getD i none=some a->l.getD k none≠some a
 |none::l,h,i,k,a,hi,hk,hne,h1=>by
  cases i with
  |zero=>cases h1
  |succ i=>cases k with
   |zero=>intro h2;cases h2
   |succ k=>exact WW (l:=l) h i k a (by simpa using hi) (by simpa using hk) (by omega) (by simpa using h1)
 |some b::l,h,i,k,a,hi,hk,hne,h1=>by
  simp only [apO,bAE]at h;have key: ∀k,k<l.length->l.getD k none≠some b:=by
   intro k hk h2;have h3:=aET.1 h.1 (l.getD k none) (by simp [hk])
   simp_all
  cases i with
  |zero=>
   grind
  |succ i=>cases k with
   |zero=>
    intro h2
    simp_all
   |succ k=>exact WW (l:=l) h.2 i k a (by simpa using hi) (by simpa using hk) (by omega) (by simpa using h1)
 | [],_,_,_,_,hi,_,_,_=>by simp at hi
theorem L4: ∀ {l:List (Option Nat)} {k a:Nat},k<l.length->l.getD k none=some a->a∈Um l
 |none::l,k,a,hk,h=>by
  cases k with
  |zero=>cases h
  |succ k=>exact L4 (l:=l) (by simpa using hk) (by grind)
 |some b::l,k,a,hk,h=>by
  cases k with
  |zero=>cases h;exact List.mem_cons_self ..
  |succ k=>exact mCM _ (L4 (by simpa using hk) (by grind))
 | [],_,_,hk,_=>by grind
def ownF(F:Nat->Nat->Prop):Option Nat->Nat->Prop
 |some j=>F j
 |none=>noF
structure Zf(s:St)(w:World)(D:Nat->Prop)(F:Nat->Nat->Prop)(l m:List Cl)(js:List (Option Nat))(cvs:List Value):Prop where
 ml:m.length=l.length
 jl:js.length=l.length
 ro: ∀j∈Um js,j<s.r.length/\(s.r.getD j .dead).ro=false
 rel: ∀k,k<l.length->Rel D w noR ((m.map Cl.v0).getD k .dead) (cvs.getD k undef) (ownF F (js.getD k none))
theorem Lm{s:St}{w:World}{D:Nat->Prop}{ρ:Nat->Value}{F:Nat->Nat->Prop}(wr:Bj (s.r.map Aa.v) w D ρ F): ∀ (l m:List Cl) (js:List (Option Nat)) (cvs:List Value),Ln s.r l=some (m,js)->cvs.length=l.length->
  (∀k,k<l.length->Rel D w (Ag (s.r.map Aa.v) ρ w) ((l.map (Cl.v s.r)).getD k .dead) (cvs.getD k undef) noF)->Zf s w D F l m js cvs
 | [],m,js,cvs,h,_,_=>by
  cases h;exact⟨rfl,rfl,λj hj=>(by cases hj),λk hk=>by simp at hk⟩
 |y::l,m,js,cvs,h,hl,hr=>by
  cases cvs with
  |nil=>simp at hl
  |cons cv cvs=>
  have h0:Rel D w (Ag (s.r.map Aa.v) ρ w) (y.v s.r) cv noF:=by simpa using hr 0 (by simp)
  have hrest: ∀k,k<l.length->Rel D w (Ag (s.r.map Aa.v) ρ w) ((l.map (Cl.v s.r)).getD k .dead) (cvs.getD k undef) noF:=λk hk=>by simpa using hr (k+1) (by simpa using hk)
  have imm:y.imm=true->∀m' js',Ln s.r l=some (m',js')->Zf s w D F (y::l) (y::m') (none::js') (cv::cvs):=λhimm m' js' h1=>by
   obtain⟨g1,g2,g3,g4⟩:=Lm wr l m' js' cvs h1 (by simpa using hl) hrest
   refine⟨by simp [g1],by simp [g2],g3,λk hk=>?_⟩
   cases k with
   |zero=>
    obtain⟨i1,i2⟩:=OW (r:=s.r) himm;show Rel D w noR y.v0 cv noF;rw [<-i2];exact Cs i1 h0
   |succ k=>simpa using g4 k (by simpa using hk)
  unfold Ln at h;split at h
  ·rename_i he;cases he
  ·rename_i id l' he
   cases he;split at h
   case h_2=>cases h
   rename_i t d xs hroot;split at h
   case h_2=>cases h
   rename_i m' js' h1;cases h;obtain⟨g1,g2,g3,g4⟩:=Lm wr l m' js' cvs h1 (by simpa using hl) hrest
   have hlen:(Ab s.r id []).len=xs.length:=by
    show(s.r.getD id .dead).len=_;rw [hroot];rfl
   have h0:Rel D w (Ag (s.r.map Aa.v) ρ w) (.rs id [] 0 (Ab s.r id []).len) cv noF:=h0;rw [hlen]at h0
   have hσ:(s.r.map Aa.v).getD id .dead= .nd true true t.w xs.length (λi k=>(tyV t d (xs.getD i t.dflt)).getD k .dead):=by
    rw [An,hroot];rfl
   obtain⟨_,hrr⟩:=Pt wr hσ h0.1;have hid:id<s.r.length:=by simpa using h0.1.1
   refine⟨by simp [g1],by simp [g2],λj hj=>?_,λk hk=>?_⟩
   ·rcases List.mem_cons.1 hj with rfl|hj
    ·exact⟨hid,by rw [hroot];rfl⟩
    ·exact g3 j hj
   ·cases k with
    |zero=>exact hrr
    |succ k=>simpa using g4 k (by simpa using hk)
  ·rename_i y' l' hne he
   cases he;obtain⟨hi,h⟩:=A1 h;split at h
   case h_2=>cases h
   rename_i m' js' h1;cases h;exact imm hi m' js' h1
theorem ZA{P:Program}{Θ:Tab}(hΘ:Θ.OK P){C:Ctx}{h:Cg}{s s':St}{o:Oper}{t:TypeId}{n:Nat}{ps:Array (Nat×Operand)}{a:Act}{w:World}{A:LR}{d:Nat}{next:Act->World->Prop}{Q:Exit->Act->World->Prop}
  (ho:o.op= .buildSlice t n ps) (hdst:o.dst=some d) (hfz:h.fz.contains d=false) (ha:tBSM s n (ps.toList.map λp=>(p.1,s.ev p.2)) (((Θ.look t).bind (·.elem)).bind Θ.look)=some A) (hp:(Ah A.js s).put h (some d) (.one A.y)=some s')
  (hs:AI C h.n s.den a w) (hn: ∀a' w',AI C h.n s'.den a' w'->next a' w'):o.wp P a w next Q:=by
 obtain⟨hdf,hdd,D,ρ,F,hcr⟩:=hs;unfold tBSM at ha;split at ha
 case h_2=>cases ha
 rename_i j hj;obtain⟨e,hsl,_⟩:=CV hΘ hj;obtain⟨hb,ha⟩:=A1 ha;simp only [bAE]at hb;have hw:=Kf hb.1;have hnw:=blE hb.2;split at ha
 case h_2=>cases ha
 rename_i l hl;split at ha
 case h_2=>cases ha
 rename_i m js hm;obtain⟨hap,ha⟩:=A1 ha;split at ha
 ·cases ha
 rename_i j0 jr hjs;split at ha
 case h_2=>cases ha
 rename_i xs hxs;cases ha;obtain⟨h1,h2⟩:=Lr _ _ _ hl;rw [VE s.r j.ty n hw]at h2
 have hparts:Lf s.den.σ w D ρ F (ps.toList.map λp=>(p.1,s.den.ev p.2)) (ps.toList.map λp=>(p.1,a.eval p.2)):=by
  refine⟨by simp,λk i v hk=>?_⟩
  simp only [List.getElem?_map]at hk⊢;cases hq:ps.toList[k]? with
  |none=>simp [hq]at hk
  |some q=>
   simp only [hq,Option.map_some,Option.some.injEq,Prod.mk.injEq]at hk⊢;obtain⟨rfl,rfl⟩:=hk;exact⟨_,⟨rfl,rfl⟩,noF,BB hcr hdd q.2,λ_ h=>h.elim,λ_ _ _ h=>h⟩
 obtain⟨cs',hrun,hrel,hll⟩:=bs_run (P:=P) ho hparts hsl h1 hw hnw h2;have hlen:l.length=n*j.ty.w:=by simpa using hll
 obtain⟨g1,g2,g3,g4⟩:=Lm hcr.wr l m js cs'.toList hm (by have:=hrel.1;simp at this;simpa using this) (λk hk=>by
  have:=hrel.2 k (by simpa using hk)
  simpa [St.den]using this)
 obtain⟨p1,p2,p3⟩:=OE s.r n _ xs hxs
 have hfitv: ∀k,((m.map (fit j.sd)).map (Cl.v s.r)).getD k .dead=(m.map Cl.v0).getD k .dead:=by
  intro k;rw [p2,List.map_map]
  congr 1
  exact List.map_congr_left λy _=>(Aaq _ s.r y).2
 let Fy:Nat->Nat->Nat->Prop:=λi k=>ownF F (js.getD (i*j.ty.w+k) none)
 have hFy: ∀i k b,Fy i k b->∃q,js.getD (i*j.ty.w+k) none=some q/\F q b:=by
  intro i k b hb;simp only [Fy]at hb;cases hq:js.getD (i*j.ty.w+k) none with
  |none=>rw [hq]at hb;exact hb.elim
  |some q=>rw [hq]at hb;exact⟨q,rfl,hb⟩
 have hcell: ∀i k,i<n->k<j.ty.w->i*j.ty.w+k<l.length:=λi k hi hk=>by rw [hlen];exact P5 hi hk
 have hG: ∀i k b,i<n->k<j.ty.w->Fy i k b->∃q∈Um js,F q b:=by
  intro i k b hi hk hb;obtain⟨q,hq,hb⟩:=hFy i k b hb;exact⟨q,L4 (by rw [g2];exact hcell i k hi hk) hq,hb⟩
 have hblk:(w.alloc (.cells cs' e)).heap[w.heap.size]? =some (.cells cs' e (0,0)):=heap_alloc_new w _;have hsame: ∀b,b<w.heap.size->(w.alloc (.cells cs' e)).heap[b]? =w.heap[b]?:=λb hb=>Below.heap_alloc _ _ _ hb
 have hsz:cs'.size=n*j.ty.w:=by rw [hrel.1];exact hll
 have hr:Rel D (w.alloc (.cells cs' e)) noR (.nd true true j.ty.w n λi k=>(m.map Cl.v0).getD (i*j.ty.w+k) .dead) (.slice (some ⟨w.heap.size,0,none⟩) n n) (λb=>b=w.heap.size\/∃i k,i<n/\k<j.ty.w/\Fy i k b):=by
  refine .inr ⟨w.heap.size,0,n,Fy,rfl,Nat.le_refl _,?_,(λh=>by cases h),λi k hi hk=>?_,(λh=>by cases h),λ_=>⟨⟨cs',e,.plain hblk,by rw [hsz,Nat.zero_add];exact Nat.le_refl _⟩,λi k hi hk hF=>?_,λi k i' k' b hi hk hi' hk' hne hF hF'=>?_,λ_=>Iff.rfl⟩⟩
  ·have:=Nat.le_mul_of_pos_right n hw;unfold maxLen;omega
  ·have hlt:=hcell i k hi hk
   refine⟨cs'.getD (i*j.ty.w+k) undef,?_,?_⟩
   ·rw [cellRow hblk,Nat.zero_add]
    have:i*j.ty.w+k<cs'.size:=by rw [hsz,<-hlen];exact hlt
    simp [this]
   ·have h5:=g4 _ hlt
    have h6:Rel D w noR ((m.map Cl.v0).getD (i*j.ty.w+k) .dead) (cs'.getD (i*j.ty.w+k) undef) (Fy i k):=by
     show Rel D w noR _ _ (ownF F (js.getD (i*j.ty.w+k) none));simpa using h5
    refine Rel.mono (λ_ h=>h) (λ_ _ h=>h) _ _ _ (λb hb=>hsame b ?_) h6
    rcases hb with hb|hb
    ·exact hcr.wr.Dlt b hb
    ·exact Rel.lt _ _ _ h6 b hb
  ·obtain⟨q,_,hq⟩:=hG i k _ hi hk hF
   have:=hcr.wr.lt q _ hq;omega
  ·obtain⟨q,hq,hF⟩:=hFy i k b hF
   obtain⟨q',hq',hF'⟩:=hFy i' k' b hF';have hne2:i*j.ty.w+k≠i'*j.ty.w+k':=by
    intro he;have e1:=congrArg (· /j.ty.w) he
    have e2:=congrArg (· % j.ty.w) he
    simp only [JE hk,JE hk',JD hk,JD hk']at e1 e2;omega
   have:=WW hap _ _ q (by rw [g2];exact hcell i k hi hk) (by rw [g2];exact hcell i' k' hi' hk') hne2 hq
   exact hcr.wr.disj q q' b (λe=>this (by rw [hq',e])) hF hF'
 obtain⟨F',hcr',hF'⟩:=Cu (Um js) hcr (λq hq=>(g3 q hq).1)
 have hr2:Rel D (w.alloc (.cells cs' e)) noR (cV (.sl j.ty) (j.sd+1) xs) (.slice (some ⟨w.heap.size,0,none⟩) n n) (λb=>b=w.heap.size\/∃i k,i<n/\k<j.ty.w/\Fy i k b):=by
  refine Rel.sub ?_ hr;show Sub _ (V.nd true true j.ty.w xs.length λi k=>(tyV j.ty j.sd (xs.getD i j.ty.dflt)).getD k .dead)
  rw [p1];refine⟨_,rfl,λi k hi hk=>?_⟩
  have:=p3 i k hi hk;rw [hfitv]at this;exact this
 have hfpG: ∀b,(b=w.heap.size\/∃i k,i<n/\k<j.ty.w/\Fy i k b)->(∃q∈Um js,F q b)\/w.heap.size<=b:=by
  rintro b (rfl|⟨i,k,hi,hk,hF⟩)
  ·exact .inr (Nat.le_refl _)
  ·exact .inl (hG i k b hi hk hF)
 have hc:=CR.own hcr' (w':=w.alloc (.cells cs' e)) (G:=λb=>∃q∈Um js,F q b) (D':=D) (λi b hb ⟨q,hq,hFq⟩=>by
   obtain⟨h1,h2⟩:=hF' i b hb;exact hcr.wr.disj i q b (λe=>h2 (e▸hq)) h1 hFq) (λb hb ⟨q,_,hFq⟩=>hcr.wr.dD q b hFq hb) (λb ⟨q,_,hFq⟩=>hcr.Fn q b hFq) rfl rfl rfl (Nat.le_refl _) (by simp) (λc hc _=>hsame c hc) hr2 hfpG
  (λ_ h=>h) (λ_ h=>.inl h) (λb hb=>⟨by have:=hcr.wr.Dlt b hb;simp;omega,λh=>by
   rcases hfpG b h with⟨q,_,hFq⟩|h2
   ·exact hcr.wr.dD q b hFq hb
   ·have:=hcr.wr.Dlt b hb;omega⟩) d
 have hs':=V1 (h:=h) hdf (B6 (Um js) hdd) hfz hp hc;unfold Oper.wp;rw [hrun];show next (a.put o.dst _) _
 rw [hdst];exact hn _ _ hs'
end Go.Ve

