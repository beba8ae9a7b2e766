/- The typed machine: calls of functions that write their owned arguments. -/
import Derived.Test.YtgobokfkomalhaaTy
import Derived.Test.YtgobokfkomalhaaTd
namespace Go.Ve
variable{p:A1}{r r':Ae}{A B:List (Oc×Nat)}{σ σ0:List V}{d m:Nat}{ρ ρ0:Nat->Value}{s:St}{u:Ty}{w:World}
def Ys(s:St)(dep:Nat):Cl->Option (Cl×List (Oc×Nat))
 | .c t _ x=>bif t.sc then some (.c t dep x,[])else none
 | .rf id p=>match Ag s.r id p with
  | .arr false u d xs=>match dep with
   |d0+1=>bif dOK u d d0 then some (.c (.sl u) (d0+1) xs,[((id,p),d)])else none
   |0=>none
  |_=>none
 |_=>none
def Yr(s:St)(dep:Nat):List Cl->Option (List Cl×List (Oc×Nat))
 | []=>some ([],[])
 |y::l=>match Ys s dep y with
  |some (c,a)=>match Yr s dep l with
   |some (cs,b)=>some (c::cs,a++b)
   |none=>none
  |none=>none
def Zf(t:Ty)(dep:Nat):List Cl->Option (t.T×List Cl)
 | .c t' d x::l=>if h:t'=t then(bif Nat.beq d dep then some (h▸x,l)else none)else none
 |_=>none
def unC:(t:Ty)->Nat->List Cl->Option (t.T×List Cl)
 | .unit,_,l=>some ((),l)
 | .pair a b,d,l=>match unC a d l with
  |some (x,l)=>match unC b d l with
   |some (y,l)=>some ((x,y),l)
   |none=>none
  |none=>none
 | .int k,d,l=>Zf (.int k) d l
 | .bool,d,l=>Zf .bool d l
 | .str,d,l=>Zf .str d l
 | .sl t,d,l=>Zf (.sl t) d l
 | .ptr t,d,l=>Zf (.ptr t) d l
 | .clo g t,d,l=>Zf (.clo g t) d l
 | .osl t,d,l=>Zf (.osl t) d l
def wArgD(s:St)(p:WP):Option Sl->Option (p.2.2.T×List (Oc×Nat))
 |some (.agg l)=>bif p.1&&p.2.1 then(match Yr s p.2.2.dep l with
  |some (cs,a)=>match unC p.2.2 p.2.2.dep cs with
   |some (x,[])=>some (x,a)
   |_=>none
  |none=>none)else none
 |some (.one y)=>bif p.2.1 then none else bif p.1 then(match Ys s p.2.2.dep y with
   |some (c,a)=>match unC p.2.2 p.2.2.dep [c]with
    |some (x,[])=>some (x,a)
    |_=>none
   |none=>none)
  else(match y with
   | .c t' _ x=>if h:t'=p.2.2 then(bif t'.sc then some (h▸x,[])else none)else none
   |_=>none)
 |_=>none
def Yt(s:St):(ps:List WP)->List (Option Sl)->Option ((PTW ps).T×List (Oc×Nat))
 | [],[]=>some ((),[])
 | [p],[y]=>wArgD s p y
 |p::q::l,y::ys=>match wArgD s p y with
  |some (x,a)=>match Yt s (q::l) ys with
   |some (z,b)=>some ((x,z),a++b)
   |none=>none
  |none=>none
 |_,_=>none
def WO:List Oc->Bool
 | []=>true
 |a::l=>l.all (λb=>!Nat.beq a.1 b.1||dvP a.2 b.2)&&WO l
def Wc:A1->Option (A1×Nat×Nat)
 | []=>none
 |(i,k)::q=>match Wc q with
  |none=>some ([],i,k)
  |some (p0,j,l)=>some ((i,k)::p0,j,l)
def Ae.setPath(r:Ae)(p:A1)(u:Ty)(d:Nat)(xs:List u.T):Option Ae:=match Wc p with
 |none=>match r with
  | .arr false _ _ _=>some (.arr false u d xs)
  |_=>none
 |some (p0,i,k)=>r.setAt p0 i k (.c (.sl u) (d+1) xs)
def D8:List (Oc×Nat)->List (Σ t:Ty,t.T)->List Ae->Option (List Ae)
 | [],[],r=>some r
 |(a,d)::L,⟨.sl u,xs⟩::ys,r=>match(r.getD a.1 .dead).setPath a.2 u d xs with
  |some x=>D8 L ys (r.set a.1 x)
  |none=>none
 |_,_,_=>none
def Cl.killP(h:Nat->A1->Bool):Cl->Cl
 | .rf id q=>bif h id q then .dead else .rf id q
 | .rs id q off len=>bif h id q then .dead else .rs id q off len
 | .rp id q i k=>bif h id q then .dead else .rp id q i k
 |y=>y
def Sl.killP(h:Nat->A1->Bool):Sl->Sl
 | .one y=>.one (y.killP h)
 | .new l=>.new l
 | .agg l=>.agg (l.map (Cl.killP h))
 | .tup l=>.tup (l.map λp=>(p.1,p.2.map (Cl.killP h)))
 | .pk t l=>.pk t (l.map (Cl.killP h))
def hitW(L:List Oc)(N:Nat)(id:Nat)(q:A1):Bool:=!Nat.blt id N||L.any λa=>Nat.beq a.1 id&&(match a.2 with
 | []=>(match q with
  | []=>false
  |_::_=>true)
 |b::p=>pre ((b::p).map (·.2)) q)
structure W1 where
 α:Type
 o:Option α
 st:α->Option St
 y:α->Cl
def MT(Γ:List EnW)(s:St)(f:FuncId)(xs:List (Option Sl)):Option W1:=match V5 Γ f with
 |some e=>match Yt s e.S.ps xs with
  |some (z,LD)=>bif WO (LD.map (·.1))then
    some ⟨e.S.rt.T×(wty (tysW e.S.ps)).T,e.g z,λu=>match D8 LD (wOf (tysW e.S.ps) u.2) s.r with
     |some r'=>some ⟨λi=>(s.t i).killP (hitW (LD.map (·.1)) s.r.length),r'⟩
     |none=>none,λu=>.c e.S.rt 0 u.1⟩else none
  |none=>none
 |none=>none
theorem L7: ∀ {p:A1},(Wc p=none->p= [])/\∀p0 i k,Wc p=some (p0,i,k)->p=p0++ [(i,k)]
 | []=>⟨λ_=>rfl,λ_ _ _ h=>by cases h⟩
 |(i,k)::q=>by
  obtain⟨h1,h2⟩:=L7 (p:=q);unfold Wc
  grind
theorem Vk{xs:List u.T}(h:r.setPath p u d xs=some r'):Sub (upd p r.v (cV (.sl u) (d+1) xs)) r'.v:=by
 unfold Ae.setPath at h;split at h
 ·rename_i hp
  rw [L7.1 hp];split at h
  ·cases h;exact Sub.refl _
  grind
 ·rename_i p0 i k hp
  rw [L7.2 _ _ _ hp];exact LA p0 r r' h
theorem QD{xs:List u.T}(h:r.setPath p u d xs=some r'):r≠.dead:=by
 unfold Ae.setPath at h;split at h
 ·grind
 ·exact LB h
structure WOK(s:St)(σ:List V)(ρ:Nat->Value)(w:World)(LD:List (Oc×Nat))(R:List Ae):Prop where
 len:R.length=LD.length
 nd: ∀k,k<LD.length->∃u d0 xs,R.getD k .dead= .arr false u d0 xs/\Ag s.r (LD.getD k ((0,[]),0)).1.1 (LD.getD k ((0,[]),0)).1.2= .arr false u (LD.getD k ((0,[]),0)).2 xs/\dOK u (LD.getD k ((0,[]),0)).2 d0=true
 at': ∀a∈LD,a.1.1<σ.length/\∃sz n f c,At w a.1.2 (σ.getD a.1.1 .dead) (ρ a.1.1) (.nd true true sz n f) c
theorem WOK.app{R S:List Ae}(h:WOK s σ ρ w A R)(h':WOK s σ ρ w B S):WOK s σ ρ w (A++B) (R++S):=by
 refine⟨by simp [h.len,h'.len],λk hk=>?_,λa ha=>?_⟩
 ·by_cases hkA:k<A.length
  ·have e1:(A++B).getD k ((0,[]),0)=A.getD k ((0,[]),0):=by grind
   have e2:(R++S).getD k .dead=R.getD k .dead:=by
    have:k<R.length:=by rw [h.len];exact hkA
    simp [gAL this]
   rw [e1,e2];exact h.nd k hkA
  ·have e1:(A++B).getD k ((0,[]),0)=B.getD (k-A.length) ((0,[]),0):=by
    grind
   have e2:(R++S).getD k .dead=S.getD (k-A.length) .dead:=by
    simp only [gDE];rw [gAR (by rw [h.len];omega),h.len]
   rw [e1,e2];exact h'.nd _ (by simp at hk;omega)
 ·rcases List.mem_append.1 ha with ha|ha
  ·exact h.at' a ha
  ·exact h'.at' a ha
def AaO(s:St)(σ:List V)(ρ:Nat->Value)(w:World)(LD:List (Oc×Nat))(m:Nat)(σ0:List V)(ρ0:Nat->Value):Prop:=
 ∀k,k<LD.length->m+k<σ0.length/\σ0.getD (m+k) .dead=sub (LD.getD k ((0,[]),0)).1.2 (σ.getD (LD.getD k ((0,[]),0)).1.1 .dead)/\
  At w (LD.getD k ((0,[]),0)).1.2 (σ.getD (LD.getD k ((0,[]),0)).1.1 .dead) (ρ (LD.getD k ((0,[]),0)).1.1) (sub (LD.getD k ((0,[]),0)).1.2 (σ.getD (LD.getD k ((0,[]),0)).1.1 .dead)) (ρ0 (m+k))
theorem AaO.left(h:AaO s σ ρ w (A++B) m σ0 ρ0):AaO s σ ρ w A m σ0 ρ0:=by
 intro k hk;have:=h k (by grind)
 grind
theorem AaO.right(h:AaO s σ ρ w (A++B) m σ0 ρ0):AaO s σ ρ w B (m+A.length) σ0 ρ0:=by
 intro k hk;have:=h (A.length+k) (by simp_all)
 have e1:(A++B).getD (A.length+k) ((0,[]),0)=B.getD k ((0,[]),0):=by
  simp_all
 grind
section
variable {s:St} {ρ:Nat->Value} {w:World} {D:Nat->Prop} {F:Nat->Nat->Prop}
end
end Go.Ve


namespace Go.Ve
section
variable {s:St} {ρ:Nat->Value} {w:World} {D:Nat->Prop} {F:Nat->Nat->Prop}
end
theorem Hm.tyV0{π:Nat->Nat}{n:Nat}: ∀ (t:Ty) (x:t.T),∀v∈tyV t 0 x,Hm π n v v
 | .int _,_,v,h=>by simp [tyV]at h;subst h;exact .inr (Sub.refl _)
 | .bool,_,v,h=>by simp [tyV]at h;subst h;exact .inr (Sub.refl _)
 | .str,_,v,h=>by simp [tyV]at h;subst h;exact .inr (Sub.refl _)
 | .sl _,_,v,h=>by simp [tyV,List.mem_singleton]at h;subst h;exact .inr (Sub.refl _)
 | .ptr _,_,v,h=>by simp [tyV,List.mem_singleton]at h;subst h;exact .inr (Sub.refl _)
 | .unit,_,v,h=>by trivial
 | .pair a b,x,v,h=>by
  simp [tyV,List.mem_append]at h;exact h.elim (Hm.tyV0 a x.1 v) (Hm.tyV0 b x.2 v)
 | .osl _,x,v,h=>by
  simp [tyV,List.mem_singleton]at h;subst h;cases x with
  |none=>exact Hm.dead _ _ _
  |some xs=>exact .inr (Sub.refl _)
 | .clo g t,x,v,h=>by
  simp [tyV,List.mem_singleton]at h;subst h;refine .inr ⟨_,rfl,λk hk=>?_⟩
  have hk:k<(tyV t 0 x).length:=by rw [AA];grind
  show Hm π n ((tyV t 0 x).getD k .dead) ((tyV t 0 x).getD k .dead);rw [gDE,gEE hk];exact Hm.tyV0 t x _ (List.getElem_mem hk)
theorem Nx: ∀ (E:List (Oc×V)) (i:Nat) {v v':V},Sub v v'->Sub (VN E i v) (VN E i v')
 | [],_,_,_,h=>h
 |a::E,i,v,v',h=>by
  refine Nx E i ?_;split
  ·exact Sub.upd _ h
  grind
def newV(a:Oc×Nat)(y:Σ t:Ty,t.T):V:=match y with
 |⟨.sl u,xs⟩=>cV (.sl u) (a.2+1) xs
 |_=>.dead
theorem MZ: ∀ (LD:List (Oc×Nat)) (ys:List (Σ t:Ty,t.T)) (r r':List Ae),D8 LD ys r=some r'->r'.length=r.length/\LD.length=ys.length/\∀i,Sub (VN ((LD.map (·.1)).zip (LD.zipWith newV ys)) i ((r.getD i .dead).v)) (r'.getD i .dead).v
 | [],[],r,r',h=>by cases h;exact⟨rfl,rfl,λi=>Sub.refl _⟩
 |(a,d)::LD,⟨.sl u,xs⟩::ys,r,r',h=>by
  unfold D8 at h;split at h
  case h_2=>cases h
  rename_i x hx;obtain⟨h1,h2,h3⟩:=MZ LD ys _ _ h;have hlt:a.1<r.length:=by
   rcases Nat.lt_or_ge a.1 r.length with h|h
   ·exact h
   ·exact absurd (by rw [gDE,List.getElem?_eq_none h];rfl) (QD hx)
  refine⟨by rw [h1];simp,by simp [h2],λi=>?_⟩
  show Sub (VN ((LD.map (·.1)).zip (LD.zipWith newV ys)) i (if a.1=i then upd a.2 ((r.getD i .dead).v) (cV (.sl u) (d+1) xs)else(r.getD i .dead).v)) _
  refine Sub.trans (Nx _ i ?_) (h3 i);by_cases he:a.1=i
  ·subst he
   rw [if_pos rfl];have e:(r.set a.1 x).getD a.1 .dead=x:=by simp [hlt]
   rw [e];exact Vk hx
  ·rw [if_neg he]
   have e:(r.set a.1 x).getD i .dead=r.getD i .dead:=by
    grind
   rw [e];exact Sub.refl _
 | [],_::_,_,_,h=>by cases h
 |_::_,[],_,_,h=>by cases h
 |_::_,⟨.int _,_⟩::_,_,_,h=>by cases h
 |_::_,⟨.bool,_⟩::_,_,_,h=>by cases h
 |_::_,⟨.str,_⟩::_,_,_,h=>by cases h
 |_::_,⟨.unit,_⟩::_,_,_,h=>by cases h
 |_::_,⟨.ptr _,_⟩::_,_,_,h=>by cases h
 |_::_,⟨.clo _ _,_⟩::_,_,_,h=>by cases h
 |_::_,⟨.osl _,_⟩::_,_,_,h=>by cases h
 |_::_,⟨.pair _ _,_⟩::_,_,_,h=>by cases h
theorem LE{r:List Ae}{x:Ae}{i j:Nat}(h:i≠j):(r.set i x).getD j .dead=r.getD j .dead:=by grind
theorem U8{P:Program}{Γ:List EnW}(hΓ: ∀e∈Γ,e.OK P){C:Ctx}{h:Cz}{s s1 s':St}{o:Oper}{f:FuncId}{xs:Array Operand}{ats:Array TypeId}{a:Act}{w:World}{A:W1}{u:A.α}{d:Nat}{next:Act->World->Prop}{Q:Exit->Act->World->Prop}
  (ho:o.op= .call ⟨.value (.func f),xs,ats⟩) (hdst:o.dst=some d) (ha:MT Γ s f (xs.toList.map s.ev)=some A) (hu:A.o=some u) (hst:A.st u=some s1) (hp:s1.put h (some d) (.one (A.y u))=some s')
  (hs:AX C h.n s.den a w) (hn: ∀a' w',AX C h.n s'.den a' w'->next a' w'):o.wp P a w next Q:=by
 unfold MT at ha;split at ha
 ·rename_i e he
  exact(PO hΓ he).1.elim
 ·cases ha
end Go.Ve


namespace Go.Ve
theorem Aao(d:Nat)(r:List Ae)(c:Cl):(fit d c).v r=c.v r/\(fit d c).v0=c.v0:=by
 cases c with
 |c t d' x=>
  have e:fit d (.c t d' x)=bif Nat.beq (Od d' t.dep) (Od d t.dep)then .c t d x else .c t d' x:=rfl;rw [e];cases h:Nat.beq (Od d' t.dep) (Od d t.dep)with
  |false=>simp
  |true=>
   have:=bqE h;rw [Im,Im]at this;exact⟨(IK this).symm,(IK this).symm⟩
 |_=>trivial
def Ln(r:List Ae):List Cl->Option (List Cl×List (Option Nat))
 | []=>some ([],[])
 | .rf id []::l=>match r.getD id .dead with
  | .arr false t d xs=>match Ln r l with
   |some (m,js)=>some (.c (.sl t) (d+1) xs::m,some id::js)
   |none=>none
  |_=>none
 |y::l=>bif y.imm then(match Ln r l with
   |some (m,js)=>some (y::m,none::js)
   |none=>none)else none
def apO:List (Option Nat)->Bool
 | []=>true
 |none::l=>apO l
 |some a::l=>l.all (λb=>match b with
  |some b=>!Nat.beq a b
  |none=>true)&&apO l
def Q9:List (Option Nat)->List Nat
 | []=>[]
 |none::l=>Q9 l
 |some a::l=>a::Q9 l
def tBSM(s:St)(n:Nat)(ps:List (Nat×Option Sl)):Option TI->Option LR
 |some j=>bif Nat.blt 0 j.ty.w&&Nat.ble (n*j.ty.w) 16777216 then(match Qv (λi=>some (i*j.ty.w,j.ty.w)) (ZN n (H0 j.ty)) ps with
   |some l=>match Ln s.r l with
    |some (m,js)=>bif apO js then(match Q9 js with
     | []=>none
     |_::_=>match NB j.ty j.sd n (m.map (fit j.sd))with
      |some xs=>some ⟨True,inferInstance,Q9 js,.c (.sl j.ty) (j.sd+1) xs⟩
      |none=>none)else none
    |none=>none
   |none=>none)
  else none
 |none=>none
theorem WR: ∀ {l:List (Option Nat)},apO l=true->∀i k a,i<l.length->k<l.length->i≠k->l.getD i none=some a->l.getD k none≠some a
 |none::l,h,i,k,a,hi,hk,hne,h1=>by
  cases i with
  |zero=>cases h1
  |succ i=>cases k with
   |zero=>intro h2;cases h2
   |succ k=>exact WR (l:=l) h i k a (by simpa using hi) (by simpa using hk) (by omega) (by simpa using h1)
 |some b::l,h,i,k,a,hi,hk,hne,h1=>by
  simp only [apO,bAE]at h;have key: ∀k,k<l.length->l.getD k none≠some b:=by
   intro k hk h2;have h3:=aET.1 h.1 (l.getD k none) (by simp [hk])
   simp_all
  cases i with
  |zero=>
   grind
  |succ i=>cases k with
   |zero=>
    intro h2
    simp_all
   |succ k=>exact WR (l:=l) h.2 i k a (by simpa using hi) (by simpa using hk) (by omega) (by simpa using h1)
 | [],_,_,_,_,hi,_,_,_=>by simp at hi
theorem L8: ∀ {l:List (Option Nat)} {k a:Nat},k<l.length->l.getD k none=some a->a∈Q9 l
 |none::l,k,a,hk,h=>by
  cases k with
  |zero=>cases h
  |succ k=>exact L8 (l:=l) (by simpa using hk) (by grind)
 |some b::l,k,a,hk,h=>by
  cases k with
  |zero=>cases h;exact List.mem_cons_self ..
  |succ k=>exact mCM _ (L8 (by simpa using hk) (by grind))
 | [],_,_,hk,_=>by grind
def ownF(F:Nat->Nat->Prop):Option Nat->Nat->Prop
 |some j=>F j
 |none=>noF
structure Zb(s:St)(w:World)(D:Nat->Prop)(F:Nat->Nat->Prop)(l m:List Cl)(js:List (Option Nat))(cvs:List Value):Prop where
 ml:m.length=l.length
 jl:js.length=l.length
 ro: ∀j∈Q9 js,j<s.r.length/\(s.r.getD j .dead).ro=false
 rel: ∀k,k<l.length->Rel D w noR ((m.map Cl.v0).getD k .dead) (cvs.getD k undef) (ownF F (js.getD k none))
theorem Lm{s:St}{w:World}{D:Nat->Prop}{ρ:Nat->Value}{F:Nat->Nat->Prop}(wr:BH (s.r.map Ae.v) w D ρ F): ∀ (l m:List Cl) (js:List (Option Nat)) (cvs:List Value),Ln s.r l=some (m,js)->cvs.length=l.length->
  (∀k,k<l.length->Rel D w (Av (s.r.map Ae.v) ρ w) ((l.map (Cl.v s.r)).getD k .dead) (cvs.getD k undef) noF)->Zb s w D F l m js cvs
 | [],m,js,cvs,h,_,_=>by
  cases h;exact⟨rfl,rfl,λj hj=>(by cases hj),λk hk=>by simp at hk⟩
 |y::l,m,js,cvs,h,hl,hr=>by
  cases cvs with
  |nil=>simp at hl
  |cons cv cvs=>
  have h0:Rel D w (Av (s.r.map Ae.v) ρ w) (y.v s.r) cv noF:=by simpa using hr 0 (by simp)
  have hrest: ∀k,k<l.length->Rel D w (Av (s.r.map Ae.v) ρ w) ((l.map (Cl.v s.r)).getD k .dead) (cvs.getD k undef) noF:=λk hk=>by simpa using hr (k+1) (by simpa using hk)
  have imm:y.imm=true->∀m' js',Ln s.r l=some (m',js')->Zb s w D F (y::l) (y::m') (none::js') (cv::cvs):=λhimm m' js' h1=>by
   obtain⟨g1,g2,g3,g4⟩:=Lm wr l m' js' cvs h1 (by simpa using hl) hrest
   refine⟨by simp [g1],by simp [g2],g3,λk hk=>?_⟩
   cases k with
   |zero=>
    obtain⟨i1,i2⟩:=OW (r:=s.r) himm;show Rel D w noR y.v0 cv noF;rw [<-i2];exact CH i1 h0
   |succ k=>simpa using g4 k (by simpa using hk)
  unfold Ln at h;split at h
  ·rename_i he;cases he
  ·rename_i id l' he
   cases he;split at h
   case h_2=>cases h
   rename_i t d xs hroot;split at h
   case h_2=>cases h
   rename_i m' js' h1;cases h;obtain⟨g1,g2,g3,g4⟩:=Lm wr l m' js' cvs h1 (by simpa using hl) hrest
   have hlen:(Ag s.r id []).len=xs.length:=by
    show(s.r.getD id .dead).len=_;rw [hroot];rfl
   have h0:Rel D w (Av (s.r.map Ae.v) ρ w) (.rs id [] 0 (Ag s.r id []).len) cv noF:=h0;rw [hlen]at h0
   have hσ:(s.r.map Ae.v).getD id .dead= .nd true true t.w xs.length (λi k=>(tyV t d (xs.getD i t.dflt)).getD k .dead):=by
    rw [AG,hroot];rfl
   obtain⟨_,hrr⟩:=Pp wr hσ h0.1;have hid:id<s.r.length:=by simpa using h0.1.1
   refine⟨by simp [g1],by simp [g2],λj hj=>?_,λk hk=>?_⟩
   ·rcases List.mem_cons.1 hj with rfl|hj
    ·exact⟨hid,by rw [hroot];rfl⟩
    ·exact g3 j hj
   ·cases k with
    |zero=>exact hrr
    |succ k=>simpa using g4 k (by simpa using hk)
  ·rename_i y' l' hne he
   cases he;cases hi:y.imm with
   |false=>rw [hi]at h;cases h
   |true=>
    rw [hi]at h;simp only [cond_true]at h;split at h
    case h_2=>cases h
    rename_i m' js' h1;cases h;exact imm hi m' js' h1
theorem Zy{P:Program}{Θ:Tab}(hΘ:Θ.OK P){C:Ctx}{h:Cz}{s s':St}{o:Oper}{t:TypeId}{n:Nat}{ps:Array (Nat×Operand)}{a:Act}{w:World}{A:LR}{d:Nat}{next:Act->World->Prop}{Q:Exit->Act->World->Prop}
  (ho:o.op= .buildSlice t n ps) (hdst:o.dst=some d) (hfz:h.fz.contains d=false) (ha:tBSM s n (ps.toList.map λp=>(p.1,s.ev p.2)) (((Θ.look t).bind (·.elem)).bind Θ.look)=some A) (hp:(Ao A.js s).put h (some d) (.one A.y)=some s')
  (hs:AX C h.n s.den a w) (hn: ∀a' w',AX C h.n s'.den a' w'->next a' w'):o.wp P a w next Q:=by
 obtain⟨hdf,hdd,D,ρ,F,hcr⟩:=hs;unfold tBSM at ha;split at ha
 case h_2=>cases ha
 rename_i j hj;obtain⟨e,hsl,_⟩:=C9 hΘ hj;cases hb:(Nat.blt 0 j.ty.w&&Nat.ble (n*j.ty.w) 16777216)with
 |false=>rw [hb]at ha;cases ha
 |true=>
 rw [hb]at ha;simp only [cond_true]at ha;simp only [bAE]at hb;have hw:=Kj hb.1;have hnw:=blE hb.2;split at ha
 case h_2=>cases ha
 rename_i l hl;split at ha
 case h_2=>cases ha
 rename_i m js hm;cases hap:apO js with
 |false=>rw [hap]at ha;cases ha
 |true=>
 rw [hap]at ha;simp only [cond_true]at ha;split at ha
 ·cases ha
 rename_i j0 jr hjs;split at ha
 case h_2=>cases ha
 rename_i xs hxs;cases ha;obtain⟨h1,h2⟩:=Lr _ _ _ hl;rw [Vy s.r j.ty n hw]at h2
 have hparts:Lg s.den.σ w D ρ F (ps.toList.map λp=>(p.1,s.den.ev p.2)) (ps.toList.map λp=>(p.1,a.eval p.2)):=by
  refine⟨by simp,λk i v hk=>?_⟩
  simp only [List.getElem?_map]at hk⊢;cases hq:ps.toList[k]? with
  |none=>simp [hq]at hk
  |some q=>
   simp only [hq,Option.map_some,Option.some.injEq,Prod.mk.injEq]at hk⊢;obtain⟨rfl,rfl⟩:=hk;exact⟨_,⟨rfl,rfl⟩,noF,BY hcr hdd q.2,λ_ h=>h.elim,λ_ _ _ h=>h⟩
 obtain⟨cs',hrun,hrel,hll⟩:=bs_run (P:=P) ho hparts hsl h1 hw hnw h2;have hlen:l.length=n*j.ty.w:=by simpa using hll
 obtain⟨g1,g2,g3,g4⟩:=Lm hcr.wr l m js cs'.toList hm (by have:=hrel.1;simp at this;simpa using this) (λk hk=>by
  have:=hrel.2 k (by simpa using hk)
  simpa [St.den]using this)
 obtain⟨p1,p2,p3⟩:=OE s.r n _ xs hxs
 have hfitv: ∀k,((m.map (fit j.sd)).map (Cl.v s.r)).getD k .dead=(m.map Cl.v0).getD k .dead:=by
  intro k;rw [p2,List.map_map]
  congr 1
  exact List.map_congr_left λy _=>(Aao _ s.r y).2
 let Fy:Nat->Nat->Nat->Prop:=λi k=>ownF F (js.getD (i*j.ty.w+k) none)
 have hFy: ∀i k b,Fy i k b->∃q,js.getD (i*j.ty.w+k) none=some q/\F q b:=by
  intro i k b hb;simp only [Fy]at hb;cases hq:js.getD (i*j.ty.w+k) none with
  |none=>rw [hq]at hb;exact hb.elim
  |some q=>rw [hq]at hb;exact⟨q,rfl,hb⟩
 have hcell: ∀i k,i<n->k<j.ty.w->i*j.ty.w+k<l.length:=λi k hi hk=>by rw [hlen];exact PV hi hk
 have hG: ∀i k b,i<n->k<j.ty.w->Fy i k b->∃q∈Q9 js,F q b:=by
  intro i k b hi hk hb;obtain⟨q,hq,hb⟩:=hFy i k b hb;exact⟨q,L8 (by rw [g2];exact hcell i k hi hk) hq,hb⟩
 have hblk:(w.alloc (.cells cs' e)).heap[w.heap.size]? =some (.cells cs' e (0,0)):=heap_alloc_new w _;have hsame: ∀b,b<w.heap.size->(w.alloc (.cells cs' e)).heap[b]? =w.heap[b]?:=λb hb=>Below.heap_alloc _ _ _ hb
 have hsz:cs'.size=n*j.ty.w:=by rw [hrel.1];exact hll
 have hr:Rel D (w.alloc (.cells cs' e)) noR (.nd true true j.ty.w n λi k=>(m.map Cl.v0).getD (i*j.ty.w+k) .dead) (.slice (some ⟨w.heap.size,0,none⟩) n n) (λb=>b=w.heap.size\/∃i k,i<n/\k<j.ty.w/\Fy i k b):=by
  refine .inr ⟨w.heap.size,0,n,Fy,rfl,Nat.le_refl _,?_,(λh=>by cases h),λi k hi hk=>?_,(λh=>by cases h),λ_=>⟨⟨cs',e,.plain hblk,by rw [hsz,Nat.zero_add];exact Nat.le_refl _⟩,λi k hi hk hF=>?_,λi k i' k' b hi hk hi' hk' hne hF hF'=>?_,λ_=>Iff.rfl⟩⟩
  ·have:=Nat.le_mul_of_pos_right n hw;unfold maxLen;omega
  ·have hlt:=hcell i k hi hk
   refine⟨cs'.getD (i*j.ty.w+k) undef,?_,?_⟩
   ·rw [cellRow hblk,Nat.zero_add]
    have:i*j.ty.w+k<cs'.size:=by rw [hsz,<-hlen];exact hlt
    simp [this]
   ·have h5:=g4 _ hlt
    have h6:Rel D w noR ((m.map Cl.v0).getD (i*j.ty.w+k) .dead) (cs'.getD (i*j.ty.w+k) undef) (Fy i k):=by
     show Rel D w noR _ _ (ownF F (js.getD (i*j.ty.w+k) none));simpa using h5
    refine Rel.mono (λ_ h=>h) (λ_ _ h=>h) _ _ _ (λb hb=>hsame b ?_) h6
    rcases hb with hb|hb
    ·exact hcr.wr.Dlt b hb
    ·exact Rel.lt _ _ _ h6 b hb
  ·obtain⟨q,_,hq⟩:=hG i k _ hi hk hF
   have:=hcr.wr.lt q _ hq;omega
  ·obtain⟨q,hq,hF⟩:=hFy i k b hF
   obtain⟨q',hq',hF'⟩:=hFy i' k' b hF';have hne2:i*j.ty.w+k≠i'*j.ty.w+k':=by
    intro he;have e1:=congrArg (· /j.ty.w) he
    have e2:=congrArg (· % j.ty.w) he
    simp only [JL hk,JL hk',JK hk,JK hk']at e1 e2;omega
   have:=WR hap _ _ q (by rw [g2];exact hcell i k hi hk) (by rw [g2];exact hcell i' k' hi' hk') hne2 hq
   exact hcr.wr.disj q q' b (λe=>this (by rw [hq',e])) hF hF'
 obtain⟨F',hcr',hF'⟩:=CJ (Q9 js) hcr (λq hq=>(g3 q hq).1)
 have hr2:Rel D (w.alloc (.cells cs' e)) noR (cV (.sl j.ty) (j.sd+1) xs) (.slice (some ⟨w.heap.size,0,none⟩) n n) (λb=>b=w.heap.size\/∃i k,i<n/\k<j.ty.w/\Fy i k b):=by
  refine Rel.sub ?_ hr;show Sub _ (V.nd true true j.ty.w xs.length λi k=>(tyV j.ty j.sd (xs.getD i j.ty.dflt)).getD k .dead)
  rw [p1];refine⟨_,rfl,λi k hi hk=>?_⟩
  have:=p3 i k hi hk;rw [hfitv]at this;exact this
 have hfpG: ∀b,(b=w.heap.size\/∃i k,i<n/\k<j.ty.w/\Fy i k b)->(∃q∈Q9 js,F q b)\/w.heap.size<=b:=by
  rintro b (rfl|⟨i,k,hi,hk,hF⟩)
  ·exact .inr (Nat.le_refl _)
  ·exact .inl (hG i k b hi hk hF)
 have hc:=CR.own hcr' (w':=w.alloc (.cells cs' e)) (G:=λb=>∃q∈Q9 js,F q b) (D':=D) (λi b hb ⟨q,hq,hFq⟩=>by
   obtain⟨h1,h2⟩:=hF' i b hb;exact hcr.wr.disj i q b (λe=>h2 (e▸hq)) h1 hFq) (λb hb ⟨q,_,hFq⟩=>hcr.wr.dD q b hFq hb) (λb ⟨q,_,hFq⟩=>hcr.Fn q b hFq) rfl rfl rfl (Nat.le_refl _) (by simp) (λc hc _=>hsame c hc) hr2 hfpG
  (λ_ h=>h) (λ_ h=>.inl h) (λb hb=>⟨by have:=hcr.wr.Dlt b hb;simp;omega,λh=>by
   rcases hfpG b h with⟨q,_,hFq⟩|h2
   ·exact hcr.wr.dD q b hFq hb
   ·have:=hcr.wr.Dlt b hb;omega⟩) d
 have hs':=VS (h:=h) hdf (BZ (Q9 js) hdd) hfz hp hc;unfold Oper.wp;rw [hrun];show next (a.put o.dst _) _
 rw [hdst];exact hn _ _ hs'
end Go.Ve

