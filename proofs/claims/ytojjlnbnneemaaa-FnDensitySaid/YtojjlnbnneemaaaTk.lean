/- The typed machine: operations in order; code. -/
import Derived.Test.YtojjlnbnneemaaaTka
open Nat(beq blt le_trans beq_refl le_refl)
open List(mem_singleton mem_cons all_append flatMap_cons all_cons all_nil)
set_option linter.all false
namespace Go.Ve
variable{a:Act}{ops:Array Oper}{o:Oper}{s s':St}{R:Type}{w:World}
def ZD(o:Oper):Option (TypeId×Operand×Operand):=match o.op,o.dst with
 |.store t x v,none=>some (t,x,v)
 |_,_=>none
inductive LoudK where
 |app (d:Nat) (t:TypeId) (x y:Operand)
 |bs (d:Nat) (t:TypeId) (n:Nat) (ps:Array (Nat×Operand))
 |cw (d:Nat) (f:FuncId) (xs:Array Operand)
def WT(E:Env)(o:Oper):Option LoudK:=match o.dst,o.op with
 |some d,.buildSlice t n ps=>some (.bs d t n ps)
 |some d,.call c=>match c.callee with
  |.builtin .append=>match c.args.toList,c.argTypes.toList with
   |[x,y],[t,t']=>bif beq t t' then some (.app d t x y)else none
   |_,_=>none
  |.value (.func f)=>match lookW E.W f with
   |some _=>some (.cw d f c.args)
   |none=>none
  |_=>none
 |_,_=>none
def elI(E:Env)(t:TypeId):Option TI:=((E.Θ.look t).bind (·.elem)).bind E.Θ.look
def lrK{R:Type}(E:Env)(s:St)(d:Nat)(A:LR)(K:St->Option R):Option R:=bif E.h.fz.contains d then none else oif A.p A.dec (match(Ap A.js s).put E.h (some d) (.one A.y)with
 |some s'=>K s'
 |none=>none)
def PI{R:Type}(E:Env)(s:St)(o:Oper)(K:St->Option R):Option R:=AaF E s o.type o.op λy=>match s.put E.h o.dst y with
 |some s'=>K s'
 |none=>none
def capsF(fz:List Nat)(o:Oper):List Operand:=match o.op,o.dst with
 |.makeFunc _ _ caps,some d=>bif fz.contains d then caps.toList else []
 |_,_=>[]
def seqF(E:Env)(s:St)(o:Oper):Option (Nat×Nat×Bool):=match It o.op with
 |some (f,xs)=>match JD E.U f with
  |some e=>match xs.toList[e.S.k]? with
   |some (.tmp z)=>match Cu s z with
    |some id=>some (z,id,e.S.eat)
    |none=>none
   |_=>none
  |none=>none
 |none=>none
def seqB(E:Env)(o:Oper)(z id:Nat)(eat:Bool)(s1 u:St):Bool:=(match o.dst with
 |some d=>!(u.t d).own||(u.t d).stay
 |none=>true)&&(bif eat then !(u.t z).own else D5 (u.t z)&&blt id s1.r.length&&(match s1.r.getD id .dead with
  |.dead=>true
  |_=>false))
def Kg(E:Env)(s:St)(o:Oper)(z id:Nat):List Nat:=(List.range E.h.n).filter λy=>!beq y z&&(match o.dst with
 |some d=>!beq y d
 |none=>true)&&(match Cu s y with
 |some j=>beq j id
 |none=>false)
def AaE{R:Type}(E:Env)(s:St)(o:Oper)(K:St->Option R):Option R:=match seqF E s o with
 |some (z,id,eat)=>match JV [z] s with
  |some s1=>match Lx E.h (λB=>beq B z) (λz=>z) E.U s1 o with
   |some A=>IR A.o λu=>bif seqB E o z id eat s1 ⟨AK (AK s1.t A.y (A.u u)) A.d (A.z u),s1.r⟩then
     K ((bif eat then⟨AK (AK s1.t A.y (A.u u)) A.d (A.z u),s1.r⟩else St.rerefs id (B8 ((AK (AK s1.t A.y (A.u u)) A.d (A.z u)) z)) (Kg E s o z id) (St.backs [(z,id)] ⟨AK (AK s1.t A.y (A.u u)) A.d (A.z u),s1.r⟩)).promA [o.dst])else none
   |none=>none
  |none=>none
 |none=>none
def KD:AX->Option (AX×Nat×Nat)
 |[]=>none
 |a::p=>match KD p with
  |some (q,i,k)=>some (a::q,i,k)
  |none=>some ([],a.1,a.2)
def Jj:∀(p:AX),(KD p=none->p=[])/\∀q i k,KD p=some (q,i,k)->p=q++[(i,k)]
 |[]=>⟨λ_=>rfl,λq i k h=>by cases h⟩
 |a::p=>by
  obtain⟨B,A⟩:=Jj p;unfold KD;cases u:KD p with
  |none=>
   refine⟨λh=>(by cases h),λq i k h=>?_⟩
   cases h;rw[B u];rfl
  |some z=>
   obtain⟨J,i',k'⟩:=z;refine⟨λh=>(by cases h),λq i k h=>?_⟩
   cases h;rw[A _ _ _ u];rfl
def putM(s:St)(id:Nat)(p:AX)(kt u:Ty)(ys:List (kt.T×u.T)):Option St:=match KD p with
 |none=>some ⟨s.t,s.r.set id (.mp false kt u ys)⟩
 |some (q,i,k)=>match(s.r.getD id .dead).setAt q i k (.c (.mp kt u) 1 ys)with
  |some r0=>some ⟨λx=>(s.t x).kill id (p.map (·.2)) [],s.r.set id r0⟩
  |none=>none
def OM(Θ:Tab)(s:St)(o:Oper):Option St:=match o.op,o.dst with
 |.mapUpdate t m k x,none=>match Θ.look t,s.ev m with
  |some i,some (.one (.rm id p))=>match i.ty,i.mp,Ag s.r id p with
   |.mp kt vt,some _,.mp false k' v' xs=>bif IG kt&&IG vt then(match Is (.mp kt vt) ⟨.mp k' v',xs⟩,keyD kt (s.ev k),keyD vt (s.ev x)with
    |some ys,some key,some y=>putM s id p kt vt (MT kt vt key y ys)
    |_,_,_=>none)else none
   |_,_,_=>none
  |_,_=>none
 |_,_=>none
def AaH{R:Type}(E:Env)(s:St)(o:Oper)(K:St->Option R):Option R:=match OM E.Θ s o with
 |some s'=>K s'
 |none=>match seqF E s o with
 |some _=>AaE E s o K
 |none=>match ZD o with
 |some (t,x,v)=>match VM s (E.Θ.look t) (s.ev x) (s.ev v)with
  |some A=>oif A.p A.dec (K A.s)
  |none=>OH s (E.Θ.look t) (s.ev x) (s.ev v) K
 |none=>match WT E o with
  |some (.app d t x y)=>match Aal s (s.ev x)with
   |some B=>match Jg B (elI E t) (B.ev x) (B.ev y)with
    |some A=>lrK E B d A K
    |none=>none
   |none=>none
  |some (.bs d t n ps)=>match Acy (ps.toList.map (·.2)) s with
   |some B=>match tBSM B n (ps.toList.map λp=>(p.1,B.ev p.2)) (elI E t)with
    |some A=>lrK E B d A K
    |none=>PI E s o K
   |none=>none
  |some (.cw d f xs)=>match M8 E.W s f (xs.toList.map s.ev)with
   |some A=>IR A.o λu=>match A.st u with
    |some s1=>match s1.put E.h (some d) (.one (A.y u))with
     |some s'=>P9 (xs.toList.flatMap λx=>argIds (s.ev x)) s' K
     |none=>none
    |none=>none
   |none=>none
  |none=>match capsF E.h.fz o with
   |[]=>PI E s o K
   |x::xs=>match N4 (x::xs) s with
    |some B=>PI E B o K
    |none=>none
def tone{R:Type}(E:Env)(s:St)(o:Oper)(K:St->Option R):Option R:=match frzO E s o with
 |some s'=>AaH E s' o λA=>match frzP E A o with
  |some u=>K u
  |none=>none
 |none=>none
def grpU(E:Env)(g:List Oper):Bool:=g.any λo=>match It o.op with
 |some (f,_)=>(JD E.U f).isSome
 |none=>false
def Acr{R:Type}(o:Option St)(K:St->Option R):Option R:=match o with
 |some s=>K s
 |none=>none
def Uh{R:Type}(E:Env)(ρ:Asm)(s:St)(o:Oper)(K:St->Option R):Option R:=match NJ ρ s o.op with
 |some v=>match Acn E.h s o.dst v with
  |some s'=>K s'
  |none=>none
 |none=>tone E s o K
def CE{R:Type}(E:Env)(ops:Array Oper):List Oper->Asm->St->(Asm->St->Option R)->Option R
 |[],ρ,s,K=>K ρ s
 |o::l,ρ,s,K=>match o.guard with
  |none=>none
  |some (j,want)=>match(ops[j]?).bind (·.dst)with
   |none=>none
   |some u=>bif AbD (s.t u)then Acr (C6 E.h s o.dst) (λs'=>CE E ops l ρ s' K)else match WV ρ j with
    |some v=>bif v==want then Uh E ρ s o (λs'=>CE E ops l ρ s' K)else Acr (C6 E.h s o.dst) (λs'=>CE E ops l ρ s' K)
    |none=>match s.t u with
     |.one (.c .bool _ b)=>bif As (o::l) u then
      Pz b (bif want then Uh E ((j,u,true)::ρ) s o (λs'=>CE E ops l ((j,u,true)::ρ) s' K)else Acr (C6 E.h s o.dst) (λs'=>CE E ops l ((j,u,true)::ρ) s' K))
       (bif want then Acr (C6 E.h s o.dst) (λs'=>CE E ops l ((j,u,false)::ρ) s' K)else Uh E ((j,u,false)::ρ) s o (λs'=>CE E ops l ((j,u,false)::ρ) s' K))else none
     |_=>none
def rowS(E:Env)(s:St)(o:Oper):List Seg->Option (Oper×Oper×PtR)
 |.one o2:: .one o3::_=>bif o.guard.isNone&&o2.guard.isNone&&o3.guard.isNone then(VK E s [] o o2 o3).map λA=>(o2,o3,A)else none
 |_=>none
def Lt{R:Type}(E:Env)(ops:Array Oper):List Seg->Nat->St->(St->Option R)->Option R
 |[],_,s,K=>K s
 |_::l,k+1,s,K=>Lt E ops l k s K
 |.one o::l,0,s,K=>match rowS E s o l with
  |some (_,_,A)=>oif A.p A.dec (Lt E ops l 2 A.s K)
  |none=>match o.guard with
   |none=>tone E s o λs'=>Lt E ops l 0 s' K
   |some _=>none
 |.grp g pk::l,0,s,K=>match YK E.h pk with
  |some d=>bif grpU E g then CE E ops g [] s λρ s'=>match NJ ρ s' pk.op with
    |some v=>Lt E ops l 0 ⟨AK (C7 g s'.t) d (.one (.c .bool 0 v)),s'.r⟩ K
    |none=>none
   else IR (grpB E false ops s g pk) λv=>Lt E ops l 0 ⟨AK (C7 g s.t) d (.one (.c .bool 0 v)),s.r⟩ K
  |none=>none
def tops{R:Type}(E:Env)(ops:Array Oper)(l:List Seg)(s:St)(K:St->Option R):Option R:=Lt E ops l 0 s K
theorem Qg{E:Env}{C:Ctx}(h:C6 E.h s o.dst=some s')(A:AQ C E.h.n s.den a w):AQ C E.h.n s'.den (a.put o.dst undef) w/\s'.r=s.r/\∀i,o.dst≠some i->s'.t i=s.t i:=by
 unfold C6 at h;split at h
 .rename_i d hd
  cases u:blt d E.h.n with
  |false=>grind
  |true=>
   rw[u]at h;cases h;have J:=A.skipU (blE u);refine⟨?_,rfl,λi B=>A1 λe=>B (by grind)⟩
   have e:(St.den ⟨AK s.t d (.tup []),s.r⟩)=⟨AI s.den.t d udV,s.den.σ⟩:=by
    have:=B4 (r:=s.r) (t:=s.t) (d:=d) (y:=.tup []);show Ms.mk (λi=>(AK s.t d (.tup []) i).v s.r) _=_
    rw[this];rfl
   grind
 .rename_i hd
  cases h;refine⟨?_,rfl,λ_ _=>rfl⟩
  rw[hd];trivial
section wp
variable {P:Program}{E:Env}{C:Ctx} (hE:EOK P E)
include hE
theorem Vt{R:Type}{s:St}{o:Oper}{K:St->Option R}{z:R}{a:Act}{w:World}{next:Act->World->Prop}{Q:Exit->Act->World->Prop}(J:AQ C E.h.n s.den a w)(h:(AaF E s o.type o.op λy=>match s.put E.h o.dst y with
   |some s'=>K s'
   |none=>none)=some z) (U:∀s' A w',(∃y,s.put E.h o.dst y=some s')->AQ C E.h.n s'.den A w'->K s'=some z->next A w'):o.wp P a w next Q:=by
 obtain⟨_,y,O,B⟩:=H4 hE h;split at B
 case h_2=>grind
 rename_i s' u;exact QZ O u J λA w' W=>U s' A w' ⟨y,u⟩ W B
theorem Ye{K:St->Option R}{z0:R}{next:Act->World->Prop}{Q:Exit->Act->World->Prop}(hs:AQ C E.h.n s.den a w)(h:AaE E s o K=some z0)
  (hn:∀s' a' w',Kp (λi=>decide (o.dst≠some i)) s s'->AQ C E.h.n s'.den a' w'->K s'=some z0->next a' w'):o.wp P a w next Q:=by
 unfold AaE at h;split at h
 case h_2=>cases h
 rename_i z id eat hsf;split at h
 case h_2=>cases h
 rename_i s1 hd;split at h
 case h_2=>cases h
 rename_i A ha;cases hu:A.o with
 |none=>rw[hu]at h;cases h
 |some u=>
 rw[hu]at h;simp only[Option.bind_some]at h;obtain⟨B,hs2⟩:∃B:St,B=⟨AK (AK s1.t A.y (A.u u)) A.d (A.z u),s1.r⟩:=⟨_,rfl⟩;rw[<-hs2]at h;obtain⟨hsb,h⟩:=Bc h;unfold seqB at hsb;rw[bAE]at hsb;obtain⟨hb1,hb2⟩:=hsb;obtain⟨v,r,hne,hlq,hvl,hdst,hyd,hyn,f,xs,e,zk,g1,g2,g3,g4,g5⟩:=M3 hE.U (Al:=λ_ _=>False) (λ_=>.inl rfl) (VLe.refl s1.den.t) ha hu
 rw[<-hs2]at hvl;have g5:=bqE g5;have hz:A.y=z:=g4.symm.trans g5;have hroot:Cu s z=some id:=by
  unfold seqF at hsf;rw[g1]at hsf;simp only[g2,g3]at hsf;split at hsf
  .rename_i id' hr
   cases hsf;exact hr
  .cases hsf
 rw[hz]at hlq hvl hyd hyn;obtain⟨D,ρ,F,T,hp,hT,hval⟩:=Oe hd hs (Below.refl w.heap.size w);have hzv:=hval z id hyn hroot;refine hlq C ρ F a w D T s1.den.t (λ_ _=>rfl) (λ_ _ h=>h.elim) hp next Q λa' w' D' T' hp' hT' htm=>?_
 have hPR:Zo [o.dst] ⟨Iy o.dst r (AP [(z,.put v)] s1.den.t),s1.den.σ⟩ B:=by
  refine⟨by rw[hs2];rfl,λi=>?_,λi Z=>⟨λhoi=>?_,?_⟩⟩
  .rcases hvl i with e|e
   .show Ay (Iy o.dst r (AP [(z,.put v)] s1.den.t) i) _
    rw[e];exact Ay.refl _
   .rw[e.1];exact Ay.dead _
  .have Z:=mem_singleton.1 Z
   rw[<-Z]at hb1;simp only[Bool.or_eq_true,Bool.not_eq_true']at hb1;rcases hb1 with h|h
   .rw[hoi]at h;cases h
   .exact h
  .rcases hvl i with e|e
   .exact .inl e
   .right
    refine⟨?_,e.2⟩
    have:AN ((B.t i).v B.r)=false:=by
     show AN (B.den.t i)=false;rw[e.1];rfl
    rw[Sl.own_v]at this;exact this
 have Y:=Of hd;obtain⟨hro,hzst,_⟩:=Cj hroot;have hdz:o.dst≠some z:=by rw[hdst];intro e;exact hyd (Option.some.inj e).symm
 have hs2t:∀i,i≠z->o.dst≠some i->B.t i=s1.t i:=by
  intro i h1 h2;rw[hs2];show AK (AK s1.t A.y (A.u u)) A.d (A.z u) i=_;rw[A1 λe=>h2 (by rw[hdst,e]),A1 (by rw[hz];exact h1)]
 have J:B.r=s1.r:=by rw[hs2]
 have hkn:∀s':St,Kp (As [o]) s' (s'.promA [o.dst]):=λs'=>HD [o] s'
 have nd:∀i,o.dst≠some i->As [o] i=true:=by
  intro i Z
  show((match o.dst with
   |some e=>!beq e i
   |none=>true)&&true)=true
  rw[Bool.and_true,hdst];show(!beq A.d i)=true;rw[BK λe=>Z (by rw[hdst,e])];rfl
 -- what is left of it
 have hTz:∀x b,T' x b->o.dst=some x\/x=z:=λx b hb=>(hT' x b hb).imp (λh=>h) fun⟨b',h⟩=>mem_singleton.1 (hT x b' h)
 cases eat with
 |true=>
  simp only[cond_true]at h hb2;have hcl:=PR.close [o.dst] _ _ _ _ _ hp' λx b hb=>by
   rcases hTz x b hb with h1|h1
   .rw[h1];exact mem_singleton.2 rfl
   .exfalso
    subst h1
    have hown:AN (Iy o.dst r (AP [(x,.put v)] s1.den.t) x)=false:=by
     have h1:(B.t x).own=false:=by simpa using hb2
     have h2:AN (B.den.t x)=false:=by
      show AN ((B.t x).v B.r)=false;rw[Sl.own_v];exact h1
     rcases hvl x with e|e
     .rw[e];exact h2
     .exact e.2
    exact AF _ _ _ hown (hp'.tm x hyn) b hb
  obtain⟨q1,q2⟩:=Jw _ _ _ hPR;have hs3:AQ C E.h.n (B.promA [o.dst]).den a' w':=hcl.sub (by rw[q2]) (λi _=>by rw[q2];exact Sub.refl _) q1
  have k1:=hkn B;refine hn _ _ _ ⟨λi Z O=>?_,λj hl hj=>?_,?_⟩ hs3 h
  .have Z:=of_decide_eq_true Z
   have hiz:i≠z:=by rintro rfl;rw[hzst]at O;cases O
   have e1:=Y.t i rfl O;have e2:=hs2t i hiz Z;rw[k1.t i (nd i Z) (by rw[e2,e1];exact O),e2,e1]
  .have e1:=Y.r j hl hj
   rw[k1.r j (by rw[J];exact Nat.lt_of_lt_of_le hl Y.l) (by rw[J,e1];exact hj),J,e1]
  .exact le_trans Y.l (by rw[<-J];exact k1.l)
 |false=>
  simp only[cond_false,bAE]at h hb2;obtain⟨⟨hir,hlt⟩,W⟩:=hb2;have hlt:=blE hlt;have W:s1.r.getD id .dead=.dead:=by
   split at W
   .assumption
   .cases W
  have hSz:Iy o.dst r (AP [(z,.put v)] s1.den.t) z=B.den.t z:=by
   rcases hvl z with e|e
   .exact e
   .obtain⟨_,h3,⟨s0,sz,nn,f,h4,_⟩,_⟩:=Co hir
    have e1:(B.t z).v B.r=.dead:=e.1;rw[h3,h4]at e1;cases e1
  have hobj:Kn (Iy o.dst r (AP [(z,.put v)] s1.den.t) z):=by
   rw[hSz];show Kn ((B.t z).v B.r);rw[(Co hir).2.1];exact(Co hir).2.2.1
  obtain⟨F2,T2,hp2,hT2⟩:=PR.backs [(z,id)] _ _ _ _ hp' (by simp) (by simp) λp hpm=>by
   rw[mem_singleton.1 hpm];refine⟨hyn,by show id<(s1.r.map Ae.v).length;rw[List.length_map];exact hlt,?_,?_,hobj⟩
   .show(s1.r.map Ae.v).getD id .dead=.dead
    rw[Ax,W];rfl
   .rw[<-hzv,Array.getD_eq_getD_getElem?,Array.getD_eq_getD_getElem?,htm z hdz]
  have hrd:B8 (AK (AK s1.t A.y (A.u u)) A.d (A.z u) z)=B8 (B.t z):=by rw[hs2]
  rw[hrd]at h
  have hRv:(B8 (B.t z)).v=Iy o.dst r (AP [(z,.put v)] s1.den.t) z:=by
   rw[hSz];exact((Co hir).2.1 B.r).symm
  have hYs:∀y∈Kg E s o z id,y<E.h.n/\y≠z/\o.dst≠some y/\Cu s y=some id:=by
   intro y hy;unfold Kg at hy;rw[List.mem_filter,List.mem_range]at hy;obtain⟨h1,h2⟩:=hy;simp only[bAE,Bool.not_eq_true']at h2;obtain⟨⟨h2,h3⟩,h4⟩:=h2;refine⟨h1,λe=>(by rw[e,beq_refl]at h2;cases h2),λe=>?_,?_⟩
   .rw[e]at h3
    simp[beq_refl]at h3
   .split at h4
    .rename_i j hj
     rw[hj,bqE h4]
    .cases h4
  have hlr:id<s1.den.σ.length:=by show id<(s1.r.map Ae.v).length;rw[List.length_map];exact hlt
  have hset:(s1.den.σ.set id (Iy o.dst r (AP [(z,.put v)] s1.den.t) z)).getD id .dead=(B8 (B.t z)).v:=by
   rw[hRv,gDE,List.getElem?_set_self hlr];rfl
  have hp3:=PR.reref (id:=id) (v:=(B8 (B.t z)).v) (by show id<(s1.den.σ.set id _).length;simpa using hlr) hset (by rw[hRv];exact hobj) (Kg E s o z id) _ hp2 λy hy=>by
    obtain⟨y1,y2,y3,y4⟩:=hYs y hy;refine⟨y1,?_,λb hb=>?_⟩
    .rw[<-hval y id y1 y4,Array.getD_eq_getD_getElem?,Array.getD_eq_getD_getElem?,htm y y3]
    .obtain⟨k1,_⟩:=hT2 y b hb
     exact(hTz y b k1).elim y3 y2
  have hcl:AQ C E.h.n (Go.Ve.promA [o.dst] ⟨Go.Ve.rerefs id (B8 (B.t z)).v (Kg E s o z id) (Go.Ve.backs [(z,id)] ⟨Iy o.dst r (AP [(z,.put v)] s1.den.t),s1.den.σ⟩).t,(Go.Ve.backs [(z,id)] ⟨Iy o.dst r (AP [(z,.put v)] s1.den.t),s1.den.σ⟩).σ⟩) a' w':=PR.close [o.dst] _ _ _ _ _ hp3 λx b hb=>by
   obtain⟨k1,k2⟩:=hT2 x b hb;rcases hTz x b k1 with h1|h1
   .rw[h1];exact mem_singleton.2 rfl
   .exact absurd (by rw[h1];simp) k2
  have hP2:=J3 [(z,id)] _ _ hPR (by simp) λp hpm=>by
   rw[mem_singleton.1 hpm];exact⟨λhm=>hdz (mem_singleton.1 hm).symm,by rw[J];exact hlt,hSz,hir⟩
  have hbr:(B.backs [(z,id)]).r.getD id .dead=B8 (B.t z):=by
   show(B.r.set id (B8 (B.t z))).getD id .dead=_;rw[J,gDE,List.getElem?_set_self hlt];rfl
  have hP3:=KH (id:=id) (R:=B8 (B.t z)) (by rw[hRv];exact hobj) (Kg E s o z id) _ _ hP2 hbr λy hy hm=>(hYs y hy).2.2.1 (mem_singleton.1 hm).symm
  obtain⟨q1,q2⟩:=Jw _ _ _ hP3;have hs3:AQ C E.h.n ((St.rerefs id (B8 (B.t z)) (Kg E s o z id) (B.backs [(z,id)])).promA [o.dst]).den a' w':=hcl.sub (by rw[q2]) (λi _=>by rw[q2];exact Sub.refl _) q1
  have k1:=hkn (St.rerefs id (B8 (B.t z)) (Kg E s o z id) (B.backs [(z,id)]));obtain⟨b1,b2,b3⟩:=MH [(z,id)] B;obtain⟨c1,c2⟩:=Nm (id:=id) (R:=B8 (B.t z)) (Kg E s o z id) (B.backs [(z,id)]);refine hn _ _ _ ⟨λi Z O=>?_,λj hl hj=>?_,?_⟩ hs3 h
  .have Z:=of_decide_eq_true Z
   have hiz:i≠z:=by rintro rfl;rw[hzst]at O;cases O
   have hiY:i∉Kg E s o z id:=λhm=>by
    have:=(Cj (hYs i hm).2.2.2).2.1;rw[O]at this;cases this
   have e1:=Y.t i rfl O;have e2:=hs2t i hiz Z;have e3:=b1 i (λp hp=>by rw[mem_singleton.1 hp];exact λe=>hiz e.symm) (by rw[e2,e1];exact O)
   have e4:=c2 i hiY;rw[k1.t i (nd i Z) (by rw[e4,e3,e2,e1];exact O),e4,e3,e2,e1]
  .have e1:=Y.r j hl hj
   have hjid:id≠j:=by rintro rfl;rw[hro]at hj;cases hj
   have e3:(B.backs [(z,id)]).r.getD j .dead=s1.r.getD j .dead:=(b2 j λp hp=>by rw[mem_singleton.1 hp];exact hjid).trans (by rw[J])
   rw[k1.r j (by rw[c1,b3,J];exact Nat.lt_of_lt_of_le hl Y.l) (by rw[c1,e3,e1];exact hj),c1,e3,e1]
  .exact le_trans Y.l (by rw[<-J,<-b3,<-c1];exact k1.l)
theorem Ua{next:Act->World->Prop}{Q:Exit->Act->World->Prop}(h:OM E.Θ s o=some s')(hs:AQ C E.h.n s.den a w)
  (hn:∀a' w',Kp (λi=>decide (o.dst≠some i)) s s'->AQ C E.h.n s'.den a' w'->next a' w'):o.wp P a w next Q:=by
 unfold OM at h;split at h
 case h_2=>cases h
 rename_i t m k x ho hd;split at h
 case h_2=>cases h
 rename_i i id p hi hm;split at h
 case h_2=>cases h
 rename_i kt A q k' v' xs hty hmp u;obtain⟨Z,B⟩:=Bc h;clear h;rw[bAE]at Z;split at B
 case h_2=>cases B
 rename_i ys key y O hkey hy;have O:=Hg O;cases O;obtain⟨sk,e1,e2⟩:=W2 (r:=s.r) Z.1 hkey;obtain⟨sy,e3,e4⟩:=W2 (r:=s.r) Z.2 hy;have hme:=hE.Θ.mp hi;rw[hty]at hme;obtain⟨J,Y,m1,m2,m3,m4⟩:=map_v Z.1 Z.2 hme (by rw[hmp];simp)
 have hlt:id<s.r.length:=by
  rcases Nat.lt_or_ge id s.r.length with h|h
  .exact h
  .unfold Ag at u
   rw[gDE,List.getElem?_eq_none h]at u;simp only[Option.getD_none,CQ]at u;cases u
 refine Hl (h:=E.h) (K:=λS'=>S'=⟨s.den.t,s.den.σ.set id (upd p (s.den.σ.getD id .dead) (mpV true kt A (MT kt A key y ys)))⟩) ?_ hs λS' a' w' hS hs'=>?_
 .unfold vop
  rw[ho];refine⟨hd,?_⟩;unfold OB;rw[Bf hm];show ∃J Y l k x,Vf P t=some (J,Y)/\sub p ((s.r.map Ae.v).getD id .dead)=.mp true l/\_;refine⟨J,Y,Pv kt A ys,_,_,m1,?_,by rw[Bf e1];exact e2,by rw[Bf e3];exact e4,m3 key,?_,?_⟩
  .rw[AV (by rw[u];simp),u];rfl
  .intro e he
   obtain⟨z,_,rfl⟩:=List.mem_map.1 he;exact m4 key z.1
  .rw[Zy Z.1];rfl
 .subst hS
  unfold putM at B;split at B
  .rename_i U
   cases B;obtain rfl:=(Jj p).1 U;have u:s.r.getD id .dead=.mp false kt A ys:=u;refine hn a' w' ⟨λi _ _=>rfl,λj hl hj=>?_,by simp⟩ (hs'.sub ?_ (λi _=>?_) λi=>?_)
   .show(s.r.set id _).getD j .dead=_
    by_cases e:j=id
    .subst e;rw[u]at hj;cases hj
    .grind
   .show((s.r.set id _).map Ae.v).length=((s.r.map Ae.v).set id _).length
    simp
   .exact CD (r:=s.r) (r0:=.mp false kt A (MT kt A key y ys)) (Sub.refl (mpV true kt A (MT kt A key y ys))) i
   .show Ay ((s.t i).v s.r) ((s.t i).v (s.r.set id _))
    rw[set_mp u];exact Ay.refl _
  .rename_i q i k U
   obtain rfl:=(Jj p).2 _ _ _ U;split at B
   case h_2=>cases B
   rename_i r0 W;cases B;refine hn a' w' ⟨λi _ hst=>Sl.kill_stay hst _ _ _,λj hl hj=>?_,by simp⟩ (hs'.sub ?_ (λi _=>?_) λi=>?_)
   .show(s.r.set id r0).getD j .dead=_
    have:j≠id:=by
     rintro rfl
     rw[Hv W]at hj;cases hj
    simp only[gDE,List.getElem?_set_ne (Ne.symm this)]
   .show((s.r.set id r0).map Ae.v).length=((s.r.map Ae.v).set id _).length
    simp
   .refine CD ?_ i
    have:=H9 q _ _ W;show Sub (upd _ ((s.r.map Ae.v).getD id .dead) _) _;rw[Ax];exact this
   .refine Sl.kill_v (G:=λv=>v) GOK.idf (λid' q' hq=>?_) (s.t i)
    by_cases he:id'=id
    .subst he
     rw[BR hlt];refine JF q _ _ W q' ?_;unfold hit at hq;rw[beq_refl,Bool.true_and,Bool.or_eq_false_iff]at hq;exact hq.1
    .rw[Bn he]
theorem Yh{K:St->Option R}{z:R}{next:Act->World->Prop}{Q:Exit->Act->World->Prop}(hs:AQ C E.h.n s.den a w)(h:AaH E s o K=some z)
  (hn:∀s' U w',Kp (λi=>decide (o.dst≠some i)) s s'->AQ C E.h.n s'.den U w'->K s'=some z->next U w'):o.wp P a w next Q:=by
 unfold AaH at h;split at h
 .rename_i s' hs'
  exact Ua hE hs' hs λU w' hk h'=>hn s' U w' hk h' h
 split at h
 .exact Ye hE hs h hn
 split at h
 .rename_i t x v hst
  unfold ZD at hst;split at hst
  case h_2=>cases hst
  rename_i t' x' v' ho hd;cases hst;split at h
  .rename_i A ha
   by_cases hp:A.p
   .have e:oif A.p A.dec (K A.s)=K A.s:=@if_pos _ A.dec hp _ _ _
    rw[e]at h;exact Yq hE.Θ ho hd ha hp hs λU w' h'=>hn A.s U w' ((Yr ha).weak λ_ _=>rfl) h' h
   .have e:oif A.p A.dec (K A.s)=none:=@if_neg _ A.dec hp _ _ _
    rw[e]at h;cases h
  rw[Q3]at h;split at h
  case h_2=>cases h
  rename_i s' hs';exact VF hE.Θ ho hd hs' hs λU w' h'=>hn s' U w' ((VG hs').weak λ_ _=>rfl) h' h
 .have quiet:PI E s o K=some z->o.wp P a w next Q:=λh=>Vt hE hs h λs' U w' ⟨y,hp⟩ h' hK=>hn s' U w' (Qd hp) h' hK
  have lr:∀{s0:St}{d:Nat}{A:LR},Kp (λ_=>true) s s0->o.dst=some d->(∀j∈A.js,(s0.r.getD j .dead).isRo=false)->lrK E s0 d A K=some z->
    (∀s',(Ap A.js s0).put E.h (some d) (.one A.y)=some s'->E.h.fz.contains d=false->A.p->(∀U w',AQ C E.h.n s'.den U w'->next U w')->o.wp P a w next Q)->o.wp P a w next Q:=by
   intro s0 d A k0 O hro h hw;unfold lrK at h;cases hfz:E.h.fz.contains d with
   |true=>rw[hfz]at h;cases h
   |false=>
    rw[hfz]at h;simp only[cond_false]at h;by_cases hp:A.p
    .have h:(match(Ap A.js s0).put E.h (some d) (.one A.y)with
      |some s'=>K s'
      |none=>none)=some z:=by
      have e:oif A.p A.dec (match(Ap A.js s0).put E.h (some d) (.one A.y)with
       |some s'=>K s'
       |none=>none)=(match(Ap A.js s0).put E.h (some d) (.one A.y)with
       |some s'=>K s'
       |none=>none):=@if_pos _ A.dec hp _ _ _
      rw[<-e];exact h
     split at h
     case h_2=>cases h
     rename_i s' J;refine hw s' J hfz hp λU w' h'=>hn s' U w' ?_ h' h
     have k2:=Qd J;rw[O];exact(k0.trans (JT A.js s0 hro) (λ_ _=>rfl) λ_ _=>rfl).trans k2 (λ_ _=>rfl) λi hi=>hi
    .have e:oif A.p A.dec (match(Ap A.js s0).put E.h (some d) (.one A.y)with
      |some s'=>K s'
      |none=>none)=none:=@if_neg _ A.dec hp _ _ _
     rw[e]at h;cases h
  split at h
  case h_4=>
   split at h
   .exact quiet h
   .split at h
    case h_2=>cases h
    rename_i s0 hg;exact Vt hE (I2 _ hg hs) h λs' U w' ⟨y,hp⟩ h' hK=>hn s' U w' ((I3 _ hg).trans (Qd hp) (λ_ _=>rfl) λi hi=>hi) h' hK
  .rename_i d t x y B
   split at h
   case h_2=>cases h
   rename_i s0 Z;split at h
   case h_2=>cases h
   rename_i A ha;unfold WT at B;split at B
   case h_3=>cases B
   .cases B
   .rename_i d' c O hop
    split at B
    case h_3=>cases B
    .rename_i hcal
     split at B
     case h_2=>cases B
     rename_i x' y' t1 t2 hargs hats;obtain⟨hbt,B⟩:=Bc B;cases B;have ho:o.op=.call ⟨.builtin .append,#[x,y],#[t,t]⟩:=by
      rw[hop];obtain⟨cal,args,ats⟩:=c;simp only at hcal hargs hats;have e1:args= #[x,y]:=by cases args;simp at hargs;simp[hargs]
      have e2:ats= #[t,t]:=by cases ats;simp at hats;simp[hats,bqE hbt]
      rw[hcal,e1,e2]
     exact lr (Mz Z) O (Ug ha) h λs' J hfz hp hk=>Uf hE.Θ ho O hfz ha hp J (My Z hs) hk
    .split at B<;>cases B
  .rename_i d t n ps B
   have Y:o.dst=some d/\o.op=.buildSlice t n ps:=by
    unfold WT at B;split at B
    .rename_i h1 h2;cases B;exact⟨h1,h2⟩
    .split at B
     .split at B
      .rename_i t1 t2 _ _
       cases hbb:beq t1 t2<;>rw[hbb]at B<;>cases B
      .cases B
     .split at B<;>cases B
     .cases B
    .cases B
   split at h
   case h_2=>cases h
   rename_i s0 Z;split at h
   .rename_i A ha
    exact lr (Xy _ Z) Y.1 (AaX Lu ha) h λs' J hfz _ hk=>AaW hE.Θ Y.2 Y.1 hfz ha J (Xx _ Z hs) hk
   .exact quiet h
  .rename_i d f xs B
   split at h
   case h_2=>cases h
   rename_i A ha;have Y:o.dst=some d/\∃ats,o.op=.call ⟨.value (.func f),xs,ats⟩:=by
    unfold WT at B;split at B
    .cases B
    .rename_i d' c O hop
     split at B
     .split at B
      .rename_i t1 t2 _ _
       cases hbb:beq t1 t2<;>rw[hbb]at B<;>cases B
      .cases B
     .rename_i f' hcal
      split at B
      .cases B
       refine⟨O,c.argTypes,?_⟩;rw[hop];obtain⟨cal,args,ats⟩:=c;simp only at hcal;rw[hcal]
      .cases B
     .cases B
    .cases B
   obtain⟨O,ats,ho⟩:=Y;cases hu:A.o with
   |none=>rw[hu]at h;cases h
   |some u=>
    rw[hu]at h;simp only[Np]at h
    have h:(match A.st u with
     |some s1=>match s1.put E.h (some d) (.one (A.y u))with
      |some s'=>K s'
      |none=>none
     |none=>none)=some z:=h
    split at h
    case h_2=>cases h
    rename_i s1 hst;split at h
    case h_2=>cases h
    rename_i s' J;refine VR hE.W ho O ha hu hst J hs λU w' h'=>hn s' U w' ?_ h' h
    have k2:=Qd J;rw[O];exact(VS ha hst).trans k2 (λ_ _=>rfl) λi hi=>hi
theorem Vx{K:St->Option R}{z:R}{next:Act->World->Prop}{Q:Exit->Act->World->Prop}(U:AQ C E.h.n s.den a w)(h:tone E s o K=some z)
  (W:∀s' u w',Kp (λi=>decide (o.dst≠some i)) s s'->AQ C E.h.n s'.den u w'->K s'=some z->next u w'):o.wp P a w next Q:=by
 unfold tone at h;split at h
 case h_2=>cases h
 rename_i s1 h1;obtain⟨g1,g2⟩:=AbZ h1 U;refine Yh hE g1 h λs' u w' Y A J=>?_
 split at J
 case h_2=>cases J
 rename_i O Z;obtain⟨g3,g4⟩:=AbY Z A;exact W O u w' ((g2.trans Y (λ_ _=>rfl) λi B=>B).trans g4 (λ_ B=>B) λ_ _=>rfl) g3 J
theorem pathgW{z:Bool}{Q:Exit->Act->World->Prop}{J:List Oper}:∀(g:List Oper) (ρ:Asm) (s:St) (a:Act) (w:World) (K:Asm->St->Option Bool),CW ops ρ s.den.t->(∀x∈ρ,As g x.2.1=true/\(s.t x.2.1).stay=true)->AQ C E.h.n s.den a w->CF E false ops g ρ s K=some z->
  (∀ρ' s' a' w',s.r.length<=s'.r.length->(s'.r.length=s.r.length->s'.r=s.r/\∀i,As g i=true->s'.t i=s.t i)->AQ C E.h.n s'.den a' w'->CW ops ρ' s'.den.t->K ρ' s'=some z->wpList P ops Q J a' w')->wpList P ops Q (g++J) a w:=by
 intro g
 induction g with
 |nil=>intro ρ s a w K Y _ hs h hK;exact hK ρ s a w (le_refl _) (λ_=>⟨rfl,λ_ _=>rfl⟩) hs Y h
 |cons o g ih=>
  intro ρ s a w K Y hnd hs h hK;unfold CF at h;split at h
  case h_1=>cases h
  rename_i j B hgo;split at h
  case h_1=>cases h
  rename_i dj hdj;rw[List.cons_append]
  have bstay:∀(y:Sl) (r r':List Ae) (v:Bool),y.v r=.c (.bool v)->y.stay=true->y.v r'=.c (.bool v):=by
   intro y r r' v hv hst;cases y with
   |one c=>cases c<;>first|exact hv|cases hst
   |new l=>exact hv
   |agg l=>cases hv
   |tup l=>cases hv
   |pk t l=>cases hv
  -- what is behind this operation
  have cont:∀(u:Asm) (s1:St) (a1:Act) (w1:World),CW ops u s.den.t->(∀x∈u,As (o::g) x.2.1=true/\(s.t x.2.1).stay=true)->s.r.length<=s1.r.length->(s1.r.length=s.r.length->s1.r=s.r/\∀i,o.dst≠some i->s1.t i=s.t i)->(∀i,o.dst≠some i->(s.t i).stay=true->s1.t i=s.t i)->AQ C E.h.n s1.den a1 w1->CF E false ops g u s1 K=some z->wpList P ops Q (g++J) a1 w1:=by
   intro u s1 a1 w1 O W hle hsm hst A h1;refine ih u s1 a1 w1 K (λx Z=>⟨(O x Z).1,?_⟩) (λx Z=>?_) A h1 λρ2 s2 a2 w2 g1 g2 g3 g4 g5=>?_
   .obtain⟨n1,n2⟩:=W x Z
    show(s1.t x.2.1).v s1.r=_;rw[hst _ (AL n1).1 n2];exact bstay _ s.r s1.r _ (O x Z).2 n2
   .obtain⟨n1,n2⟩:=W x Z
    rw[hst _ (AL n1).1 n2];exact⟨(AL n1).2,n2⟩
   .refine hK ρ2 s2 a2 w2 (le_trans hle g1) (λhe=>?_) g3 g4 g5
    obtain⟨k1,k2⟩:=g2 (by omega)
    obtain⟨k3,k4⟩:=hsm (by omega)
    refine⟨k1.trans k3,λi hi=>?_⟩
    obtain⟨n1,n2⟩:=AL hi;rw[k2 i n2,k4 i n1]
  have pass:∀u:Asm,CW ops u s.den.t->(∀x∈u,As (o::g) x.2.1=true/\(s.t x.2.1).stay=true)->onS (C6 E.h s o.dst) (λs'=>CF E false ops g u s' K)=some z->wpList P ops Q (g++J) (a.put o.dst undef) w:=by
   intro u h1 h2 h3;cases hp:C6 E.h s o.dst with
   |none=>rw[hp]at h3;cases h3
   |some s1=>
    rw[hp]at h3;obtain⟨q1,q2,q3⟩:=Qg hp hs;exact cont u s1 _ w h1 h2 (by rw[q2];exact le_refl _) (λ_=>⟨q2,q3⟩) (λi hi _=>q3 i hi) q1 h3
  have step:∀u:Asm,CW ops u s.den.t->(∀x∈u,As (o::g) x.2.1=true/\(s.t x.2.1).stay=true)->LH E false u s o (λs'=>CF E false ops g u s' K)=some z->o.wp P a w (λa' w'=>wpList P ops Q (g++J) a' w') Q:=by
   intro u h1 h2 h3;unfold LH at h3;split at h3
   .rename_i v hv
    split at h3
    case h_2=>cases h3
    rename_i s1 A;have hQS:QS P s o.op (.one (.c .bool 0 v)):=Ii (VLe.refl _) h1 hv (Sub.refl _);have U:s.put E.h o.dst (.one (.c .bool 0 v))=some s1/\s1.r=s.r/\∀i,o.dst≠some i->s1.t i=s.t i:=by
     unfold Acn at A;split at A
     case h_2=>cases A
     rename_i d hd;obtain⟨hb,A⟩:=Bc A;rw[bAE,Bool.not_eq_true']at hb;cases A;refine⟨?_,rfl,λi hi=>A1 λe=>hi (by rw[hd,e])⟩
     rw[hd];unfold St.put;simp only[hb.1,hb.2,cond_true,cond_false];rfl
    exact QZ hQS U.1 hs λa' w' hs'=>cont u s1 a' w' h1 h2 (by rw[U.2.1];exact le_refl _) (λ_=>U.2) (λi hi _=>U.2.2 i hi) hs' h3
   .obtain⟨_,y,hq,hy'⟩:=H4 hE h3
    split at hy'
    case h_2=>cases hy'
    rename_i s' A;have hp:s.put E.h o.dst y=some s':=by
     cases hyo:y.own&& !fzD E.h o.dst with
     |true=>rw[hyo]at A;cases A
     |false=>rw[hyo]at A;exact A
    obtain⟨⟨new,hr⟩,ht,hsame⟩:=Qe hp;refine QZ hq hp hs λa' w' hs'=>cont u s' a' w' h1 h2 (by rw[hr];simp) (λhe=>?_) ht hs' hy'
    have hr1:s'.r=s.r:=by
     have:new=[]:=by
      have:=congrArg List.length hr;rw[List.length_append,he]at this;exact List.length_eq_zero_iff.1 (by omega)
     rw[hr,this,List.append_nil]
    exact⟨hr1,hsame hr1⟩
  have known:∀(u:Asm) (v:Bool),s.den.t dj=.c (.bool v)->CW ops u s.den.t->(∀x∈u,As (o::g) x.2.1=true/\(s.t x.2.1).stay=true)->(v=B->LH E false u s o (λs'=>CF E false ops g u s' K)=some z)->(v=(!B)->onS (C6 E.h s o.dst) (λs'=>CF E false ops g u s' K)=some z)->
    wpList P ops Q (o::(g++J)) a w:=by
   intro u v hv h1 h2 h3 h4;have hy:=Xe hs (show gv s.den.t ops j=.c (.bool v) by unfold gv;rw[hdj];exact hv)
   unfold wpList;by_cases e:v=B
   .rw[if_pos (by simp[Region.wanted,hgo,hy,e])]
    exact .inl (step u h1 h2 (h3 e))
   .rw[if_neg (by simp[Region.wanted,hgo,hy,e])]
    exact pass u h1 h2 (h4 (by cases v<;>cases B<;>simp_all))
  cases hu:AbD (s.t dj)with
  |true=>
   rw[hu]at h;have hy:=Xf hs (show gv s.den.t ops j=udV by unfold gv;rw[hdj];exact W6 hu)
   unfold wpList;rw[if_neg (by simp[Region.wanted,hgo,hy])]
   exact pass ρ Y hnd h
  |false=>
   rw[hu]at h;simp only[cond_false]at h;split at h
   .rename_i v hv
    obtain⟨d',hm⟩:=HJ hv;obtain⟨e1,e2⟩:=Y _ hm;have e1:some dj=some d':=hdj.symm.trans e1;cases e1;refine known ρ v e2 Y hnd (λe=>?_) λe=>?_
    .subst e;simpa using h
    .subst e;cases B<;>exact h
   .split at h
    case h_2=>cases h
    rename_i dd b hb;have hbv:s.den.t dj=.c (.bool b):=by show(s.t dj).v s.r=_;rw[hb];rfl
    obtain⟨hn,h⟩:=Bc h
    have O:CW ops ((j,dj,b)::ρ) s.den.t:=λx Z=>by
     rcases mem_cons.1 Z with rfl|Z
     .exact⟨hdj,hbv⟩
     .exact Y x Z
    have W:∀x∈(j,dj,b)::ρ,As (o::g) x.2.1=true/\(s.t x.2.1).stay=true:=λx Z=>by
     rcases mem_cons.1 Z with rfl|Z
     .refine⟨hn,?_⟩
      show(s.t dj).stay=true;rw[hb];rfl
     .exact hnd x Z
    refine known ((j,dj,b)::ρ) b hbv O W (λe=>?_) λe=>?_
    .subst e;cases b<;>exact h
    .subst e;cases B<;>exact h
theorem pathXW{z:R}{Q:Exit->Act->World->Prop}{B:List Oper}:∀(g:List Oper) (ρ:Asm) (s:St) (a:Act) (w:World) (K:Asm->St->Option R),CW ops ρ s.den.t->(∀x∈ρ,As g x.2.1=true/\(s.t x.2.1).stay=true)->AQ C E.h.n s.den a w->CE E ops g ρ s K=some z->
  (∀ρ' s' a' w',Kp (As g) s s'->AQ C E.h.n s'.den a' w'->CW ops ρ' s'.den.t->K ρ' s'=some z->wpList P ops Q B a' w')->wpList P ops Q (g++B) a w:=by
 intro g
 induction g with
 |nil=>intro ρ s a w K Y _ hs h hK;exact hK ρ s a w (Kp.refl _ _) hs Y h
 |cons o g ih=>
  intro ρ s a w K Y hnd hs h hK;unfold CE at h;split at h
  case h_1=>cases h
  rename_i j A hgo;split at h
  case h_1=>cases h
  rename_i dj hdj;rw[List.cons_append]
  have bstay:∀(y:Sl) (r r':List Ae) (v:Bool),y.v r=.c (.bool v)->y.stay=true->y.v r'=.c (.bool v):=by
   intro y r r' v hv hst;cases y with
   |one c=>cases c<;>first|exact hv|cases hst
   |new l=>exact hv
   |agg l=>cases hv
   |tup l=>cases hv
   |pk t l=>cases hv
  -- what is behind this operation
  have cont:∀(u:Asm) (s1:St) (a1:Act) (w1:World),CW ops u s.den.t->(∀x∈u,As (o::g) x.2.1=true/\(s.t x.2.1).stay=true)->Kp (λi=>decide (o.dst≠some i)) s s1->AQ C E.h.n s1.den a1 w1->CE E ops g u s1 K=some z->wpList P ops Q (g++B) a1 w1:=by
   intro u s1 a1 w1 O W hkp J h1;have hst:∀i,o.dst≠some i->(s.t i).stay=true->s1.t i=s.t i:=λi h1 h2=>hkp.t i (dT h1) h2
   refine ih u s1 a1 w1 K (λx Z=>⟨(O x Z).1,?_⟩) (λx Z=>?_) J h1 λρ2 s2 a2 w2 g1 g3 g4 g5=>?_
   .obtain⟨n1,n2⟩:=W x Z
    show(s1.t x.2.1).v s1.r=_;rw[hst _ (AL n1).1 n2];exact bstay _ s.r s1.r _ (O x Z).2 n2
   .obtain⟨n1,n2⟩:=W x Z
    rw[hst _ (AL n1).1 n2];exact⟨(AL n1).2,n2⟩
   .exact hK ρ2 s2 a2 w2 (hkp.trans g1 (λi hi=>dT (AL hi).1) λi hi=>(AL hi).2) g3 g4 g5
  have pass:∀u:Asm,CW ops u s.den.t->(∀x∈u,As (o::g) x.2.1=true/\(s.t x.2.1).stay=true)->Acr (C6 E.h s o.dst) (λs'=>CE E ops g u s' K)=some z->wpList P ops Q (g++B) (a.put o.dst undef) w:=by
   intro u h1 h2 h3;cases hp:C6 E.h s o.dst with
   |none=>rw[hp]at h3;cases h3
   |some s1=>
    rw[hp]at h3;obtain⟨q1,q2,q3⟩:=Qg hp hs;exact cont u s1 _ w h1 h2 ⟨λi hi _=>q3 i (of_decide_eq_true hi),λ_ _ _=>by rw[q2],by rw[q2];exact le_refl _⟩ q1 h3
  have step:∀u:Asm,CW ops u s.den.t->(∀x∈u,As (o::g) x.2.1=true/\(s.t x.2.1).stay=true)->Uh E u s o (λs'=>CE E ops g u s' K)=some z->o.wp P a w (λa' w'=>wpList P ops Q (g++B) a' w') Q:=by
   intro u h1 h2 h3;unfold Uh at h3;split at h3
   .rename_i v hv
    split at h3
    case h_2=>cases h3
    rename_i s1 J;have hQS:QS P s o.op (.one (.c .bool 0 v)):=Ii (VLe.refl _) h1 hv (Sub.refl _);have U:s.put E.h o.dst (.one (.c .bool 0 v))=some s1/\s1.r=s.r/\∀i,o.dst≠some i->s1.t i=s.t i:=by
     unfold Acn at J;split at J
     case h_2=>cases J
     rename_i d hd;obtain⟨hb,J⟩:=Bc J;rw[bAE,Bool.not_eq_true']at hb;cases J;refine⟨?_,rfl,λi hi=>A1 λe=>hi (by rw[hd,e])⟩
     rw[hd];unfold St.put;simp only[hb.1,hb.2,cond_true,cond_false];rfl
    exact QZ hQS U.1 hs λa' w' hs'=>cont u s1 a' w' h1 h2 ⟨λi hi _=>U.2.2 i (of_decide_eq_true hi),λ_ _ _=>by rw[U.2.1],by rw[U.2.1];exact le_refl _⟩ hs' h3
   .exact Vx hE hs h3 λs' a' w' hk hs' hy=>cont u s' a' w' h1 h2 hk hs' hy
  have known:∀(u:Asm) (v:Bool),s.den.t dj=.c (.bool v)->CW ops u s.den.t->(∀x∈u,As (o::g) x.2.1=true/\(s.t x.2.1).stay=true)->(v=A->Uh E u s o (λs'=>CE E ops g u s' K)=some z)->(v=(!A)->Acr (C6 E.h s o.dst) (λs'=>CE E ops g u s' K)=some z)->
    wpList P ops Q (o::(g++B)) a w:=by
   intro u v hv h1 h2 h3 h4;have hy:=Xe hs (show gv s.den.t ops j=.c (.bool v) by unfold gv;rw[hdj];exact hv)
   unfold wpList;by_cases e:v=A
   .rw[if_pos (by simp[Region.wanted,hgo,hy,e])]
    exact .inl (step u h1 h2 (h3 e))
   .rw[if_neg (by simp[Region.wanted,hgo,hy,e])]
    exact pass u h1 h2 (h4 (by cases v<;>cases A<;>simp_all))
  cases hu:AbD (s.t dj)with
  |true=>
   rw[hu]at h;have hy:=Xf hs (show gv s.den.t ops j=udV by unfold gv;rw[hdj];exact W6 hu)
   unfold wpList;rw[if_neg (by simp[Region.wanted,hgo,hy])]
   exact pass ρ Y hnd h
  |false=>
   rw[hu]at h;simp only[cond_false]at h;split at h
   .rename_i v hv
    obtain⟨d',hm⟩:=HJ hv;obtain⟨e1,e2⟩:=Y _ hm;have e1:some dj=some d':=hdj.symm.trans e1;cases e1;refine known ρ v e2 Y hnd (λe=>?_) λe=>?_
    .subst e;simpa using h
    .subst e;cases A<;>exact h
   .split at h
    case h_2=>cases h
    rename_i dd b hb;have hbv:s.den.t dj=.c (.bool b):=by show(s.t dj).v s.r=_;rw[hb];rfl
    obtain⟨hn,h⟩:=Bc h
    have O:CW ops ((j,dj,b)::ρ) s.den.t:=λx Z=>by
     rcases mem_cons.1 Z with rfl|Z
     .exact⟨hdj,hbv⟩
     .exact Y x Z
    have W:∀x∈(j,dj,b)::ρ,As (o::g) x.2.1=true/\(s.t x.2.1).stay=true:=λx Z=>by
     rcases mem_cons.1 Z with rfl|Z
     .refine⟨hn,?_⟩
      show(s.t dj).stay=true;rw[hb];rfl
     .exact hnd x Z
    refine known ((j,dj,b)::ρ) b hbv O W (λe=>?_) λe=>?_
    .subst e;cases b<;>exact h
    .subst e;cases A<;>exact h
theorem Yg{ops:Array Oper}{K:St->Option R}{z:R}{Q:Exit->Act->World->Prop}:∀(l:List Seg) (k:Nat) (s:St) (a:Act) (w:World),AQ C E.h.n s.den a w->
  Lt E ops l k s K=some z->(∀s' a' w',Kp (As ((l.drop k).flatMap Seg.ops)) s s'->AQ C E.h.n s'.den a' w'->K s'=some z->Q .normal a' w')->wpList P ops Q ((l.drop k).flatMap Seg.ops) a w:=by
 intro l
 induction l with
 |nil=>intro k s a w hs h hK;rw[List.drop_nil]at hK⊢;exact hK s a w (Kp.refl _ _) hs h
 |cons sg l ih=>
  intro k s a w hs h hK;cases k with
  |succ k=>exact ih k s a w hs h hK
  |zero=>
  have ih2:=ih
  replace ih:=ih 0
  simp only[List.drop_zero]at ih hK⊢;cases sg with
  |one o=>
   unfold Lt at h;split at h
   .rename_i o2 o3 A U
    unfold oif at h;split at h
    case isFalse=>cases h
    rename_i hp;obtain⟨l',rfl,g1,g2,g3,U⟩:∃l',l=.one o2:: .one o3::l'/\o.guard=none/\o2.guard=none/\o3.guard=none/\VK E s [] o o2 o3=some A:=by
     unfold rowS at U;split at U
     case h_2=>cases U
     rename_i p2 p3 l';obtain⟨hg,U⟩:=Bc U;simp only[bAE,Option.isNone_iff_eq_none]at hg;cases hr:VK E s [] o p2 p3 with
     |none=>rw[hr]at U;cases U
     |some A0=>
      rw[hr]at U;cases U;exact⟨l',rfl,hg.1.1,hg.1.2,hg.2,hr⟩
    have w1:∀(o:Oper) (a:Act),o.guard=none->Region.wanted o (yielded ops a.tmps)=true:=λo a hg=>by simp[Region.wanted,hg]
    show wpList P ops Q (o::o2::o3::l'.flatMap Seg.ops) a w;unfold wpList;rw[if_pos (w1 o a g1)];refine .inl (Oper.wp_mono (λa1 w1' h1=>?_) (VI (Q:=Q) hE.Θ U hp hs (next:=λa' w'=>wpList P ops Q (l'.flatMap Seg.ops) a' w') λa' w' hs'=>ih2 2 A.s a' w' hs' h λs2 a2 Z h2 h3 h4=>hK s2 a2 Z ((VJ U).trans h2 (λi u=>?_) λi u=>?_) h3 h4))
    .unfold wpList
     rw[if_pos (w1 o2 a1 g2)];refine .inl (Oper.wp_mono (λa2 w2' h2=>?_) h1)
     unfold wpList;rw[if_pos (w1 o3 a2 g3)];exact .inl h2
    .have u:As ([o,o2,o3]++l'.flatMap Seg.ops) i=true:=u
     unfold As at u⊢;rw[all_append,bAE]at u;exact u.1
    .have u:As ([o,o2,o3]++l'.flatMap Seg.ops) i=true:=u
     unfold As at u⊢;rw[all_append,bAE]at u;exact u.2
   split at h
   case h_2=>cases h
   rename_i hg;rw[flatMap_cons];show wpList P ops Q (o::l.flatMap Seg.ops) a w;unfold wpList;rw[if_pos (by simp[Region.wanted,hg])]
   refine .inl (Vx hE hs h λs' a' w' hk hs' hy=>ih s' a' w' hs' hy λs2 a2 Z h2 h3 h4=>hK s2 a2 Z (hk.trans h2 (λi u=>dT ?_) λi u=>?_) h3 h4)
   .exact(AL (o:=o) (g:=l.flatMap Seg.ops) u).1
   .exact(AL (o:=o) (g:=l.flatMap Seg.ops) u).2
  |grp g pk=>
   unfold Lt at h;split at h
   case h_2=>cases h
   rename_i d O;have hpd2:pk.dst=some d/\pk.guard=none/\d<E.h.n/\E.h.fz.contains d=false:=by
    unfold YK at O;split at O
    case h_2=>cases O
    rename_i d' e1 e2;obtain⟨hb,O⟩:=Bc O;cases O;rw[bAE,Bool.not_eq_true']at hb;exact⟨e1,e2,blE hb.1,hb.2⟩
   obtain⟨e1,e3,h3,h4⟩:=hpd2;cases hgU:grpU E g with
   |true=>
    rw[hgU]at h;simp only[cond_true]at h;rw[flatMap_cons];show wpList P ops Q ((g++[pk])++l.flatMap Seg.ops) a w;rw[List.append_assoc];refine pathXW hE g [] s a w _ (λx hx=>by cases hx) (λx hx=>by cases hx) hs h λρ' s1 a1 w1 hkp hs1 W B=>?_
    split at B
    case h_2=>cases B
    rename_i v hpv;have hQS:QS P s1 pk.op (.one (.c .bool 0 v)):=Ii (VLe.refl _) W hpv (Sub.refl _);have Y:s1.put E.h pk.dst (.one (.c .bool 0 v))=some ⟨AK s1.t d (.one (.c .bool 0 v)),s1.r⟩:=by
     rw[e1];unfold St.put;simp only[show blt d E.h.n=true from Nat.ble_eq_true_of_le h3,h4,cond_true,cond_false]
     rfl
    show wpList P ops Q (pk::l.flatMap Seg.ops) a1 w1;unfold wpList;rw[if_pos (by simp[Region.wanted,e3])]
    refine .inl (QZ hQS Y hs1 λa2 Z hs2=>?_)
    have hs3:AQ C E.h.n (St.den ⟨AK (C7 g s1.t) d (.one (.c .bool 0 v)),s1.r⟩) a2 Z:=by
     refine hs2.sub rfl (λi _=>Sub.refl _) λi=>?_
     show Ay ((AK s1.t d _ i).v s1.r) ((AK (C7 g s1.t) d _ i).v s1.r);by_cases J:i=d
     .subst J
      have e:∀t:Nat->Sl,AK t i (.one (.c .bool 0 v)) i=.one (.c .bool 0 v):=λt=>by unfold AK;rw[beq_refl];rfl
      rw[e,e];exact Ay.refl _
     .rw[A1 J,A1 J,DN]
      by_cases hn:As g i=true
      .rw[if_pos hn];exact Ay.refl _
      .rw[if_neg hn];exact Ay.dead _
    refine ih ⟨AK (C7 g s1.t) d (.one (.c .bool 0 v)),s1.r⟩ a2 Z hs3 B λs4 a4 w4 hk4 h5 h6=>hK s4 a4 w4 ?_ h5 h6
    refine hkp.trans (g2:=λi=>As (l.flatMap Seg.ops) i&&(As g i&&decide (i≠d))) (Kp.trans (s1:=⟨AK (C7 g s1.t) d (.one (.c .bool 0 v)),s1.r⟩) (g1:=λi=>As g i&&decide (i≠d)) (g2:=As (l.flatMap Seg.ops)) ⟨λi u _=>?_,λ_ _ _=>rfl,le_refl _⟩ hk4 (λi u=>(bAE _ _▸u).2) λi u=>(bAE _ _▸u).1) (λi u=>?_) λi u=>?_
    .simp only[bAE,decide_eq_true_eq]at u
     show AK (C7 g s1.t) d (.one (.c .bool 0 v)) i=s1.t i;rw[A1 u.2,DN,if_pos u.1]
    .rw[flatMap_cons]at u
     have u:As ((g++[pk])++l.flatMap Seg.ops) i=true:=u;unfold As at u;rw[all_append,all_append,bAE,bAE]at u;exact u.1.1
    .rw[flatMap_cons]at u
     have u:As ((g++[pk])++l.flatMap Seg.ops) i=true:=u;unfold As at u;rw[all_append,all_append,bAE,bAE]at u;simp only[bAE,decide_eq_true_eq];refine⟨u.2,u.1.1,?_⟩
     rintro rfl
     have:=u.1.2;simp only[all_cons,all_nil,Bool.and_true,e1,beq_refl,Bool.not_true]at this;cases this
   |false=>
   rw[hgU]at h;simp only[cond_false]at h;cases hv:grpB E false ops s g pk with
   |none=>rw[hv]at h;cases h
   |some v=>
    rw[hv]at h;simp only[Option.bind_some]at h;rw[flatMap_cons];show wpList P ops Q ((g++[pk])++l.flatMap Seg.ops) a w;rw[List.append_assoc];refine pathgW hE g [] s a w _ (λx hx=>by cases hx) (λx hx=>by cases hx) hs hv λρ' s1 a1 w1 hle hsm hs1 W B=>?_
    obtain⟨hl,B⟩:=Bc B;obtain⟨hr1,ht1⟩:=hsm (bqE hl);have B:NJ ρ' s1 pk.op=some v:=B;have hQS:QS P s1 pk.op (.one (.c .bool 0 v)):=Ii (VLe.refl _) W B (Sub.refl _);have Y:s1.put E.h pk.dst (.one (.c .bool 0 v))=some ⟨AK s1.t d (.one (.c .bool 0 v)),s1.r⟩:=by
     rw[e1];unfold St.put;simp only[show blt d E.h.n=true from Nat.ble_eq_true_of_le h3,h4,cond_true,cond_false]
     rfl
    show wpList P ops Q (pk::l.flatMap Seg.ops) a1 w1;unfold wpList;rw[if_pos (by simp[Region.wanted,e3])]
    refine .inl (QZ hQS Y hs1 λa2 Z hs2=>?_)
    have hs3:AQ C E.h.n (St.den ⟨AK (C7 g s.t) d (.one (.c .bool 0 v)),s.r⟩) a2 Z:=by
     refine hs2.sub (by show(s.r.map Ae.v).length=(s1.r.map Ae.v).length;rw[hr1]) (λi _=>by show Sub ((s1.r.map Ae.v).getD i .dead) ((s.r.map Ae.v).getD i .dead);rw[hr1];exact Sub.refl _) λi=>?_
     show Ay ((AK s1.t d _ i).v s1.r) ((AK (C7 g s.t) d _ i).v s.r);by_cases J:i=d
     .subst J
      have e:∀t:Nat->Sl,AK t i (.one (.c .bool 0 v)) i=.one (.c .bool 0 v):=λt=>by unfold AK;rw[beq_refl];rfl
      rw[e,e];exact Ay.refl _
     .rw[A1 J,A1 J,DN]
      by_cases hn:As g i=true
      .rw[if_pos hn,ht1 i hn,hr1];exact Ay.refl _
      .rw[if_neg hn];exact Ay.dead _
    refine ih ⟨AK (C7 g s.t) d (.one (.c .bool 0 v)),s.r⟩ a2 Z hs3 h λs4 a4 w4 hk4 h5 h6=>hK s4 a4 w4 ?_ h5 h6
    refine Kp.trans (s1:=⟨AK (C7 g s.t) d (.one (.c .bool 0 v)),s.r⟩) (g1:=λi=>As g i&&decide (i≠d)) (g2:=As (l.flatMap Seg.ops)) ⟨λi u _=>?_,λ_ _ _=>rfl,le_refl _⟩ hk4 (λi u=>?_) λi u=>?_
    .simp only[bAE,decide_eq_true_eq]at u
     show AK (C7 g s.t) d (.one (.c .bool 0 v)) i=s.t i;rw[A1 u.2,DN,if_pos u.1]
    .rw[flatMap_cons]at u
     have u:As ((g++[pk])++l.flatMap Seg.ops) i=true:=u;unfold As at u;rw[all_append,all_append,bAE,bAE]at u;simp only[bAE,decide_eq_true_eq];refine⟨u.1.1,?_⟩
     rintro rfl
     have:=u.1.2;simp only[all_cons,all_nil,Bool.and_true,e1,beq_refl,Bool.not_true]at this;cases this
    .rw[flatMap_cons]at u
     have u:As ((g++[pk])++l.flatMap Seg.ops) i=true:=u;unfold As at u;rw[all_append,bAE]at u;exact u.2
theorem Vw{ops:Array Oper}{K:St->Option R}{z:R}{Q:Exit->Act->World->Prop}(l:List Seg)(s:St)(a:Act)(w:World)(A:AQ C E.h.n s.den a w)
  (h:tops E ops l s K=some z) (B:∀s' u w',Kp (As (l.flatMap Seg.ops)) s s'->AQ C E.h.n s'.den u w'->K s'=some z->Q .normal u w'):wpList P ops Q (l.flatMap Seg.ops) a w:=Yg hE l 0 s a w A h B
end wp
end Go.Ve

