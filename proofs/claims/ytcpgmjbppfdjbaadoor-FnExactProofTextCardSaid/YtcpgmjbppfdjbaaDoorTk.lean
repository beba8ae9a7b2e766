/- The typed machine: operations in order; code. -/
import Derived.Test.YtcpgmjbppfdjbaaDoorTka
namespace Go.Ve
variable{a:Act}{ops:Array Oper}{o:Oper}{s:St}{R:Type}{w:World}
def YI(o:Oper):Option (TypeId×Operand×Operand):=match o.op,o.dst with
 | .store t x v,none=>some (t,x,v)
 |_,_=>none
inductive LoudK where
 |app (d:Nat) (t:TypeId) (x y:Operand)
 |bs (d:Nat) (t:TypeId) (n:Nat) (ps:Array (Nat×Operand))
 |cw (d:Nat) (f:FuncId) (xs:Array Operand)
def Wa(E:Env)(o:Oper):Option LoudK:=match o.dst,o.op with
 |some d,.buildSlice t n ps=>some (.bs d t n ps)
 |some d,.call c=>match c.callee with
  | .builtin .append=>match c.args.toList,c.argTypes.toList with
   | [x,y],[t,t']=>bif Nat.beq t t' then some (.app d t x y)else none
   |_,_=>none
  | .value (.func f)=>match Wb E.W f with
   |some _=>some (.cw d f c.args)
   |none=>none
  |_=>none
 |_,_=>none
def elI(E:Env)(t:TypeId):Option TI:=((E.Θ.look t).bind (·.elem)).bind E.Θ.look
def lrK{R:Type}(E:Env)(s:St)(d:Nat)(A:LR)(K:St->Option R):Option R:=bif E.h.fz.contains d then none else oif A.p A.dec (match(Ah A.js s).put E.h (some d) (.one A.y)with
 |some s'=>K s'
 |none=>none)
def Pk{R:Type}(E:Env)(s:St)(o:Oper)(K:St->Option R):Option R:=Zm E s o.type o.op λy=>match s.put E.h o.dst y with
 |some s'=>K s'
 |none=>none
def capsF(fz:List Nat)(o:Oper):List Operand:=match o.op,o.dst with
 | .makeFunc _ _ caps,some d=>bif fz.contains d then caps.toList else []
 |_,_=>[]
def seqF(E:Env)(s:St)(o:Oper):Option (Nat×Nat×Bool):=match Ia o.op with
 |some (f,xs)=>match Jy E.U f with
  |some e=>match xs.toList[e.S.k]? with
   |some (.tmp z)=>match B4 s z with
    |some id=>some (z,id,e.S.eat)
    |none=>none
   |_=>none
  |none=>none
 |none=>none
def seqB(E:Env)(o:Oper)(z id:Nat)(eat:Bool)(s1 s2:St):Bool:=(match o.dst with
 |some d=>!(s2.t d).own||(s2.t d).stay
 |none=>true)&&(bif eat then !(s2.t z).own else Hr (s2.t z)&&Nat.blt id s1.r.length&&(match s1.r.getD id .dead with
  | .dead=>true
  |_=>false))
def J8(E:Env)(s:St)(o:Oper)(z id:Nat):List Nat:=(List.range E.h.n).filter λy=>!Nat.beq y z&&(match o.dst with
 |some d=>!Nat.beq y d
 |none=>true)&&(match B4 s y with
 |some j=>Nat.beq j id
 |none=>false)
def Zl{R:Type}(E:Env)(s:St)(o:Oper)(K:St->Option R):Option R:=match seqF E s o with
 |some (z,id,eat)=>match JO [z] s with
  |some s1=>match Lp E.h (λz'=>Nat.beq z' z) (λz=>z) E.U s1 o with
   |some A=>H1 A.o λu=>bif seqB E o z id eat s1 ⟨AD (AD s1.t A.y (A.u u)) A.d (A.z u),s1.r⟩then
     K ((bif eat then⟨AD (AD s1.t A.y (A.u u)) A.d (A.z u),s1.r⟩else St.rerefs id (B5 ((AD (AD s1.t A.y (A.u u)) A.d (A.z u)) z)) (J8 E s o z id) (St.backs [(z,id)] ⟨AD (AD s1.t A.y (A.u u)) A.d (A.z u),s1.r⟩)).promA [o.dst])else none
   |none=>none
  |none=>none
 |none=>none
def Zn{R:Type}(E:Env)(s:St)(o:Oper)(K:St->Option R):Option R:=match seqF E s o with
 |some _=>Zl E s o K
 |none=>match YI o with
 |some (t,x,v)=>match Va s (E.Θ.look t) (s.ev x) (s.ev v)with
  |some A=>oif A.p A.dec (K A.s)
  |none=>Oi s (E.Θ.look t) (s.ev x) (s.ev v) K
 |none=>match Wa E o with
  |some (.app d t x y)=>match Y4 s (s.ev x)with
   |some s0=>match I6 s0 (elI E t) (s0.ev x) (s0.ev y)with
    |some A=>lrK E s0 d A K
    |none=>none
   |none=>none
  |some (.bs d t n ps)=>match AaP (ps.toList.map (·.2)) s with
   |some s0=>match tBSM s0 n (ps.toList.map λp=>(p.1,s0.ev p.2)) (elI E t)with
    |some A=>lrK E s0 d A K
    |none=>Pk E s o K
   |none=>none
  |some (.cw d f xs)=>match ML E.W s f (xs.toList.map s.ev)with
   |some A=>H1 A.o λu=>match A.st u with
    |some s1=>match s1.put E.h (some d) (.one (A.y u))with
     |some s'=>Pz (xs.toList.flatMap λx=>argIds (s.ev x)) s' K
     |none=>none
    |none=>none
   |none=>none
  |none=>match capsF E.h.fz o with
   | []=>Pk E s o K
   |x::xs=>match NI (x::xs) s with
    |some s0=>Pk E s0 o K
    |none=>none
def tone{R:Type}(E:Env)(s:St)(o:Oper)(K:St->Option R):Option R:=match frzO E s o with
 |some s'=>Zn E s' o λs2=>match frzP E s2 o with
  |some s3=>K s3
  |none=>none
 |none=>none
def grpU(E:Env)(g:List Oper):Bool:=g.any λo=>match Ia o.op with
 |some (f,_)=>(Jy E.U f).isSome
 |none=>false
def AaK{R:Type}(o:Option St)(K:St->Option R):Option R:=match o with
 |some s=>K s
 |none=>none
def QP{R:Type}(E:Env)(ρ:Asm)(s:St)(o:Oper)(K:St->Option R):Option R:=match Nn ρ s o.op with
 |some v=>match AaI E.h s o.dst v with
  |some s'=>K s'
  |none=>none
 |none=>tone E s o K
def Cj{R:Type}(E:Env)(ops:Array Oper):List Oper->Asm->St->(Asm->St->Option R)->Option R
 | [],ρ,s,K=>K ρ s
 |o::l,ρ,s,K=>match o.guard with
  |none=>none
  |some (j,want)=>match(ops[j]?).bind (·.dst)with
   |none=>none
   |some dj=>bif Z9 (s.t dj)then AaK (CM E.h s o.dst) (λs'=>Cj E ops l ρ s' K)else match Wc ρ j with
    |some v=>bif v==want then QP E ρ s o (λs'=>Cj E ops l ρ s' K)else AaK (CM E.h s o.dst) (λs'=>Cj E ops l ρ s' K)
    |none=>match s.t dj with
     | .one (.c .bool _ b)=>bif Ai (o::l) dj then
      N3 b (bif want then QP E ((j,dj,true)::ρ) s o (λs'=>Cj E ops l ((j,dj,true)::ρ) s' K)else AaK (CM E.h s o.dst) (λs'=>Cj E ops l ((j,dj,true)::ρ) s' K))
       (bif want then AaK (CM E.h s o.dst) (λs'=>Cj E ops l ((j,dj,false)::ρ) s' K)else QP E ((j,dj,false)::ρ) s o (λs'=>Cj E ops l ((j,dj,false)::ρ) s' K))else none
     |_=>none
def rowS(E:Env)(s:St)(o:Oper):List Seg->Option (Oper×Oper×PtR)
 | .one o2:: .one o3::_=>bif o.guard.isNone&&o2.guard.isNone&&o3.guard.isNone then(U8 E s [] o o2 o3).map λA=>(o2,o3,A)else none
 |_=>none
def Li{R:Type}(E:Env)(ops:Array Oper):List Seg->Nat->St->(St->Option R)->Option R
 | [],_,s,K=>K s
 |_::l,k+1,s,K=>Li E ops l k s K
 | .one o::l,0,s,K=>match rowS E s o l with
  |some (_,_,A)=>oif A.p A.dec (Li E ops l 2 A.s K)
  |none=>match o.guard with
   |none=>tone E s o λs'=>Li E ops l 0 s' K
   |some _=>none
 | .grp g pk::l,0,s,K=>match XP E.h pk with
  |some d=>bif grpU E g then Cj E ops g [] s λρ s'=>match Nn ρ s' pk.op with
    |some v=>Li E ops l 0 ⟨AD (CN g s'.t) d (.one (.c .bool 0 v)),s'.r⟩ K
    |none=>none
   else H1 (grpB E false ops s g pk) λv=>Li E ops l 0 ⟨AD (CN g s.t) d (.one (.c .bool 0 v)),s.r⟩ K
  |none=>none
def tops{R:Type}(E:Env)(ops:Array Oper)(l:List Seg)(s:St)(K:St->Option R):Option R:=Li E ops l 0 s K
theorem PI{E:Env}{C:Ctx}{s':St}(h:CM E.h s o.dst=some s')(hs:AI C E.h.n s.den a w):AI C E.h.n s'.den (a.put o.dst undef) w/\s'.r=s.r/\∀i,o.dst≠some i->s'.t i=s.t i:=by
 unfold CM at h;split at h
 ·rename_i d hd
  cases hb:Nat.blt d E.h.n with
  |false=>grind
  |true=>
   rw [hb]at h;cases h;have hk:=hs.skipU (blE hb);refine⟨?_,rfl,λi hi=>AU λe=>hi (by grind)⟩
   have e:(St.den ⟨AD s.t d (.tup []),s.r⟩)=⟨Az s.den.t d udV,s.den.σ⟩:=by
    have:=BO (r:=s.r) (t:=s.t) (d:=d) (y:=.tup []);show Ms.mk (λi=>(AD s.t d (.tup []) i).v s.r) _=_
    rw [this];rfl
   grind
 ·rename_i hd
  cases h;refine⟨?_,rfl,λ_ _=>rfl⟩
  rw [hd];trivial
section wp
variable {P:Program} {E:Env} {C:Ctx} (hE:EOK P E)
include hE
theorem UT{R:Type}{s:St}{o:Oper}{K:St->Option R}{z:R}{a:Act}{w:World}{next:Act->World->Prop}{Q:Exit->Act->World->Prop}(hs:AI C E.h.n s.den a w)(h:(Zm E s o.type o.op λy=>match s.put E.h o.dst y with
   |some s'=>K s'
   |none=>none)=some z) (hn: ∀s' a' w',(∃y,s.put E.h o.dst y=some s')->AI C E.h.n s'.den a' w'->K s'=some z->next a' w'):o.wp P a w next Q:=by
 obtain⟨_,y,hq,hy⟩:=HI hE h;split at hy
 case h_2=>grind
 rename_i s' hs';exact Qt hq hs' hs λa' w' h'=>hn s' a' w' ⟨y,hs'⟩ h' hy
theorem Xk{K:St->Option R}{z0:R}{next:Act->World->Prop}{Q:Exit->Act->World->Prop}(hs:AI C E.h.n s.den a w)(h:Zl E s o K=some z0)
  (hn: ∀s' a' w',Kp (λi=>decide (o.dst≠some i)) s s'->AI C E.h.n s'.den a' w'->K s'=some z0->next a' w'):o.wp P a w next Q:=by
 unfold Zl at h;split at h
 case h_2=>cases h
 rename_i z id eat hsf;split at h
 case h_2=>cases h
 rename_i s1 hd;split at h
 case h_2=>cases h
 rename_i A ha;cases hu:A.o with
 |none=>rw [hu]at h;cases h
 |some u=>
 rw [hu]at h;simp only [Option.bind_some]at h;obtain⟨s2,hs2⟩: ∃s2:St,s2=⟨AD (AD s1.t A.y (A.u u)) A.d (A.z u),s1.r⟩:=⟨_,rfl⟩;rw [<-hs2]at h;obtain⟨hsb,h⟩:=A1 h;unfold seqB at hsb;rw [bAE]at hsb;obtain⟨hb1,hb2⟩:=hsb;obtain⟨v,r,hne,hlq,hvl,hdst,hyd,hyn,f,xs,e,zk,g1,g2,g3,g4,g5⟩:=MG hE.U (Al:=λ_ _=>False) (λ_=>.inl rfl) (VLe.refl s1.den.t) ha hu
 rw [<-hs2]at hvl;have g5:=bqE g5;have hz:A.y=z:=g4.symm.trans g5;have hroot:B4 s z=some id:=by
  unfold seqF at hsf;rw [g1]at hsf;simp only [g2,g3]at hsf;split at hsf
  ·rename_i id' hr
   cases hsf;exact hr
  ·cases hsf
 rw [hz]at hlq hvl hyd hyn;obtain⟨D,ρ,F,T,hp,hT,hval⟩:=NS hd hs (Below.refl w.heap.size w);have hzv:=hval z id hyn hroot;refine hlq C ρ F a w D T s1.den.t (λ_ _=>rfl) (λ_ _ h=>h.elim) hp next Q λa' w' D' T' hp' hT' htm=>?_
 have hPR:Yy [o.dst] ⟨Ih o.dst r (AH [(z,.put v)] s1.den.t),s1.den.σ⟩ s2:=by
  refine⟨by rw [hs2];rfl,λi=>?_,λi hi=>⟨λhoi=>?_,?_⟩⟩
  ·rcases hvl i with e|e
   ·show Ao (Ih o.dst r (AH [(z,.put v)] s1.den.t) i) _
    rw [e];exact Ao.refl _
   ·rw [e.1];exact Ao.dead _
  ·have hi:=List.mem_singleton.1 hi
   rw [<-hi]at hb1;simp only [Bool.or_eq_true,Bool.not_eq_true']at hb1;rcases hb1 with h|h
   ·rw [hoi]at h;cases h
   ·exact h
  ·rcases hvl i with e|e
   ·exact .inl e
   ·right
    refine⟨?_,e.2⟩
    have:AE ((s2.t i).v s2.r)=false:=by
     show AE (s2.den.t i)=false;rw [e.1];rfl
    rw [Sl.own_v]at this;exact this
 have hkd:=NT hd;obtain⟨hro,hzst,_⟩:=BZ hroot;have hdz:o.dst≠some z:=by rw [hdst];intro e;exact hyd (Option.some.inj e).symm
 have hs2t: ∀i,i≠z->o.dst≠some i->s2.t i=s1.t i:=by
  intro i h1 h2;rw [hs2];show AD (AD s1.t A.y (A.u u)) A.d (A.z u) i=_;rw [AU λe=>h2 (by rw [hdst,e]),AU (by rw [hz];exact h1)]
 have hs2r:s2.r=s1.r:=by rw [hs2]
 have hkn: ∀s':St,Kp (Ai [o]) s' (s'.promA [o.dst]):=λs'=>Hf [o] s'
 have nd: ∀i,o.dst≠some i->Ai [o] i=true:=by
  intro i hi
  show((match o.dst with
   |some e=>!Nat.beq e i
   |none=>true)&&true)=true
  rw [Bool.and_true,hdst];show(!Nat.beq A.d i)=true;rw [Br λe=>hi (by rw [hdst,e])];rfl
 -- what is left of it
 have hTz: ∀x b,T' x b->o.dst=some x\/x=z:=λx b hb=>(hT' x b hb).imp (λh=>h) fun⟨b',h⟩=>List.mem_singleton.1 (hT x b' h)
 cases eat with
 |true=>
  simp only [cond_true]at h hb2;have hcl:=PR.close [o.dst] _ _ _ _ _ hp' λx b hb=>by
   rcases hTz x b hb with h1|h1
   ·rw [h1];exact List.mem_singleton.2 rfl
   ·exfalso
    subst h1
    have hown:AE (Ih o.dst r (AH [(x,.put v)] s1.den.t) x)=false:=by
     have h1:(s2.t x).own=false:=by simpa using hb2
     have h2:AE (s2.den.t x)=false:=by
      show AE ((s2.t x).v s2.r)=false;rw [Sl.own_v];exact h1
     rcases hvl x with e|e
     ·rw [e];exact h2
     ·exact e.2
    exact Au _ _ _ hown (hp'.tm x hyn) b hb
  obtain⟨q1,q2⟩:=Js _ _ _ hPR;have hs3:AI C E.h.n (s2.promA [o.dst]).den a' w':=hcl.sub (by rw [q2]) (λi _=>by rw [q2];exact Sub.refl _) q1
  have k1:=hkn s2;refine hn _ _ _ ⟨λi hi hst=>?_,λj hl hj=>?_,?_⟩ hs3 h
  ·have hi:=of_decide_eq_true hi
   have hiz:i≠z:=by rintro rfl;rw [hzst]at hst;cases hst
   have e1:=hkd.t i rfl hst;have e2:=hs2t i hiz hi;rw [k1.t i (nd i hi) (by rw [e2,e1];exact hst),e2,e1]
  ·have e1:=hkd.r j hl hj
   rw [k1.r j (by rw [hs2r];exact Nat.lt_of_lt_of_le hl hkd.l) (by rw [hs2r,e1];exact hj),hs2r,e1]
  ·exact Nat.le_trans hkd.l (by rw [<-hs2r];exact k1.l)
 |false=>
  simp only [cond_false,bAE]at h hb2;obtain⟨⟨hir,hlt⟩,hdead⟩:=hb2;have hlt:=blE hlt;have hdead:s1.r.getD id .dead= .dead:=by
   split at hdead
   ·assumption
   ·cases hdead
  have hSz:Ih o.dst r (AH [(z,.put v)] s1.den.t) z=s2.den.t z:=by
   rcases hvl z with e|e
   ·exact e
   ·obtain⟨_,h3,⟨s0,sz,nn,f,h4,_⟩,_⟩:=Ce hir
    have e1:(s2.t z).v s2.r= .dead:=e.1;rw [h3,h4]at e1;cases e1
  have hobj:Ka (Ih o.dst r (AH [(z,.put v)] s1.den.t) z):=by
   rw [hSz];show Ka ((s2.t z).v s2.r);rw [(Ce hir).2.1];exact(Ce hir).2.2.1
  obtain⟨F2,T2,hp2,hT2⟩:=PR.backs [(z,id)] _ _ _ _ hp' (by simp) (by simp) λp hpm=>by
   rw [List.mem_singleton.1 hpm];refine⟨hyn,by show id<(s1.r.map Aa.v).length;rw [List.length_map];exact hlt,?_,?_,hobj⟩
   ·show(s1.r.map Aa.v).getD id .dead= .dead
    rw [An,hdead];rfl
   ·rw [<-hzv,Array.getD_eq_getD_getElem?,Array.getD_eq_getD_getElem?,htm z hdz]
  have hrd:B5 (AD (AD s1.t A.y (A.u u)) A.d (A.z u) z)=B5 (s2.t z):=by rw [hs2]
  rw [hrd]at h
  have hRv:(B5 (s2.t z)).v=Ih o.dst r (AH [(z,.put v)] s1.den.t) z:=by
   rw [hSz];exact((Ce hir).2.1 s2.r).symm
  have hYs: ∀y∈J8 E s o z id,y<E.h.n/\y≠z/\o.dst≠some y/\B4 s y=some id:=by
   intro y hy;unfold J8 at hy;rw [List.mem_filter,List.mem_range]at hy;obtain⟨h1,h2⟩:=hy;simp only [bAE,Bool.not_eq_true']at h2;obtain⟨⟨h2,h3⟩,h4⟩:=h2;refine⟨h1,λe=>(by rw [e,Nat.beq_refl]at h2;cases h2),λe=>?_,?_⟩
   ·rw [e]at h3
    simp [Nat.beq_refl]at h3
   ·split at h4
    ·rename_i j hj
     rw [hj,bqE h4]
    ·cases h4
  have hlr:id<s1.den.σ.length:=by show id<(s1.r.map Aa.v).length;rw [List.length_map];exact hlt
  have hset:(s1.den.σ.set id (Ih o.dst r (AH [(z,.put v)] s1.den.t) z)).getD id .dead=(B5 (s2.t z)).v:=by
   rw [hRv,gDE,List.getElem?_set_self hlr];rfl
  have hp3:=PR.reref (id:=id) (v:=(B5 (s2.t z)).v) (by show id<(s1.den.σ.set id _).length;simpa using hlr) hset (by rw [hRv];exact hobj) (J8 E s o z id) _ hp2 λy hy=>by
    obtain⟨y1,y2,y3,y4⟩:=hYs y hy;refine⟨y1,?_,λb hb=>?_⟩
    ·rw [<-hval y id y1 y4,Array.getD_eq_getD_getElem?,Array.getD_eq_getD_getElem?,htm y y3]
    ·obtain⟨k1,_⟩:=hT2 y b hb
     exact(hTz y b k1).elim y3 y2
  have hcl:AI C E.h.n (Go.Ve.promA [o.dst] ⟨Go.Ve.rerefs id (B5 (s2.t z)).v (J8 E s o z id) (Go.Ve.backs [(z,id)] ⟨Ih o.dst r (AH [(z,.put v)] s1.den.t),s1.den.σ⟩).t,(Go.Ve.backs [(z,id)] ⟨Ih o.dst r (AH [(z,.put v)] s1.den.t),s1.den.σ⟩).σ⟩) a' w':=PR.close [o.dst] _ _ _ _ _ hp3 λx b hb=>by
   obtain⟨k1,k2⟩:=hT2 x b hb;rcases hTz x b k1 with h1|h1
   ·rw [h1];exact List.mem_singleton.2 rfl
   ·exact absurd (by rw [h1];simp) k2
  have hP2:=JV [(z,id)] _ _ hPR (by simp) λp hpm=>by
   rw [List.mem_singleton.1 hpm];exact⟨λhm=>hdz (List.mem_singleton.1 hm).symm,by rw [hs2r];exact hlt,hSz,hir⟩
  have hbr:(s2.backs [(z,id)]).r.getD id .dead=B5 (s2.t z):=by
   show(s2.r.set id (B5 (s2.t z))).getD id .dead=_;rw [hs2r,gDE,List.getElem?_set_self hlt];rfl
  have hP3:=Ks (id:=id) (R:=B5 (s2.t z)) (by rw [hRv];exact hobj) (J8 E s o z id) _ _ hP2 hbr λy hy hm=>(hYs y hy).2.2.1 (List.mem_singleton.1 hm).symm
  obtain⟨q1,q2⟩:=Js _ _ _ hP3;have hs3:AI C E.h.n ((St.rerefs id (B5 (s2.t z)) (J8 E s o z id) (s2.backs [(z,id)])).promA [o.dst]).den a' w':=hcl.sub (by rw [q2]) (λi _=>by rw [q2];exact Sub.refl _) q1
  have k1:=hkn (St.rerefs id (B5 (s2.t z)) (J8 E s o z id) (s2.backs [(z,id)]));obtain⟨b1,b2,b3⟩:=Mh [(z,id)] s2;obtain⟨c1,c2⟩:=MV (id:=id) (R:=B5 (s2.t z)) (J8 E s o z id) (s2.backs [(z,id)]);refine hn _ _ _ ⟨λi hi hst=>?_,λj hl hj=>?_,?_⟩ hs3 h
  ·have hi:=of_decide_eq_true hi
   have hiz:i≠z:=by rintro rfl;rw [hzst]at hst;cases hst
   have hiY:i∉J8 E s o z id:=λhm=>by
    have:=(BZ (hYs i hm).2.2.2).2.1;rw [hst]at this;cases this
   have e1:=hkd.t i rfl hst;have e2:=hs2t i hiz hi;have e3:=b1 i (λp hp=>by rw [List.mem_singleton.1 hp];exact λe=>hiz e.symm) (by rw [e2,e1];exact hst)
   have e4:=c2 i hiY;rw [k1.t i (nd i hi) (by rw [e4,e3,e2,e1];exact hst),e4,e3,e2,e1]
  ·have e1:=hkd.r j hl hj
   have hjid:id≠j:=by rintro rfl;rw [hro]at hj;cases hj
   have e3:(s2.backs [(z,id)]).r.getD j .dead=s1.r.getD j .dead:=(b2 j λp hp=>by rw [List.mem_singleton.1 hp];exact hjid).trans (by rw [hs2r])
   rw [k1.r j (by rw [c1,b3,hs2r];exact Nat.lt_of_lt_of_le hl hkd.l) (by rw [c1,e3,e1];exact hj),c1,e3,e1]
  ·exact Nat.le_trans hkd.l (by rw [<-hs2r,<-b3,<-c1];exact k1.l)
theorem Xm{K:St->Option R}{z:R}{next:Act->World->Prop}{Q:Exit->Act->World->Prop}(hs:AI C E.h.n s.den a w)(h:Zn E s o K=some z)
  (hn: ∀s' a' w',Kp (λi=>decide (o.dst≠some i)) s s'->AI C E.h.n s'.den a' w'->K s'=some z->next a' w'):o.wp P a w next Q:=by
 unfold Zn at h;split at h
 ·exact Xk hE hs h hn
 split at h
 ·rename_i t x v hst
  unfold YI at hst;split at hst
  case h_2=>cases hst
  rename_i t' x' v' ho hd;cases hst;split at h
  ·rename_i A ha
   by_cases hp:A.p
   ·have e:oif A.p A.dec (K A.s)=K A.s:=@if_pos _ A.dec hp _ _ _
    rw [e]at h;exact Xw hE.Θ ho hd ha hp hs λa' w' h'=>hn A.s a' w' ((Xx ha).weak λ_ _=>rfl) h' h
   ·have e:oif A.p A.dec (K A.s)=none:=@if_neg _ A.dec hp _ _ _
    rw [e]at h;cases h
  rw [Qz]at h;split at h
  case h_2=>cases h
  rename_i s' hs';exact U3 hE.Θ ho hd hs' hs λa' w' h'=>hn s' a' w' ((U4 hs').weak λ_ _=>rfl) h' h
 ·have quiet:Pk E s o K=some z->o.wp P a w next Q:=λh=>UT hE hs h λs' a' w' ⟨y,hp⟩ h' hK=>hn s' a' w' (PE hp) h' hK
  have lr: ∀ {s0:St} {d:Nat} {A:LR},Kp (λ_=>true) s s0->o.dst=some d->(∀j∈A.js,(s0.r.getD j .dead).isRo=false)->lrK E s0 d A K=some z->
    (∀s',(Ah A.js s0).put E.h (some d) (.one A.y)=some s'->E.h.fz.contains d=false->A.p->(∀a' w',AI C E.h.n s'.den a' w'->next a' w')->o.wp P a w next Q)->o.wp P a w next Q:=by
   intro s0 d A k0 hdst hro h hw;unfold lrK at h;cases hfz:E.h.fz.contains d with
   |true=>rw [hfz]at h;cases h
   |false=>
    rw [hfz]at h;simp only [cond_false]at h;by_cases hp:A.p
    ·have h:(match(Ah A.js s0).put E.h (some d) (.one A.y)with
      |some s'=>K s'
      |none=>none)=some z:=by
      have e:oif A.p A.dec (match(Ah A.js s0).put E.h (some d) (.one A.y)with
       |some s'=>K s'
       |none=>none)=(match(Ah A.js s0).put E.h (some d) (.one A.y)with
       |some s'=>K s'
       |none=>none):=@if_pos _ A.dec hp _ _ _
      rw [<-e];exact h
     split at h
     case h_2=>cases h
     rename_i s' hput;refine hw s' hput hfz hp λa' w' h'=>hn s' a' w' ?_ h' h
     have k2:=PE hput;rw [hdst];exact(k0.trans (JM A.js s0 hro) (λ_ _=>rfl) λ_ _=>rfl).trans k2 (λ_ _=>rfl) λi hi=>hi
    ·have e:oif A.p A.dec (match(Ah A.js s0).put E.h (some d) (.one A.y)with
      |some s'=>K s'
      |none=>none)=none:=@if_neg _ A.dec hp _ _ _
     rw [e]at h;cases h
  split at h
  case h_4=>
   split at h
   ·exact quiet h
   ·split at h
    case h_2=>cases h
    rename_i s0 hg;exact UT hE (IR _ hg hs) h λs' a' w' ⟨y,hp⟩ h' hK=>hn s' a' w' ((IS _ hg).trans (PE hp) (λ_ _=>rfl) λi hi=>hi) h' hK
  ·rename_i d t x y hl
   split at h
   case h_2=>cases h
   rename_i s0 hcut;split at h
   case h_2=>cases h
   rename_i A ha;unfold Wa at hl;split at hl
   case h_3=>cases hl
   ·cases hl
   ·rename_i d' c hdst hop
    split at hl
    case h_3=>cases hl
    ·rename_i hcal
     split at hl
     case h_2=>cases hl
     rename_i x' y' t1 t2 hargs hats;obtain⟨hbt,hl⟩:=A1 hl;cases hl;have ho:o.op= .call ⟨.builtin .append,#[x,y],#[t,t]⟩:=by
      rw [hop];obtain⟨cal,args,ats⟩:=c;simp only at hcal hargs hats;have e1:args= #[x,y]:=by cases args;simp at hargs;simp [hargs]
      have e2:ats= #[t,t]:=by cases ats;simp at hats;simp [hats,bqE hbt]
      rw [hcal,e1,e2]
     exact lr (Mc hcut) hdst (QM ha) h λs' hput hfz hp hk=>QL hE.Θ ho hdst hfz ha hp hput (Mb hcut hs) hk
    ·split at hl<;>cases hl
  ·rename_i d t n ps hl
   have hops:o.dst=some d/\o.op= .buildSlice t n ps:=by
    unfold Wa at hl;split at hl
    ·rename_i h1 h2;cases hl;exact⟨h1,h2⟩
    ·split at hl
     ·split at hl
      ·rename_i t1 t2 _ _
       cases hbb:Nat.beq t1 t2<;>rw [hbb]at hl<;>cases hl
      ·cases hl
     ·split at hl<;>cases hl
     ·cases hl
    ·cases hl
   split at h
   case h_2=>cases h
   rename_i s0 hcut;split at h
   ·rename_i A ha
    exact lr (WH _ hcut) hops.1 (ZB Ll ha) h λs' hput hfz _ hk=>ZA hE.Θ hops.2 hops.1 hfz ha hput (WG _ hcut hs) hk
   ·exact quiet h
  ·rename_i d f xs hl
   split at h
   case h_2=>cases h
   rename_i A ha;have hops:o.dst=some d/\∃ats,o.op= .call ⟨.value (.func f),xs,ats⟩:=by
    unfold Wa at hl;split at hl
    ·cases hl
    ·rename_i d' c hdst hop
     split at hl
     ·split at hl
      ·rename_i t1 t2 _ _
       cases hbb:Nat.beq t1 t2<;>rw [hbb]at hl<;>cases hl
      ·cases hl
     ·rename_i f' hcal
      split at hl
      ·cases hl
       refine⟨hdst,c.argTypes,?_⟩;rw [hop];obtain⟨cal,args,ats⟩:=c;simp only at hcal;rw [hcal]
      ·cases hl
     ·cases hl
    ·cases hl
   obtain⟨hdst,ats,ho⟩:=hops;cases hu:A.o with
   |none=>rw [hu]at h;cases h
   |some u=>
    rw [hu]at h;simp only [MX]at h
    have h:(match A.st u with
     |some s1=>match s1.put E.h (some d) (.one (A.y u))with
      |some s'=>K s'
      |none=>none
     |none=>none)=some z:=h
    split at h
    case h_2=>cases h
    rename_i s1 hst;split at h
    case h_2=>cases h
    rename_i s' hput;refine Vg hE.W ho hdst ha hu hst hput hs λa' w' h'=>hn s' a' w' ?_ h' h
    have k2:=PE hput;rw [hdst];exact(Vh ha hst).trans k2 (λ_ _=>rfl) λi hi=>hi
theorem UW{K:St->Option R}{z:R}{next:Act->World->Prop}{Q:Exit->Act->World->Prop}(hs:AI C E.h.n s.den a w)(h:tone E s o K=some z)
  (hn: ∀s' a' w',Kp (λi=>decide (o.dst≠some i)) s s'->AI C E.h.n s'.den a' w'->K s'=some z->next a' w'):o.wp P a w next Q:=by
 unfold tone at h;split at h
 case h_2=>cases h
 rename_i s1 h1;obtain⟨g1,g2⟩:=Aan h1 hs;refine Xm hE g1 h λs' a' w' hk hs' hK=>?_
 split at hK
 case h_2=>cases hK
 rename_i s3 h3;obtain⟨g3,g4⟩:=Aam h3 hs';exact hn s3 a' w' ((g2.trans hk (λ_ _=>rfl) λi hi=>hi).trans g4 (λ_ hi=>hi) λ_ _=>rfl) g3 hK
theorem pathgW{z:Bool}{Q:Exit->Act->World->Prop}{rest:List Oper}: ∀ (g:List Oper) (ρ:Asm) (s:St) (a:Act) (w:World) (K:Asm->St->Option Bool),Cy ops ρ s.den.t->(∀x∈ρ,Ai g x.2.1=true/\(s.t x.2.1).stay=true)->AI C E.h.n s.den a w->Ck E false ops g ρ s K=some z->
  (∀ρ' s' a' w',s.r.length<=s'.r.length->(s'.r.length=s.r.length->s'.r=s.r/\∀i,Ai g i=true->s'.t i=s.t i)->AI C E.h.n s'.den a' w'->Cy ops ρ' s'.den.t->K ρ' s'=some z->wpList P ops Q rest a' w')->wpList P ops Q (g++rest) a w:=by
 intro g
 induction g with
 |nil=>intro ρ s a w K hρ _ hs h hK;exact hK ρ s a w (Nat.le_refl _) (λ_=>⟨rfl,λ_ _=>rfl⟩) hs hρ h
 |cons o g ih=>
  intro ρ s a w K hρ hnd hs h hK;unfold Ck at h;split at h
  case h_1=>cases h
  rename_i j want hgo;split at h
  case h_1=>cases h
  rename_i dj hdj;rw [List.cons_append]
  have bstay: ∀ (y:Sl) (r r':List Aa) (v:Bool),y.v r= .c (.bool v)->y.stay=true->y.v r'= .c (.bool v):=by
   intro y r r' v hv hst;cases y with
   |one c=>cases c<;>first|exact hv|cases hst
   |new l=>exact hv
   |agg l=>cases hv
   |tup l=>cases hv
   |pk t l=>cases hv
  -- what is behind this operation
  have cont: ∀ (ρ1:Asm) (s1:St) (a1:Act) (w1:World),Cy ops ρ1 s.den.t->(∀x∈ρ1,Ai (o::g) x.2.1=true/\(s.t x.2.1).stay=true)->s.r.length<=s1.r.length->(s1.r.length=s.r.length->s1.r=s.r/\∀i,o.dst≠some i->s1.t i=s.t i)->(∀i,o.dst≠some i->(s.t i).stay=true->s1.t i=s.t i)->AI C E.h.n s1.den a1 w1->Ck E false ops g ρ1 s1 K=some z->wpList P ops Q (g++rest) a1 w1:=by
   intro ρ1 s1 a1 w1 hρ1 hnd1 hle hsm hst hs1 h1;refine ih ρ1 s1 a1 w1 K (λx hx=>⟨(hρ1 x hx).1,?_⟩) (λx hx=>?_) hs1 h1 λρ2 s2 a2 w2 g1 g2 g3 g4 g5=>?_
   ·obtain⟨n1,n2⟩:=hnd1 x hx
    show(s1.t x.2.1).v s1.r=_;rw [hst _ (AF n1).1 n2];exact bstay _ s.r s1.r _ (hρ1 x hx).2 n2
   ·obtain⟨n1,n2⟩:=hnd1 x hx
    rw [hst _ (AF n1).1 n2];exact⟨(AF n1).2,n2⟩
   ·refine hK ρ2 s2 a2 w2 (Nat.le_trans hle g1) (λhe=>?_) g3 g4 g5
    obtain⟨k1,k2⟩:=g2 (by omega)
    obtain⟨k3,k4⟩:=hsm (by omega)
    refine⟨k1.trans k3,λi hi=>?_⟩
    obtain⟨n1,n2⟩:=AF hi;rw [k2 i n2,k4 i n1]
  have pass: ∀ρ1:Asm,Cy ops ρ1 s.den.t->(∀x∈ρ1,Ai (o::g) x.2.1=true/\(s.t x.2.1).stay=true)->onS (CM E.h s o.dst) (λs'=>Ck E false ops g ρ1 s' K)=some z->wpList P ops Q (g++rest) (a.put o.dst undef) w:=by
   intro ρ1 h1 h2 h3;cases hp:CM E.h s o.dst with
   |none=>rw [hp]at h3;cases h3
   |some s1=>
    rw [hp]at h3;obtain⟨q1,q2,q3⟩:=PI hp hs;exact cont ρ1 s1 _ w h1 h2 (by rw [q2];exact Nat.le_refl _) (λ_=>⟨q2,q3⟩) (λi hi _=>q3 i hi) q1 h3
  have step: ∀ρ1:Asm,Cy ops ρ1 s.den.t->(∀x∈ρ1,Ai (o::g) x.2.1=true/\(s.t x.2.1).stay=true)->Lv E false ρ1 s o (λs'=>Ck E false ops g ρ1 s' K)=some z->o.wp P a w (λa' w'=>wpList P ops Q (g++rest) a' w') Q:=by
   intro ρ1 h1 h2 h3;unfold Lv at h3;split at h3
   ·rename_i v hv
    split at h3
    case h_2=>cases h3
    rename_i s1 hs1;have hQS:QS P s o.op (.one (.c .bool 0 v)):=HY (VLe.refl _) h1 hv (Sub.refl _);have hput:s.put E.h o.dst (.one (.c .bool 0 v))=some s1/\s1.r=s.r/\∀i,o.dst≠some i->s1.t i=s.t i:=by
     unfold AaI at hs1;split at hs1
     case h_2=>cases hs1
     rename_i d hd;obtain⟨hb,hs1⟩:=A1 hs1;rw [bAE,Bool.not_eq_true']at hb;cases hs1;refine⟨?_,rfl,λi hi=>AU λe=>hi (by rw [hd,e])⟩
     rw [hd];unfold St.put;simp only [hb.1,hb.2,cond_true,cond_false];rfl
    exact Qt hQS hput.1 hs λa' w' hs'=>cont ρ1 s1 a' w' h1 h2 (by rw [hput.2.1];exact Nat.le_refl _) (λ_=>hput.2) (λi hi _=>hput.2.2 i hi) hs' h3
   ·obtain⟨_,y,hq,hy'⟩:=HI hE h3
    split at hy'
    case h_2=>cases hy'
    rename_i s' hs1;have hp:s.put E.h o.dst y=some s':=by
     cases hyo:y.own&& !fzD E.h o.dst with
     |true=>rw [hyo]at hs1;cases hs1
     |false=>rw [hyo]at hs1;exact hs1
    obtain⟨⟨new,hr⟩,ht,hsame⟩:=PF hp;refine Qt hq hp hs λa' w' hs'=>cont ρ1 s' a' w' h1 h2 (by rw [hr];simp) (λhe=>?_) ht hs' hy'
    have hr1:s'.r=s.r:=by
     have:new= []:=by
      have:=congrArg List.length hr;rw [List.length_append,he]at this;exact List.length_eq_zero_iff.1 (by omega)
     rw [hr,this,List.append_nil]
    exact⟨hr1,hsame hr1⟩
  have known: ∀ (ρ1:Asm) (v:Bool),s.den.t dj= .c (.bool v)->Cy ops ρ1 s.den.t->(∀x∈ρ1,Ai (o::g) x.2.1=true/\(s.t x.2.1).stay=true)->(v=want->Lv E false ρ1 s o (λs'=>Ck E false ops g ρ1 s' K)=some z)->(v=(!want)->onS (CM E.h s o.dst) (λs'=>Ck E false ops g ρ1 s' K)=some z)->
    wpList P ops Q (o::(g++rest)) a w:=by
   intro ρ1 v hv h1 h2 h3 h4;have hy:=Wp hs (show gv s.den.t ops j= .c (.bool v) by unfold gv;rw [hdj];exact hv)
   unfold wpList;by_cases e:v=want
   ·rw [if_pos (by simp [Region.wanted,hgo,hy,e])]
    exact .inl (step ρ1 h1 h2 (h3 e))
   ·rw [if_neg (by simp [Region.wanted,hgo,hy,e])]
    exact pass ρ1 h1 h2 (h4 (by cases v<;>cases want<;>simp_all))
  cases hu:Z9 (s.t dj)with
  |true=>
   rw [hu]at h;have hy:=Wq hs (show gv s.den.t ops j=udV by unfold gv;rw [hdj];exact Wm hu)
   unfold wpList;rw [if_neg (by simp [Region.wanted,hgo,hy])]
   exact pass ρ hρ hnd h
  |false=>
   rw [hu]at h;simp only [cond_false]at h;split at h
   ·rename_i v hv
    obtain⟨d',hm⟩:=Hm hv;obtain⟨e1,e2⟩:=hρ _ hm;have e1:some dj=some d':=hdj.symm.trans e1;cases e1;refine known ρ v e2 hρ hnd (λe=>?_) λe=>?_
    ·subst e;simpa using h
    ·subst e;cases want<;>exact h
   ·split at h
    case h_2=>cases h
    rename_i dd b hb;have hbv:s.den.t dj= .c (.bool b):=by show(s.t dj).v s.r=_;rw [hb];rfl
    obtain⟨hn,h⟩:=A1 h
    have hρ1:Cy ops ((j,dj,b)::ρ) s.den.t:=λx hx=>by
     rcases List.mem_cons.1 hx with rfl|hx
     ·exact⟨hdj,hbv⟩
     ·exact hρ x hx
    have hnd1: ∀x∈(j,dj,b)::ρ,Ai (o::g) x.2.1=true/\(s.t x.2.1).stay=true:=λx hx=>by
     rcases List.mem_cons.1 hx with rfl|hx
     ·refine⟨hn,?_⟩
      show(s.t dj).stay=true;rw [hb];rfl
     ·exact hnd x hx
    refine known ((j,dj,b)::ρ) b hbv hρ1 hnd1 (λe=>?_) λe=>?_
    ·subst e;cases b<;>exact h
    ·subst e;cases want<;>exact h
theorem pathXW{z:R}{Q:Exit->Act->World->Prop}{rest:List Oper}: ∀ (g:List Oper) (ρ:Asm) (s:St) (a:Act) (w:World) (K:Asm->St->Option R),Cy ops ρ s.den.t->(∀x∈ρ,Ai g x.2.1=true/\(s.t x.2.1).stay=true)->AI C E.h.n s.den a w->Cj E ops g ρ s K=some z->
  (∀ρ' s' a' w',Kp (Ai g) s s'->AI C E.h.n s'.den a' w'->Cy ops ρ' s'.den.t->K ρ' s'=some z->wpList P ops Q rest a' w')->wpList P ops Q (g++rest) a w:=by
 intro g
 induction g with
 |nil=>intro ρ s a w K hρ _ hs h hK;exact hK ρ s a w (Kp.refl _ _) hs hρ h
 |cons o g ih=>
  intro ρ s a w K hρ hnd hs h hK;unfold Cj at h;split at h
  case h_1=>cases h
  rename_i j want hgo;split at h
  case h_1=>cases h
  rename_i dj hdj;rw [List.cons_append]
  have bstay: ∀ (y:Sl) (r r':List Aa) (v:Bool),y.v r= .c (.bool v)->y.stay=true->y.v r'= .c (.bool v):=by
   intro y r r' v hv hst;cases y with
   |one c=>cases c<;>first|exact hv|cases hst
   |new l=>exact hv
   |agg l=>cases hv
   |tup l=>cases hv
   |pk t l=>cases hv
  -- what is behind this operation
  have cont: ∀ (ρ1:Asm) (s1:St) (a1:Act) (w1:World),Cy ops ρ1 s.den.t->(∀x∈ρ1,Ai (o::g) x.2.1=true/\(s.t x.2.1).stay=true)->Kp (λi=>decide (o.dst≠some i)) s s1->AI C E.h.n s1.den a1 w1->Cj E ops g ρ1 s1 K=some z->wpList P ops Q (g++rest) a1 w1:=by
   intro ρ1 s1 a1 w1 hρ1 hnd1 hkp hs1 h1;have hst: ∀i,o.dst≠some i->(s.t i).stay=true->s1.t i=s.t i:=λi h1 h2=>hkp.t i (dT h1) h2
   refine ih ρ1 s1 a1 w1 K (λx hx=>⟨(hρ1 x hx).1,?_⟩) (λx hx=>?_) hs1 h1 λρ2 s2 a2 w2 g1 g3 g4 g5=>?_
   ·obtain⟨n1,n2⟩:=hnd1 x hx
    show(s1.t x.2.1).v s1.r=_;rw [hst _ (AF n1).1 n2];exact bstay _ s.r s1.r _ (hρ1 x hx).2 n2
   ·obtain⟨n1,n2⟩:=hnd1 x hx
    rw [hst _ (AF n1).1 n2];exact⟨(AF n1).2,n2⟩
   ·exact hK ρ2 s2 a2 w2 (hkp.trans g1 (λi hi=>dT (AF hi).1) λi hi=>(AF hi).2) g3 g4 g5
  have pass: ∀ρ1:Asm,Cy ops ρ1 s.den.t->(∀x∈ρ1,Ai (o::g) x.2.1=true/\(s.t x.2.1).stay=true)->AaK (CM E.h s o.dst) (λs'=>Cj E ops g ρ1 s' K)=some z->wpList P ops Q (g++rest) (a.put o.dst undef) w:=by
   intro ρ1 h1 h2 h3;cases hp:CM E.h s o.dst with
   |none=>rw [hp]at h3;cases h3
   |some s1=>
    rw [hp]at h3;obtain⟨q1,q2,q3⟩:=PI hp hs;exact cont ρ1 s1 _ w h1 h2 ⟨λi hi _=>q3 i (of_decide_eq_true hi),λ_ _ _=>by rw [q2],by rw [q2];exact Nat.le_refl _⟩ q1 h3
  have step: ∀ρ1:Asm,Cy ops ρ1 s.den.t->(∀x∈ρ1,Ai (o::g) x.2.1=true/\(s.t x.2.1).stay=true)->QP E ρ1 s o (λs'=>Cj E ops g ρ1 s' K)=some z->o.wp P a w (λa' w'=>wpList P ops Q (g++rest) a' w') Q:=by
   intro ρ1 h1 h2 h3;unfold QP at h3;split at h3
   ·rename_i v hv
    split at h3
    case h_2=>cases h3
    rename_i s1 hs1;have hQS:QS P s o.op (.one (.c .bool 0 v)):=HY (VLe.refl _) h1 hv (Sub.refl _);have hput:s.put E.h o.dst (.one (.c .bool 0 v))=some s1/\s1.r=s.r/\∀i,o.dst≠some i->s1.t i=s.t i:=by
     unfold AaI at hs1;split at hs1
     case h_2=>cases hs1
     rename_i d hd;obtain⟨hb,hs1⟩:=A1 hs1;rw [bAE,Bool.not_eq_true']at hb;cases hs1;refine⟨?_,rfl,λi hi=>AU λe=>hi (by rw [hd,e])⟩
     rw [hd];unfold St.put;simp only [hb.1,hb.2,cond_true,cond_false];rfl
    exact Qt hQS hput.1 hs λa' w' hs'=>cont ρ1 s1 a' w' h1 h2 ⟨λi hi _=>hput.2.2 i (of_decide_eq_true hi),λ_ _ _=>by rw [hput.2.1],by rw [hput.2.1];exact Nat.le_refl _⟩ hs' h3
   ·exact UW hE hs h3 λs' a' w' hk hs' hy=>cont ρ1 s' a' w' h1 h2 hk hs' hy
  have known: ∀ (ρ1:Asm) (v:Bool),s.den.t dj= .c (.bool v)->Cy ops ρ1 s.den.t->(∀x∈ρ1,Ai (o::g) x.2.1=true/\(s.t x.2.1).stay=true)->(v=want->QP E ρ1 s o (λs'=>Cj E ops g ρ1 s' K)=some z)->(v=(!want)->AaK (CM E.h s o.dst) (λs'=>Cj E ops g ρ1 s' K)=some z)->
    wpList P ops Q (o::(g++rest)) a w:=by
   intro ρ1 v hv h1 h2 h3 h4;have hy:=Wp hs (show gv s.den.t ops j= .c (.bool v) by unfold gv;rw [hdj];exact hv)
   unfold wpList;by_cases e:v=want
   ·rw [if_pos (by simp [Region.wanted,hgo,hy,e])]
    exact .inl (step ρ1 h1 h2 (h3 e))
   ·rw [if_neg (by simp [Region.wanted,hgo,hy,e])]
    exact pass ρ1 h1 h2 (h4 (by cases v<;>cases want<;>simp_all))
  cases hu:Z9 (s.t dj)with
  |true=>
   rw [hu]at h;have hy:=Wq hs (show gv s.den.t ops j=udV by unfold gv;rw [hdj];exact Wm hu)
   unfold wpList;rw [if_neg (by simp [Region.wanted,hgo,hy])]
   exact pass ρ hρ hnd h
  |false=>
   rw [hu]at h;simp only [cond_false]at h;split at h
   ·rename_i v hv
    obtain⟨d',hm⟩:=Hm hv;obtain⟨e1,e2⟩:=hρ _ hm;have e1:some dj=some d':=hdj.symm.trans e1;cases e1;refine known ρ v e2 hρ hnd (λe=>?_) λe=>?_
    ·subst e;simpa using h
    ·subst e;cases want<;>exact h
   ·split at h
    case h_2=>cases h
    rename_i dd b hb;have hbv:s.den.t dj= .c (.bool b):=by show(s.t dj).v s.r=_;rw [hb];rfl
    obtain⟨hn,h⟩:=A1 h
    have hρ1:Cy ops ((j,dj,b)::ρ) s.den.t:=λx hx=>by
     rcases List.mem_cons.1 hx with rfl|hx
     ·exact⟨hdj,hbv⟩
     ·exact hρ x hx
    have hnd1: ∀x∈(j,dj,b)::ρ,Ai (o::g) x.2.1=true/\(s.t x.2.1).stay=true:=λx hx=>by
     rcases List.mem_cons.1 hx with rfl|hx
     ·refine⟨hn,?_⟩
      show(s.t dj).stay=true;rw [hb];rfl
     ·exact hnd x hx
    refine known ((j,dj,b)::ρ) b hbv hρ1 hnd1 (λe=>?_) λe=>?_
    ·subst e;cases b<;>exact h
    ·subst e;cases want<;>exact h
theorem Xl{ops:Array Oper}{K:St->Option R}{z:R}{Q:Exit->Act->World->Prop}: ∀ (l:List Seg) (k:Nat) (s:St) (a:Act) (w:World),AI C E.h.n s.den a w->
  Li E ops l k s K=some z->(∀s' a' w',Kp (Ai ((l.drop k).flatMap Seg.ops)) s s'->AI C E.h.n s'.den a' w'->K s'=some z->Q .normal a' w')->wpList P ops Q ((l.drop k).flatMap Seg.ops) a w:=by
 intro l
 induction l with
 |nil=>intro k s a w hs h hK;rw [List.drop_nil]at hK⊢;exact hK s a w (Kp.refl _ _) hs h
 |cons sg l ih=>
  intro k s a w hs h hK;cases k with
  |succ k=>exact ih k s a w hs h hK
  |zero=>
  have ih2:=ih
  replace ih:=ih 0
  simp only [List.drop_zero]at ih hK⊢;cases sg with
  |one o=>
   unfold Li at h;split at h
   ·rename_i o2 o3 A hA
    unfold oif at h;split at h
    case isFalse=>cases h
    rename_i hp;obtain⟨l',rfl,g1,g2,g3,hA⟩: ∃l',l= .one o2:: .one o3::l'/\o.guard=none/\o2.guard=none/\o3.guard=none/\U8 E s [] o o2 o3=some A:=by
     unfold rowS at hA;split at hA
     case h_2=>cases hA
     rename_i p2 p3 l';obtain⟨hg,hA⟩:=A1 hA;simp only [bAE,Option.isNone_iff_eq_none]at hg;cases hr:U8 E s [] o p2 p3 with
     |none=>rw [hr]at hA;cases hA
     |some A0=>
      rw [hr]at hA;cases hA;exact⟨l',rfl,hg.1.1,hg.1.2,hg.2,hr⟩
    have w1: ∀ (o:Oper) (a:Act),o.guard=none->Region.wanted o (yielded ops a.tmps)=true:=λo a hg=>by simp [Region.wanted,hg]
    show wpList P ops Q (o::o2::o3::l'.flatMap Seg.ops) a w;unfold wpList;rw [if_pos (w1 o a g1)];refine .inl (Oper.wp_mono (λa1 w1' h1=>?_) (U6 (Q:=Q) hE.Θ hA hp hs (next:=λa' w'=>wpList P ops Q (l'.flatMap Seg.ops) a' w') λa' w' hs'=>ih2 2 A.s a' w' hs' h λs2 a2 w2 h2 h3 h4=>hK s2 a2 w2 ((U7 hA).trans h2 (λi hi=>?_) λi hi=>?_) h3 h4))
    ·unfold wpList
     rw [if_pos (w1 o2 a1 g2)];refine .inl (Oper.wp_mono (λa2 w2' h2=>?_) h1)
     unfold wpList;rw [if_pos (w1 o3 a2 g3)];exact .inl h2
    ·have hi:Ai ([o,o2,o3]++l'.flatMap Seg.ops) i=true:=hi
     unfold Ai at hi⊢;rw [List.all_append,bAE]at hi;exact hi.1
    ·have hi:Ai ([o,o2,o3]++l'.flatMap Seg.ops) i=true:=hi
     unfold Ai at hi⊢;rw [List.all_append,bAE]at hi;exact hi.2
   split at h
   case h_2=>cases h
   rename_i hg;rw [List.flatMap_cons];show wpList P ops Q (o::l.flatMap Seg.ops) a w;unfold wpList;rw [if_pos (by simp [Region.wanted,hg])]
   refine .inl (UW hE hs h λs' a' w' hk hs' hy=>ih s' a' w' hs' hy λs2 a2 w2 h2 h3 h4=>hK s2 a2 w2 (hk.trans h2 (λi hi=>dT ?_) λi hi=>?_) h3 h4)
   ·exact(AF (o:=o) (g:=l.flatMap Seg.ops) hi).1
   ·exact(AF (o:=o) (g:=l.flatMap Seg.ops) hi).2
  |grp g pk=>
   unfold Li at h;split at h
   case h_2=>cases h
   rename_i d hpd;have hpd2:pk.dst=some d/\pk.guard=none/\d<E.h.n/\E.h.fz.contains d=false:=by
    unfold XP at hpd;split at hpd
    case h_2=>cases hpd
    rename_i d' e1 e2;obtain⟨hb,hpd⟩:=A1 hpd;cases hpd;rw [bAE,Bool.not_eq_true']at hb;exact⟨e1,e2,blE hb.1,hb.2⟩
   obtain⟨e1,e3,h3,h4⟩:=hpd2;cases hgU:grpU E g with
   |true=>
    rw [hgU]at h;simp only [cond_true]at h;rw [List.flatMap_cons];show wpList P ops Q ((g++ [pk])++l.flatMap Seg.ops) a w;rw [List.append_assoc];refine pathXW hE g [] s a w _ (λx hx=>by cases hx) (λx hx=>by cases hx) hs h λρ' s1 a1 w1 hkp hs1 hρ' hK1=>?_
    split at hK1
    case h_2=>cases hK1
    rename_i v hpv;have hQS:QS P s1 pk.op (.one (.c .bool 0 v)):=HY (VLe.refl _) hρ' hpv (Sub.refl _);have hput:s1.put E.h pk.dst (.one (.c .bool 0 v))=some ⟨AD s1.t d (.one (.c .bool 0 v)),s1.r⟩:=by
     rw [e1];unfold St.put;simp only [show Nat.blt d E.h.n=true from Nat.ble_eq_true_of_le h3,h4,cond_true,cond_false]
     rfl
    show wpList P ops Q (pk::l.flatMap Seg.ops) a1 w1;unfold wpList;rw [if_pos (by simp [Region.wanted,e3])]
    refine .inl (Qt hQS hput hs1 λa2 w2 hs2=>?_)
    have hs3:AI C E.h.n (St.den ⟨AD (CN g s1.t) d (.one (.c .bool 0 v)),s1.r⟩) a2 w2:=by
     refine hs2.sub rfl (λi _=>Sub.refl _) λi=>?_
     show Ao ((AD s1.t d _ i).v s1.r) ((AD (CN g s1.t) d _ i).v s1.r);by_cases hid:i=d
     ·subst hid
      have e: ∀t:Nat->Sl,AD t i (.one (.c .bool 0 v)) i= .one (.c .bool 0 v):=λt=>by unfold AD;rw [Nat.beq_refl];rfl
      rw [e,e];exact Ao.refl _
     ·rw [AU hid,AU hid,Dq]
      by_cases hn:Ai g i=true
      ·rw [if_pos hn];exact Ao.refl _
      ·rw [if_neg hn];exact Ao.dead _
    refine ih ⟨AD (CN g s1.t) d (.one (.c .bool 0 v)),s1.r⟩ a2 w2 hs3 hK1 λs4 a4 w4 hk4 h5 h6=>hK s4 a4 w4 ?_ h5 h6
    refine hkp.trans (g2:=λi=>Ai (l.flatMap Seg.ops) i&&(Ai g i&&decide (i≠d))) (Kp.trans (s1:=⟨AD (CN g s1.t) d (.one (.c .bool 0 v)),s1.r⟩) (g1:=λi=>Ai g i&&decide (i≠d)) (g2:=Ai (l.flatMap Seg.ops)) ⟨λi hi _=>?_,λ_ _ _=>rfl,Nat.le_refl _⟩ hk4 (λi hi=>(bAE _ _▸hi).2) λi hi=>(bAE _ _▸hi).1) (λi hi=>?_) λi hi=>?_
    ·simp only [bAE,decide_eq_true_eq]at hi
     show AD (CN g s1.t) d (.one (.c .bool 0 v)) i=s1.t i;rw [AU hi.2,Dq,if_pos hi.1]
    ·rw [List.flatMap_cons]at hi
     have hi:Ai ((g++ [pk])++l.flatMap Seg.ops) i=true:=hi;unfold Ai at hi;rw [List.all_append,List.all_append,bAE,bAE]at hi;exact hi.1.1
    ·rw [List.flatMap_cons]at hi
     have hi:Ai ((g++ [pk])++l.flatMap Seg.ops) i=true:=hi;unfold Ai at hi;rw [List.all_append,List.all_append,bAE,bAE]at hi;simp only [bAE,decide_eq_true_eq];refine⟨hi.2,hi.1.1,?_⟩
     rintro rfl
     have:=hi.1.2;simp only [List.all_cons,List.all_nil,Bool.and_true,e1,Nat.beq_refl,Bool.not_true]at this;cases this
   |false=>
   rw [hgU]at h;simp only [cond_false]at h;cases hv:grpB E false ops s g pk with
   |none=>rw [hv]at h;cases h
   |some v=>
    rw [hv]at h;simp only [Option.bind_some]at h;rw [List.flatMap_cons];show wpList P ops Q ((g++ [pk])++l.flatMap Seg.ops) a w;rw [List.append_assoc];refine pathgW hE g [] s a w _ (λx hx=>by cases hx) (λx hx=>by cases hx) hs hv λρ' s1 a1 w1 hle hsm hs1 hρ' hK1=>?_
    obtain⟨hl,hK1⟩:=A1 hK1;obtain⟨hr1,ht1⟩:=hsm (bqE hl);have hK1:Nn ρ' s1 pk.op=some v:=hK1;have hQS:QS P s1 pk.op (.one (.c .bool 0 v)):=HY (VLe.refl _) hρ' hK1 (Sub.refl _);have hput:s1.put E.h pk.dst (.one (.c .bool 0 v))=some ⟨AD s1.t d (.one (.c .bool 0 v)),s1.r⟩:=by
     rw [e1];unfold St.put;simp only [show Nat.blt d E.h.n=true from Nat.ble_eq_true_of_le h3,h4,cond_true,cond_false]
     rfl
    show wpList P ops Q (pk::l.flatMap Seg.ops) a1 w1;unfold wpList;rw [if_pos (by simp [Region.wanted,e3])]
    refine .inl (Qt hQS hput hs1 λa2 w2 hs2=>?_)
    have hs3:AI C E.h.n (St.den ⟨AD (CN g s.t) d (.one (.c .bool 0 v)),s.r⟩) a2 w2:=by
     refine hs2.sub (by show(s.r.map Aa.v).length=(s1.r.map Aa.v).length;rw [hr1]) (λi _=>by show Sub ((s1.r.map Aa.v).getD i .dead) ((s.r.map Aa.v).getD i .dead);rw [hr1];exact Sub.refl _) λi=>?_
     show Ao ((AD s1.t d _ i).v s1.r) ((AD (CN g s.t) d _ i).v s.r);by_cases hid:i=d
     ·subst hid
      have e: ∀t:Nat->Sl,AD t i (.one (.c .bool 0 v)) i= .one (.c .bool 0 v):=λt=>by unfold AD;rw [Nat.beq_refl];rfl
      rw [e,e];exact Ao.refl _
     ·rw [AU hid,AU hid,Dq]
      by_cases hn:Ai g i=true
      ·rw [if_pos hn,ht1 i hn,hr1];exact Ao.refl _
      ·rw [if_neg hn];exact Ao.dead _
    refine ih ⟨AD (CN g s.t) d (.one (.c .bool 0 v)),s.r⟩ a2 w2 hs3 h λs4 a4 w4 hk4 h5 h6=>hK s4 a4 w4 ?_ h5 h6
    refine Kp.trans (s1:=⟨AD (CN g s.t) d (.one (.c .bool 0 v)),s.r⟩) (g1:=λi=>Ai g i&&decide (i≠d)) (g2:=Ai (l.flatMap Seg.ops)) ⟨λi hi _=>?_,λ_ _ _=>rfl,Nat.le_refl _⟩ hk4 (λi hi=>?_) λi hi=>?_
    ·simp only [bAE,decide_eq_true_eq]at hi
     show AD (CN g s.t) d (.one (.c .bool 0 v)) i=s.t i;rw [AU hi.2,Dq,if_pos hi.1]
    ·rw [List.flatMap_cons]at hi
     have hi:Ai ((g++ [pk])++l.flatMap Seg.ops) i=true:=hi;unfold Ai at hi;rw [List.all_append,List.all_append,bAE,bAE]at hi;simp only [bAE,decide_eq_true_eq];refine⟨hi.1.1,?_⟩
     rintro rfl
     have:=hi.1.2;simp only [List.all_cons,List.all_nil,Bool.and_true,e1,Nat.beq_refl,Bool.not_true]at this;cases this
    ·rw [List.flatMap_cons]at hi
     have hi:Ai ((g++ [pk])++l.flatMap Seg.ops) i=true:=hi;unfold Ai at hi;rw [List.all_append,bAE]at hi;exact hi.2
theorem UV{ops:Array Oper}{K:St->Option R}{z:R}{Q:Exit->Act->World->Prop}(l:List Seg)(s:St)(a:Act)(w:World)(hs:AI C E.h.n s.den a w)
  (h:tops E ops l s K=some z) (hK: ∀s' a' w',Kp (Ai (l.flatMap Seg.ops)) s s'->AI C E.h.n s'.den a' w'->K s'=some z->Q .normal a' w'):wpList P ops Q (l.flatMap Seg.ops) a w:=Xl hE l 0 s a w hs h hK
end wp
end Go.Ve

