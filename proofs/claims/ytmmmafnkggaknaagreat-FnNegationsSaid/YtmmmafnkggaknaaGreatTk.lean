/- The typed machine: operations in order; code. -/
import Derived.Test.YtmmmafnkggaknaaGreatTka
set_option linter.all false
namespace Go.Ve
variable{a:Act}{ops:Array Oper}{o:Oper}{s:St}{R:Type}{w:World}
def Ya(o:Oper):Option (TypeId×Operand×Operand):=match o.op,o.dst with
 |.store t x v,none=>some (t,x,v)
 |_,_=>none
inductive LoudK where
 |app (d:Nat) (t:TypeId) (x y:Operand)
 |bs (d:Nat) (t:TypeId) (n:Nat) (ps:Array (Nat×Operand))
 |cw (d:Nat) (f:FuncId) (xs:Array Operand)
def VA(E:Env)(o:Oper):Option LoudK:=match o.dst,o.op with
 |some d,.buildSlice t n ps=>some (.bs d t n ps)
 |some d,.call c=>match c.callee with
  |.builtin .append=>match c.args.toList,c.argTypes.toList with
   |[x,y],[t,t']=>bif Nat.beq t t' then some (.app d t x y)else none
   |_,_=>none
  |.value (.func f)=>match lookW E.W f with
   |some _=>some (.cw d f c.args)
   |none=>none
  |_=>none
 |_,_=>none
def elI(E:Env)(t:TypeId):Option TI:=((E.Θ.look t).bind (·.elem)).bind E.Θ.look
def lrK{R:Type}(E:Env)(s:St)(d:Nat)(A:LR)(K:St->Option R):Option R:=bif E.h.fz.contains d then none else oif A.p A.dec (match(Ap A.js s).put E.h (some d) (.one A.y)with
 |some s'=>K s'
 |none=>none)
def OM{R:Type}(E:Env)(s:St)(o:Oper)(K:St->Option R):Option R:=YX E s o.type o.op λy=>match s.put E.h o.dst y with
 |some s'=>K s'
 |none=>none
def capsF(fz:List Nat)(o:Oper):List Operand:=match o.op,o.dst with
 |.makeFunc _ _ caps,some d=>bif fz.contains d then caps.toList else []
 |_,_=>[]
def seqF(E:Env)(s:St)(o:Oper):Option (Nat×Nat×Bool):=match Ij o.op with
 |some (f,xs)=>match Ju E.U f with
  |some e=>match xs.toList[e.S.k]? with
   |some (.tmp z)=>match Cm s z with
    |some id=>some (z,id,e.S.eat)
    |none=>none
   |_=>none
  |none=>none
 |none=>none
def seqB(E:Env)(o:Oper)(z id:Nat)(eat:Bool)(s1 e:St):Bool:=(match o.dst with
 |some d=>!(e.t d).own||(e.t d).stay
 |none=>true)&&(bif eat then !(e.t z).own else DX (e.t z)&&Nat.blt id s1.r.length&&(match s1.r.getD id .dead with
  |.dead=>true
  |_=>false))
def JX(E:Env)(s:St)(o:Oper)(z id:Nat):List Nat:=(List.range E.h.n).filter λy=>!Nat.beq y z&&(match o.dst with
 |some d=>!Nat.beq y d
 |none=>true)&&(match Cm s y with
 |some j=>Nat.beq j id
 |none=>false)
def YW{R:Type}(E:Env)(s:St)(o:Oper)(K:St->Option R):Option R:=match seqF E s o with
 |some (z,id,eat)=>match JH [z] s with
  |some s1=>match K4 E.h (λe=>Nat.beq e z) (λz=>z) E.U s1 o with
   |some A=>ID A.o λu=>bif seqB E o z id eat s1 ⟨AJ (AJ s1.t A.y (A.u u)) A.d (A.z u),s1.r⟩then
     K ((bif eat then⟨AJ (AJ s1.t A.y (A.u u)) A.d (A.z u),s1.r⟩else St.rerefs id (B5 ((AJ (AJ s1.t A.y (A.u u)) A.d (A.z u)) z)) (JX E s o z id) (St.backs [(z,id)] ⟨AJ (AJ s1.t A.y (A.u u)) A.d (A.z u),s1.r⟩)).promA [o.dst])else none
   |none=>none
  |none=>none
 |none=>none
def YZ{R:Type}(E:Env)(s:St)(o:Oper)(K:St->Option R):Option R:=match seqF E s o with
 |some _=>YW E s o K
 |none=>match Ya o with
 |some (t,x,v)=>match UC s (E.Θ.look t) (s.ev x) (s.ev v)with
  |some A=>oif A.p A.dec (K A.s)
  |none=>NP s (E.Θ.look t) (s.ev x) (s.ev v) K
 |none=>match VA E o with
  |some (.app d t x y)=>match YF s (s.ev x)with
   |some e=>match I9 e (elI E t) (e.ev x) (e.ev y)with
    |some A=>lrK E e d A K
    |none=>none
   |none=>none
  |some (.bs d t n ps)=>match AaK (ps.toList.map (·.2)) s with
   |some e=>match tBSM e n (ps.toList.map λp=>(p.1,e.ev p.2)) (elI E t)with
    |some A=>lrK E e d A K
    |none=>OM E s o K
   |none=>none
  |some (.cw d f xs)=>match Ml E.W s f (xs.toList.map s.ev)with
   |some A=>ID A.o λu=>match A.st u with
    |some s1=>match s1.put E.h (some d) (.one (A.y u))with
     |some s'=>O4 (xs.toList.flatMap λx=>argIds (s.ev x)) s' K
     |none=>none
    |none=>none
   |none=>none
  |none=>match capsF E.h.fz o with
   |[]=>OM E s o K
   |x::xs=>match Nj (x::xs) s with
    |some e=>OM E e o K
    |none=>none
def tone{R:Type}(E:Env)(s:St)(o:Oper)(K:St->Option R):Option R:=match frzO E s o with
 |some s'=>YZ E s' o λu=>match frzP E u o with
  |some e=>K e
  |none=>none
 |none=>none
def grpU(E:Env)(g:List Oper):Bool:=g.any λo=>match Ij o.op with
 |some (f,_)=>(Ju E.U f).isSome
 |none=>false
def AaE{R:Type}(o:Option St)(K:St->Option R):Option R:=match o with
 |some s=>K s
 |none=>none
def Qb{R:Type}(E:Env)(ρ:Asm)(s:St)(o:Oper)(K:St->Option R):Option R:=match MZ ρ s o.op with
 |some v=>match AaA E.h s o.dst v with
  |some s'=>K s'
  |none=>none
 |none=>tone E s o K
def Cy{R:Type}(E:Env)(ops:Array Oper):List Oper->Asm->St->(Asm->St->Option R)->Option R
 |[],ρ,s,K=>K ρ s
 |o::l,ρ,s,K=>match o.guard with
  |none=>none
  |some (j,want)=>match(ops[j]?).bind (·.dst)with
   |none=>none
   |some e=>bif Z1 (s.t e)then AaE (CX E.h s o.dst) (λs'=>Cy E ops l ρ s' K)else match VB ρ j with
    |some v=>bif v==want then Qb E ρ s o (λs'=>Cy E ops l ρ s' K)else AaE (CX E.h s o.dst) (λs'=>Cy E ops l ρ s' K)
    |none=>match s.t e with
     |.one (.c .bool _ b)=>bif Av (o::l) e then
      OF b (bif want then Qb E ((j,e,true)::ρ) s o (λs'=>Cy E ops l ((j,e,true)::ρ) s' K)else AaE (CX E.h s o.dst) (λs'=>Cy E ops l ((j,e,true)::ρ) s' K))
       (bif want then AaE (CX E.h s o.dst) (λs'=>Cy E ops l ((j,e,false)::ρ) s' K)else Qb E ((j,e,false)::ρ) s o (λs'=>Cy E ops l ((j,e,false)::ρ) s' K))else none
     |_=>none
def rowS(E:Env)(s:St)(o:Oper):List Seg->Option (Oper×Oper×PtR)
 |.one o2:: .one o3::_=>bif o.guard.isNone&&o2.guard.isNone&&o3.guard.isNone then(UA E s [] o o2 o3).map λA=>(o2,o3,A)else none
 |_=>none
def KY{R:Type}(E:Env)(ops:Array Oper):List Seg->Nat->St->(St->Option R)->Option R
 |[],_,s,K=>K s
 |_::l,k+1,s,K=>KY E ops l k s K
 |.one o::l,0,s,K=>match rowS E s o l with
  |some (_,_,A)=>oif A.p A.dec (KY E ops l 2 A.s K)
  |none=>match o.guard with
   |none=>tone E s o λs'=>KY E ops l 0 s' K
   |some _=>none
 |.grp g pk::l,0,s,K=>match Xj E.h pk with
  |some d=>bif grpU E g then Cy E ops g [] s λρ s'=>match MZ ρ s' pk.op with
    |some v=>KY E ops l 0 ⟨AJ (CY g s'.t) d (.one (.c .bool 0 v)),s'.r⟩ K
    |none=>none
   else ID (grpB E false ops s g pk) λv=>KY E ops l 0 ⟨AJ (CY g s.t) d (.one (.c .bool 0 v)),s.r⟩ K
  |none=>none
def tops{R:Type}(E:Env)(ops:Array Oper)(l:List Seg)(s:St)(K:St->Option R):Option R:=KY E ops l 0 s K
theorem Pb{E:Env}{C:Ctx}{s':St}(h:CX E.h s o.dst=some s')(hs:AR C E.h.n s.den a w):AR C E.h.n s'.den (a.put o.dst undef) w/\s'.r=s.r/\∀i,o.dst≠some i->s'.t i=s.t i:=by
 unfold CX at h;split at h
 .rename_i d hd
  cases u:Nat.blt d E.h.n with
  |false=>grind
  |true=>
   rw[u]at h;cases h;have B:=hs.skipU (blE u);refine⟨?_,rfl,λi A=>AY λe=>A (by grind)⟩
   have e:(St.den ⟨AJ s.t d (.tup []),s.r⟩)=⟨AI s.den.t d udV,s.den.σ⟩:=by
    have:=B2 (r:=s.r) (t:=s.t) (d:=d) (y:=.tup []);show Ms.mk (λi=>(AJ s.t d (.tup []) i).v s.r) _=_
    rw[this];rfl
   grind
 .rename_i hd
  cases h;refine⟨?_,rfl,λ_ _=>rfl⟩
  rw[hd];trivial
section wp
variable {P:Program}{E:Env}{C:Ctx} (hE:EOK P E)
include hE
theorem Ui{R:Type}{s:St}{o:Oper}{K:St->Option R}{z:R}{a:Act}{w:World}{next:Act->World->Prop}{Q:Exit->Act->World->Prop}(hs:AR C E.h.n s.den a w)(h:(YX E s o.type o.op λy=>match s.put E.h o.dst y with
   |some s'=>K s'
   |none=>none)=some z) (J:∀s' u w',(∃y,s.put E.h o.dst y=some s')->AR C E.h.n s'.den u w'->K s'=some z->next u w'):o.wp P a w next Q:=by
 obtain⟨_,y,B,A⟩:=HU hE h;split at A
 case h_2=>grind
 rename_i s' e;exact PQ B e hs λu w' U=>J s' u w' ⟨y,e⟩ U A
theorem WN{K:St->Option R}{z0:R}{next:Act->World->Prop}{Q:Exit->Act->World->Prop}(hs:AR C E.h.n s.den a w)(h:YW E s o K=some z0)
  (hn:∀s' a' w',Kp (λi=>decide (o.dst≠some i)) s s'->AR C E.h.n s'.den a' w'->K s'=some z0->next a' w'):o.wp P a w next Q:=by
 unfold YW at h;split at h
 case h_2=>cases h
 rename_i z id eat hsf;split at h
 case h_2=>cases h
 rename_i s1 hd;split at h
 case h_2=>cases h
 rename_i A ha;cases hu:A.o with
 |none=>rw[hu]at h;cases h
 |some u=>
 rw[hu]at h;simp only[Option.bind_some]at h;obtain⟨B,hs2⟩:∃B:St,B=⟨AJ (AJ s1.t A.y (A.u u)) A.d (A.z u),s1.r⟩:=⟨_,rfl⟩;rw[<-hs2]at h;obtain⟨hsb,h⟩:=Bb h;unfold seqB at hsb;rw[bAE]at hsb;obtain⟨hb1,hb2⟩:=hsb;obtain⟨v,r,hne,hlq,hvl,hdst,hyd,hyn,f,xs,e,zk,g1,g2,g3,g4,g5⟩:=Mg hE.U (Al:=λ_ _=>False) (λ_=>.inl rfl) (VLe.refl s1.den.t) ha hu
 rw[<-hs2]at hvl;have g5:=bqE g5;have hz:A.y=z:=g4.symm.trans g5;have hroot:Cm s z=some id:=by
  unfold seqF at hsf;rw[g1]at hsf;simp only[g2,g3]at hsf;split at hsf
  .rename_i id' hr
   cases hsf;exact hr
  .cases hsf
 rw[hz]at hlq hvl hyd hyn;obtain⟨D,ρ,F,T,hp,hT,hval⟩:=Nt hd hs (Below.refl w.heap.size w);have hzv:=hval z id hyn hroot;refine hlq C ρ F a w D T s1.den.t (λ_ _=>rfl) (λ_ _ h=>h.elim) hp next Q λa' w' D' T' hp' hT' htm=>?_
 have hPR:XY [o.dst] ⟨Ip o.dst r (AP [(z,.put v)] s1.den.t),s1.den.σ⟩ B:=by
  refine⟨by rw[hs2];rfl,λi=>?_,λi hi=>⟨λhoi=>?_,?_⟩⟩
  .rcases hvl i with e|e
   .show Ax (Ip o.dst r (AP [(z,.put v)] s1.den.t) i) _
    rw[e];exact Ax.refl _
   .rw[e.1];exact Ax.dead _
  .have hi:=List.mem_singleton.1 hi
   rw[<-hi]at hb1;simp only[Bool.or_eq_true,Bool.not_eq_true']at hb1;rcases hb1 with h|h
   .rw[hoi]at h;cases h
   .exact h
  .rcases hvl i with e|e
   .exact .inl e
   .right
    refine⟨?_,e.2⟩
    have:AL ((B.t i).v B.r)=false:=by
     show AL (B.den.t i)=false;rw[e.1];rfl
    rw[Sl.own_v]at this;exact this
 have hkd:=Nu hd;obtain⟨hro,hzst,_⟩:=Ch hroot;have hdz:o.dst≠some z:=by rw[hdst];intro e;exact hyd (Option.some.inj e).symm
 have hs2t:∀i,i≠z->o.dst≠some i->B.t i=s1.t i:=by
  intro i h1 h2;rw[hs2];show AJ (AJ s1.t A.y (A.u u)) A.d (A.z u) i=_;rw[AY λe=>h2 (by rw[hdst,e]),AY (by rw[hz];exact h1)]
 have J:B.r=s1.r:=by rw[hs2]
 have hkn:∀s':St,Kp (Av [o]) s' (s'.promA [o.dst]):=λs'=>Hv [o] s'
 have nd:∀i,o.dst≠some i->Av [o] i=true:=by
  intro i hi
  show((match o.dst with
   |some e=>!Nat.beq e i
   |none=>true)&&true)=true
  rw[Bool.and_true,hdst];show(!Nat.beq A.d i)=true;rw[BI λe=>hi (by rw[hdst,e])];rfl
 -- what is left of it
 have hTz:∀x b,T' x b->o.dst=some x\/x=z:=λx b hb=>(hT' x b hb).imp (λh=>h) fun⟨b',h⟩=>List.mem_singleton.1 (hT x b' h)
 cases eat with
 |true=>
  simp only[cond_true]at h hb2;have hcl:=PR.close [o.dst] _ _ _ _ _ hp' λx b hb=>by
   rcases hTz x b hb with h1|h1
   .rw[h1];exact List.mem_singleton.2 rfl
   .exfalso
    subst h1
    have hown:AL (Ip o.dst r (AP [(x,.put v)] s1.den.t) x)=false:=by
     have h1:(B.t x).own=false:=by simpa using hb2
     have h2:AL (B.den.t x)=false:=by
      show AL ((B.t x).v B.r)=false;rw[Sl.own_v];exact h1
     rcases hvl x with e|e
     .rw[e];exact h2
     .exact e.2
    exact AE _ _ _ hown (hp'.tm x hyn) b hb
  obtain⟨q1,q2⟩:=Jn _ _ _ hPR;have hs3:AR C E.h.n (B.promA [o.dst]).den a' w':=hcl.sub (by rw[q2]) (λi _=>by rw[q2];exact Sub.refl _) q1
  have k1:=hkn B;refine hn _ _ _ ⟨λi hi W=>?_,λj hl hj=>?_,?_⟩ hs3 h
  .have hi:=of_decide_eq_true hi
   have hiz:i≠z:=by rintro rfl;rw[hzst]at W;cases W
   have e1:=hkd.t i rfl W;have e2:=hs2t i hiz hi;rw[k1.t i (nd i hi) (by rw[e2,e1];exact W),e2,e1]
  .have e1:=hkd.r j hl hj
   rw[k1.r j (by rw[J];exact Nat.lt_of_lt_of_le hl hkd.l) (by rw[J,e1];exact hj),J,e1]
  .exact Nat.le_trans hkd.l (by rw[<-J];exact k1.l)
 |false=>
  simp only[cond_false,bAE]at h hb2;obtain⟨⟨hir,hlt⟩,Z⟩:=hb2;have hlt:=blE hlt;have Z:s1.r.getD id .dead=.dead:=by
   split at Z
   .assumption
   .cases Z
  have hSz:Ip o.dst r (AP [(z,.put v)] s1.den.t) z=B.den.t z:=by
   rcases hvl z with e|e
   .exact e
   .obtain⟨_,h3,⟨s0,sz,nn,f,h4,_⟩,_⟩:=Cj hir
    have e1:(B.t z).v B.r=.dead:=e.1;rw[h3,h4]at e1;cases e1
  have hobj:J1 (Ip o.dst r (AP [(z,.put v)] s1.den.t) z):=by
   rw[hSz];show J1 ((B.t z).v B.r);rw[(Cj hir).2.1];exact(Cj hir).2.2.1
  obtain⟨F2,T2,hp2,hT2⟩:=PR.backs [(z,id)] _ _ _ _ hp' (by simp) (by simp) λp hpm=>by
   rw[List.mem_singleton.1 hpm];refine⟨hyn,by show id<(s1.r.map Af.v).length;rw[List.length_map];exact hlt,?_,?_,hobj⟩
   .show(s1.r.map Af.v).getD id .dead=.dead
    rw[AA,Z];rfl
   .rw[<-hzv,Array.getD_eq_getD_getElem?,Array.getD_eq_getD_getElem?,htm z hdz]
  have hrd:B5 (AJ (AJ s1.t A.y (A.u u)) A.d (A.z u) z)=B5 (B.t z):=by rw[hs2]
  rw[hrd]at h
  have hRv:(B5 (B.t z)).v=Ip o.dst r (AP [(z,.put v)] s1.den.t) z:=by
   rw[hSz];exact((Cj hir).2.1 B.r).symm
  have hYs:∀y∈JX E s o z id,y<E.h.n/\y≠z/\o.dst≠some y/\Cm s y=some id:=by
   intro y hy;unfold JX at hy;rw[List.mem_filter,List.mem_range]at hy;obtain⟨h1,h2⟩:=hy;simp only[bAE,Bool.not_eq_true']at h2;obtain⟨⟨h2,h3⟩,h4⟩:=h2;refine⟨h1,λe=>(by rw[e,Nat.beq_refl]at h2;cases h2),λe=>?_,?_⟩
   .rw[e]at h3
    simp[Nat.beq_refl]at h3
   .split at h4
    .rename_i j hj
     rw[hj,bqE h4]
    .cases h4
  have hlr:id<s1.den.σ.length:=by show id<(s1.r.map Af.v).length;rw[List.length_map];exact hlt
  have hset:(s1.den.σ.set id (Ip o.dst r (AP [(z,.put v)] s1.den.t) z)).getD id .dead=(B5 (B.t z)).v:=by
   rw[hRv,gDE,List.getElem?_set_self hlr];rfl
  have hp3:=PR.reref (id:=id) (v:=(B5 (B.t z)).v) (by show id<(s1.den.σ.set id _).length;simpa using hlr) hset (by rw[hRv];exact hobj) (JX E s o z id) _ hp2 λy hy=>by
    obtain⟨y1,y2,y3,y4⟩:=hYs y hy;refine⟨y1,?_,λb hb=>?_⟩
    .rw[<-hval y id y1 y4,Array.getD_eq_getD_getElem?,Array.getD_eq_getD_getElem?,htm y y3]
    .obtain⟨k1,_⟩:=hT2 y b hb
     exact(hTz y b k1).elim y3 y2
  have hcl:AR C E.h.n (Go.Ve.promA [o.dst] ⟨Go.Ve.rerefs id (B5 (B.t z)).v (JX E s o z id) (Go.Ve.backs [(z,id)] ⟨Ip o.dst r (AP [(z,.put v)] s1.den.t),s1.den.σ⟩).t,(Go.Ve.backs [(z,id)] ⟨Ip o.dst r (AP [(z,.put v)] s1.den.t),s1.den.σ⟩).σ⟩) a' w':=PR.close [o.dst] _ _ _ _ _ hp3 λx b hb=>by
   obtain⟨k1,k2⟩:=hT2 x b hb;rcases hTz x b k1 with h1|h1
   .rw[h1];exact List.mem_singleton.2 rfl
   .exact absurd (by rw[h1];simp) k2
  have hP2:=JM [(z,id)] _ _ hPR (by simp) λp hpm=>by
   rw[List.mem_singleton.1 hpm];exact⟨λhm=>hdz (List.mem_singleton.1 hm).symm,by rw[J];exact hlt,hSz,hir⟩
  have hbr:(B.backs [(z,id)]).r.getD id .dead=B5 (B.t z):=by
   show(B.r.set id (B5 (B.t z))).getD id .dead=_;rw[J,gDE,List.getElem?_set_self hlt];rfl
  have hP3:=Kf (id:=id) (R:=B5 (B.t z)) (by rw[hRv];exact hobj) (JX E s o z id) _ _ hP2 hbr λy hy hm=>(hYs y hy).2.2.1 (List.mem_singleton.1 hm).symm
  obtain⟨q1,q2⟩:=Jn _ _ _ hP3;have hs3:AR C E.h.n ((St.rerefs id (B5 (B.t z)) (JX E s o z id) (B.backs [(z,id)])).promA [o.dst]).den a' w':=hcl.sub (by rw[q2]) (λi _=>by rw[q2];exact Sub.refl _) q1
  have k1:=hkn (St.rerefs id (B5 (B.t z)) (JX E s o z id) (B.backs [(z,id)]));obtain⟨b1,b2,b3⟩:=LU [(z,id)] B;obtain⟨c1,c2⟩:=Mz (id:=id) (R:=B5 (B.t z)) (JX E s o z id) (B.backs [(z,id)]);refine hn _ _ _ ⟨λi hi W=>?_,λj hl hj=>?_,?_⟩ hs3 h
  .have hi:=of_decide_eq_true hi
   have hiz:i≠z:=by rintro rfl;rw[hzst]at W;cases W
   have hiY:i∉JX E s o z id:=λhm=>by
    have:=(Ch (hYs i hm).2.2.2).2.1;rw[W]at this;cases this
   have e1:=hkd.t i rfl W;have e2:=hs2t i hiz hi;have e3:=b1 i (λp hp=>by rw[List.mem_singleton.1 hp];exact λe=>hiz e.symm) (by rw[e2,e1];exact W)
   have e4:=c2 i hiY;rw[k1.t i (nd i hi) (by rw[e4,e3,e2,e1];exact W),e4,e3,e2,e1]
  .have e1:=hkd.r j hl hj
   have hjid:id≠j:=by rintro rfl;rw[hro]at hj;cases hj
   have e3:(B.backs [(z,id)]).r.getD j .dead=s1.r.getD j .dead:=(b2 j λp hp=>by rw[List.mem_singleton.1 hp];exact hjid).trans (by rw[J])
   rw[k1.r j (by rw[c1,b3,J];exact Nat.lt_of_lt_of_le hl hkd.l) (by rw[c1,e3,e1];exact hj),c1,e3,e1]
  .exact Nat.le_trans hkd.l (by rw[<-J,<-b3,<-c1];exact k1.l)
theorem WR{K:St->Option R}{z:R}{next:Act->World->Prop}{Q:Exit->Act->World->Prop}(hs:AR C E.h.n s.den a w)(h:YZ E s o K=some z)
  (hn:∀s' a' w',Kp (λi=>decide (o.dst≠some i)) s s'->AR C E.h.n s'.den a' w'->K s'=some z->next a' w'):o.wp P a w next Q:=by
 unfold YZ at h;split at h
 .exact WN hE hs h hn
 split at h
 .rename_i t x v hst
  unfold Ya at hst;split at hst
  case h_2=>cases hst
  rename_i t' x' v' ho hd;cases hst;split at h
  .rename_i A ha
   by_cases hp:A.p
   .have e:oif A.p A.dec (K A.s)=K A.s:=@if_pos _ A.dec hp _ _ _
    rw[e]at h;exact W2 hE.Θ ho hd ha hp hs λa' w' h'=>hn A.s a' w' ((W3 ha).weak λ_ _=>rfl) h' h
   .have e:oif A.p A.dec (K A.s)=none:=@if_neg _ A.dec hp _ _ _
    rw[e]at h;cases h
  rw[PV]at h;split at h
  case h_2=>cases h
  rename_i s' hs';exact Uv hE.Θ ho hd hs' hs λa' w' h'=>hn s' a' w' ((Uw hs').weak λ_ _=>rfl) h' h
 .have quiet:OM E s o K=some z->o.wp P a w next Q:=λh=>Ui hE hs h λs' a' w' ⟨y,hp⟩ h' hK=>hn s' a' w' (O8 hp) h' hK
  have lr:∀{s0:St}{d:Nat}{A:LR},Kp (λ_=>true) s s0->o.dst=some d->(∀j∈A.js,(s0.r.getD j .dead).isRo=false)->lrK E s0 d A K=some z->
    (∀s',(Ap A.js s0).put E.h (some d) (.one A.y)=some s'->E.h.fz.contains d=false->A.p->(∀a' w',AR C E.h.n s'.den a' w'->next a' w')->o.wp P a w next Q)->o.wp P a w next Q:=by
   intro s0 d A k0 U hro h hw;unfold lrK at h;cases hfz:E.h.fz.contains d with
   |true=>rw[hfz]at h;cases h
   |false=>
    rw[hfz]at h;simp only[cond_false]at h;by_cases hp:A.p
    .have h:(match(Ap A.js s0).put E.h (some d) (.one A.y)with
      |some s'=>K s'
      |none=>none)=some z:=by
      have e:oif A.p A.dec (match(Ap A.js s0).put E.h (some d) (.one A.y)with
       |some s'=>K s'
       |none=>none)=(match(Ap A.js s0).put E.h (some d) (.one A.y)with
       |some s'=>K s'
       |none=>none):=@if_pos _ A.dec hp _ _ _
      rw[<-e];exact h
     split at h
     case h_2=>cases h
     rename_i s' J;refine hw s' J hfz hp λa' w' h'=>hn s' a' w' ?_ h' h
     have k2:=O8 J;rw[U];exact(k0.trans (JF A.js s0 hro) (λ_ _=>rfl) λ_ _=>rfl).trans k2 (λ_ _=>rfl) λi hi=>hi
    .have e:oif A.p A.dec (match(Ap A.js s0).put E.h (some d) (.one A.y)with
      |some s'=>K s'
      |none=>none)=none:=@if_neg _ A.dec hp _ _ _
     rw[e]at h;cases h
  split at h
  case h_4=>
   split at h
   .exact quiet h
   .split at h
    case h_2=>cases h
    rename_i s0 hg;exact Ui hE (IU _ hg hs) h λs' a' w' ⟨y,hp⟩ h' hK=>hn s' a' w' ((IV _ hg).trans (O8 hp) (λ_ _=>rfl) λi hi=>hi) h' hK
  .rename_i d t x y B
   split at h
   case h_2=>cases h
   rename_i s0 hcut;split at h
   case h_2=>cases h
   rename_i A ha;unfold VA at B;split at B
   case h_3=>cases B
   .cases B
   .rename_i d' c U hop
    split at B
    case h_3=>cases B
    .rename_i hcal
     split at B
     case h_2=>cases B
     rename_i x' y' t1 t2 hargs hats;obtain⟨hbt,B⟩:=Bb B;cases B;have ho:o.op=.call ⟨.builtin .append,#[x,y],#[t,t]⟩:=by
      rw[hop];obtain⟨cal,args,ats⟩:=c;simp only at hcal hargs hats;have e1:args= #[x,y]:=by cases args;simp at hargs;simp[hargs]
      have e2:ats= #[t,t]:=by cases ats;simp at hats;simp[hats,bqE hbt]
      rw[hcal,e1,e2]
     exact lr (LJ hcut) U (Qa ha) h λs' J hfz hp hk=>P9 hE.Θ ho U hfz ha hp J (LH hcut hs) hk
    .split at B<;>cases B
  .rename_i d t n ps B
   have Z:o.dst=some d/\o.op=.buildSlice t n ps:=by
    unfold VA at B;split at B
    .rename_i h1 h2;cases B;exact⟨h1,h2⟩
    .split at B
     .split at B
      .rename_i t1 t2 _ _
       cases hbb:Nat.beq t1 t2<;>rw[hbb]at B<;>cases B
      .cases B
     .split at B<;>cases B
     .cases B
    .cases B
   split at h
   case h_2=>cases h
   rename_i s0 hcut;split at h
   .rename_i A ha
    exact lr (V8 _ hcut) Z.1 (Ze KZ ha) h λs' J hfz _ hk=>Zd hE.Θ Z.2 Z.1 hfz ha J (V7 _ hcut hs) hk
   .exact quiet h
  .rename_i d f xs B
   split at h
   case h_2=>cases h
   rename_i A ha;have Z:o.dst=some d/\∃ats,o.op=.call ⟨.value (.func f),xs,ats⟩:=by
    unfold VA at B;split at B
    .cases B
    .rename_i d' c U hop
     split at B
     .split at B
      .rename_i t1 t2 _ _
       cases hbb:Nat.beq t1 t2<;>rw[hbb]at B<;>cases B
      .cases B
     .rename_i f' hcal
      split at B
      .cases B
       refine⟨U,c.argTypes,?_⟩;rw[hop];obtain⟨cal,args,ats⟩:=c;simp only at hcal;rw[hcal]
      .cases B
     .cases B
    .cases B
   obtain⟨U,ats,ho⟩:=Z;cases hu:A.o with
   |none=>rw[hu]at h;cases h
   |some u=>
    rw[hu]at h;simp only[MB]at h
    have h:(match A.st u with
     |some s1=>match s1.put E.h (some d) (.one (A.y u))with
      |some s'=>K s'
      |none=>none
     |none=>none)=some z:=h
    split at h
    case h_2=>cases h
    rename_i s1 hst;split at h
    case h_2=>cases h
    rename_i s' J;refine UH hE.W ho U ha hu hst J hs λa' w' h'=>hn s' a' w' ?_ h' h
    have k2:=O8 J;rw[U];exact(UI ha hst).trans k2 (λ_ _=>rfl) λi hi=>hi
theorem Ul{K:St->Option R}{z:R}{next:Act->World->Prop}{Q:Exit->Act->World->Prop}(hs:AR C E.h.n s.den a w)(h:tone E s o K=some z)
  (U:∀s' e w',Kp (λi=>decide (o.dst≠some i)) s s'->AR C E.h.n s'.den e w'->K s'=some z->next e w'):o.wp P a w next Q:=by
 unfold tone at h;split at h
 case h_2=>cases h
 rename_i s1 h1;obtain⟨g1,g2⟩:=Aag h1 hs;refine WR hE g1 h λs' e w' W u B=>?_
 split at B
 case h_2=>cases B
 rename_i J Z;obtain⟨g3,g4⟩:=Aaf Z u;exact U J e w' ((g2.trans W (λ_ _=>rfl) λi A=>A).trans g4 (λ_ A=>A) λ_ _=>rfl) g3 B
theorem pathgW{z:Bool}{Q:Exit->Act->World->Prop}{J:List Oper}:∀(g:List Oper) (ρ:Asm) (s:St) (a:Act) (w:World) (K:Asm->St->Option Bool),CM ops ρ s.den.t->(∀x∈ρ,Av g x.2.1=true/\(s.t x.2.1).stay=true)->AR C E.h.n s.den a w->Cz E false ops g ρ s K=some z->
  (∀ρ' s' a' w',s.r.length<=s'.r.length->(s'.r.length=s.r.length->s'.r=s.r/\∀i,Av g i=true->s'.t i=s.t i)->AR C E.h.n s'.den a' w'->CM ops ρ' s'.den.t->K ρ' s'=some z->wpList P ops Q J a' w')->wpList P ops Q (g++J) a w:=by
 intro g
 induction g with
 |nil=>intro ρ s a w K hρ _ hs h hK;exact hK ρ s a w (Nat.le_refl _) (λ_=>⟨rfl,λ_ _=>rfl⟩) hs hρ h
 |cons o g ih=>
  intro ρ s a w K hρ hnd hs h hK;unfold Cz at h;split at h
  case h_1=>cases h
  rename_i j B hgo;split at h
  case h_1=>cases h
  rename_i dj hdj;rw[List.cons_append]
  have bstay:∀(y:Sl) (r r':List Af) (v:Bool),y.v r=.c (.bool v)->y.stay=true->y.v r'=.c (.bool v):=by
   intro y r r' v hv hst;cases y with
   |one c=>cases c<;>first|exact hv|cases hst
   |new l=>exact hv
   |agg l=>cases hv
   |tup l=>cases hv
   |pk t l=>cases hv
  -- what is behind this operation
  have cont:∀(u:Asm) (s1:St) (a1:Act) (w1:World),CM ops u s.den.t->(∀x∈u,Av (o::g) x.2.1=true/\(s.t x.2.1).stay=true)->s.r.length<=s1.r.length->(s1.r.length=s.r.length->s1.r=s.r/\∀i,o.dst≠some i->s1.t i=s.t i)->(∀i,o.dst≠some i->(s.t i).stay=true->s1.t i=s.t i)->AR C E.h.n s1.den a1 w1->Cz E false ops g u s1 K=some z->wpList P ops Q (g++J) a1 w1:=by
   intro u s1 a1 w1 U Z hle hsm hst A h1;refine ih u s1 a1 w1 K (λx hx=>⟨(U x hx).1,?_⟩) (λx hx=>?_) A h1 λρ2 s2 a2 w2 g1 g2 g3 g4 g5=>?_
   .obtain⟨n1,n2⟩:=Z x hx
    show(s1.t x.2.1).v s1.r=_;rw[hst _ (AK n1).1 n2];exact bstay _ s.r s1.r _ (U x hx).2 n2
   .obtain⟨n1,n2⟩:=Z x hx
    rw[hst _ (AK n1).1 n2];exact⟨(AK n1).2,n2⟩
   .refine hK ρ2 s2 a2 w2 (Nat.le_trans hle g1) (λhe=>?_) g3 g4 g5
    obtain⟨k1,k2⟩:=g2 (by omega)
    obtain⟨k3,k4⟩:=hsm (by omega)
    refine⟨k1.trans k3,λi hi=>?_⟩
    obtain⟨n1,n2⟩:=AK hi;rw[k2 i n2,k4 i n1]
  have pass:∀u:Asm,CM ops u s.den.t->(∀x∈u,Av (o::g) x.2.1=true/\(s.t x.2.1).stay=true)->onS (CX E.h s o.dst) (λs'=>Cz E false ops g u s' K)=some z->wpList P ops Q (g++J) (a.put o.dst undef) w:=by
   intro u h1 h2 h3;cases hp:CX E.h s o.dst with
   |none=>rw[hp]at h3;cases h3
   |some s1=>
    rw[hp]at h3;obtain⟨q1,q2,q3⟩:=Pb hp hs;exact cont u s1 _ w h1 h2 (by rw[q2];exact Nat.le_refl _) (λ_=>⟨q2,q3⟩) (λi hi _=>q3 i hi) q1 h3
  have step:∀u:Asm,CM ops u s.den.t->(∀x∈u,Av (o::g) x.2.1=true/\(s.t x.2.1).stay=true)->La E false u s o (λs'=>Cz E false ops g u s' K)=some z->o.wp P a w (λa' w'=>wpList P ops Q (g++J) a' w') Q:=by
   intro u h1 h2 h3;unfold La at h3;split at h3
   .rename_i v hv
    split at h3
    case h_2=>cases h3
    rename_i s1 A;have hQS:QS P s o.op (.one (.c .bool 0 v)):=H6 (VLe.refl _) h1 hv (Sub.refl _);have W:s.put E.h o.dst (.one (.c .bool 0 v))=some s1/\s1.r=s.r/\∀i,o.dst≠some i->s1.t i=s.t i:=by
     unfold AaA at A;split at A
     case h_2=>cases A
     rename_i d hd;obtain⟨hb,A⟩:=Bb A;rw[bAE,Bool.not_eq_true']at hb;cases A;refine⟨?_,rfl,λi hi=>AY λe=>hi (by rw[hd,e])⟩
     rw[hd];unfold St.put;simp only[hb.1,hb.2,cond_true,cond_false];rfl
    exact PQ hQS W.1 hs λa' w' hs'=>cont u s1 a' w' h1 h2 (by rw[W.2.1];exact Nat.le_refl _) (λ_=>W.2) (λi hi _=>W.2.2 i hi) hs' h3
   .obtain⟨_,y,hq,hy'⟩:=HU hE h3
    split at hy'
    case h_2=>cases hy'
    rename_i s' A;have hp:s.put E.h o.dst y=some s':=by
     cases hyo:y.own&& !fzD E.h o.dst with
     |true=>rw[hyo]at A;cases A
     |false=>rw[hyo]at A;exact A
    obtain⟨⟨new,hr⟩,ht,hsame⟩:=O9 hp;refine PQ hq hp hs λa' w' hs'=>cont u s' a' w' h1 h2 (by rw[hr];simp) (λhe=>?_) ht hs' hy'
    have hr1:s'.r=s.r:=by
     have:new=[]:=by
      have:=congrArg List.length hr;rw[List.length_append,he]at this;exact List.length_eq_zero_iff.1 (by omega)
     rw[hr,this,List.append_nil]
    exact⟨hr1,hsame hr1⟩
  have known:∀(u:Asm) (v:Bool),s.den.t dj=.c (.bool v)->CM ops u s.den.t->(∀x∈u,Av (o::g) x.2.1=true/\(s.t x.2.1).stay=true)->(v=B->La E false u s o (λs'=>Cz E false ops g u s' K)=some z)->(v=(!B)->onS (CX E.h s o.dst) (λs'=>Cz E false ops g u s' K)=some z)->
    wpList P ops Q (o::(g++J)) a w:=by
   intro u v hv h1 h2 h3 h4;have hy:=VQ hs (show gv s.den.t ops j=.c (.bool v) by unfold gv;rw[hdj];exact hv)
   unfold wpList;by_cases e:v=B
   .rw[if_pos (by simp[Region.wanted,hgo,hy,e])]
    exact .inl (step u h1 h2 (h3 e))
   .rw[if_neg (by simp[Region.wanted,hgo,hy,e])]
    exact pass u h1 h2 (h4 (by cases v<;>cases B<;>simp_all))
  cases hu:Z1 (s.t dj)with
  |true=>
   rw[hu]at h;have hy:=VR hs (show gv s.den.t ops j=udV by unfold gv;rw[hdj];exact VL hu)
   unfold wpList;rw[if_neg (by simp[Region.wanted,hgo,hy])]
   exact pass ρ hρ hnd h
  |false=>
   rw[hu]at h;simp only[cond_false]at h;split at h
   .rename_i v hv
    obtain⟨d',hm⟩:=HC hv;obtain⟨e1,e2⟩:=hρ _ hm;have e1:some dj=some d':=hdj.symm.trans e1;cases e1;refine known ρ v e2 hρ hnd (λe=>?_) λe=>?_
    .subst e;simpa using h
    .subst e;cases B<;>exact h
   .split at h
    case h_2=>cases h
    rename_i dd b hb;have hbv:s.den.t dj=.c (.bool b):=by show(s.t dj).v s.r=_;rw[hb];rfl
    obtain⟨hn,h⟩:=Bb h
    have U:CM ops ((j,dj,b)::ρ) s.den.t:=λx hx=>by
     rcases List.mem_cons.1 hx with rfl|hx
     .exact⟨hdj,hbv⟩
     .exact hρ x hx
    have Z:∀x∈(j,dj,b)::ρ,Av (o::g) x.2.1=true/\(s.t x.2.1).stay=true:=λx hx=>by
     rcases List.mem_cons.1 hx with rfl|hx
     .refine⟨hn,?_⟩
      show(s.t dj).stay=true;rw[hb];rfl
     .exact hnd x hx
    refine known ((j,dj,b)::ρ) b hbv U Z (λe=>?_) λe=>?_
    .subst e;cases b<;>exact h
    .subst e;cases B<;>exact h
theorem pathXW{z:R}{Q:Exit->Act->World->Prop}{B:List Oper}:∀(g:List Oper) (ρ:Asm) (s:St) (a:Act) (w:World) (K:Asm->St->Option R),CM ops ρ s.den.t->(∀x∈ρ,Av g x.2.1=true/\(s.t x.2.1).stay=true)->AR C E.h.n s.den a w->Cy E ops g ρ s K=some z->
  (∀ρ' s' a' w',Kp (Av g) s s'->AR C E.h.n s'.den a' w'->CM ops ρ' s'.den.t->K ρ' s'=some z->wpList P ops Q B a' w')->wpList P ops Q (g++B) a w:=by
 intro g
 induction g with
 |nil=>intro ρ s a w K hρ _ hs h hK;exact hK ρ s a w (Kp.refl _ _) hs hρ h
 |cons o g ih=>
  intro ρ s a w K hρ hnd hs h hK;unfold Cy at h;split at h
  case h_1=>cases h
  rename_i j A hgo;split at h
  case h_1=>cases h
  rename_i dj hdj;rw[List.cons_append]
  have bstay:∀(y:Sl) (r r':List Af) (v:Bool),y.v r=.c (.bool v)->y.stay=true->y.v r'=.c (.bool v):=by
   intro y r r' v hv hst;cases y with
   |one c=>cases c<;>first|exact hv|cases hst
   |new l=>exact hv
   |agg l=>cases hv
   |tup l=>cases hv
   |pk t l=>cases hv
  -- what is behind this operation
  have cont:∀(u:Asm) (s1:St) (a1:Act) (w1:World),CM ops u s.den.t->(∀x∈u,Av (o::g) x.2.1=true/\(s.t x.2.1).stay=true)->Kp (λi=>decide (o.dst≠some i)) s s1->AR C E.h.n s1.den a1 w1->Cy E ops g u s1 K=some z->wpList P ops Q (g++B) a1 w1:=by
   intro u s1 a1 w1 U Z hkp J h1;have hst:∀i,o.dst≠some i->(s.t i).stay=true->s1.t i=s.t i:=λi h1 h2=>hkp.t i (dT h1) h2
   refine ih u s1 a1 w1 K (λx hx=>⟨(U x hx).1,?_⟩) (λx hx=>?_) J h1 λρ2 s2 a2 w2 g1 g3 g4 g5=>?_
   .obtain⟨n1,n2⟩:=Z x hx
    show(s1.t x.2.1).v s1.r=_;rw[hst _ (AK n1).1 n2];exact bstay _ s.r s1.r _ (U x hx).2 n2
   .obtain⟨n1,n2⟩:=Z x hx
    rw[hst _ (AK n1).1 n2];exact⟨(AK n1).2,n2⟩
   .exact hK ρ2 s2 a2 w2 (hkp.trans g1 (λi hi=>dT (AK hi).1) λi hi=>(AK hi).2) g3 g4 g5
  have pass:∀u:Asm,CM ops u s.den.t->(∀x∈u,Av (o::g) x.2.1=true/\(s.t x.2.1).stay=true)->AaE (CX E.h s o.dst) (λs'=>Cy E ops g u s' K)=some z->wpList P ops Q (g++B) (a.put o.dst undef) w:=by
   intro u h1 h2 h3;cases hp:CX E.h s o.dst with
   |none=>rw[hp]at h3;cases h3
   |some s1=>
    rw[hp]at h3;obtain⟨q1,q2,q3⟩:=Pb hp hs;exact cont u s1 _ w h1 h2 ⟨λi hi _=>q3 i (of_decide_eq_true hi),λ_ _ _=>by rw[q2],by rw[q2];exact Nat.le_refl _⟩ q1 h3
  have step:∀u:Asm,CM ops u s.den.t->(∀x∈u,Av (o::g) x.2.1=true/\(s.t x.2.1).stay=true)->Qb E u s o (λs'=>Cy E ops g u s' K)=some z->o.wp P a w (λa' w'=>wpList P ops Q (g++B) a' w') Q:=by
   intro u h1 h2 h3;unfold Qb at h3;split at h3
   .rename_i v hv
    split at h3
    case h_2=>cases h3
    rename_i s1 J;have hQS:QS P s o.op (.one (.c .bool 0 v)):=H6 (VLe.refl _) h1 hv (Sub.refl _);have W:s.put E.h o.dst (.one (.c .bool 0 v))=some s1/\s1.r=s.r/\∀i,o.dst≠some i->s1.t i=s.t i:=by
     unfold AaA at J;split at J
     case h_2=>cases J
     rename_i d hd;obtain⟨hb,J⟩:=Bb J;rw[bAE,Bool.not_eq_true']at hb;cases J;refine⟨?_,rfl,λi hi=>AY λe=>hi (by rw[hd,e])⟩
     rw[hd];unfold St.put;simp only[hb.1,hb.2,cond_true,cond_false];rfl
    exact PQ hQS W.1 hs λa' w' hs'=>cont u s1 a' w' h1 h2 ⟨λi hi _=>W.2.2 i (of_decide_eq_true hi),λ_ _ _=>by rw[W.2.1],by rw[W.2.1];exact Nat.le_refl _⟩ hs' h3
   .exact Ul hE hs h3 λs' a' w' hk hs' hy=>cont u s' a' w' h1 h2 hk hs' hy
  have known:∀(u:Asm) (v:Bool),s.den.t dj=.c (.bool v)->CM ops u s.den.t->(∀x∈u,Av (o::g) x.2.1=true/\(s.t x.2.1).stay=true)->(v=A->Qb E u s o (λs'=>Cy E ops g u s' K)=some z)->(v=(!A)->AaE (CX E.h s o.dst) (λs'=>Cy E ops g u s' K)=some z)->
    wpList P ops Q (o::(g++B)) a w:=by
   intro u v hv h1 h2 h3 h4;have hy:=VQ hs (show gv s.den.t ops j=.c (.bool v) by unfold gv;rw[hdj];exact hv)
   unfold wpList;by_cases e:v=A
   .rw[if_pos (by simp[Region.wanted,hgo,hy,e])]
    exact .inl (step u h1 h2 (h3 e))
   .rw[if_neg (by simp[Region.wanted,hgo,hy,e])]
    exact pass u h1 h2 (h4 (by cases v<;>cases A<;>simp_all))
  cases hu:Z1 (s.t dj)with
  |true=>
   rw[hu]at h;have hy:=VR hs (show gv s.den.t ops j=udV by unfold gv;rw[hdj];exact VL hu)
   unfold wpList;rw[if_neg (by simp[Region.wanted,hgo,hy])]
   exact pass ρ hρ hnd h
  |false=>
   rw[hu]at h;simp only[cond_false]at h;split at h
   .rename_i v hv
    obtain⟨d',hm⟩:=HC hv;obtain⟨e1,e2⟩:=hρ _ hm;have e1:some dj=some d':=hdj.symm.trans e1;cases e1;refine known ρ v e2 hρ hnd (λe=>?_) λe=>?_
    .subst e;simpa using h
    .subst e;cases A<;>exact h
   .split at h
    case h_2=>cases h
    rename_i dd b hb;have hbv:s.den.t dj=.c (.bool b):=by show(s.t dj).v s.r=_;rw[hb];rfl
    obtain⟨hn,h⟩:=Bb h
    have U:CM ops ((j,dj,b)::ρ) s.den.t:=λx hx=>by
     rcases List.mem_cons.1 hx with rfl|hx
     .exact⟨hdj,hbv⟩
     .exact hρ x hx
    have Z:∀x∈(j,dj,b)::ρ,Av (o::g) x.2.1=true/\(s.t x.2.1).stay=true:=λx hx=>by
     rcases List.mem_cons.1 hx with rfl|hx
     .refine⟨hn,?_⟩
      show(s.t dj).stay=true;rw[hb];rfl
     .exact hnd x hx
    refine known ((j,dj,b)::ρ) b hbv U Z (λe=>?_) λe=>?_
    .subst e;cases b<;>exact h
    .subst e;cases A<;>exact h
theorem WQ{ops:Array Oper}{K:St->Option R}{z:R}{Q:Exit->Act->World->Prop}:∀(l:List Seg) (k:Nat) (s:St) (a:Act) (w:World),AR C E.h.n s.den a w->
  KY E ops l k s K=some z->(∀s' a' w',Kp (Av ((l.drop k).flatMap Seg.ops)) s s'->AR C E.h.n s'.den a' w'->K s'=some z->Q .normal a' w')->wpList P ops Q ((l.drop k).flatMap Seg.ops) a w:=by
 intro l
 induction l with
 |nil=>intro k s a w hs h hK;rw[List.drop_nil]at hK⊢;exact hK s a w (Kp.refl _ _) hs h
 |cons sg l ih=>
  intro k s a w hs h hK;cases k with
  |succ k=>exact ih k s a w hs h hK
  |zero=>
  have ih2:=ih
  replace ih:=ih 0
  simp only[List.drop_zero]at ih hK⊢;cases sg with
  |one o=>
   unfold KY at h;split at h
   .rename_i o2 o3 A W
    unfold oif at h;split at h
    case isFalse=>cases h
    rename_i hp;obtain⟨l',rfl,g1,g2,g3,W⟩:∃l',l=.one o2:: .one o3::l'/\o.guard=none/\o2.guard=none/\o3.guard=none/\UA E s [] o o2 o3=some A:=by
     unfold rowS at W;split at W
     case h_2=>cases W
     rename_i p2 p3 l';obtain⟨hg,W⟩:=Bb W;simp only[bAE,Option.isNone_iff_eq_none]at hg;cases hr:UA E s [] o p2 p3 with
     |none=>rw[hr]at W;cases W
     |some A0=>
      rw[hr]at W;cases W;exact⟨l',rfl,hg.1.1,hg.1.2,hg.2,hr⟩
    have w1:∀(o:Oper) (a:Act),o.guard=none->Region.wanted o (yielded ops a.tmps)=true:=λo a hg=>by simp[Region.wanted,hg]
    show wpList P ops Q (o::o2::o3::l'.flatMap Seg.ops) a w;unfold wpList;rw[if_pos (w1 o a g1)];refine .inl (Oper.wp_mono (λa1 w1' h1=>?_) (Uy (Q:=Q) hE.Θ W hp hs (next:=λa' w'=>wpList P ops Q (l'.flatMap Seg.ops) a' w') λa' w' hs'=>ih2 2 A.s a' w' hs' h λs2 a2 w2 h2 h3 h4=>hK s2 a2 w2 ((Uz W).trans h2 (λi u=>?_) λi u=>?_) h3 h4))
    .unfold wpList
     rw[if_pos (w1 o2 a1 g2)];refine .inl (Oper.wp_mono (λa2 w2' h2=>?_) h1)
     unfold wpList;rw[if_pos (w1 o3 a2 g3)];exact .inl h2
    .have u:Av ([o,o2,o3]++l'.flatMap Seg.ops) i=true:=u
     unfold Av at u⊢;rw[List.all_append,bAE]at u;exact u.1
    .have u:Av ([o,o2,o3]++l'.flatMap Seg.ops) i=true:=u
     unfold Av at u⊢;rw[List.all_append,bAE]at u;exact u.2
   split at h
   case h_2=>cases h
   rename_i hg;rw[List.flatMap_cons];show wpList P ops Q (o::l.flatMap Seg.ops) a w;unfold wpList;rw[if_pos (by simp[Region.wanted,hg])]
   refine .inl (Ul hE hs h λs' a' w' hk hs' hy=>ih s' a' w' hs' hy λs2 a2 w2 h2 h3 h4=>hK s2 a2 w2 (hk.trans h2 (λi u=>dT ?_) λi u=>?_) h3 h4)
   .exact(AK (o:=o) (g:=l.flatMap Seg.ops) u).1
   .exact(AK (o:=o) (g:=l.flatMap Seg.ops) u).2
  |grp g pk=>
   unfold KY at h;split at h
   case h_2=>cases h
   rename_i d U;have hpd2:pk.dst=some d/\pk.guard=none/\d<E.h.n/\E.h.fz.contains d=false:=by
    unfold Xj at U;split at U
    case h_2=>cases U
    rename_i d' e1 e2;obtain⟨hb,U⟩:=Bb U;cases U;rw[bAE,Bool.not_eq_true']at hb;exact⟨e1,e2,blE hb.1,hb.2⟩
   obtain⟨e1,e3,h3,h4⟩:=hpd2;cases hgU:grpU E g with
   |true=>
    rw[hgU]at h;simp only[cond_true]at h;rw[List.flatMap_cons];show wpList P ops Q ((g++[pk])++l.flatMap Seg.ops) a w;rw[List.append_assoc];refine pathXW hE g [] s a w _ (λx hx=>by cases hx) (λx hx=>by cases hx) hs h λρ' s1 a1 w1 hkp hs1 Z B=>?_
    split at B
    case h_2=>cases B
    rename_i v hpv;have hQS:QS P s1 pk.op (.one (.c .bool 0 v)):=H6 (VLe.refl _) Z hpv (Sub.refl _);have hput:s1.put E.h pk.dst (.one (.c .bool 0 v))=some ⟨AJ s1.t d (.one (.c .bool 0 v)),s1.r⟩:=by
     rw[e1];unfold St.put;simp only[show Nat.blt d E.h.n=true from Nat.ble_eq_true_of_le h3,h4,cond_true,cond_false]
     rfl
    show wpList P ops Q (pk::l.flatMap Seg.ops) a1 w1;unfold wpList;rw[if_pos (by simp[Region.wanted,e3])]
    refine .inl (PQ hQS hput hs1 λa2 w2 hs2=>?_)
    have hs3:AR C E.h.n (St.den ⟨AJ (CY g s1.t) d (.one (.c .bool 0 v)),s1.r⟩) a2 w2:=by
     refine hs2.sub rfl (λi _=>Sub.refl _) λi=>?_
     show Ax ((AJ s1.t d _ i).v s1.r) ((AJ (CY g s1.t) d _ i).v s1.r);by_cases J:i=d
     .subst J
      have e:∀t:Nat->Sl,AJ t i (.one (.c .bool 0 v)) i=.one (.c .bool 0 v):=λt=>by unfold AJ;rw[Nat.beq_refl];rfl
      rw[e,e];exact Ax.refl _
     .rw[AY J,AY J,DC]
      by_cases hn:Av g i=true
      .rw[if_pos hn];exact Ax.refl _
      .rw[if_neg hn];exact Ax.dead _
    refine ih ⟨AJ (CY g s1.t) d (.one (.c .bool 0 v)),s1.r⟩ a2 w2 hs3 B λs4 a4 w4 hk4 h5 h6=>hK s4 a4 w4 ?_ h5 h6
    refine hkp.trans (g2:=λi=>Av (l.flatMap Seg.ops) i&&(Av g i&&decide (i≠d))) (Kp.trans (s1:=⟨AJ (CY g s1.t) d (.one (.c .bool 0 v)),s1.r⟩) (g1:=λi=>Av g i&&decide (i≠d)) (g2:=Av (l.flatMap Seg.ops)) ⟨λi u _=>?_,λ_ _ _=>rfl,Nat.le_refl _⟩ hk4 (λi u=>(bAE _ _▸u).2) λi u=>(bAE _ _▸u).1) (λi u=>?_) λi u=>?_
    .simp only[bAE,decide_eq_true_eq]at u
     show AJ (CY g s1.t) d (.one (.c .bool 0 v)) i=s1.t i;rw[AY u.2,DC,if_pos u.1]
    .rw[List.flatMap_cons]at u
     have u:Av ((g++[pk])++l.flatMap Seg.ops) i=true:=u;unfold Av at u;rw[List.all_append,List.all_append,bAE,bAE]at u;exact u.1.1
    .rw[List.flatMap_cons]at u
     have u:Av ((g++[pk])++l.flatMap Seg.ops) i=true:=u;unfold Av at u;rw[List.all_append,List.all_append,bAE,bAE]at u;simp only[bAE,decide_eq_true_eq];refine⟨u.2,u.1.1,?_⟩
     rintro rfl
     have:=u.1.2;simp only[List.all_cons,List.all_nil,Bool.and_true,e1,Nat.beq_refl,Bool.not_true]at this;cases this
   |false=>
   rw[hgU]at h;simp only[cond_false]at h;cases hv:grpB E false ops s g pk with
   |none=>rw[hv]at h;cases h
   |some v=>
    rw[hv]at h;simp only[Option.bind_some]at h;rw[List.flatMap_cons];show wpList P ops Q ((g++[pk])++l.flatMap Seg.ops) a w;rw[List.append_assoc];refine pathgW hE g [] s a w _ (λx hx=>by cases hx) (λx hx=>by cases hx) hs hv λρ' s1 a1 w1 hle hsm hs1 Z B=>?_
    obtain⟨hl,B⟩:=Bb B;obtain⟨hr1,ht1⟩:=hsm (bqE hl);have B:MZ ρ' s1 pk.op=some v:=B;have hQS:QS P s1 pk.op (.one (.c .bool 0 v)):=H6 (VLe.refl _) Z B (Sub.refl _);have hput:s1.put E.h pk.dst (.one (.c .bool 0 v))=some ⟨AJ s1.t d (.one (.c .bool 0 v)),s1.r⟩:=by
     rw[e1];unfold St.put;simp only[show Nat.blt d E.h.n=true from Nat.ble_eq_true_of_le h3,h4,cond_true,cond_false]
     rfl
    show wpList P ops Q (pk::l.flatMap Seg.ops) a1 w1;unfold wpList;rw[if_pos (by simp[Region.wanted,e3])]
    refine .inl (PQ hQS hput hs1 λa2 w2 hs2=>?_)
    have hs3:AR C E.h.n (St.den ⟨AJ (CY g s.t) d (.one (.c .bool 0 v)),s.r⟩) a2 w2:=by
     refine hs2.sub (by show(s.r.map Af.v).length=(s1.r.map Af.v).length;rw[hr1]) (λi _=>by show Sub ((s1.r.map Af.v).getD i .dead) ((s.r.map Af.v).getD i .dead);rw[hr1];exact Sub.refl _) λi=>?_
     show Ax ((AJ s1.t d _ i).v s1.r) ((AJ (CY g s.t) d _ i).v s.r);by_cases J:i=d
     .subst J
      have e:∀t:Nat->Sl,AJ t i (.one (.c .bool 0 v)) i=.one (.c .bool 0 v):=λt=>by unfold AJ;rw[Nat.beq_refl];rfl
      rw[e,e];exact Ax.refl _
     .rw[AY J,AY J,DC]
      by_cases hn:Av g i=true
      .rw[if_pos hn,ht1 i hn,hr1];exact Ax.refl _
      .rw[if_neg hn];exact Ax.dead _
    refine ih ⟨AJ (CY g s.t) d (.one (.c .bool 0 v)),s.r⟩ a2 w2 hs3 h λs4 a4 w4 hk4 h5 h6=>hK s4 a4 w4 ?_ h5 h6
    refine Kp.trans (s1:=⟨AJ (CY g s.t) d (.one (.c .bool 0 v)),s.r⟩) (g1:=λi=>Av g i&&decide (i≠d)) (g2:=Av (l.flatMap Seg.ops)) ⟨λi u _=>?_,λ_ _ _=>rfl,Nat.le_refl _⟩ hk4 (λi u=>?_) λi u=>?_
    .simp only[bAE,decide_eq_true_eq]at u
     show AJ (CY g s.t) d (.one (.c .bool 0 v)) i=s.t i;rw[AY u.2,DC,if_pos u.1]
    .rw[List.flatMap_cons]at u
     have u:Av ((g++[pk])++l.flatMap Seg.ops) i=true:=u;unfold Av at u;rw[List.all_append,List.all_append,bAE,bAE]at u;simp only[bAE,decide_eq_true_eq];refine⟨u.1.1,?_⟩
     rintro rfl
     have:=u.1.2;simp only[List.all_cons,List.all_nil,Bool.and_true,e1,Nat.beq_refl,Bool.not_true]at this;cases this
    .rw[List.flatMap_cons]at u
     have u:Av ((g++[pk])++l.flatMap Seg.ops) i=true:=u;unfold Av at u;rw[List.all_append,bAE]at u;exact u.2
theorem Uk{ops:Array Oper}{K:St->Option R}{z:R}{Q:Exit->Act->World->Prop}(l:List Seg)(s:St)(a:Act)(w:World)(hs:AR C E.h.n s.den a w)
  (h:tops E ops l s K=some z) (u:∀s' e w',Kp (Av (l.flatMap Seg.ops)) s s'->AR C E.h.n s'.den e w'->K s'=some z->Q .normal e w'):wpList P ops Q (l.flatMap Seg.ops) a w:=WQ hE l 0 s a w hs h u
end wp
end Go.Ve

