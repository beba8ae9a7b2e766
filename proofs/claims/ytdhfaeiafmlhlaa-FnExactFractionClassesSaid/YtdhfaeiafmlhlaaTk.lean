/- The typed machine: operations in order; code. -/
import Derived.Test.YtdhfaeiafmlhlaaTka
set_option linter.all false
namespace Go.Ve
variable{a:Act}{ops:Array Oper}{o:Oper}{s s':St}{R:Type}{w:World}
def AaS(o:Oper):Option (TypeId×Operand×Operand):=match o.op,o.dst with
 |.store t x v,none=>some (t,x,v)
 |_,_=>none
inductive LoudK where
 |app (d:Nat) (t:TypeId) (x y:Operand)
 |bs (d:Nat) (t:TypeId) (n:Nat) (ps:Array (Nat×Operand))
 |cw (d:Nat) (f:FuncId) (xs:Array Operand)
def XZ(E:Env)(o:Oper):Option LoudK:=match o.dst,o.op with
 |some d,.buildSlice t n ps=>some (.bs d t n ps)
 |some d,.call c=>match c.callee with
  |.builtin .append=>match c.args.toList,c.argTypes.toList with
   |[x,y],[t,t']=>bif Nat.beq t t' then some (.app d t x y)else none
   |_,_=>none
  |.value (.func f)=>match X0 E.W f with
   |some _=>some (.cw d f c.args)
   |none=>none
  |_=>none
 |_,_=>none
def elI(E:Env)(t:TypeId):Option TI:=((E.Θ.look t).bind (·.elem)).bind E.Θ.look
def lrK{R:Type}(E:Env)(s:St)(d:Nat)(A:LR)(K:St->Option R):Option R:=bif E.h.fz.contains d then none else oif A.p A.dec (match(Ap A.js s).put E.h (some d) (.one A.y)with
 |some s'=>K s'
 |none=>none)
def QG{R:Type}(E:Env)(s:St)(o:Oper)(K:St->Option R):Option R:=AbO E s o.type o.op λy=>match s.put E.h o.dst y with
 |some s'=>K s'
 |none=>none
def capsF(fz:List Nat)(o:Oper):List Operand:=match o.op,o.dst with
 |.makeFunc _ _ caps,some d=>bif fz.contains d then caps.toList else []
 |_,_=>[]
def seqF(E:Env)(s:St)(o:Oper):Option (Nat×Nat×Bool):=match IQ o.op with
 |some (f,xs)=>match Ke E.U f with
  |some e=>match xs.toList[e.S.k]? with
   |some (.tmp z)=>match Cn s z with
    |some id=>some (z,id,e.S.eat)
    |none=>none
   |_=>none
  |none=>none
 |none=>none
def seqB(E:Env)(o:Oper)(z id:Nat)(eat:Bool)(s1 e:St):Bool:=(match o.dst with
 |some d=>!(e.t d).own||(e.t d).stay
 |none=>true)&&(bif eat then !(e.t z).own else Hh (e.t z)&&Nat.blt id s1.r.length&&(match s1.r.getD id .dead with
  |.dead=>true
  |_=>false))
def K0(E:Env)(s:St)(o:Oper)(z id:Nat):List Nat:=(List.range E.h.n).filter λy=>!Nat.beq y z&&(match o.dst with
 |some d=>!Nat.beq y d
 |none=>true)&&(match Cn s y with
 |some j=>Nat.beq j id
 |none=>false)
def AbN{R:Type}(E:Env)(s:St)(o:Oper)(K:St->Option R):Option R:=match seqF E s o with
 |some (z,id,eat)=>match Ky [z] s with
  |some s1=>match Mw E.h (λe=>Nat.beq e z) (λz=>z) E.U s1 o with
   |some A=>IE A.o λu=>bif seqB E o z id eat s1 ⟨AK (AK s1.t A.y (A.u u)) A.d (A.z u),s1.r⟩then
     K ((bif eat then⟨AK (AK s1.t A.y (A.u u)) A.d (A.z u),s1.r⟩else St.rerefs id (B6 ((AK (AK s1.t A.y (A.u u)) A.d (A.z u)) z)) (K0 E s o z id) (St.backs [(z,id)] ⟨AK (AK s1.t A.y (A.u u)) A.d (A.z u),s1.r⟩)).promA [o.dst])else none
   |none=>none
  |none=>none
 |none=>none
def AbP{R:Type}(E:Env)(s:St)(o:Oper)(K:St->Option R):Option R:=match PA E.Θ s o with
 |some s'=>K s'
 |none=>match seqF E s o with
 |some _=>AbN E s o K
 |none=>match AaS o with
 |some (t,x,v)=>match WY s (E.Θ.look t) (s.ev x) (s.ev v)with
  |some A=>oif A.p A.dec (K A.s)
  |none=>Pw s (E.Θ.look t) (s.ev x) (s.ev v) K
 |none=>match XZ E o with
  |some (.app d t x y)=>match Abu s (s.ev x)with
   |some e=>match JK e (elI E t) (e.ev x) (e.ev y)with
    |some A=>lrK E e d A K
    |none=>none
   |none=>none
  |some (.bs d t n ps)=>match Adz (ps.toList.map (·.2)) s with
   |some e=>match tBSM e n (ps.toList.map λp=>(p.1,e.ev p.2)) (elI E t)with
    |some A=>lrK E e d A K
    |none=>QG E s o K
   |none=>none
  |some (.cw d f xs)=>match NS E.W s f (xs.toList.map s.ev)with
   |some A=>IE A.o λu=>match A.st u with
    |some s1=>match s1.put E.h (some d) (.one (A.y u))with
     |some s'=>Q5 (xs.toList.flatMap λx=>argIds (s.ev x)) s' K
     |none=>none
    |none=>none
   |none=>none
  |none=>match capsF E.h.fz o with
   |[]=>QG E s o K
   |x::xs=>match OW (x::xs) s with
    |some e=>QG E e o K
    |none=>none
def tone{R:Type}(E:Env)(s:St)(o:Oper)(K:St->Option R):Option R:=match frzO E s o with
 |some s'=>AbP E s' o λA=>match frzP E A o with
  |some e=>K e
  |none=>none
 |none=>none
def grpU(E:Env)(g:List Oper):Bool:=g.any λo=>match IQ o.op with
 |some (f,_)=>(Ke E.U f).isSome
 |none=>false
def Adt{R:Type}(o:Option St)(K:St->Option R):Option R:=match o with
 |some s=>K s
 |none=>none
def Vn{R:Type}(E:Env)(ρ:Asm)(s:St)(o:Oper)(K:St->Option R):Option R:=match Oy ρ s o.op with
 |some v=>match Adp E.h s o.dst v with
  |some s'=>K s'
  |none=>none
 |none=>tone E s o K
def Cx{R:Type}(E:Env)(ops:Array Oper):List Oper->Asm->St->(Asm->St->Option R)->Option R
 |[],ρ,s,K=>K ρ s
 |o::l,ρ,s,K=>match o.guard with
  |none=>none
  |some (j,want)=>match(ops[j]?).bind (·.dst)with
   |none=>none
   |some e=>bif AcQ (s.t e)then Adt (C3 E.h s o.dst) (λs'=>Cx E ops l ρ s' K)else match X2 ρ j with
    |some v=>bif v==want then Vn E ρ s o (λs'=>Cx E ops l ρ s' K)else Adt (C3 E.h s o.dst) (λs'=>Cx E ops l ρ s' K)
    |none=>match s.t e with
     |.one (.c .bool _ b)=>bif Aq (o::l) e then
      Ph b (bif want then Vn E ((j,e,true)::ρ) s o (λs'=>Cx E ops l ((j,e,true)::ρ) s' K)else Adt (C3 E.h s o.dst) (λs'=>Cx E ops l ((j,e,true)::ρ) s' K))
       (bif want then Adt (C3 E.h s o.dst) (λs'=>Cx E ops l ((j,e,false)::ρ) s' K)else Vn E ((j,e,false)::ρ) s o (λs'=>Cx E ops l ((j,e,false)::ρ) s' K))else none
     |_=>none
def rowS(E:Env)(s:St)(o:Oper):List Seg->Option (Oper×Oper×PtR)
 |.one o2:: .one o3::_=>bif o.guard.isNone&&o2.guard.isNone&&o3.guard.isNone then(WW E s [] o o2 o3).map λA=>(o2,o3,A)else none
 |_=>none
def Mp{R:Type}(E:Env)(ops:Array Oper):List Seg->Nat->St->(St->Option R)->Option R
 |[],_,s,K=>K s
 |_::l,k+1,s,K=>Mp E ops l k s K
 |.one o::l,0,s,K=>match rowS E s o l with
  |some (_,_,A)=>oif A.p A.dec (Mp E ops l 2 A.s K)
  |none=>match o.guard with
   |none=>tone E s o λs'=>Mp E ops l 0 s' K
   |some _=>none
 |.grp g pk::l,0,s,K=>match ZT E.h pk with
  |some d=>bif grpU E g then Cx E ops g [] s λρ s'=>match Oy ρ s' pk.op with
    |some v=>Mp E ops l 0 ⟨AK (C5 g s'.t) d (.one (.c .bool 0 v)),s'.r⟩ K
    |none=>none
   else IE (grpB E false ops s g pk) λv=>Mp E ops l 0 ⟨AK (C5 g s.t) d (.one (.c .bool 0 v)),s.r⟩ K
  |none=>none
def tops{R:Type}(E:Env)(ops:Array Oper)(l:List Seg)(s:St)(K:St->Option R):Option R:=Mp E ops l 0 s K
theorem Ud{E:Env}{C:Ctx}(h:C3 E.h s o.dst=some s')(B:AQ C E.h.n s.den a w):AQ C E.h.n s'.den (a.put o.dst undef) w/\s'.r=s.r/\∀i,o.dst≠some i->s'.t i=s.t i:=by
 unfold C3 at h;split at h
 .rename_i d hd
  cases A:Nat.blt d E.h.n with
  |false=>grind
  |true=>
   rw[A]at h;cases h;have F:=B.skipU (blE A);refine⟨?_,rfl,λi hi=>A4 λe=>hi (by grind)⟩
   have e:(St.den ⟨AK s.t d (.tup []),s.r⟩)=⟨AF s.den.t d udV,s.den.σ⟩:=by
    have:=B2 (r:=s.r) (t:=s.t) (d:=d) (y:=.tup []);show Ms.mk (λi=>(AK s.t d (.tup []) i).v s.r) _=_
    rw[this];rfl
   grind
 .rename_i hd
  cases h;refine⟨?_,rfl,λ_ _=>rfl⟩
  rw[hd];trivial
section wp
variable {P:Program}{E:Env}{C:Ctx} (hE:EOK P E)
include hE
theorem WE{R:Type}{s:St}{o:Oper}{K:St->Option R}{z:R}{a:Act}{w:World}{next:Act->World->Prop}{Q:Exit->Act->World->Prop}(F:AQ C E.h.n s.den a w)(h:(AbO E s o.type o.op λy=>match s.put E.h o.dst y with
   |some s'=>K s'
   |none=>none)=some z) (O:∀s' A w',(∃y,s.put E.h o.dst y=some s')->AQ C E.h.n s'.den A w'->K s'=some z->next A w'):o.wp P a w next Q:=by
 obtain⟨_,y,J,B⟩:=Il hE h;split at B
 case h_2=>grind
 rename_i s' e;exact U2 J e F λA w' U=>O s' A w' ⟨y,e⟩ U B
theorem Zl{K:St->Option R}{z0:R}{next:Act->World->Prop}{Q:Exit->Act->World->Prop}(hs:AQ C E.h.n s.den a w)(h:AbN E s o K=some z0)
  (hn:∀s' a' w',Kp (λi=>decide (o.dst≠some i)) s s'->AQ C E.h.n s'.den a' w'->K s'=some z0->next a' w'):o.wp P a w next Q:=by
 unfold AbN at h;split at h
 case h_2=>cases h
 rename_i z id eat hsf;split at h
 case h_2=>cases h
 rename_i s1 hd;split at h
 case h_2=>cases h
 rename_i A ha;cases hu:A.o with
 |none=>rw[hu]at h;cases h
 |some u=>
 rw[hu]at h;simp only[Option.bind_some]at h;obtain⟨B,hs2⟩:∃B:St,B=⟨AK (AK s1.t A.y (A.u u)) A.d (A.z u),s1.r⟩:=⟨_,rfl⟩;rw[<-hs2]at h;obtain⟨hsb,h⟩:=A9 h;unfold seqB at hsb;rw[bAE]at hsb;obtain⟨hb1,hb2⟩:=hsb;obtain⟨v,r,hne,hlq,hvl,hdst,hyd,hyn,f,xs,e,zk,g1,g2,g3,g4,g5⟩:=NN hE.U (Al:=λ_ _=>False) (λ_=>.inl rfl) (VLe.refl s1.den.t) ha hu
 rw[<-hs2]at hvl;have g5:=bqE g5;have hz:A.y=z:=g4.symm.trans g5;have hroot:Cn s z=some id:=by
  unfold seqF at hsf;rw[g1]at hsf;simp only[g2,g3]at hsf;split at hsf
  .rename_i id' hr
   cases hsf;exact hr
  .cases hsf
 rw[hz]at hlq hvl hyd hyn;obtain⟨D,ρ,F,T,hp,hT,hval⟩:=O7 hd hs (Below.refl w.heap.size w);have hzv:=hval z id hyn hroot;refine hlq C ρ F a w D T s1.den.t (λ_ _=>rfl) (λ_ _ h=>h.elim) hp next Q λa' w' D' T' hp' hT' htm=>?_
 have hPR:AaE [o.dst] ⟨IV o.dst r (AR [(z,.put v)] s1.den.t),s1.den.σ⟩ B:=by
  refine⟨by rw[hs2];rfl,λi=>?_,λi hi=>⟨λhoi=>?_,?_⟩⟩
  .rcases hvl i with e|e
   .show Ax (IV o.dst r (AR [(z,.put v)] s1.den.t) i) _
    rw[e];exact Ax.refl _
   .rw[e.1];exact Ax.dead _
  .have hi:=List.mem_singleton.1 hi
   rw[<-hi]at hb1;simp only[Bool.or_eq_true,Bool.not_eq_true']at hb1;rcases hb1 with h|h
   .rw[hoi]at h;cases h
   .exact h
  .rcases hvl i with e|e
   .exact .inl e
   .right
    refine⟨?_,e.2⟩
    have:AM ((B.t i).v B.r)=false:=by
     show AM (B.den.t i)=false;rw[e.1];rfl
    rw[Sl.own_v]at this;exact this
 have Y:=O8 hd;obtain⟨hro,hzst,_⟩:=Ch hroot;have hdz:o.dst≠some z:=by rw[hdst];intro e;exact hyd (Option.some.inj e).symm
 have hs2t:∀i,i≠z->o.dst≠some i->B.t i=s1.t i:=by
  intro i h1 h2;rw[hs2];show AK (AK s1.t A.y (A.u u)) A.d (A.z u) i=_;rw[A4 λe=>h2 (by rw[hdst,e]),A4 (by rw[hz];exact h1)]
 have J:B.r=s1.r:=by rw[hs2]
 have hkn:∀s':St,Kp (Aq [o]) s' (s'.promA [o.dst]):=λs'=>HQ [o] s'
 have nd:∀i,o.dst≠some i->Aq [o] i=true:=by
  intro i hi
  show((match o.dst with
   |some e=>!Nat.beq e i
   |none=>true)&&true)=true
  rw[Bool.and_true,hdst];show(!Nat.beq A.d i)=true;rw[BB λe=>hi (by rw[hdst,e])];rfl
 -- what is left of it
 have hTz:∀x b,T' x b->o.dst=some x\/x=z:=λx b hb=>(hT' x b hb).imp (λh=>h) fun⟨b',h⟩=>List.mem_singleton.1 (hT x b' h)
 cases eat with
 |true=>
  simp only[cond_true]at h hb2;have hcl:=PR.close [o.dst] _ _ _ _ _ hp' λx b hb=>by
   rcases hTz x b hb with h1|h1
   .rw[h1];exact List.mem_singleton.2 rfl
   .exfalso
    subst h1
    have hown:AM (IV o.dst r (AR [(x,.put v)] s1.den.t) x)=false:=by
     have h1:(B.t x).own=false:=by simpa using hb2
     have h2:AM (B.den.t x)=false:=by
      show AM ((B.t x).v B.r)=false;rw[Sl.own_v];exact h1
     rcases hvl x with e|e
     .rw[e];exact h2
     .exact e.2
    exact AB _ _ _ hown (hp'.tm x hyn) b hb
  obtain⟨q1,q2⟩:=J4 _ _ _ hPR;have hs3:AQ C E.h.n (B.promA [o.dst]).den a' w':=hcl.sub (by rw[q2]) (λi _=>by rw[q2];exact Sub.refl _) q1
  have k1:=hkn B;refine hn _ _ _ ⟨λi hi O=>?_,λj hl hj=>?_,?_⟩ hs3 h
  .have hi:=of_decide_eq_true hi
   have hiz:i≠z:=by rintro rfl;rw[hzst]at O;cases O
   have Z:=Y.t i rfl O;have e2:=hs2t i hiz hi;rw[k1.t i (nd i hi) (by rw[e2,Z];exact O),e2,Z]
  .have Z:=Y.r j hl hj
   rw[k1.r j (by rw[J];exact Nat.lt_of_lt_of_le hl Y.l) (by rw[J,Z];exact hj),J,Z]
  .exact Nat.le_trans Y.l (by rw[<-J];exact k1.l)
 |false=>
  simp only[cond_false,bAE]at h hb2;obtain⟨⟨hir,hlt⟩,W⟩:=hb2;have hlt:=blE hlt;have W:s1.r.getD id .dead=.dead:=by
   split at W
   .assumption
   .cases W
  have hSz:IV o.dst r (AR [(z,.put v)] s1.den.t) z=B.den.t z:=by
   rcases hvl z with e|e
   .exact e
   .obtain⟨_,h3,⟨s0,sz,nn,f,h4,_⟩,_⟩:=Cj hir
    have Z:(B.t z).v B.r=.dead:=e.1;rw[h3,h4]at Z;cases Z
  have hobj:K6 (IV o.dst r (AR [(z,.put v)] s1.den.t) z):=by
   rw[hSz];show K6 ((B.t z).v B.r);rw[(Cj hir).2.1];exact(Cj hir).2.2.1
  obtain⟨F2,T2,hp2,hT2⟩:=PR.backs [(z,id)] _ _ _ _ hp' (by simp) (by simp) λp hpm=>by
   rw[List.mem_singleton.1 hpm];refine⟨hyn,by show id<(s1.r.map Ab.v).length;rw[List.length_map];exact hlt,?_,?_,hobj⟩
   .show(s1.r.map Ab.v).getD id .dead=.dead
    rw[Aw,W];rfl
   .rw[<-hzv,Array.getD_eq_getD_getElem?,Array.getD_eq_getD_getElem?,htm z hdz]
  have hrd:B6 (AK (AK s1.t A.y (A.u u)) A.d (A.z u) z)=B6 (B.t z):=by rw[hs2]
  rw[hrd]at h
  have hRv:(B6 (B.t z)).v=IV o.dst r (AR [(z,.put v)] s1.den.t) z:=by
   rw[hSz];exact((Cj hir).2.1 B.r).symm
  have hYs:∀y∈K0 E s o z id,y<E.h.n/\y≠z/\o.dst≠some y/\Cn s y=some id:=by
   intro y hy;unfold K0 at hy;rw[List.mem_filter,List.mem_range]at hy;obtain⟨h1,h2⟩:=hy;simp only[bAE,Bool.not_eq_true']at h2;obtain⟨⟨h2,h3⟩,h4⟩:=h2;refine⟨h1,λe=>(by rw[e,Nat.beq_refl]at h2;cases h2),λe=>?_,?_⟩
   .rw[e]at h3
    simp[Nat.beq_refl]at h3
   .split at h4
    .rename_i j hj
     rw[hj,bqE h4]
    .cases h4
  have hlr:id<s1.den.σ.length:=by show id<(s1.r.map Ab.v).length;rw[List.length_map];exact hlt
  have hset:(s1.den.σ.set id (IV o.dst r (AR [(z,.put v)] s1.den.t) z)).getD id .dead=(B6 (B.t z)).v:=by
   rw[hRv,gDE,List.getElem?_set_self hlr];rfl
  have hp3:=PR.reref (id:=id) (v:=(B6 (B.t z)).v) (by show id<(s1.den.σ.set id _).length;simpa using hlr) hset (by rw[hRv];exact hobj) (K0 E s o z id) _ hp2 λy hy=>by
    obtain⟨y1,y2,y3,y4⟩:=hYs y hy;refine⟨y1,?_,λb hb=>?_⟩
    .rw[<-hval y id y1 y4,Array.getD_eq_getD_getElem?,Array.getD_eq_getD_getElem?,htm y y3]
    .obtain⟨k1,_⟩:=hT2 y b hb
     exact(hTz y b k1).elim y3 y2
  have hcl:AQ C E.h.n (Go.Ve.promA [o.dst] ⟨Go.Ve.rerefs id (B6 (B.t z)).v (K0 E s o z id) (Go.Ve.backs [(z,id)] ⟨IV o.dst r (AR [(z,.put v)] s1.den.t),s1.den.σ⟩).t,(Go.Ve.backs [(z,id)] ⟨IV o.dst r (AR [(z,.put v)] s1.den.t),s1.den.σ⟩).σ⟩) a' w':=PR.close [o.dst] _ _ _ _ _ hp3 λx b hb=>by
   obtain⟨k1,k2⟩:=hT2 x b hb;rcases hTz x b k1 with h1|h1
   .rw[h1];exact List.mem_singleton.2 rfl
   .exact absurd (by rw[h1];simp) k2
  have hP2:=KH [(z,id)] _ _ hPR (by simp) λp hpm=>by
   rw[List.mem_singleton.1 hpm];exact⟨λhm=>hdz (List.mem_singleton.1 hm).symm,by rw[J];exact hlt,hSz,hir⟩
  have hbr:(B.backs [(z,id)]).r.getD id .dead=B6 (B.t z):=by
   show(B.r.set id (B6 (B.t z))).getD id .dead=_;rw[J,gDE,List.getElem?_set_self hlt];rfl
  have hP3:=Lp (id:=id) (R:=B6 (B.t z)) (by rw[hRv];exact hobj) (K0 E s o z id) _ _ hP2 hbr λy hy hm=>(hYs y hy).2.2.1 (List.mem_singleton.1 hm).symm
  obtain⟨q1,q2⟩:=J4 _ _ _ hP3;have hs3:AQ C E.h.n ((St.rerefs id (B6 (B.t z)) (K0 E s o z id) (B.backs [(z,id)])).promA [o.dst]).den a' w':=hcl.sub (by rw[q2]) (λi _=>by rw[q2];exact Sub.refl _) q1
  have k1:=hkn (St.rerefs id (B6 (B.t z)) (K0 E s o z id) (B.backs [(z,id)]));obtain⟨b1,b2,b3⟩:=Ns [(z,id)] B;obtain⟨c1,c2⟩:=N5 (id:=id) (R:=B6 (B.t z)) (K0 E s o z id) (B.backs [(z,id)]);refine hn _ _ _ ⟨λi hi O=>?_,λj hl hj=>?_,?_⟩ hs3 h
  .have hi:=of_decide_eq_true hi
   have hiz:i≠z:=by rintro rfl;rw[hzst]at O;cases O
   have hiY:i∉K0 E s o z id:=λhm=>by
    have:=(Ch (hYs i hm).2.2.2).2.1;rw[O]at this;cases this
   have Z:=Y.t i rfl O;have e2:=hs2t i hiz hi;have e3:=b1 i (λp hp=>by rw[List.mem_singleton.1 hp];exact λe=>hiz e.symm) (by rw[e2,Z];exact O)
   have e4:=c2 i hiY;rw[k1.t i (nd i hi) (by rw[e4,e3,e2,Z];exact O),e4,e3,e2,Z]
  .have Z:=Y.r j hl hj
   have hjid:id≠j:=by rintro rfl;rw[hro]at hj;cases hj
   have e3:(B.backs [(z,id)]).r.getD j .dead=s1.r.getD j .dead:=(b2 j λp hp=>by rw[List.mem_singleton.1 hp];exact hjid).trans (by rw[J])
   rw[k1.r j (by rw[c1,b3,J];exact Nat.lt_of_lt_of_le hl Y.l) (by rw[c1,e3,Z];exact hj),c1,e3,Z]
  .exact Nat.le_trans Y.l (by rw[<-J,<-b3,<-c1];exact k1.l)
theorem Vf{next:Act->World->Prop}{Q:Exit->Act->World->Prop}(h:PA E.Θ s o=some s')(hs:AQ C E.h.n s.den a w)
  (hn:∀Y w',Kp (λi=>decide (o.dst≠some i)) s s'->AQ C E.h.n s'.den Y w'->next Y w'):o.wp P a w next Q:=by
 unfold PA at h;split at h
 case h_2=>cases h
 rename_i t m k x ho hd;split at h
 case h_2=>cases h
 rename_i i id hi hm;split at h
 case h_2=>cases h
 rename_i kt Z q k' v' xs hty hmp O;obtain⟨J,h⟩:=A9 h;rw[bAE]at J;split at h
 case h_2=>cases h
 rename_i ys key y B W hy;cases h;have B:=Ht B;cases B;obtain⟨sk,e1,e2⟩:=Ya (r:=s.r) J.1 W;obtain⟨sy,e3,e4⟩:=Ya (r:=s.r) J.2 hy;have U:=hE.Θ.mp hi;rw[hty]at U;obtain⟨A,F,m1,m2,m3,m4⟩:=map_v J.1 J.2 U (by rw[hmp];simp)
 have hlt:id<s.r.length:=by
  rcases Nat.lt_or_ge id s.r.length with h|h
  .exact h
  .rw[gDE,List.getElem?_eq_none h]at O;cases O
 refine Hy (h:=E.h) (K:=λS'=>S'=St.den ⟨s.t,s.r.set id (.mp false kt Z (Pr kt Z key y ys))⟩) ?_ hs λS' Y w' hS hs'=>?_
 .unfold vop
  rw[ho];refine⟨hd,?_⟩;unfold Pq;rw[A7 hm];show ∃A F l k x,Wq P t=some (A,F)/\sub [] ((s.r.map Ab.v).getD id .dead)=.mp true l/\_;refine⟨A,F,Qn kt Z ys,_,_,m1,?_,by rw[A7 e1];exact e2,by rw[A7 e3];exact e4,m3 key,?_,?_⟩
  .rw[Aw,O];rfl
  .intro e he
   obtain⟨z,_,rfl⟩:=List.mem_map.1 he;exact m4 key z.1
  .rw[AaM J.1]
   show Ms.mk _ _=Ms.mk _ _
   congr 1
   .exact funext λi=>(set_mp O (s.t i)).symm
   .rw[List.map_set];rfl
 .subst hS
  refine hn Y w' ⟨λi _ _=>rfl,λj hl hj=>?_,by simp⟩ hs'
  show(s.r.set id _).getD j .dead=_;by_cases e:j=id
  .subst e;rw[O]at hj;cases hj
  .grind
theorem Zn{K:St->Option R}{z:R}{next:Act->World->Prop}{Q:Exit->Act->World->Prop}(hs:AQ C E.h.n s.den a w)(h:AbP E s o K=some z)
  (hn:∀s' O w',Kp (λi=>decide (o.dst≠some i)) s s'->AQ C E.h.n s'.den O w'->K s'=some z->next O w'):o.wp P a w next Q:=by
 unfold AbP at h;split at h
 .rename_i s' hs'
  exact Vf hE hs' hs λO w' hk h'=>hn s' O w' hk h' h
 split at h
 .exact Zl hE hs h hn
 split at h
 .rename_i t x v hst
  unfold AaS at hst;split at hst
  case h_2=>cases hst
  rename_i t' x' v' ho hd;cases hst;split at h
  .rename_i A ha
   by_cases hp:A.p
   .have e:oif A.p A.dec (K A.s)=K A.s:=@if_pos _ A.dec hp _ _ _
    rw[e]at h;exact Zv hE.Θ ho hd ha hp hs λO w' h'=>hn A.s O w' ((Zw ha).weak λ_ _=>rfl) h' h
   .have e:oif A.p A.dec (K A.s)=none:=@if_neg _ A.dec hp _ _ _
    rw[e]at h;cases h
  rw[U7]at h;split at h
  case h_2=>cases h
  rename_i s' hs';exact WQ hE.Θ ho hd hs' hs λO w' h'=>hn s' O w' ((WR hs').weak λ_ _=>rfl) h' h
 .have quiet:QG E s o K=some z->o.wp P a w next Q:=λh=>WE hE hs h λs' O w' ⟨y,hp⟩ h' hK=>hn s' O w' (Q9 hp) h' hK
  have lr:∀{s0:St}{d:Nat}{A:LR},Kp (λ_=>true) s s0->o.dst=some d->(∀j∈A.js,(s0.r.getD j .dead).isRo=false)->lrK E s0 d A K=some z->
    (∀s',(Ap A.js s0).put E.h (some d) (.one A.y)=some s'->E.h.fz.contains d=false->A.p->(∀O w',AQ C E.h.n s'.den O w'->next O w')->o.wp P a w next Q)->o.wp P a w next Q:=by
   intro s0 d A k0 J hro h hw;unfold lrK at h;cases hfz:E.h.fz.contains d with
   |true=>rw[hfz]at h;cases h
   |false=>
    rw[hfz]at h;simp only[cond_false]at h;by_cases hp:A.p
    .have h:(match(Ap A.js s0).put E.h (some d) (.one A.y)with
      |some s'=>K s'
      |none=>none)=some z:=by
      have e:oif A.p A.dec (match(Ap A.js s0).put E.h (some d) (.one A.y)with
       |some s'=>K s'
       |none=>none)=(match(Ap A.js s0).put E.h (some d) (.one A.y)with
       |some s'=>K s'
       |none=>none):=@if_pos _ A.dec hp _ _ _
      rw[<-e];exact h
     split at h
     case h_2=>cases h
     rename_i s' F;refine hw s' F hfz hp λO w' h'=>hn s' O w' ?_ h' h
     have k2:=Q9 F;rw[J];exact(k0.trans (Kw A.js s0 hro) (λ_ _=>rfl) λ_ _=>rfl).trans k2 (λ_ _=>rfl) λi hi=>hi
    .have e:oif A.p A.dec (match(Ap A.js s0).put E.h (some d) (.one A.y)with
      |some s'=>K s'
      |none=>none)=none:=@if_neg _ A.dec hp _ _ _
     rw[e]at h;cases h
  split at h
  case h_4=>
   split at h
   .exact quiet h
   .split at h
    case h_2=>cases h
    rename_i s0 hg;exact WE hE (Jt _ hg hs) h λs' O w' ⟨y,hp⟩ h' hK=>hn s' O w' ((Ju _ hg).trans (Q9 hp) (λ_ _=>rfl) λi hi=>hi) h' hK
  .rename_i d t x y B
   split at h
   case h_2=>cases h
   rename_i s0 Y;split at h
   case h_2=>cases h
   rename_i A ha;unfold XZ at B;split at B
   case h_3=>cases B
   .cases B
   .rename_i d' c J hop
    split at B
    case h_3=>cases B
    .rename_i Z
     split at B
     case h_2=>cases B
     rename_i x' y' t1 t2 hargs hats;obtain⟨hbt,B⟩:=A9 B;cases B;have ho:o.op=.call ⟨.builtin .append,#[x,y],#[t,t]⟩:=by
      rw[hop];obtain⟨cal,args,ats⟩:=c;simp only at Z hargs hats;have e1:args= #[x,y]:=by cases args;simp at hargs;simp[hargs]
      have e2:ats= #[t,t]:=by cases ats;simp at hats;simp[hats,bqE hbt]
      rw[Z,e1,e2]
     exact lr (Nj Y) J (Vl ha) h λs' F hfz hp hk=>Vk hE.Θ ho J hfz ha hp F (Ni Y hs) hk
    .split at B<;>cases B
  .rename_i d t n ps B
   have U:o.dst=some d/\o.op=.buildSlice t n ps:=by
    unfold XZ at B;split at B
    .rename_i h1 h2;cases B;exact⟨h1,h2⟩
    .split at B
     .split at B
      .rename_i t1 t2 _ _
       cases hbb:Nat.beq t1 t2<;>rw[hbb]at B<;>cases B
      .cases B
     .split at B<;>cases B
     .cases B
    .cases B
   split at h
   case h_2=>cases h
   rename_i s0 Y;split at h
   .rename_i A ha
    exact lr (YC _ Y) U.1 (Ab5 Mq ha) h λs' F hfz _ hk=>Ab4 hE.Θ U.2 U.1 hfz ha F (YB _ Y hs) hk
   .exact quiet h
  .rename_i d f xs B
   split at h
   case h_2=>cases h
   rename_i A ha;have U:o.dst=some d/\∃ats,o.op=.call ⟨.value (.func f),xs,ats⟩:=by
    unfold XZ at B;split at B
    .cases B
    .rename_i d' c J hop
     split at B
     .split at B
      .rename_i t1 t2 _ _
       cases hbb:Nat.beq t1 t2<;>rw[hbb]at B<;>cases B
      .cases B
     .rename_i f' Z
      split at B
      .cases B
       refine⟨J,c.argTypes,?_⟩;rw[hop];obtain⟨cal,args,ats⟩:=c;simp only at Z;rw[Z]
      .cases B
     .cases B
    .cases B
   obtain⟨J,ats,ho⟩:=U;cases hu:A.o with
   |none=>rw[hu]at h;cases h
   |some u=>
    rw[hu]at h;simp only[N7]at h
    have h:(match A.st u with
     |some s1=>match s1.put E.h (some d) (.one (A.y u))with
      |some s'=>K s'
      |none=>none
     |none=>none)=some z:=h
    split at h
    case h_2=>cases h
    rename_i s1 hst;split at h
    case h_2=>cases h
    rename_i s' F;refine W3 hE.W ho J ha hu hst F hs λO w' h'=>hn s' O w' ?_ h' h
    have k2:=Q9 F;rw[J];exact(W4 ha hst).trans k2 (λ_ _=>rfl) λi hi=>hi
theorem WI{K:St->Option R}{z:R}{next:Act->World->Prop}{Q:Exit->Act->World->Prop}(J:AQ C E.h.n s.den a w)(h:tone E s o K=some z)
  (O:∀s' e w',Kp (λi=>decide (o.dst≠some i)) s s'->AQ C E.h.n s'.den e w'->K s'=some z->next e w'):o.wp P a w next Q:=by
 unfold tone at h;split at h
 case h_2=>cases h
 rename_i s1 Y;obtain⟨g1,g2⟩:=Ac5 Y J;refine Zn hE g1 h λs' e w' U A B=>?_
 split at B
 case h_2=>cases B
 rename_i F W;obtain⟨g3,Z⟩:=Ac4 W A;exact O F e w' ((g2.trans U (λ_ _=>rfl) λi hi=>hi).trans Z (λ_ hi=>hi) λ_ _=>rfl) g3 B
theorem pathgW{z:Bool}{Q:Exit->Act->World->Prop}{J:List Oper}:∀(g:List Oper) (ρ:Asm) (s:St) (a:Act) (w:World) (K:Asm->St->Option Bool),CN ops ρ s.den.t->(∀x∈ρ,Aq g x.2.1=true/\(s.t x.2.1).stay=true)->AQ C E.h.n s.den a w->Cy E false ops g ρ s K=some z->
  (∀ρ' s' a' w',s.r.length<=s'.r.length->(s'.r.length=s.r.length->s'.r=s.r/\∀i,Aq g i=true->s'.t i=s.t i)->AQ C E.h.n s'.den a' w'->CN ops ρ' s'.den.t->K ρ' s'=some z->wpList P ops Q J a' w')->wpList P ops Q (g++J) a w:=by
 intro g
 induction g with
 |nil=>intro ρ s a w K Y _ hs h hK;exact hK ρ s a w (Nat.le_refl _) (λ_=>⟨rfl,λ_ _=>rfl⟩) hs Y h
 |cons o g ih=>
  intro ρ s a w K Y hnd hs h hK;unfold Cy at h;split at h
  case h_1=>cases h
  rename_i j F hgo;split at h
  case h_1=>cases h
  rename_i dj hdj;rw[List.cons_append]
  have bstay:∀(y:Sl) (r r':List Ab) (v:Bool),y.v r=.c (.bool v)->y.stay=true->y.v r'=.c (.bool v):=by
   intro y r r' v hv hst;cases y with
   |one c=>cases c<;>first|exact hv|cases hst
   |new l=>exact hv
   |agg l=>cases hv
   |tup l=>cases hv
   |pk t l=>cases hv
  -- what is behind this operation
  have cont:∀(A:Asm) (s1:St) (a1:Act) (w1:World),CN ops A s.den.t->(∀x∈A,Aq (o::g) x.2.1=true/\(s.t x.2.1).stay=true)->s.r.length<=s1.r.length->(s1.r.length=s.r.length->s1.r=s.r/\∀i,o.dst≠some i->s1.t i=s.t i)->(∀i,o.dst≠some i->(s.t i).stay=true->s1.t i=s.t i)->AQ C E.h.n s1.den a1 w1->Cy E false ops g A s1 K=some z->wpList P ops Q (g++J) a1 w1:=by
   intro A s1 a1 w1 O W hle hsm hst B h1;refine ih A s1 a1 w1 K (λx Z=>⟨(O x Z).1,?_⟩) (λx Z=>?_) B h1 λρ2 s2 a2 w2 g1 g2 g3 g4 g5=>?_
   .obtain⟨n1,n2⟩:=W x Z
    show(s1.t x.2.1).v s1.r=_;rw[hst _ (AN n1).1 n2];exact bstay _ s.r s1.r _ (O x Z).2 n2
   .obtain⟨n1,n2⟩:=W x Z
    rw[hst _ (AN n1).1 n2];exact⟨(AN n1).2,n2⟩
   .refine hK ρ2 s2 a2 w2 (Nat.le_trans hle g1) (λhe=>?_) g3 g4 g5
    obtain⟨k1,k2⟩:=g2 (by omega)
    obtain⟨k3,k4⟩:=hsm (by omega)
    refine⟨k1.trans k3,λi hi=>?_⟩
    obtain⟨n1,n2⟩:=AN hi;rw[k2 i n2,k4 i n1]
  have pass:∀A:Asm,CN ops A s.den.t->(∀x∈A,Aq (o::g) x.2.1=true/\(s.t x.2.1).stay=true)->onS (C3 E.h s o.dst) (λs'=>Cy E false ops g A s' K)=some z->wpList P ops Q (g++J) (a.put o.dst undef) w:=by
   intro A h1 h2 h3;cases hp:C3 E.h s o.dst with
   |none=>rw[hp]at h3;cases h3
   |some s1=>
    rw[hp]at h3;obtain⟨q1,q2,q3⟩:=Ud hp hs;exact cont A s1 _ w h1 h2 (by rw[q2];exact Nat.le_refl _) (λ_=>⟨q2,q3⟩) (λi hi _=>q3 i hi) q1 h3
  have step:∀A:Asm,CN ops A s.den.t->(∀x∈A,Aq (o::g) x.2.1=true/\(s.t x.2.1).stay=true)->ME E false A s o (λs'=>Cy E false ops g A s' K)=some z->o.wp P a w (λa' w'=>wpList P ops Q (g++J) a' w') Q:=by
   intro A h1 h2 h3;unfold ME at h3;split at h3
   .rename_i v hv
    split at h3
    case h_2=>cases h3
    rename_i s1 B;have hQS:QS P s o.op (.one (.c .bool 0 v)):=IB (VLe.refl _) h1 hv (Sub.refl _);have U:s.put E.h o.dst (.one (.c .bool 0 v))=some s1/\s1.r=s.r/\∀i,o.dst≠some i->s1.t i=s.t i:=by
     unfold Adp at B;split at B
     case h_2=>cases B
     rename_i d hd;obtain⟨hb,B⟩:=A9 B;rw[bAE,Bool.not_eq_true']at hb;cases B;refine⟨?_,rfl,λi hi=>A4 λe=>hi (by rw[hd,e])⟩
     rw[hd];unfold St.put;simp only[hb.1,hb.2,cond_true,cond_false];rfl
    exact U2 hQS U.1 hs λa' w' hs'=>cont A s1 a' w' h1 h2 (by rw[U.2.1];exact Nat.le_refl _) (λ_=>U.2) (λi hi _=>U.2.2 i hi) hs' h3
   .obtain⟨_,y,hq,hy'⟩:=Il hE h3
    split at hy'
    case h_2=>cases hy'
    rename_i s' B;have hp:s.put E.h o.dst y=some s':=by
     cases hyo:y.own&& !fzD E.h o.dst with
     |true=>rw[hyo]at B;cases B
     |false=>rw[hyo]at B;exact B
    obtain⟨⟨new,hr⟩,ht,hsame⟩:=Ua hp;refine U2 hq hp hs λa' w' hs'=>cont A s' a' w' h1 h2 (by rw[hr];simp) (λhe=>?_) ht hs' hy'
    have hr1:s'.r=s.r:=by
     have:new=[]:=by
      have:=congrArg List.length hr;rw[List.length_append,he]at this;exact List.length_eq_zero_iff.1 (by omega)
     rw[hr,this,List.append_nil]
    exact⟨hr1,hsame hr1⟩
  have known:∀(A:Asm) (v:Bool),s.den.t dj=.c (.bool v)->CN ops A s.den.t->(∀x∈A,Aq (o::g) x.2.1=true/\(s.t x.2.1).stay=true)->(v=F->ME E false A s o (λs'=>Cy E false ops g A s' K)=some z)->(v=(!F)->onS (C3 E.h s o.dst) (λs'=>Cy E false ops g A s' K)=some z)->
    wpList P ops Q (o::(g++J)) a w:=by
   intro A v hv h1 h2 h3 h4;have hy:=Yl hs (show gv s.den.t ops j=.c (.bool v) by unfold gv;rw[hdj];exact hv)
   unfold wpList;by_cases e:v=F
   .rw[if_pos (by simp[Region.wanted,hgo,hy,e])]
    exact .inl (step A h1 h2 (h3 e))
   .rw[if_neg (by simp[Region.wanted,hgo,hy,e])]
    exact pass A h1 h2 (h4 (by cases v<;>cases F<;>simp_all))
  cases hu:AcQ (s.t dj)with
  |true=>
   rw[hu]at h;have hy:=Ym hs (show gv s.den.t ops j=udV by unfold gv;rw[hdj];exact Ye hu)
   unfold wpList;rw[if_neg (by simp[Region.wanted,hgo,hy])]
   exact pass ρ Y hnd h
  |false=>
   rw[hu]at h;simp only[cond_false]at h;split at h
   .rename_i v hv
    obtain⟨d',hm⟩:=HX hv;obtain⟨e1,e2⟩:=Y _ hm;have e1:some dj=some d':=hdj.symm.trans e1;cases e1;refine known ρ v e2 Y hnd (λe=>?_) λe=>?_
    .subst e;simpa using h
    .subst e;cases F<;>exact h
   .split at h
    case h_2=>cases h
    rename_i dd b hb;have hbv:s.den.t dj=.c (.bool b):=by show(s.t dj).v s.r=_;rw[hb];rfl
    obtain⟨hn,h⟩:=A9 h
    have O:CN ops ((j,dj,b)::ρ) s.den.t:=λx Z=>by
     rcases List.mem_cons.1 Z with rfl|Z
     .exact⟨hdj,hbv⟩
     .exact Y x Z
    have W:∀x∈(j,dj,b)::ρ,Aq (o::g) x.2.1=true/\(s.t x.2.1).stay=true:=λx Z=>by
     rcases List.mem_cons.1 Z with rfl|Z
     .refine⟨hn,?_⟩
      show(s.t dj).stay=true;rw[hb];rfl
     .exact hnd x Z
    refine known ((j,dj,b)::ρ) b hbv O W (λe=>?_) λe=>?_
    .subst e;cases b<;>exact h
    .subst e;cases F<;>exact h
theorem pathXW{z:R}{Q:Exit->Act->World->Prop}{F:List Oper}:∀(g:List Oper) (ρ:Asm) (s:St) (a:Act) (w:World) (K:Asm->St->Option R),CN ops ρ s.den.t->(∀x∈ρ,Aq g x.2.1=true/\(s.t x.2.1).stay=true)->AQ C E.h.n s.den a w->Cx E ops g ρ s K=some z->
  (∀ρ' s' a' w',Kp (Aq g) s s'->AQ C E.h.n s'.den a' w'->CN ops ρ' s'.den.t->K ρ' s'=some z->wpList P ops Q F a' w')->wpList P ops Q (g++F) a w:=by
 intro g
 induction g with
 |nil=>intro ρ s a w K Y _ hs h hK;exact hK ρ s a w (Kp.refl _ _) hs Y h
 |cons o g ih=>
  intro ρ s a w K Y hnd hs h hK;unfold Cx at h;split at h
  case h_1=>cases h
  rename_i j B hgo;split at h
  case h_1=>cases h
  rename_i dj hdj;rw[List.cons_append]
  have bstay:∀(y:Sl) (r r':List Ab) (v:Bool),y.v r=.c (.bool v)->y.stay=true->y.v r'=.c (.bool v):=by
   intro y r r' v hv hst;cases y with
   |one c=>cases c<;>first|exact hv|cases hst
   |new l=>exact hv
   |agg l=>cases hv
   |tup l=>cases hv
   |pk t l=>cases hv
  -- what is behind this operation
  have cont:∀(A:Asm) (s1:St) (a1:Act) (w1:World),CN ops A s.den.t->(∀x∈A,Aq (o::g) x.2.1=true/\(s.t x.2.1).stay=true)->Kp (λi=>decide (o.dst≠some i)) s s1->AQ C E.h.n s1.den a1 w1->Cx E ops g A s1 K=some z->wpList P ops Q (g++F) a1 w1:=by
   intro A s1 a1 w1 O W hkp J h1;have hst:∀i,o.dst≠some i->(s.t i).stay=true->s1.t i=s.t i:=λi h1 h2=>hkp.t i (dT h1) h2
   refine ih A s1 a1 w1 K (λx Z=>⟨(O x Z).1,?_⟩) (λx Z=>?_) J h1 λρ2 s2 a2 w2 g1 g3 g4 g5=>?_
   .obtain⟨n1,n2⟩:=W x Z
    show(s1.t x.2.1).v s1.r=_;rw[hst _ (AN n1).1 n2];exact bstay _ s.r s1.r _ (O x Z).2 n2
   .obtain⟨n1,n2⟩:=W x Z
    rw[hst _ (AN n1).1 n2];exact⟨(AN n1).2,n2⟩
   .exact hK ρ2 s2 a2 w2 (hkp.trans g1 (λi hi=>dT (AN hi).1) λi hi=>(AN hi).2) g3 g4 g5
  have pass:∀A:Asm,CN ops A s.den.t->(∀x∈A,Aq (o::g) x.2.1=true/\(s.t x.2.1).stay=true)->Adt (C3 E.h s o.dst) (λs'=>Cx E ops g A s' K)=some z->wpList P ops Q (g++F) (a.put o.dst undef) w:=by
   intro A h1 h2 h3;cases hp:C3 E.h s o.dst with
   |none=>rw[hp]at h3;cases h3
   |some s1=>
    rw[hp]at h3;obtain⟨q1,q2,q3⟩:=Ud hp hs;exact cont A s1 _ w h1 h2 ⟨λi hi _=>q3 i (of_decide_eq_true hi),λ_ _ _=>by rw[q2],by rw[q2];exact Nat.le_refl _⟩ q1 h3
  have step:∀A:Asm,CN ops A s.den.t->(∀x∈A,Aq (o::g) x.2.1=true/\(s.t x.2.1).stay=true)->Vn E A s o (λs'=>Cx E ops g A s' K)=some z->o.wp P a w (λa' w'=>wpList P ops Q (g++F) a' w') Q:=by
   intro A h1 h2 h3;unfold Vn at h3;split at h3
   .rename_i v hv
    split at h3
    case h_2=>cases h3
    rename_i s1 J;have hQS:QS P s o.op (.one (.c .bool 0 v)):=IB (VLe.refl _) h1 hv (Sub.refl _);have U:s.put E.h o.dst (.one (.c .bool 0 v))=some s1/\s1.r=s.r/\∀i,o.dst≠some i->s1.t i=s.t i:=by
     unfold Adp at J;split at J
     case h_2=>cases J
     rename_i d hd;obtain⟨hb,J⟩:=A9 J;rw[bAE,Bool.not_eq_true']at hb;cases J;refine⟨?_,rfl,λi hi=>A4 λe=>hi (by rw[hd,e])⟩
     rw[hd];unfold St.put;simp only[hb.1,hb.2,cond_true,cond_false];rfl
    exact U2 hQS U.1 hs λa' w' hs'=>cont A s1 a' w' h1 h2 ⟨λi hi _=>U.2.2 i (of_decide_eq_true hi),λ_ _ _=>by rw[U.2.1],by rw[U.2.1];exact Nat.le_refl _⟩ hs' h3
   .exact WI hE hs h3 λs' a' w' hk hs' hy=>cont A s' a' w' h1 h2 hk hs' hy
  have known:∀(A:Asm) (v:Bool),s.den.t dj=.c (.bool v)->CN ops A s.den.t->(∀x∈A,Aq (o::g) x.2.1=true/\(s.t x.2.1).stay=true)->(v=B->Vn E A s o (λs'=>Cx E ops g A s' K)=some z)->(v=(!B)->Adt (C3 E.h s o.dst) (λs'=>Cx E ops g A s' K)=some z)->
    wpList P ops Q (o::(g++F)) a w:=by
   intro A v hv h1 h2 h3 h4;have hy:=Yl hs (show gv s.den.t ops j=.c (.bool v) by unfold gv;rw[hdj];exact hv)
   unfold wpList;by_cases e:v=B
   .rw[if_pos (by simp[Region.wanted,hgo,hy,e])]
    exact .inl (step A h1 h2 (h3 e))
   .rw[if_neg (by simp[Region.wanted,hgo,hy,e])]
    exact pass A h1 h2 (h4 (by cases v<;>cases B<;>simp_all))
  cases hu:AcQ (s.t dj)with
  |true=>
   rw[hu]at h;have hy:=Ym hs (show gv s.den.t ops j=udV by unfold gv;rw[hdj];exact Ye hu)
   unfold wpList;rw[if_neg (by simp[Region.wanted,hgo,hy])]
   exact pass ρ Y hnd h
  |false=>
   rw[hu]at h;simp only[cond_false]at h;split at h
   .rename_i v hv
    obtain⟨d',hm⟩:=HX hv;obtain⟨e1,e2⟩:=Y _ hm;have e1:some dj=some d':=hdj.symm.trans e1;cases e1;refine known ρ v e2 Y hnd (λe=>?_) λe=>?_
    .subst e;simpa using h
    .subst e;cases B<;>exact h
   .split at h
    case h_2=>cases h
    rename_i dd b hb;have hbv:s.den.t dj=.c (.bool b):=by show(s.t dj).v s.r=_;rw[hb];rfl
    obtain⟨hn,h⟩:=A9 h
    have O:CN ops ((j,dj,b)::ρ) s.den.t:=λx Z=>by
     rcases List.mem_cons.1 Z with rfl|Z
     .exact⟨hdj,hbv⟩
     .exact Y x Z
    have W:∀x∈(j,dj,b)::ρ,Aq (o::g) x.2.1=true/\(s.t x.2.1).stay=true:=λx Z=>by
     rcases List.mem_cons.1 Z with rfl|Z
     .refine⟨hn,?_⟩
      show(s.t dj).stay=true;rw[hb];rfl
     .exact hnd x Z
    refine known ((j,dj,b)::ρ) b hbv O W (λe=>?_) λe=>?_
    .subst e;cases b<;>exact h
    .subst e;cases B<;>exact h
theorem Zm{ops:Array Oper}{K:St->Option R}{z:R}{Q:Exit->Act->World->Prop}:∀(l:List Seg) (k:Nat) (s:St) (a:Act) (w:World),AQ C E.h.n s.den a w->
  Mp E ops l k s K=some z->(∀s' a' w',Kp (Aq ((l.drop k).flatMap Seg.ops)) s s'->AQ C E.h.n s'.den a' w'->K s'=some z->Q .normal a' w')->wpList P ops Q ((l.drop k).flatMap Seg.ops) a w:=by
 intro l
 induction l with
 |nil=>intro k s a w hs h Z;rw[List.drop_nil]at Z⊢;exact Z s a w (Kp.refl _ _) hs h
 |cons sg l ih=>
  intro k s a w hs h Z;cases k with
  |succ k=>exact ih k s a w hs h Z
  |zero=>
  have ih2:=ih
  replace ih:=ih 0
  simp only[List.drop_zero]at ih Z⊢;cases sg with
  |one o=>
   unfold Mp at h;split at h
   .rename_i o2 o3 A O
    unfold oif at h;split at h
    case isFalse=>cases h
    rename_i hp;obtain⟨l',rfl,g1,g2,g3,O⟩:∃l',l=.one o2:: .one o3::l'/\o.guard=none/\o2.guard=none/\o3.guard=none/\WW E s [] o o2 o3=some A:=by
     unfold rowS at O;split at O
     case h_2=>cases O
     rename_i p2 p3 l';obtain⟨hg,O⟩:=A9 O;simp only[bAE,Option.isNone_iff_eq_none]at hg;cases hr:WW E s [] o p2 p3 with
     |none=>rw[hr]at O;cases O
     |some A0=>
      rw[hr]at O;cases O;exact⟨l',rfl,hg.1.1,hg.1.2,hg.2,hr⟩
    have w1:∀(o:Oper) (a:Act),o.guard=none->Region.wanted o (yielded ops a.tmps)=true:=λo a hg=>by simp[Region.wanted,hg]
    show wpList P ops Q (o::o2::o3::l'.flatMap Seg.ops) a w;unfold wpList;rw[if_pos (w1 o a g1)];refine .inl (Oper.wp_mono (λa1 w1' h1=>?_) (WU (Q:=Q) hE.Θ O hp hs (next:=λa' w'=>wpList P ops Q (l'.flatMap Seg.ops) a' w') λa' w' hs'=>ih2 2 A.s a' w' hs' h λs2 a2 Y h2 h3 h4=>Z s2 a2 Y ((WV O).trans h2 (λi hi=>?_) λi hi=>?_) h3 h4))
    .unfold wpList
     rw[if_pos (w1 o2 a1 g2)];refine .inl (Oper.wp_mono (λa2 w2' h2=>?_) h1)
     unfold wpList;rw[if_pos (w1 o3 a2 g3)];exact .inl h2
    .have hi:Aq ([o,o2,o3]++l'.flatMap Seg.ops) i=true:=hi
     unfold Aq at hi⊢;rw[List.all_append,bAE]at hi;exact hi.1
    .have hi:Aq ([o,o2,o3]++l'.flatMap Seg.ops) i=true:=hi
     unfold Aq at hi⊢;rw[List.all_append,bAE]at hi;exact hi.2
   split at h
   case h_2=>cases h
   rename_i hg;rw[List.flatMap_cons];show wpList P ops Q (o::l.flatMap Seg.ops) a w;unfold wpList;rw[if_pos (by simp[Region.wanted,hg])]
   refine .inl (WI hE hs h λs' a' w' hk hs' hy=>ih s' a' w' hs' hy λs2 a2 Y h2 h3 h4=>Z s2 a2 Y (hk.trans h2 (λi hi=>dT ?_) λi hi=>?_) h3 h4)
   .exact(AN (o:=o) (g:=l.flatMap Seg.ops) hi).1
   .exact(AN (o:=o) (g:=l.flatMap Seg.ops) hi).2
  |grp g pk=>
   unfold Mp at h;split at h
   case h_2=>cases h
   rename_i d J;have hpd2:pk.dst=some d/\pk.guard=none/\d<E.h.n/\E.h.fz.contains d=false:=by
    unfold ZT at J;split at J
    case h_2=>cases J
    rename_i d' e1 e2;obtain⟨hb,J⟩:=A9 J;cases J;rw[bAE,Bool.not_eq_true']at hb;exact⟨e1,e2,blE hb.1,hb.2⟩
   obtain⟨e1,e3,h3,h4⟩:=hpd2;cases hgU:grpU E g with
   |true=>
    rw[hgU]at h;simp only[cond_true]at h;rw[List.flatMap_cons];show wpList P ops Q ((g++[pk])++l.flatMap Seg.ops) a w;rw[List.append_assoc];refine pathXW hE g [] s a w _ (λx hx=>by cases hx) (λx hx=>by cases hx) hs h λρ' s1 a1 w1 hkp hs1 U B=>?_
    split at B
    case h_2=>cases B
    rename_i v hpv;have hQS:QS P s1 pk.op (.one (.c .bool 0 v)):=IB (VLe.refl _) U hpv (Sub.refl _);have W:s1.put E.h pk.dst (.one (.c .bool 0 v))=some ⟨AK s1.t d (.one (.c .bool 0 v)),s1.r⟩:=by
     rw[e1];unfold St.put;simp only[show Nat.blt d E.h.n=true from Nat.ble_eq_true_of_le h3,h4,cond_true,cond_false]
     rfl
    show wpList P ops Q (pk::l.flatMap Seg.ops) a1 w1;unfold wpList;rw[if_pos (by simp[Region.wanted,e3])]
    refine .inl (U2 hQS W hs1 λa2 Y hs2=>?_)
    have hs3:AQ C E.h.n (St.den ⟨AK (C5 g s1.t) d (.one (.c .bool 0 v)),s1.r⟩) a2 Y:=by
     refine hs2.sub rfl (λi _=>Sub.refl _) λi=>?_
     show Ax ((AK s1.t d _ i).v s1.r) ((AK (C5 g s1.t) d _ i).v s1.r);by_cases F:i=d
     .subst F
      have e:∀t:Nat->Sl,AK t i (.one (.c .bool 0 v)) i=.one (.c .bool 0 v):=λt=>by unfold AK;rw[Nat.beq_refl];rfl
      rw[e,e];exact Ax.refl _
     .rw[A4 F,A4 F,DV]
      by_cases hn:Aq g i=true
      .rw[if_pos hn];exact Ax.refl _
      .rw[if_neg hn];exact Ax.dead _
    refine ih ⟨AK (C5 g s1.t) d (.one (.c .bool 0 v)),s1.r⟩ a2 Y hs3 B λs4 a4 w4 hk4 h5 h6=>Z s4 a4 w4 ?_ h5 h6
    refine hkp.trans (g2:=λi=>Aq (l.flatMap Seg.ops) i&&(Aq g i&&decide (i≠d))) (Kp.trans (s1:=⟨AK (C5 g s1.t) d (.one (.c .bool 0 v)),s1.r⟩) (g1:=λi=>Aq g i&&decide (i≠d)) (g2:=Aq (l.flatMap Seg.ops)) ⟨λi hi _=>?_,λ_ _ _=>rfl,Nat.le_refl _⟩ hk4 (λi hi=>(bAE _ _▸hi).2) λi hi=>(bAE _ _▸hi).1) (λi hi=>?_) λi hi=>?_
    .simp only[bAE,decide_eq_true_eq]at hi
     show AK (C5 g s1.t) d (.one (.c .bool 0 v)) i=s1.t i;rw[A4 hi.2,DV,if_pos hi.1]
    .rw[List.flatMap_cons]at hi
     have hi:Aq ((g++[pk])++l.flatMap Seg.ops) i=true:=hi;unfold Aq at hi;rw[List.all_append,List.all_append,bAE,bAE]at hi;exact hi.1.1
    .rw[List.flatMap_cons]at hi
     have hi:Aq ((g++[pk])++l.flatMap Seg.ops) i=true:=hi;unfold Aq at hi;rw[List.all_append,List.all_append,bAE,bAE]at hi;simp only[bAE,decide_eq_true_eq];refine⟨hi.2,hi.1.1,?_⟩
     rintro rfl
     have:=hi.1.2;simp only[List.all_cons,List.all_nil,Bool.and_true,e1,Nat.beq_refl,Bool.not_true]at this;cases this
   |false=>
   rw[hgU]at h;simp only[cond_false]at h;cases hv:grpB E false ops s g pk with
   |none=>rw[hv]at h;cases h
   |some v=>
    rw[hv]at h;simp only[Option.bind_some]at h;rw[List.flatMap_cons];show wpList P ops Q ((g++[pk])++l.flatMap Seg.ops) a w;rw[List.append_assoc];refine pathgW hE g [] s a w _ (λx hx=>by cases hx) (λx hx=>by cases hx) hs hv λρ' s1 a1 w1 hle hsm hs1 U B=>?_
    obtain⟨hl,B⟩:=A9 B;obtain⟨hr1,ht1⟩:=hsm (bqE hl);have B:Oy ρ' s1 pk.op=some v:=B;have hQS:QS P s1 pk.op (.one (.c .bool 0 v)):=IB (VLe.refl _) U B (Sub.refl _);have W:s1.put E.h pk.dst (.one (.c .bool 0 v))=some ⟨AK s1.t d (.one (.c .bool 0 v)),s1.r⟩:=by
     rw[e1];unfold St.put;simp only[show Nat.blt d E.h.n=true from Nat.ble_eq_true_of_le h3,h4,cond_true,cond_false]
     rfl
    show wpList P ops Q (pk::l.flatMap Seg.ops) a1 w1;unfold wpList;rw[if_pos (by simp[Region.wanted,e3])]
    refine .inl (U2 hQS W hs1 λa2 Y hs2=>?_)
    have hs3:AQ C E.h.n (St.den ⟨AK (C5 g s.t) d (.one (.c .bool 0 v)),s.r⟩) a2 Y:=by
     refine hs2.sub (by show(s.r.map Ab.v).length=(s1.r.map Ab.v).length;rw[hr1]) (λi _=>by show Sub ((s1.r.map Ab.v).getD i .dead) ((s.r.map Ab.v).getD i .dead);rw[hr1];exact Sub.refl _) λi=>?_
     show Ax ((AK s1.t d _ i).v s1.r) ((AK (C5 g s.t) d _ i).v s.r);by_cases F:i=d
     .subst F
      have e:∀t:Nat->Sl,AK t i (.one (.c .bool 0 v)) i=.one (.c .bool 0 v):=λt=>by unfold AK;rw[Nat.beq_refl];rfl
      rw[e,e];exact Ax.refl _
     .rw[A4 F,A4 F,DV]
      by_cases hn:Aq g i=true
      .rw[if_pos hn,ht1 i hn,hr1];exact Ax.refl _
      .rw[if_neg hn];exact Ax.dead _
    refine ih ⟨AK (C5 g s.t) d (.one (.c .bool 0 v)),s.r⟩ a2 Y hs3 h λs4 a4 w4 hk4 h5 h6=>Z s4 a4 w4 ?_ h5 h6
    refine Kp.trans (s1:=⟨AK (C5 g s.t) d (.one (.c .bool 0 v)),s.r⟩) (g1:=λi=>Aq g i&&decide (i≠d)) (g2:=Aq (l.flatMap Seg.ops)) ⟨λi hi _=>?_,λ_ _ _=>rfl,Nat.le_refl _⟩ hk4 (λi hi=>?_) λi hi=>?_
    .simp only[bAE,decide_eq_true_eq]at hi
     show AK (C5 g s.t) d (.one (.c .bool 0 v)) i=s.t i;rw[A4 hi.2,DV,if_pos hi.1]
    .rw[List.flatMap_cons]at hi
     have hi:Aq ((g++[pk])++l.flatMap Seg.ops) i=true:=hi;unfold Aq at hi;rw[List.all_append,List.all_append,bAE,bAE]at hi;simp only[bAE,decide_eq_true_eq];refine⟨hi.1.1,?_⟩
     rintro rfl
     have:=hi.1.2;simp only[List.all_cons,List.all_nil,Bool.and_true,e1,Nat.beq_refl,Bool.not_true]at this;cases this
    .rw[List.flatMap_cons]at hi
     have hi:Aq ((g++[pk])++l.flatMap Seg.ops) i=true:=hi;unfold Aq at hi;rw[List.all_append,bAE]at hi;exact hi.2
theorem WH{ops:Array Oper}{K:St->Option R}{z:R}{Q:Exit->Act->World->Prop}(l:List Seg)(s:St)(a:Act)(w:World)(A:AQ C E.h.n s.den a w)
  (h:tops E ops l s K=some z) (B:∀s' e w',Kp (Aq (l.flatMap Seg.ops)) s s'->AQ C E.h.n s'.den e w'->K s'=some z->Q .normal e w'):wpList P ops Q (l.flatMap Seg.ops) a w:=Zm hE l 0 s a w A h B
end wp
end Go.Ve

