/- Queries: which are queries. -/
import Derived.Test.YtnhlomkcachnbaaGreatKce
namespace Go.Ve.D
open Go Go.Ve
noncomputable section
theorem p73(c:Cat)(a:Int):G73 (c,a)=some (inn c.2.1.length a):=by
 unfold G73 inn;by_cases h:0<=a<;>simp [h]
theorem p57{c:Cat}{vs:List Int}{t:Int×Int}(hv:vs.length<=1048576):G57 (c,(vs,t))=some (Cc c vs t):=by
 have hm:(0:Int)<=(vs.length:Int)/\(vs.length:Int)<=9223372036854775807:=by omega
 unfold G57 Cc;simp only [p58' _ _ hm,p73,Option.bind_some];cases e1:inn vs.length t.1 with
 |false=>rfl
 |true=>
  cases e2:inn c.2.1.length t.2 with
  |false=>rfl
  |true=>
   have h1:=Cu.1 e1;have h2:=Cu.1 e2;simp only [cond_true,Option.bind_some,h1,h2,and_self,if_true,Bool.true_and]
theorem p78{c:Cat}{q:Qry}{t:Int×Int}(hv:q.1.length<=1048576)(hc:c.2.1.length<=1048576):G78 (c,(q,t))=some (Cc c q.1 t):=by
 have hm:(0:Int)<=(q.1.length:Int)/\(q.1.length:Int)<=9223372036854775807:=by omega
 have hm2:(0:Int)<=(c.2.1.length:Int)/\(c.2.1.length:Int)<=9223372036854775807:=by omega
 unfold G78 Cc;simp only [p77' _ _ hm,p77' _ _ hm2,p75,Option.bind_some];cases e1:inn q.1.length t.1 with
 |false=>rfl
 |true=>
  cases e2:inn c.2.1.length t.2 with
  |false=>rfl
  |true=>
   have h1:=Cu.1 e1;have h2:=Cu.1 e2;simp only [cond_true,Option.bind_some,h1,h2,and_self,if_true,Bool.true_and]
theorem p63{c:Cat}(hs:Sh c){q:Qry}{l r:Int×Int}(hv:q.1.length<=1048576):G63 (c,(q,(l,r)))=some (KY c q.1 l r):=by
 have hc:c.2.1.length<=1048576:=by have:=hs.hd.2.1;omega
 have h3:c.2.2.1.length=c.2.1.length:=hs.hd.2.2.1;unfold G63 KY;simp only [Prod.eta,p78 hv hc,Option.bind_some];cases e1:Cc c q.1 l with
 |false=>rfl
 |true=>
  cases e2:Cc c q.1 r with
  |false=>rfl
  |true=>
   have h1:=Lj e1;have h2:=Lj e2;have h1':0<=l.2/\l.2<(c.2.2.1.length:Int):=by rw [h3];exact h1
   have h2':0<=r.2/\r.2<(c.2.2.1.length:Int):=by rw [h3];exact h2
   simp only [cond_true,Option.bind_some,h1',h2',and_self,if_true,Bool.true_and]
theorem p47{c:Cat}{q:Qry}(hs:Sh c)(hq:okQ q):G47 (c,q)=some (qOK c q):=by
 obtain⟨k1,k2,k3,k4⟩:=hq;have hob:0<=c.1/\c.1<=9223372036854775807:=by have:=hs.hd.1;omega
 have hl1:(0:Int)<=(q.1.length:Int)/\(q.1.length:Int)<=9223372036854775807:=by omega
 unfold G47;simp only [p62 hob k1,p62 hl1 k4,Option.bind_some];by_cases b1:(4:Int)<(q.1.length:Int)
 case pos=>simp only [b1,decide_true,cond_true,Option.bind_some,q_f (c:=c) (q:=q) fun h=>absurd h.1 (by omega)]
 simp only [b1,decide_false,cond_false,Option.bind_some];cases b2:wi c.1 q.1 with
 |false=>simp only [Bool.not_false,cond_true,Option.bind_some,q_f (c:=c) (q:=q) fun h=>by have:=h.2.1;rw [b2]at this;cases this]
 |true=>
 simp only [Bool.not_true,cond_false,Option.bind_some];by_cases b3:(6:Int)<(q.2.1.length:Int)
 case pos=>simp only [b3,decide_true,cond_true,Option.bind_some,q_f (c:=c) (q:=q) fun h=>absurd h.2.2.1 (by omega)]
 simp only [b3,decide_false,cond_false,Option.bind_some];by_cases b4:(q.2.2.1.length:Int)=(q.2.1.length:Int)
 case neg=>simp only [b4,decide_false,Bool.not_false,cond_true,Option.bind_some,q_f (c:=c) (q:=q) fun h=>b4 (by rw [h.2.2.2.1])]
 simp only [dT b4,Bool.not_true,cond_false,Option.bind_some];refine Ap (v:=bif AaV c q then .brk 0 (q.2.1.length:Int)else .ret false) (Bw (st:=fun i=>(i:Int)) (fun i hi=>?_) (by simp) (fun y=>by simp)) ?_
 ·have hi2:i<q.2.2.1.length:=by omega
  simp only [Ag,hi,hi2,decide_true,cond_true,Ad hi,Ad hi2,if_true,tNC,and_self,Prod.eta,p63 hs k1,Option.bind_some];rw [An (by omega) (by omega)]
  cases KY c q.1 (q.2.1.getD i (0,0)) (q.2.2.1.getD i (0,0))<;>rfl
 unfold qOK;cases ha:AaV c q with
 |false=>rw [Bool.and_false];rfl
 |true=>
  show(if 0=0 then _ else none)=_
  rw [if_pos rfl,Bool.and_true];by_cases b5:(q.2.2.2.length:Int)<=4
  ·simp only [b5,decide_true,cond_true,Option.bind_some]
   congr 1
   rw [Bool.eq_iff_iff,decide_eq_true_eq];exact⟨fun h=>⟨by omega,b2,by omega,by omega,by omega,h⟩,fun h=>h.2.2.2.2.2⟩
  ·simp only [b5,decide_false,cond_false,Option.bind_some]
   rw [dF (fun h=>b5 (by have:=h.2.2.2.2.1;omega))]
theorem p38{c:Cat}{q:Qry}(hc:okC c)(hq:okQ q):G38 (c,q)=some (DA c&&qOK c q):=by
 obtain⟨k1,k2,k3,k4⟩:=hq;unfold G38;simp only [Prod.eta,p55 hc,p56 k1,p56 k4,Option.bind_some];cases hi:DA c with
 |false=>rfl
 |true=>
 have hs0:DS c=true:=by unfold DA at hi;rw [bAE]at hi;exact hi.1
 have hs:=XK hs0;simp only [Bool.not_true,cond_false,Bool.true_and,Option.bind_some];by_cases b1:(4:Int)<(q.1.length:Int)
 case pos=>simp only [b1,decide_true,cond_true,Option.bind_some,q_f (c:=c) (q:=q) fun h=>absurd h.1 (by omega)]
 simp only [b1,decide_false,cond_false,Option.bind_some];cases b2:wi c.1 q.1 with
 |false=>simp only [Bool.not_false,cond_true,Option.bind_some,q_f (c:=c) (q:=q) fun h=>by have:=h.2.1;rw [b2]at this;cases this]
 |true=>
 simp only [Bool.not_true,cond_false,Option.bind_some];by_cases b3:(6:Int)<(q.2.1.length:Int)
 case pos=>simp only [b3,decide_true,cond_true,Option.bind_some,q_f (c:=c) (q:=q) fun h=>absurd h.2.2.1 (by omega)]
 simp only [b3,decide_false,cond_false,Option.bind_some];by_cases b4:(q.2.2.1.length:Int)=(q.2.1.length:Int)
 case neg=>simp only [b4,decide_false,Bool.not_false,cond_true,Option.bind_some,q_f (c:=c) (q:=q) fun h=>b4 (by rw [h.2.2.2.1])]
 simp only [dT b4,Bool.not_true,cond_false,Option.bind_some];by_cases b5:(4:Int)<(q.2.2.2.length:Int)
 case pos=>simp only [b5,decide_true,cond_true,Option.bind_some,q_f (c:=c) (q:=q) fun h=>absurd h.2.2.2.2.1 (by omega)]
 simp only [b5,decide_false,cond_false,Option.bind_some];cases b6:wi q.1.length q.2.2.2 with
 |false=>simp only [Bool.not_false,cond_true,Option.bind_some,q_f (c:=c) (q:=q) fun h=>by have:=h.2.2.2.2.2;rw [b6]at this;cases this]
 |true=>
 simp only [Bool.not_true,cond_false,Option.bind_some];have hh:VP c q:=⟨by omega,b2,by omega,by omega,by omega,b6⟩
 have e:qOK c q=AaV c q:=by simp [qOK,hh]
 rw [e];refine Ap (v:=bif AaV c q then .brk 0 (q.2.1.length:Int)else .ret false) (Bw (st:=fun i=>(i:Int)) (fun i hi=>?_) (by simp) (fun y=>by simp)) (by cases AaV c q<;>rfl)
 have hi2:i<q.2.2.1.length:=by omega
 have h3:c.2.2.1.length=c.2.1.length:=hs.hd.2.2.1;simp only [Ag,hi,hi2,decide_true,cond_true,Ad hi,Ad hi2,if_true,tNC,and_self,Prod.eta,p57 k1,Option.bind_some];rw [An (by omega) (by omega)]
 unfold KY;cases e1:Cc c q.1 (q.2.1.getD i (0,0))with
 |false=>rfl
 |true=>
  cases e2:Cc c q.1 (q.2.2.1.getD i (0,0))with
  |false=>rfl
  |true=>
   have h1:=Lj e1;have h2:=Lj e2;rw [<-h3]at h1 h2;simp only [Bool.not_true,cond_false,Option.bind_some,h1,h2,and_self,if_true,Bool.true_and];cases decide (c.2.2.1.getD (q.2.1.getD i (0,0)).2.toNat 0=c.2.2.1.getD (q.2.2.1.getD i (0,0)).2.toNat 0)<;>rfl
theorem XW{f:SF}{q:Qry}(hf:FS f)(h:qOK (shS f) q=true):QK f q:=by
 unfold qOK at h;rw [bAE,decide_eq_true_eq]at h;obtain⟨⟨h1,h2,h3,h4,h5,h6⟩,hc⟩:=h;refine⟨hf,h2,h1,h3,h4,fun i hi=>?_⟩
 have:=aET.1 hc i (List.mem_range.2 hi);unfold KY at this;rw [bAE,bAE]at this;exact⟨this.1,this.2.1⟩
end
end Go.Ve.D


namespace Go.Ve.D
open Go Go.Ve
noncomputable section
def qrB(f:SF)(q:Qry):Bool:=UP f&&qOK (shS f) q
def qrC(f:SF)(q:Qry):Int:=bif !qrB f q then 1 else bif decide (4096<Go.Ve.D.prd (szQ f q))then 3 else 0
def qrR(f:SF)(q:Qry):List (List Int)×Int:=(bif decide (qrC f q=0)then I5 f q (Go.Ve.D.prd (szQ f q))else [],qrC f q)
theorem P7{f:SF}(h:UP f=true):DA (shS f)=true:=by
 unfold UP DU Wp at h;simp only [bAE]at h;exact h.1.1.1
theorem p106S{f:SF}{q:Qry}(hf:okS f)(hq:okQ q):G38 ((f.1,(f.2.1,(f.2.2.1,(f.2.2.2.1,f.2.2.2.2.1)))),q)=some (DA (shS f)&&qOK (shS f) q):=p38 (c:=shS f) hf.1 hq
theorem p112S{f:SF}{q:Qry}(hf:Sh (shS f))(hq:okQ q):G47 ((f.1,(f.2.1,(f.2.2.1,(f.2.2.2.1,f.2.2.2.2.1)))),q)=some (qOK (shS f) q):=p47 (c:=shS f) hf hq
theorem p21{f:SF}{q:Qry}(hf:okS f)(hq:okQ q):G21 (f,q)=some (qrC f q):=by
 unfold G21 qrC qrB;simp only [Prod.eta,p37 hf,p106S hf hq,Option.bind_some];cases h1:UP f with
 |false=>rfl
 |true=>
 rw [P7 h1];cases h2:qOK (shS f) q with
 |false=>rfl
 |true=>
  simp only [Bool.not_true,cond_false,Bool.and_self,Option.bind_some,p39 (XW (L8 h1) h2),Bool.not_not];cases decide (4096<Go.Ve.D.prd (szQ f q))<;>rfl
theorem p27{f:SF}{q:Qry}(hf:okS f)(hq:okQ q):G27 (f,q)=some (qrR f q):=by
 unfold G27 qrR qrC qrB;simp only [Prod.eta,p46 hf,Option.bind_some];cases h1:UP f with
 |false=>rfl
 |true=>
 simp only [Bool.not_true,cond_false,p112S (IJ (P7 h1)) hq,Option.bind_some,Bool.true_and];cases h2:qOK (shS f) q with
 |false=>rfl
 |true=>
  simp only [Bool.not_true,cond_false,Option.bind_some,p48 (XW (L8 h1) h2)];cases decide (4096<Go.Ve.D.prd (szQ f q))<;>rfl
def WA(f:SF)(q:Qry)(k i:Nat):Bool:=(List.range i).all fun i=>UA (CB (szQ f q) k) ((Mk f q).getD i c0)
theorem Yx{f:SF}{q:Qry}{i:Nat}(hi:i<q.2.1.length):(Mk f q).getD i c0=(f,(q.2.1.getD i (0,0),q.2.2.1.getD i (0,0))):=by
 unfold Mk;rw [gDE,List.getElem?_map,List.getElem?_range hi];rfl
theorem Wy{f:SF}{q:Qry}{k i:Nat}:WA f q k (i+1)=(WA f q k i&&UA (CB (szQ f q) k) ((Mk f q).getD i c0)):=by
 unfold WA;rw [List.range_succ,List.all_append];simp
theorem Wz{f:SF}{q:Qry}{k:Nat}{i j:Nat}(h:i<=j)(hf:WA f q k i=false):WA f q k j=false:=by
 unfold WA at hf⊢;rw [List.all_eq_false]at hf⊢;obtain⟨x,hx,h2⟩:=hf;exact⟨x,List.mem_range.2 (by have:=List.mem_range.1 hx;omega),h2⟩
theorem Ul{P:Nat->Bool}: ∀N,∃n,n<=N/\(∀i,i<n->P i=true)/\(P n=false\/n=N)
 |0=>⟨0,Nat.le_refl _,fun i hi=>absurd hi (Nat.not_lt_zero _),.inr rfl⟩
 |N+1=>by
  obtain⟨n,h1,h2,h3⟩:=Ul (P:=P) N;rcases h3 with e|e
  ·exact⟨n,by omega,h2,.inl e⟩
  ·subst e
   cases hp:P n with
   |false=>exact⟨n,by omega,h2,.inl hp⟩
   |true=>exact⟨n+1,Nat.le_refl _,fun i hi=>(by
     rcases Nat.lt_or_ge i n with h|h
     ·exact h2 i h
     ·have:i=n:=by omega
      rw [this];exact hp),.inr rfl⟩
theorem AaF{X S:Type}{a:Option X}{k:X->Option S}{r:Option S}(v:Nat->X)(h: ∃m,a=some (v m))(h2: ∀m,k (v m)=r):Option.bind a k=r:=by
 obtain⟨m,rfl⟩:=h;exact h2 m
theorem Ys{f:SF}{q:Qry}{k:Nat}(hl6:q.2.1.length<=6)(hlr:q.2.2.1.length=q.2.1.length)(hT: ∀i,i<q.2.1.length->TK f (CB (szQ f q) k) (q.2.1.getD i (0,0))/\TK f (CB (szQ f q) k) (q.2.2.1.getD i (0,0))){R:Type}{F:Bool×Int->Option (LO (Bool×Int) R)}
  (hF:F=(fun(v4:(Bool×Int))=>(Option.bind (bif v4.1 then(some (decide (v4.2<((q.2.1.length:Nat):Int))))else(some false)) (fun(v5:Bool)=>(bif v5 then(if(((0:Int)<=v4.2)/\(v4.2<((q.2.1.length:Nat):Int)))then(if(((0:Int)<=(q.2.1.getD (v4.2).toNat ((0:Int),(0:Int))).2)/\((q.2.1.getD (v4.2).toNat ((0:Int),(0:Int))).2<((f.2.2.2.2.2.2.length:Nat):Int)))then(if(((0:Int)<=v4.2)/\(v4.2<((q.2.1.length:Nat):Int)))then(if(((0:Int)<=(q.2.1.getD (v4.2).toNat ((0:Int),(0:Int))).1)/\((q.2.1.getD (v4.2).toNat ((0:Int),(0:Int))).1<(((CB (szQ f q) k).length:Nat):Int)))then(if(((0:Int)<=((CB (szQ f q) k).getD ((q.2.1.getD (v4.2).toNat ((0:Int),(0:Int))).1).toNat (0:Int)))/\(((CB (szQ f q) k).getD ((q.2.1.getD (v4.2).toNat ((0:Int),(0:Int))).1).toNat (0:Int))<(((f.2.2.2.2.2.2.getD ((q.2.1.getD (v4.2).toNat ((0:Int),(0:Int))).2).toNat ([]:(List Int))).length:Nat):Int)))then(if(((0:Int)<=v4.2)/\(v4.2<((q.2.2.1.length:Nat):Int)))then(if(((0:Int)<=(q.2.2.1.getD (v4.2).toNat ((0:Int),(0:Int))).2)/\((q.2.2.1.getD (v4.2).toNat ((0:Int),(0:Int))).2<((f.2.2.2.2.2.2.length:Nat):Int)))then(if(((0:Int)<=v4.2)/\(v4.2<((q.2.2.1.length:Nat):Int)))then(if(((0:Int)<=(q.2.2.1.getD (v4.2).toNat ((0:Int),(0:Int))).1)/\((q.2.2.1.getD (v4.2).toNat ((0:Int),(0:Int))).1<(((CB (szQ f q) k).length:Nat):Int)))then(if(((0:Int)<=((CB (szQ f q) k).getD ((q.2.2.1.getD (v4.2).toNat ((0:Int),(0:Int))).1).toNat (0:Int)))/\(((CB (szQ f q) k).getD ((q.2.2.1.getD (v4.2).toNat ((0:Int),(0:Int))).1).toNat (0:Int))<(((f.2.2.2.2.2.2.getD ((q.2.2.1.getD (v4.2).toNat ((0:Int),(0:Int))).2).toNat ([]:(List Int))).length:Nat):Int)))then(some (LO.next ((decide (((f.2.2.2.2.2.2.getD ((q.2.1.getD (v4.2).toNat ((0:Int),(0:Int))).2).toNat ([]:(List Int))).getD ((CB (szQ f q) k).getD ((q.2.1.getD (v4.2).toNat ((0:Int),(0:Int))).1).toNat (0:Int)).toNat (0:Int))=((f.2.2.2.2.2.2.getD ((q.2.2.1.getD (v4.2).toNat ((0:Int),(0:Int))).2).toNat ([]:(List Int))).getD ((CB (szQ f q) k).getD ((q.2.2.1.getD (v4.2).toNat ((0:Int),(0:Int))).1).toNat (0:Int)).toNat (0:Int)))),(IntKind.wrap .i64 (v4.2+(1:Int))))))else none)else none)else none)else none)else none)else none)else none)else none)else none)else none)else(some (LO.brk 2 (v4.1,v4.2)))))))): ∃m:Nat,Au F (true,(0:Int))=some (.brk 2 (WB f q k,(m:Int))):=by
 subst hF;have hcl:(Mk f q).length=q.2.1.length:=by simp [Mk]
 obtain⟨n,hn,hbef,hend⟩:=Ul (P:=WA f q k) q.2.1.length;have hfb:WB f q k=WA f q k n:=by
  unfold WB;rw [hcl];show WA f q k q.2.1.length=_;rcases hend with e|e
  ·rw [e];exact Wz hn e
  ·rw [e]
 refine⟨n,?_⟩;rw [hfb];refine AC (st:=fun i:Nat=>(WA f q k i,(i:Int))) (n:=n) (fun i hi=>?_) ?_ (fun y=>by simp)
 ·have hi1:i<q.2.1.length:=by omega
  have hi2:i<q.2.2.1.length:=by omega
  obtain⟨hl,hr⟩:=hT i hi1;simp only [hbef i hi,Ag,hi1,hi2,decide_true,cond_true,Ad hi1,Ad hi2,and_self,if_true,tNC,Option.bind_some];rw [if_pos hl.a,if_pos hl.v,if_pos hl.e,if_pos hr.a,if_pos hr.v,if_pos hr.e,An (by omega) (by omega),Wy,hbef i hi,Bool.true_and,Yx hi1]
  rfl
 ·rcases hend with e|e
  ·simp only [e,cond_false,Option.bind_some]
  ·subst e
   simp only [Ag,Nat.lt_irrefl,decide_false];cases WA f q k q.2.1.length<;>rfl
theorem p40{f:SF}{q:Qry}(h:QK f q)(hp:Go.Ve.D.prd (szQ f q)<=4096):G40 (f,q)=some (I5 f q (Go.Ve.D.prd (szQ f q))):=by
 have hfew:=h.few;have hl6:=h.l6;have hlr:=h.lr;refine Ap (a:=G59 (f,q)) (p59 h) ?_;refine Ap (a:=G41 (szQ f q)) (p41 hfew) ?_;refine Ap (v:=.brk 0 (((Go.Ve.D.prd (szQ f q):Nat):Int),I5 f q (Go.Ve.D.prd (szQ f q)))) (AC (st:=fun k:Nat=>((k:Int),I5 f q k)) (n:=Go.Ve.D.prd (szQ f q)) (fun k hk=>?_) ?_ (fun y=>by simp)) rfl
 ·have hs:=Hj (f:=f) (q:=q) (n:=k)
  simp only [Ag,hk,decide_true,cond_true];refine Ap (p44 hfew (NN hk) (by omega)) ?_
  have hT: ∀i,i<q.2.1.length->TK f (CB (szQ f q) k) (q.2.1.getD i (0,0))/\TK f (CB (szQ f q) k) (q.2.2.1.getD i (0,0)):=fun i hi=>⟨Xw h.hf h.v hfew hk (h.c i hi).1,Xw h.hf h.v hfew hk (h.c i hi).2⟩
  refine AaF (fun m=>.brk 2 (WB f q k,(m:Int))) (Ys hl6 hlr hT rfl) fun m=>?_
  show(if 2=2 then _ else none)=_
  rw [if_pos rfl,An (by omega) (by omega),if_pos trivial,if_pos (show(I5 f q k).length+ [CB (szQ f q) k].length<=5864062014805 by show _+1<=_;omega),MY]
  cases WB f q k<;>rfl
 ·simp only [Ag,Nat.lt_irrefl,decide_false,cond_false]
end
end Go.Ve.D

