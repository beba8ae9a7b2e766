/- Queries: the law of all solutions. -/
import Derived.Test.YtnhlomkcachnbaaGreatKci
namespace Go.Ve.D
open Go Go.Ve
noncomputable section
theorem p16{x:List (List Int)}{k:Int}(h0:0<=k)(h1:k<=1125899906842624)(h:x.length<=1048576)(hx: ∀y∈x,y.length<=1048576):G16 (mks x k,k)=some (k+(tot x x.length:Int)):=by
 unfold G16;have hst:((k,(0:Int)):Int×Int)=(fun i:Nat=>(k+(tot x i:Int),(i:Int))) 0:=by simp [tot]
 simp only [hst];refine Ap (v:=.brk 0 (k+(tot x x.length:Int),(x.length:Int))) (AC (st:=fun i:Nat=>(k+(tot x i:Int),(i:Int))) (n:=x.length) (fun i hi=>?_) ?_ (fun y=>by simp)) rfl
 ·have ht:=ME hx i (Nat.le_of_lt hi)
  have hr:=hx _ (CW [] hi);have m: ¬ (k+(tot x i:Int)+((x.getD i []).length:Int)<0):=by omega
  simp only [Dd,Ag,hi,decide_true,cond_true,Ad hi,if_true,tNC,and_self,V2 hi,p36 (x:=x.getD i []) (k:=k+(tot x i:Int)) (by omega) (by omega) hr,Option.bind_some,m,decide_false,cond_false]
  rw [An (by omega) (by omega),Lh hi]
  simp only [Int.natCast_add,Int.add_assoc];rfl
 ·simp only [Dd,Ag,Nat.lt_irrefl,decide_false,cond_false]
theorem p17g{c}{b:Int}(hb:0<=b/\b<=1048576)(h1:c.2.1.length<=maxLen)(h2:c.2.2.1.length<=maxLen)(h3:c.2.2.2.1.length<=maxLen)(h4:c.2.2.2.2.length<=maxLen)(h5: ∀y∈c.2.2.2.2,y.length<=maxLen):
  ∃r,G17 (c,b)=some r/\(r<0\/(0<=r/\r<=b/\okC c)):=by
 unfold G17;obtain⟨r1,e1,f1⟩:=p18 (b:=b) hb h1;simp only [e1,Option.bind_some];by_cases n1:r1<0
 ·exact⟨-1,by simp only [n1,decide_true,cond_true],.inl (by decide)⟩
 simp only [n1,decide_false,cond_false];obtain⟨r2,e2,f2⟩:=p18 (b:=r1) (by omega) h2
 simp only [e2,Option.bind_some];by_cases n2:r2<0
 ·exact⟨-1,by simp only [n2,decide_true,cond_true],.inl (by decide)⟩
 simp only [n2,decide_false,cond_false];obtain⟨r3,e3,f3⟩:=p18 (b:=r2) (by omega) h3
 simp only [e3,Option.bind_some];by_cases n3:r3<0
 ·exact⟨-1,by simp only [n3,decide_true,cond_true],.inl (by decide)⟩
 simp only [n3,decide_false,cond_false];obtain⟨r4,e4,f4⟩:=p19 (b:=r3) (by omega) h4 h5
 simp only [e4,Option.bind_some];by_cases n4:r4<0
 ·exact⟨-1,by simp only [n4,decide_true,cond_true],.inl (by decide)⟩
 simp only [n4,decide_false,cond_false];refine⟨r4,rfl,.inr ?_⟩;have f4:=f4.resolve_left n4;exact⟨f4.1,by omega,by omega,by omega,by omega,f4.2.2.1,f4.2.2.2⟩
theorem p4g{f:SF}{b:Int}(hb:0<=b/\b<=1048576)(h1:f.2.1.length<=maxLen)(h2:f.2.2.1.length<=maxLen)(h3:f.2.2.2.1.length<=maxLen)(h4:f.2.2.2.2.1.length<=maxLen)(h5: ∀y∈f.2.2.2.2.1,y.length<=maxLen)(h6:f.2.2.2.2.2.1.length<=maxLen)(h7:f.2.2.2.2.2.2.length<=maxLen)(h8: ∀y∈f.2.2.2.2.2.2,y.length<=maxLen):
  ∃r,G4 (f,b)=some r/\(r<0\/(0<=r/\r<=b/\okS f)):=by
 unfold G4;obtain⟨r1,e1,f1⟩:=p17g (c:=shS f) hb h1 h2 h3 h4 h5;unfold shS at e1;simp only [e1,Option.bind_some];by_cases n1:r1<0
 ·exact⟨-1,by simp only [n1,decide_true,cond_true],.inl (by decide)⟩
 have f1:=f1.resolve_left n1;obtain⟨r2,e2,f2⟩:=p18 (b:=r1) ⟨f1.1,by omega⟩ h6
 simp only [n1,decide_false,cond_false,e2,Option.bind_some];by_cases n2:r2<0
 ·exact⟨-1,by simp only [n2,decide_true,cond_true],.inl (by decide)⟩
 have f2:=f2.resolve_left n2;obtain⟨r3,e3,f3⟩:=p19 (b:=r2) ⟨f2.2,by omega⟩ h7 h8
 simp only [n2,decide_false,cond_false,e3,Option.bind_some];by_cases n3:r3<0
 ·exact⟨-1,by simp only [n3,decide_true,cond_true],.inl (by decide)⟩
 have f3:=f3.resolve_left n3;refine⟨r3,by simp only [n3,decide_false,cond_false],.inr ⟨f3.1,by omega,f1.2.2,?_,f3.2.2.1,f3.2.2.2⟩⟩
 have:f.2.2.2.2.2.1.length<=1048576:=by omega
 exact this
theorem p7{f:SF}(h:okS f):G7 f=some f:=by
 unfold G7;have e1:G23 (f.1,(f.2.1,(f.2.2.1,(f.2.2.2.1,f.2.2.2.2.1))))=some (shS f):=p23 h.1;have e2:G24 f.2.2.2.2.2.1=some f.2.2.2.2.2.1:=p24 h.2.1;have e3:G25 f.2.2.2.2.2.2=some f.2.2.2.2.2.2:=p25 h.2.2.1 h.2.2.2;simp only [e1,e2,e3,Option.bind_some];rfl
theorem p11{f:SF}(h:okS f):G11 (f,f)=some true:=by
 unfold G11;have e1:G31 ((f.1,(f.2.1,(f.2.2.1,(f.2.2.2.1,f.2.2.2.2.1)))),(f.1,(f.2.1,(f.2.2.1,(f.2.2.2.1,f.2.2.2.2.1)))))=some true:=p31 h.1;have e2:G30 (f.2.2.2.2.2.1,f.2.2.2.2.2.1)=some true:=p30 h.2.1;have e3:G10 (f.2.2.2.2.2.2,f.2.2.2.2.2.2)=some true:=p10 h.2.2.1 h.2.2.2;simp only [e1,e2,e3,Option.bind_some,Bool.not_true,cond_false]
theorem mk15{x:List (List Int)}{k:Int}(h0:0<=k)(h1:k<=1125899906842624)(h:x.length<=1048576)(hx: ∀y∈x,y.length<=1048576): ∃k' y,G15 (x,k)=some (k',y)/\0<=k'/\k'<=k+1099511627776:=by
 have ht:=ME hx x.length (Nat.le_refl _);exact⟨_,_,p15 h0 h1 h hx,by omega,by omega⟩
theorem mk33{c:Cat}{k:Int}(h0:0<=k)(h1:k<=562949953421312)(h:okC c): ∃k' y,G33 (c,k)=some (k',y)/\0<=k'/\k'<=k+8796093022208:=by
 obtain⟨g1,g2,g3,g4,g5⟩:=h;obtain⟨k1,y1,a1,b1,c1,d1⟩:=AaP h0 (by omega) g1
 obtain⟨k2,y2,a2,b2,c2,d2⟩:=AaP b1 (by omega) g2
 obtain⟨k3,y3,a3,b3,c3,d3⟩:=AaP b2 (by omega) g3
 obtain⟨k4,y4,a4,b4,c4⟩:=mk15 b3 (by omega) g4 g5
 refine⟨k4,(y1,(y2,(y3,y4))),?_,b4,by omega⟩
 unfold G33;simp only [a1,a2,a3,a4,Option.bind_some]
theorem mk13{f:SF}{k:Int}(h0:0<=k)(h1:k<=281474976710656)(h:okS f): ∃k' y,G13 (f,k)=some (k',y)/\0<=k'/\k'<=k+35184372088832:=by
 obtain⟨g1,g2,g3,g4⟩:=h;obtain⟨k1,y1,a1,b1,c1⟩:=mk33 h0 (by omega) g1
 obtain⟨k2,y2,a2,b2,c2,_⟩:=AaP b1 (by omega) g2
 obtain⟨k3,y3,a3,b3,c3⟩:=mk15 b2 (by omega) g3 g4
 unfold shS at a1;unfold szF at a2;unfold acF at a3;refine⟨k3,(y1.1,(y1.2.1,(y1.2.2.1,(y1.2.2.2,(y2,y3))))),?_,b3,by omega⟩
 unfold G13;simp only [a1,a2,a3,Option.bind_some]
theorem p20{x:List (Int×Int)}{b:Int}(hb:0<=b/\b<=1048576)(hx:x.length<=maxLen): ∃r,G20 (x,b)=some r/\(r<0\/(r=b-x.length/\0<=r)):=by
 unfold G20;have hm:maxLen=9223372036854775807:=by decide
 rw [hm]at hx;have e:IntKind.wrap .i64 (b-(x.length:Int))=b-x.length:=Cm (by omega) (by omega)
 simp only [e];by_cases h:b-(x.length:Int)<0
 ·exact⟨-1,by simp only [h,decide_true,cond_true],.inl (by decide)⟩
 ·exact⟨_,by simp only [h,decide_false,cond_false],.inr ⟨rfl,by omega⟩⟩
theorem p5{q:Qry}{b:Int}(hb:0<=b/\b<=1048576)(h1:q.1.length<=maxLen)(h2:q.2.1.length<=maxLen)(h3:q.2.2.1.length<=maxLen)(h4:q.2.2.2.length<=maxLen):
  ∃r,G5 (q,b)=some r/\(r<0\/(0<=r/\okQ q)):=by
 unfold G5;obtain⟨r1,e1,f1⟩:=p18 (b:=b) (by omega) h1
 simp only [e1,Option.bind_some];by_cases n1:r1<0
 ·exact⟨-1,by simp only [n1,decide_true,cond_true],.inl (by decide)⟩
 simp only [n1,decide_false,cond_false];obtain⟨r2,e2,f2⟩:=p20 (b:=r1) (by omega) h2
 simp only [e2,Option.bind_some];by_cases n2:r2<0
 ·exact⟨-1,by simp only [n2,decide_true,cond_true],.inl (by decide)⟩
 simp only [n2,decide_false,cond_false];obtain⟨r3,e3,f3⟩:=p20 (b:=r2) (by omega) h3
 simp only [e3,Option.bind_some];by_cases n3:r3<0
 ·exact⟨-1,by simp only [n3,decide_true,cond_true],.inl (by decide)⟩
 simp only [n3,decide_false,cond_false];obtain⟨r4,e4,f4⟩:=p18 (b:=r3) (by omega) h4
 simp only [e4,Option.bind_some];by_cases n4:r4<0
 ·exact⟨-1,by simp only [n4,decide_true,cond_true],.inl (by decide)⟩
 simp only [n4,decide_false,cond_false];refine⟨r4,rfl,.inr ⟨by omega,by omega,by omega,by omega,by omega⟩⟩
theorem p45(x:Int×Int):G45 x=some x:=rfl
theorem p26{x:List (Int×Int)}(h:x.length<=1048576):G26 x=some x:=by
 unfold G26;rw [if_pos (by omega)]
 refine Ap (v:=.brk 0 ((x.length:Int),x)) (AC (st:=fun i=>((i:Int),x.take i++(List.replicate x.length ((0:Int),(0:Int))).drop i)) (n:=x.length) (fun i hi=>?_) (by simp) (fun y=>by simp)) rfl
 have e:(x.take i++(List.replicate x.length ((0:Int),(0:Int))).drop i).length=x.length:=by simp;omega
 simp only [Ag,hi,decide_true,cond_true,Ad hi,if_true,e,tNC,and_self,p45,Option.bind_some];have e2: ∀ (l:List (Int×Int)) (a b:Int×Int),i<l.length->((l.set i (a.1,b.2)).getD i ((0:Int),(0:Int))).1=a.1:=fun l a b hl=>by simp [hl]
 have e3: ∀ (l:List (Int×Int)) (a b:Int×Int),(l.set i a).set i b=l.set i b:=fun l a b=>by simp
 rw [e2 _ _ _ (by rw [e];exact hi),e3,Prod.eta,DL ((0:Int),(0:Int)) (by simp) hi,An (by omega) (by omega)]
 rfl
theorem p8{q:Qry}(h:okQ q):G8 q=some q:=by
 obtain⟨h1,h2,h3,h4⟩:=h;unfold G8;simp only [p24 h1,p26 h2,p26 h3,p24 h4,Option.bind_some]
theorem p52(x:Int×Int):G52 (x,x)=some true:=by
 unfold G52;simp
theorem p32{x:List (Int×Int)}(h:x.length<=1048576):G32 (x,x)=some true:=by
 unfold G32;simp only [decide_true,Bool.not_true,cond_false];refine Ap (v:=.brk 0 (x.length:Int)) (AC (st:=fun i=>(i:Int)) (n:=x.length) (fun i hi=>?_) (by simp) (fun y=>by simp)) rfl
 simp only [Ag,hi,decide_true,cond_true,Ad hi,if_true,tNC,and_self,Bool.not_true,cond_false,p52,Option.bind_some];rw [An (by omega) (by omega)]
 rfl
theorem p12{q:Qry}(h:okQ q):G12 (q,q)=some true:=by
 obtain⟨h1,h2,h3,h4⟩:=h;unfold G12;simp only [p30 h1,p32 h2,p32 h3,p30 h4,Option.bind_some,decide_true,Bool.not_true,cond_false]
def mkT(x:List (Int×Int))(k:Int):List (Int×Int):=(List.range x.length).map fun(i:Nat)=>(k+2*(i:Int),k+2*(i:Int)+1)
theorem Jt{x:List (Int×Int)}{k:Int}:(mkT x k).length=x.length:=by simp [mkT]
theorem Aad{x:List (Int×Int)}{k:Int}{i:Nat}(hi:i<x.length):(mkT x k).getD i (0,0)=(k+2*(i:Int),k+2*(i:Int)+1):=by simp [mkT,hi]
theorem XL{x:List (Int×Int)}{i:Nat}{v:Int×Int}(hi:i<x.length):(x.set i v).getD i (0,0)=v:=by simp [hi]
theorem p35{x:List (Int×Int)}{k:Int}(h0:0<=k)(h1:k<=1125899906842624)(h:x.length<=1048576):G35 (x,k)=some (k+2*(x.length:Int),mkT x k):=by
 unfold G35;refine Ap (v:=.brk 0 (k+2*(x.length:Int),((x.length:Int),mkT x k))) ?_ (by show(if 0=0 then _ else none)=_;rw [if_pos rfl])
 have key:=AC (X:=Int×Int×List (Int×Int)) (R:=Int×List (Int×Int)) (st:=fun i:Nat=>(k+2*(i:Int),((i:Int),(mkT x k).take i++x.drop i))) (n:=x.length) (o:=.brk 0 (k+2*(x.length:Int),((x.length:Int),mkT x k)))
  (f:=(fun(v0:(Int×(Int×(List (Int×Int)))))=>(bif(decide (v0.2.1<((v0.2.2.length:Nat):Int)))then(if(((0:Int)<=v0.2.1)/\(v0.2.1<((v0.2.2.length:Nat):Int)))then(if(((0:Int)<=v0.2.1)/\(v0.2.1<(((v0.2.2.set (v0.2.1).toNat (v0.1,(v0.2.2.getD (v0.2.1).toNat ((0:Int),(0:Int))).2)).length:Nat):Int)))then(some (LO.next ((IntKind.wrap .i64 ((IntKind.wrap .i64 (v0.1+(1:Int)))+(1:Int))),((IntKind.wrap .i64 (v0.2.1+(1:Int))),((v0.2.2.set (v0.2.1).toNat (v0.1,(v0.2.2.getD (v0.2.1).toNat ((0:Int),(0:Int))).2)).set (v0.2.1).toNat (((v0.2.2.set (v0.2.1).toNat (v0.1,(v0.2.2.getD (v0.2.1).toNat ((0:Int),(0:Int))).2)).getD (v0.2.1).toNat ((0:Int),(0:Int))).1,(IntKind.wrap .i64 (v0.1+(1:Int)))))))))else none)else none)else(some (LO.brk 0 (v0.1,(v0.2.1,v0.2.2)))))))
  (fun i hi=>?_) ?_ (fun y=>by simp)
 ·simpa using key
 ·have e1:((mkT x k).take i++x.drop i).length=x.length:=by simp [Jt];omega
  simp only [List.length_set,e1,Ag,hi,decide_true,cond_true,Ad hi,and_self,if_true,tNC];rw [XL (by rw [e1];exact hi),List.set_set,An (n:=k+2*(i:Int)+1) (by omega) (by omega),An (n:=k+2*(i:Int)+1+1) (by omega) (by omega),An (n:=(i:Int)+1) (by omega) (by omega)]
  have f1:(k+2*(i:Int),k+2*(i:Int)+1)=(mkT x k).getD i (0,0):=(Aad hi).symm;simp only [f1];rw [DL (0,0) Jt.symm (by rw [Jt];exact hi)]
  have f2:k+2*(i:Int)+1+1=k+2*((i+1:Nat):Int):=by omega
  rw [f2];rfl
 ·have e1:(mkT x k).take x.length=mkT x k:=by rw [<-Jt (x:=x) (k:=k)];exact List.take_length
  simp only [e1,List.drop_length,List.append_nil,Jt,Ag,Nat.lt_irrefl,decide_false,cond_false]
theorem mk35{x:List (Int×Int)}{k:Int}(h0:0<=k)(h1:k<=1125899906842624)(h:x.length<=1048576): ∃k' y,G35 (x,k)=some (k',y)/\0<=k'/\k'<=k+2199023255552:=
 ⟨_,_,p35 h0 h1 h,by omega,by omega⟩
theorem mk14{q:Qry}{k:Int}(h0:0<=k)(h1:k<=562949953421312)(h:okQ q): ∃r,G14 (q,k)=some r/\0<=r.1/\r.1<=k+8796093022208:=by
 obtain⟨g1,g2,g3,g4⟩:=h;obtain⟨k1,y1,a1,b1,c1,_⟩:=AaP h0 (by omega) g1
 obtain⟨k2,y2,a2,b2,c2⟩:=mk35 b1 (by omega) g2
 obtain⟨k3,y3,a3,b3,c3⟩:=mk35 b2 (by omega) g3
 obtain⟨k4,y4,a4,b4,c4,_⟩:=AaP b3 (by omega) g4
 refine⟨(k4,(y1,(y2,(y3,y4)))),?_,b4,by show k4<=_;omega⟩
 unfold G14;simp only [a1,a2,a3,a4,Option.bind_some]
def okLL(p:List (List Int)):Prop:=p.length<=1048576/\∀y∈p,y.length<=1048576
theorem mh15{p:List (List Int)}(hp:okLL p): ∃k y,G15 (p,1)=some (k,y)/\0<=k/\G16 (y,1)=some k:=by
 have ht:=ME hp.2 p.length (Nat.le_refl _);exact⟨1+(tot p p.length:Int),mks p 1,p15 (x:=p) (k:=1) (by omega) (by omega) hp.1 hp.2,by omega,p16 (x:=p) (k:=1) (by omega) (by omega) hp.1 hp.2⟩
end
end Go.Ve.D


namespace Go.Ve.D
open Go Go.Ve Go.Proofs
structure InR(x t:List Int):Prop where
 l:t.length=x.length
 b: ∀i,i<x.length->0<=t.getD i 0/\t.getD i 0<x.getD i 0
def Di(x t:List Int):Nat->Nat
 |0=>0
 |i+1=>Di x t i*(x.getD i 0).toNat+(t.getD i 0).toNat
theorem V1{n P a s:Nat}(h:n<P)(ha:a<s):n*s+a<P*s:=by
 have h1:(n+1)*s<=P*s:=Nat.mul_le_mul_right s h;rw [Nat.succ_mul]at h1;omega
theorem LW{x t:List Int}(h:InR x t): ∀i,i<=x.length->Di x t i<Go.Ve.D.prd (x.take i)
 |0,_=>by simp [Di,Go.Ve.D.prd]
 |i+1,hi=>by
  have h1:=LW h i (by omega)
  have h2:=h.b i (by omega)
  rw [IH (by omega)]
  exact V1 h1 (by omega)
theorem p42{x t:List Int}(hx:Few x)(h:InR x t):G42 (x,t)=some ((Di x t x.length:Nat):Int):=by
 unfold G42;have hl:=hx.l;have hst:(((0:Int),(0:Int)):Int×Int)=(fun i:Nat=>(((Di x t i:Nat):Int),(i:Int))) 0:=rfl
 simp only [hst];refine Ap (v:=.brk 0 (((Di x t x.length:Nat):Int),(x.length:Int))) (AC (st:=fun i:Nat=>(((Di x t i:Nat):Int),(i:Int))) (n:=x.length) (fun i hi=>?_) ?_ (fun y=>by simp)) rfl
 ·have h1:=LW h i (by omega)
  have h3:=hx.prd i;have h2:=h.b i hi;have h4:=hx.get hi;have hi2:i<t.length:=by rw [h.l];exact hi
  have e1:((Di x t i:Nat):Int)*x.getD i 0=((Di x t i*(x.getD i 0).toNat:Nat):Int):=by rw [Int.natCast_mul,Int.toNat_of_nonneg h4.1]
  have h5:Di x t i*(x.getD i 0).toNat<=65536*16:=Nat.mul_le_mul (by omega) (by omega)
  simp only [Ag,hi2,decide_true,cond_true,Ad hi,Ad hi2,and_self,if_true,tNC,e1];rw [An (n:=((Di x t i*(x.getD i 0).toNat:Nat):Int)) (by omega) (by omega),An (by omega) (by omega),An (by omega) (by omega)]
  have e2:((Di x t i*(x.getD i 0).toNat:Nat):Int)+t.getD i 0=((Di x t (i+1):Nat):Int):=by
   show _=((Di x t i*(x.getD i 0).toNat+(t.getD i 0).toNat:Nat):Int);omega
  rw [e2];rfl
 ·simp only [Ag,h.l,Nat.lt_irrefl,decide_false,cond_false]
theorem N0: ∀ {a b:List Int},a.length=b.length->Bg a b<0->∃p,p<a.length/\(∀j,j<p->a.getD j 0=b.getD j 0)/\a.getD p 0<b.getD p 0
 | [],[],_,h=>by simp [Bg]at h
 | [],_::_,h,_=>by simp at h
 |_::_,[],h,_=>by simp at h
 |x::a,y::b,hl,h=>by
  unfold Bg at h;by_cases e:x=y
  ·rw [if_pos e]at h
   obtain⟨p,h1,h2,h3⟩:=N0 (by simpa using hl) h
   refine⟨p+1,by simp;omega,fun j hj=>?_,by simpa using h3⟩
   cases j with
   |zero=>simpa using e
   |succ j=>simpa using h2 j (by omega)
  ·rw [if_neg e]at h
   by_cases h2:x<y
   ·exact⟨0,by simp,fun j hj=>absurd hj (Nat.not_lt_zero _),by simpa using h2⟩
   ·rw [if_neg h2]at h;exact absurd h (by decide)
theorem VX{x a b:List Int}{p:Nat}(h: ∀j,j<p->a.getD j 0=b.getD j 0): ∀i,i<=p->Di x a i=Di x b i
 |0,_=>rfl
 |i+1,hi=>by
  show Di x a i*_+_=Di x b i*_+_;rw [VX h i (by omega),h i (by omega)]
theorem Jo{x a b:List Int}(ha:InR x a)(hb:InR x b)(h:Bg a b<0):Di x a x.length<Di x b x.length:=by
 obtain⟨p,h1,h2,h3⟩:=N0 (by rw [ha.l,hb.l]) h
 have hp:p<x.length:=by rw [<-ha.l];exact h1
 have key: ∀d,p+1+d<=x.length->Di x a (p+1+d)<Di x b (p+1+d):=by
  intro d
  induction d with
  |zero=>
   intro _;show Di x a p*_+_<Di x b p*_+_;rw [VX h2 p (Nat.le_refl _)];have:=ha.b p hp;omega
  |succ d ih=>
   intro hd;have h4:=ih (by omega)
   have h5:=ha.b (p+1+d) (by omega)
   show Di x a (p+1+d)*(x.getD (p+1+d) 0).toNat+(a.getD (p+1+d) 0).toNat<Di x b (p+1+d)*(x.getD (p+1+d) 0).toNat+(b.getD (p+1+d) 0).toNat;have:=V1 (s:=(x.getD (p+1+d) 0).toNat) (a:=(a.getD (p+1+d) 0).toNat) h4 (by omega)
   omega
 have:=key (x.length-(p+1)) (by omega)
 rwa [show p+1+(x.length-(p+1))=x.length by omega]at this
theorem PP{x a b:List Int}(ha:InR x a)(hb:InR x b)(h:Di x a x.length=Di x b x.length):a=b:=by
 have n:=Df a b;by_cases h1:Bg a b<0
 ·have:=Jo ha hb h1;omega
 by_cases h2:Bg b a<0
 ·have:=Jo hb ha h2;omega
 exact Hd a b (by omega)
theorem AaE{x a b:List Int}(ha:InR x a)(hb:InR x b)(h:Di x a x.length<Di x b x.length):Bg a b<0:=by
 have n:=Df a b;by_cases h2:Bg b a<0
 ·have:=Jo hb ha h2;omega
 by_cases h0:Bg a b=0
 ·rw [Hd a b h0]at h;omega
 omega
theorem IU{x:List Int}(h:Few x){k:Nat}(hk:k<Go.Ve.D.prd x):InR x (CB x k):=⟨DK,fun i hi=>by
 rw [Lg hi];exact Zf h hi (NN hk i hi)⟩
theorem Y4{x:List Int}{k:Nat}: ∀j,j<=x.length->nmN x k j=k/Go.Ve.D.prd (x.drop (x.length-j))
 |0,_=>by
  rw [show x.drop (x.length-0)= [] by simp]
  show k=k/1;simp
 |j+1,hj=>by
  show nmN x k j/_=_;have hi:x.length-1-j<x.length:=by omega
  have e:x.drop (x.length-(j+1))=x.getD (x.length-1-j) 0::x.drop (x.length-j):=by
   rw [show x.length-(j+1)=x.length-1-j by omega,show x.length-j=x.length-1-j+1 by omega,gDE,gEE hi]
   exact List.drop_eq_getElem_cons hi
  rw [Y4 j (by omega),e,Nat.div_div_eq_div_mul]
  congr 1
  show _=(x.getD (x.length-1-j) 0).toNat*Go.Ve.D.prd _;exact Nat.mul_comm _ _
theorem Jn{x:List Int}{k:Nat}(hk:k<Go.Ve.D.prd x): ∀i,i<=x.length->Di x (CB x k) i=nmN x k (x.length-i)
 |0,_=>by
  rw [Nat.sub_zero,Y4 _ (Nat.le_refl _),Nat.sub_self,List.drop_zero,Nat.div_eq_of_lt hk];rfl
 |i+1,hi=>by
  show Di x (CB x k) i*_+_=_;rw [Jn hk i (by omega),Lg (by omega)]
  have e:x.length-i=x.length-(i+1)+1:=by omega
  rw [e];show nmN x k (x.length-(i+1))/(x.getD (x.length-1-(x.length-(i+1))) 0).toNat*_+(dig x k i).toNat=_;rw [show x.length-1-(x.length-(i+1))=i by omega]
  unfold dig;rw [tNC,show x.length-1-i=x.length-(i+1) by omega]
  exact Nat.div_add_mod' _ _
end Go.Ve.D

