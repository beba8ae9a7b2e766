/- Formula values: the marked numbers; the two sides agree. -/
import Derived.Test.YtbbhfpbalccohaaGreatFeh
namespace Go.Ve.D
open Go Go.Ve
noncomputable section
theorem mkV_ok{S:List SF}{G:List Int}(hs:SK S)(hc:CK S G)(f:Nat->Nat->Bool):(mkV S G f).length<=8/\∀r∈mkV S G f,r.length<=65536:=by
 refine⟨by rw [Bt];exact hs.ob.2,fun r hr=>?_⟩
 unfold mkV at hr;obtain⟨x,hx,rfl⟩:=List.mem_map.1 hr;rw [Zy];exact Dt hs hc (List.mem_range.1 hx)
def okL(p:List (List Int)):Prop:=p.length<=1048576/\∀y∈p,y.length<=1048576
structure CdK(s:St)(G:List Int)(x:Fl):Prop where
 st:StK s
 fm:HC x=true
 ck:CK s.1 G
 ty:tyF s G x=true
theorem YT{s:St}{G:List Int}{x:Fl}(h:Jq s G x=0):CdK s G x:=by
 unfold Jq at h;cases h0:decide (cxC s G x=0)with
 |false=>
  rw [h0]at h;exact absurd h (of_decide_eq_false h0)
 |true=>
  obtain⟨h1,h2,h3⟩:=Aat h0;rw [h0]at h;cases h4:tyF s G x with
  |false=>rw [h4]at h;cases h
  |true=>exact⟨PF h1,h2,PU h3,h4⟩
theorem Mb.rr{s:St}(h:Mb s): ∀r∈s.2,okR r:=h.2.2.2
theorem p57{S:List SF}{R:List Rl}{G:List Int}{x:Fl}(h:Mb (S,R))(hG:G.length<=1048576)(hx:DI x):
  G57 ((S,R),(G,x))=some (bif decide (Jq (S,R) G x=0)then(mkV S G (vlF (S,R) G x),0)else([],Jq (S,R) G x)):=by
 have hL: ∀y∈ [x],DI y:=fun y hy=>by rw [List.mem_singleton.1 hy];exact hx
 have e68:=p68 (S:=S) (R:=R) (L:=[x]) h hG (by show 1<=_;omega) hL
 have hall:(List.range [x].length).all (fun i=>HC ([x].getD i []))=HC x:=Bool.and_true _
 have e1:(bif !PG (S,R)then 1 else bif HC x then(bif Me S G then 0 else 2)else 1)=cxC (S,R) G x:=by
  unfold cxC;cases PG (S,R)<;>cases HC x<;>cases Me S G<;>rfl
 rw [hall,e1]at e68;refine Aa e68 ?_;unfold Jq;cases h0:decide (cxC (S,R) G x=0)with
 |false=>
  simp only [Bool.not_false,cond_true,h0,cond_false]
 |true=>
 obtain⟨h1,h2,h3⟩:=Aat h0;have hk:=PF h1;have hc:=PU h3;simp only [Bool.not_true,cond_false];have hF: ∀y∈ [x],HC y=true:=fun y hy=>by rw [List.mem_singleton.1 hy];exact h2
 have e72:=p72 hk hc (L:=[x]) (by show 1<=_;omega) hL hF
 have ht:(List.range [x].length).all (fun i=>tyF (S,R) G ([x].getD i []))=tyF (S,R) G x:=Bool.and_true _
 have hf:(List.range [x].length).all (fun i=>ftF (S,R) G ([x].getD i []))=ftF (S,R) G x:=Bool.and_true _
 rw [ht,hf]at e72;refine Aa e72 ?_;cases h4:tyF (S,R) G x with
 |false=>rfl
 |true=>
 cases h5:ftF (S,R) G x with
 |false=>rfl
 |true=>exact Aa (p74 hk.sk) (Aa (p73 hk h.rr hx h2 hc h4) rfl)
end
end Go.Ve.D


namespace Go.Ve.D
open Go Go.Ve
noncomputable section
def wI(x:List (List Int)):Nat:=x.length+(x.map List.length).sum
def sw{α:Type}(w:α->Nat)(x:List α)(i:Nat):Nat:=((x.take i).map w).sum
theorem Zn{α:Type}{w:α->Nat}{d:α}{x:List α}{i:Nat}(hi:i<x.length):sw w x (i+1)=sw w x i+w (x.getD i d):=by
 unfold sw;rw [<-IK d hi];simp
theorem sw_all{α:Type}{w:α->Nat}{x:List α}:sw w x x.length=(x.map w).sum:=by
 unfold sw;rw [List.take_length]
def SzB(r b:Int)(n:Nat)(ok:Prop):Prop:=r<0\/(0<=r/\r+(n:Int)<=b/\ok)
theorem Xx{α:Type}{g:α×Int->Option Int}{d:α}{w:α->Nat}{x:List α}{b:Int}{ok:α->Prop}(hb:0<=b/\b<=1048576)(hx:x.length<=maxLen)(hg: ∀y∈x,∀c:Int,0<=c/\c<=1048576->∃r,g (y,c)=some r/\SzB r c (w y) (ok y)):
  ∃r,szG g d x b=some r/\SzB r b (x.length+(x.map w).sum) (∀y∈x,ok y):=by
 rw [VH]at hx;have ew:IntKind.wrap .i64 (b-(x.length:Int))=b-x.length:=CB (by omega) (by omega)
 by_cases n0:b-(x.length:Int)<0
 ·exact⟨-1,Aj (by rw [ew];exact dT n0) rfl,.inl (by decide)⟩
 ·obtain⟨o,ho,hq⟩:=Uy (R:=Int) (f:=fun(v0:(Int×Int))=>(bif(decide (v0.2<((x.length:Nat):Int)))then(if(((0:Int)<=v0.2)/\(v0.2<((x.length:Nat):Int)))then(Option.bind (g ((x.getD (v0.2).toNat d),v0.1)) (fun(v1:Int)=>(bif(decide (v1<(0:Int)))then(AN (some (-(1:Int))))else(some (LO.next (v1,(IntKind.wrap .i64 (v0.2+(1:Int)))))))))else none)else(some (LO.brk 0 (v0.1,v0.2)))))
   (I:=fun i s=>s.2=(i:Int)/\0<=s.1/\s.1+(x.length:Int)+(sw w x i:Int)<=b/\∀k,k<i->ok (x.getD k d)) (Q:=fun o=>(o= .ret (-1))\/∃c:Int,o= .brk 0 (c,(x.length:Int))/\0<=c/\c+(x.length:Int)+(sw w x x.length:Int)<=b/\∀k,k<x.length->ok (x.getD k d)) (n:=x.length) (x:=(b-(x.length:Int),0))
   ⟨rfl,by show 0<=b-(x.length:Int);omega,by show b-(x.length:Int)+(x.length:Int)+((0:Nat):Int)<=b;omega,fun k hk=>by omega⟩
   (fun i hi s hs=>by
    obtain⟨c,j⟩:=s;obtain⟨h1,h2,h3,h4⟩:=hs;have h1:j=(i:Int):=h1;subst h1;have h2:0<=c:=h2;have h3:c+(x.length:Int)+(sw w x i:Int)<=b:=h3;obtain⟨r,er,hr⟩:=hg _ (AK d hi) c (by omega)
    by_cases nr:r<0
    ·exact .inr ⟨.ret (-1),Aj (C8 hi) (Ao (Ab hi) (Aa er (Aj (dT nr) rfl))),(fun y=>by simp),.inl rfl⟩
    ·obtain⟨r0,r1,r2⟩:=hr.resolve_left nr
     refine .inl ⟨(r,((i+1:Nat):Int)),Aj (C8 hi) (Ao (Ab hi) (Aa er (Ae (dF nr) ?_))),rfl,r0,?_,fun k hk=>?_⟩
     ·show some (LO.next (r,IntKind.wrap .i64 ((i:Int)+1)))=_
      rw [wrS (by omega)]
     ·show r+(x.length:Int)+(sw w x (i+1):Int)<=b
      rw [Zn (d:=d) hi];omega
     ·by_cases e:k=i
      ·subst e;exact r2
      ·exact h4 k (by omega))
   (fun s hs=>by
    obtain⟨c,j⟩:=s;obtain⟨h1,h2,h3,h4⟩:=hs;have h1:j=(x.length:Int):=h1;subst h1;exact⟨_,Ae Bk rfl,(fun y=>by simp),.inr ⟨c,rfl,h2,h3,h4⟩⟩)
  rw [<-ew]at ho;rcases hq with rfl|⟨c,rfl,c0,c1,hk⟩
  ·exact⟨-1,Ae (by rw [ew];exact dF n0) (Aa ho rfl),.inl (by decide)⟩
  ·rw [sw_all]at c1
   refine⟨c,Ae (by rw [ew];exact dF n0) (Aa ho rfl),.inr ⟨c0,by omega,fun y hy=>?_⟩⟩
   obtain⟨k,hk1,rfl⟩:=List.getElem_of_mem hy;have:=hk k hk1;rwa [gDE,gEE hk1]at this
theorem ZL{x:List Int}{b:Int}(hb:0<=b/\b<=1048576)(hx:x.length<=maxLen): ∃r,G91 (x,b)=some r/\SzB r b x.length (x.length<=1048576):=by
 obtain⟨r,e,h⟩:=p91 hb hx;refine⟨r,e,?_⟩;rcases h with h|h
 ·exact .inl h
 ·exact .inr ⟨h.2,by omega,by omega⟩
theorem ZP{x:List (List Int)}{b:Int}(hb:0<=b/\b<=1048576)(hx:x.length<=maxLen)(hy: ∀y∈x,y.length<=maxLen): ∃r,G118 (x,b)=some r/\SzB r b (wI x) (okL x):=by
 obtain⟨r,e,h⟩:=Xx (g:=G91) (d:=[]) (w:=List.length) (ok:=fun y=>y.length<=1048576) hb hx (fun y hy' c hc=>ZL hc (hy y hy'))
 refine⟨r,e,?_⟩;rcases h with h|⟨h1,h2,h3⟩
 ·exact .inl h
 ·exact .inr ⟨h1,h2,by omega,h3⟩
theorem NS{r1 r2 b:Int}{n m:Nat}{p q:Prop}(h1:SzB r1 b n p)(n1: ¬r1<0)(h2:SzB r2 r1 m q)(n2: ¬r2<0):SzB r2 b (n+m) (p/\q):=by
 obtain⟨a1,a2,a3⟩:=h1.resolve_left n1;obtain⟨b1,b2,b3⟩:=h2.resolve_left n2;exact .inr ⟨b1,by omega,a3,b3⟩
theorem NR{r b:Int}{n:Nat}{p:Prop}(hb:b<=1048576)(h:SzB r b n p)(n1: ¬r<0):0<=r/\r<=1048576:=by
 obtain⟨a1,a2,a3⟩:=h.resolve_left n1;omega
theorem Lb{r b:Int}{n m:Nat}{p q:Prop}(h:SzB r b n p)(e:n=m)(hpq:p->q):SzB r b m q:=by
 subst e;rcases h with h|⟨h1,h2,h3⟩
 ·exact .inl h
 ·exact .inr ⟨h1,h2,hpq h3⟩
def inS(f:SF):Prop:=f.2.1.length<=maxLen/\f.2.2.1.length<=maxLen/\f.2.2.2.1.length<=maxLen/\f.2.2.2.2.1.length<=maxLen/\(∀y∈f.2.2.2.2.1,y.length<=maxLen)/\f.2.2.2.2.2.1.length<=maxLen/\f.2.2.2.2.2.2.length<=maxLen/\∀y∈f.2.2.2.2.2.2,y.length<=maxLen
def wC(c:Cat):Nat:=c.2.1.length+c.2.2.1.length+c.2.2.2.1.length+wI c.2.2.2.2
def wS(f:SF):Nat:=wC (shS f)+(szF f).length+wI (acF f)
theorem p117w{c:Cat}{b:Int}(hb:0<=b/\b<=1048576)(h1:c.2.1.length<=maxLen)(h2:c.2.2.1.length<=maxLen)(h3:c.2.2.2.1.length<=maxLen)(h4:c.2.2.2.2.length<=maxLen)(h5: ∀y∈c.2.2.2.2,y.length<=maxLen):
  ∃r,G117 (c,b)=some r/\SzB r b (wC c) (okC c):=by
 obtain⟨r1,e1,f1⟩:=ZL (b:=b) hb h1;by_cases n1:r1<0
 ·exact⟨-1,Aa e1 (Aj (dT n1) rfl),.inl (by decide)⟩
 obtain⟨r2,e2,f2⟩:=ZL (b:=r1) (NR hb.2 f1 n1) h2;by_cases n2:r2<0
 ·exact⟨-1,Aa e1 (Ae (dF n1) (Aa e2 (Aj (dT n2) rfl))),.inl (by decide)⟩
 have g2:=NS f1 n1 f2 n2;obtain⟨r3,e3,f3⟩:=ZL (b:=r2) (NR hb.2 g2 n2) h3;by_cases n3:r3<0
 ·exact⟨-1,Aa e1 (Ae (dF n1) (Aa e2 (Ae (dF n2) (Aa e3 (Aj (dT n3) rfl))))),.inl (by decide)⟩
 have g3:=NS g2 n2 f3 n3;obtain⟨r4,e4,f4⟩:=ZP (b:=r3) (NR hb.2 g3 n3) h4 h5;by_cases n4:r4<0
 ·exact⟨-1,Aa e1 (Ae (dF n1) (Aa e2 (Ae (dF n2) (Aa e3 (Ae (dF n3) (Aa e4 (Aj (dT n4) rfl))))))),.inl (by decide)⟩
 have g4:=NS g3 n3 f4 n4;exact⟨r4,Aa e1 (Ae (dF n1) (Aa e2 (Ae (dF n2) (Aa e3 (Ae (dF n3) (Aa e4 (Ae (dF n4) rfl))))))),Lb g4 rfl fun h=>⟨h.1.1.1,h.1.1.2,h.1.2,h.2.1,h.2.2⟩⟩
theorem p89{f:SF}{b:Int}(hb:0<=b/\b<=1048576)(h:inS f): ∃r,G89 (f,b)=some r/\SzB r b (wS f) (okS f):=by
 obtain⟨h1,h2,h3,h4,h5,h6,h7,h8⟩:=h;obtain⟨r1,e1,f1⟩:=p117w (c:=shS f) hb h1 h2 h3 h4 h5;by_cases n1:r1<0
 ·exact⟨-1,Aa e1 (Aj (dT n1) rfl),.inl (by decide)⟩
 obtain⟨r2,e2,f2⟩:=ZL (b:=r1) (NR hb.2 f1 n1) h6;by_cases n2:r2<0
 ·exact⟨-1,Aa e1 (Ae (dF n1) (Aa e2 (Aj (dT n2) rfl))),.inl (by decide)⟩
 have g2:=NS f1 n1 f2 n2;obtain⟨r3,e3,f3⟩:=ZP (b:=r2) (NR hb.2 g2 n2) h7 h8;by_cases n3:r3<0
 ·exact⟨-1,Aa e1 (Ae (dF n1) (Aa e2 (Ae (dF n2) (Aa e3 (Aj (dT n3) rfl))))),.inl (by decide)⟩
 exact⟨r3,Aa e1 (Ae (dF n1) (Aa e2 (Ae (dF n2) (Aa e3 (Ae (dF n3) rfl))))),Lb (NS g2 n2 f3 n3) rfl fun h=>⟨h.1.1,h.1.2,h.2.1,h.2.2⟩⟩
def wSs(x:List SF):Nat:=x.length+(x.map wS).sum
theorem p48{x:List SF}{b:Int}(hb:0<=b/\b<=1048576)(hx:x.length<=maxLen)(h: ∀f∈x,inS f): ∃r,G48 (x,b)=some r/\SzB r b (wSs x) (∀f∈x,okS f):=
 Xx (g:=G89) (d:=sf0) (w:=wS) hb hx fun f hf c hc=>p89 hc (h f hf)
def inR(r:Rl):Prop:=r.1.length<=maxLen/\r.2.length<=maxLen/\∀y∈r.2,y.length<=maxLen
def wR(r:Rl):Nat:=r.1.length+wI r.2
theorem p90{r:Rl}{b:Int}(hb:0<=b/\b<=1048576)(h:inR r): ∃v,G90 (r,b)=some v/\SzB v b (wR r) (okR r):=by
 obtain⟨h1,h2,h3⟩:=h;obtain⟨r1,e1,f1⟩:=ZL (b:=b) hb h1;by_cases n1:r1<0
 ·exact⟨-1,Aa e1 (Aj (dT n1) rfl),.inl (by decide)⟩
 obtain⟨r2,e2,f2⟩:=ZP (b:=r1) (NR hb.2 f1 n1) h2 h3;by_cases n2:r2<0
 ·exact⟨-1,Aa e1 (Ae (dF n1) (Aa e2 (Aj (dT n2) rfl))),.inl (by decide)⟩
 exact⟨r2,Aa e1 (Ae (dF n1) (Aa e2 (Ae (dF n2) rfl))),Lb (NS f1 n1 f2 n2) rfl fun h=>⟨h.1,h.2.1,h.2.2⟩⟩
def wRs(x:List Rl):Nat:=x.length+(x.map wR).sum
theorem p49{x:List Rl}{b:Int}(hb:0<=b/\b<=1048576)(hx:x.length<=maxLen)(h: ∀f∈x,inR f): ∃r,G49 (x,b)=some r/\SzB r b (wRs x) (∀f∈x,okR f):=
 Xx (g:=G90) (d:=rl0) (w:=wR) hb hx fun f hf c hc=>p90 hc (h f hf)
def inSt(s:St):Prop:=s.1.length<=maxLen/\(∀f∈s.1,inS f)/\s.2.length<=maxLen/\∀r∈s.2,inR r
def wSt(s:St):Nat:=wSs s.1+wRs s.2
theorem p11{s:St}{b:Int}(hb:0<=b/\b<=1048576)(h:inSt s): ∃r,G11 (s,b)=some r/\SzB r b (wSt s) (Mb s/\wSt s<=1048576):=by
 obtain⟨h1,h2,h3,h4⟩:=h;obtain⟨r1,e1,f1⟩:=p48 (b:=b) hb h1 h2;by_cases n1:r1<0
 ·exact⟨-1,Aa e1 (Aj (dT n1) rfl),.inl (by decide)⟩
 obtain⟨r2,e2,f2⟩:=p49 (b:=r1) (NR hb.2 f1 n1) h3 h4;by_cases n2:r2<0
 ·exact⟨-1,Aa e1 (Ae (dF n1) (Aa e2 (Aj (dT n2) rfl))),.inl (by decide)⟩
 refine⟨r2,Aa e1 (Ae (dF n1) (Aa e2 (Ae (dF n2) rfl))),?_⟩;obtain⟨a1,a2,a3,a4⟩:=(NS f1 n1 f2 n2).resolve_left n2;have hw:wSt s<=1048576:=by
  show wSs s.1+wRs s.2<=1048576;omega
 have hw1:s.1.length<=wSs s.1:=Nat.le_add_right _ _;have hw2:s.2.length<=wRs s.2:=Nat.le_add_right _ _;have hw':wSs s.1+wRs s.2<=1048576:=hw;exact .inr ⟨a1,a2,⟨by omega,by omega,a3,a4⟩,hw⟩
theorem p50{k:Nd}{b:Int}(hb:0<=b/\b<=1048576)(h:k.2.2.length<=maxLen): ∃v,G50 (k,b)=some v/\SzB v b k.2.2.length (k.2.2.length<=1048576):=by
 obtain⟨r1,e1,f1⟩:=ZL (b:=b) hb h;by_cases n1:r1<0
 ·exact⟨-1,Aa e1 (Aj (dT n1) rfl),.inl (by decide)⟩
 exact⟨r1,Aa e1 (Ae (dF n1) rfl),f1⟩
def wF(x:Fl):Nat:=x.length+(x.map fun k=>k.2.2.length).sum
theorem p12{x:Fl}{b:Int}(hb:0<=b/\b<=1048576)(hx:x.length<=maxLen)(h: ∀k∈x,k.2.2.length<=maxLen): ∃r,G12 (x,b)=some r/\SzB r b (wF x) (DI x/\wF x<=1048576):=by
 obtain⟨r,e,f⟩:=Xx (g:=G50) (d:=nd0) (w:=fun k=>k.2.2.length) (ok:=fun k=>k.2.2.length<=1048576) hb hx fun k hk c hc=>p50 hc (h k hk)
 refine⟨r,e,?_⟩;rcases f with f|⟨f1,f2,f3⟩
 ·exact .inl f
 ·have f2:r+((wF x:Nat):Int)<=b:=f2
  have hw:x.length<=wF x:=Nat.le_add_right _ _;exact .inr ⟨f1,f2,⟨by omega,f3⟩,by omega⟩
theorem C1{α:Type}{d:α}{l:List α}{i:Nat}{v:α}(h:i<l.length):(l.set i v).getD i d=v:=by
 rw [gDE,List.getElem?_set_self h];rfl
theorem Aaw{n m:Nat}(h:n<=1048576)(hm:m<=200):(0:Int)<=((n:Nat):Int)/\(((n:Nat):Int)<=((n:Nat):Int)/\(((m:Nat):Int)*((n:Nat):Int)<=(281474976710656:Int)/\((n:Nat):Int)<=(9223372036854775807:Int))):=by
 have h2:m*n<=200*1048576:=Nat.mul_le_mul hm h;have:((m:Nat):Int)*((n:Nat):Int)=((m*n:Nat):Int):=by rw [Int.natCast_mul]
 rw [this];omega
theorem cpL{α R:Type}{d:α}{x:List α}{F:Int×List α->Option (LO (Int×List α) R)}{id:Nat}(h1: ∀i,i<x.length->∀l:List α,l.length=x.length->F ((i:Int),l)=some (.next (((i+1:Nat):Int),l.set i (x.getD i d))))
  (h2: ∀l,F ((x.length:Int),l)=some (.brk id ((x.length:Int),l))):Ai F ((0:Int),List.replicate x.length d)=some (.brk id ((x.length:Int),x)):=by
 have e0:((0:Int),List.replicate x.length d)=(((0:Nat):Int),x.take 0++(List.replicate x.length d).drop 0):=by simp
 rw [e0];refine Az (st:=fun i:Nat=>((i:Int),x.take i++(List.replicate x.length d).drop i)) (n:=x.length) (fun i hi=>?_) ?_ (fun y=>by simp)
 ·have hl:(x.take i++(List.replicate x.length d).drop i).length=x.length:=by simp;omega
  rw [h1 i hi _ hl,KZ d (by simp) hi]
 ·rw [h2]
  simp
theorem p99{f:SF}(h:okS f):G99 f=some f:=by
 unfold G99;have e1:G124 (f.1,(f.2.1,(f.2.2.1,(f.2.2.2.1,f.2.2.2.2.1))))=some (shS f):=p124 h.1;have e2:G15 f.2.2.2.2.2.1=some f.2.2.2.2.2.1:=p15 h.2.1;have e3:G125 f.2.2.2.2.2.2=some f.2.2.2.2.2.2:=p125 h.2.2.1 h.2.2.2;simp only [e1,e2,e3,Option.bind_some];rfl
theorem p54{x:List SF}(h:x.length<=1048576)(hx: ∀f∈x,okS f):G54 x=some x:=by
 refine Ao (Aaw (m:=152) h (by decide)) ?_
 refine Aa (cpL (d:=sf0) (id:=0) (fun i hi l hl=>?_) (fun l=>Ae Bk rfl)) rfl
 have hli:i<l.length:=by omega
 refine Aj (C8 hi) (Ao (Ab hi) (Aa (v:=x.getD i sf0) (p99 (hx _ (AK sf0 hi))) (Ao (Ab hli) ?_)));have gs: ∀v:SF,(l.set i v).getD i sf0=v:=fun v=>C1 hli
 simp only [Option.bind_some,List.set_set,tNC,gs];exact nx1 (wrS (by omega))
theorem p100{r:Rl}(h:okR r):G100 r=some r:=Aa (p15 h.1) (Aa (p125 h.2.1 h.2.2) rfl)
theorem p55{x:List Rl}(h:x.length<=1048576)(hx: ∀f∈x,okR f):G55 x=some x:=by
 refine Ao (Aaw (m:=48) h (by decide)) ?_
 refine Aa (cpL (d:=rl0) (id:=0) (fun i hi l hl=>?_) (fun l=>Ae Bk rfl)) rfl
 have hli:i<l.length:=by omega
 refine Aj (C8 hi) (Ao (Ab hi) (Aa (v:=x.getD i rl0) (p100 (hx _ (AK rl0 hi))) (Ao (Ab hli) ?_)));have gs: ∀v:Rl,(l.set i v).getD i rl0=v:=fun v=>C1 hli
 simp only [List.set_set,tNC,gs];exact nx1 (wrS (by omega))
theorem p14{s:St}(h:Mb s):G14 s=some s:=Aa (p54 h.1 h.2.2.1) (Aa (p55 h.2.1 h.2.2.2) rfl)
theorem p56{k:Nd}(h:k.2.2.length<=1048576):G56 k=some k:=Aa (p15 h) rfl
theorem p16{x:Fl}(h:DI x):G16 x=some x:=by
 refine Ao (Aaw (m:=40) h.1 (by decide)) ?_
 have hx1:=h.1;refine Aa (cpL (d:=nd0) (id:=0) (fun i hi l hl=>?_) (fun l=>Ae Bk rfl)) rfl
 have hli:i<l.length:=by omega
 refine Aj (C8 hi) (Ao (Ab hi) (Aa (v:=x.getD i nd0) (p56 (h.2 _ (AK nd0 hi))) (Ao (Ab hli) ?_)));have gs: ∀v:Nd,(l.set i v).getD i nd0=v:=fun v=>C1 hli
 simp only [Option.bind_some,List.set_set,tNC,gs];exact nx1 (wrS (by omega))
theorem eqG{α:Type}{x:List α}{F:Int->Option (LO Int Bool)}(h:x.length<=1048576)(h1: ∀i,i<x.length->F (i:Int)=some (.next ((i+1:Nat):Int)))(h2:F (x.length:Int)=some (.brk 0 (x.length:Int))):
  (bif(!decide (((x.length:Nat):Int)=((x.length:Nat):Int)))then some false else Option.bind (Ai F (0:Int)) (LO.fin fun i0 (v0:Int)=>(if i0=0 then(some true)else none)))=some true:=by
 refine Ae (by simp) (Aa (Az (st:=fun i:Nat=>(i:Int)) (n:=x.length) h1 h2 (fun y=>by simp)) rfl)
theorem p102{f:SF}(h:okS f):G102 (f,f)=some true:=by
 unfold G102;have e1:G126 ((f.1,(f.2.1,(f.2.2.1,(f.2.2.2.1,f.2.2.2.2.1)))),(f.1,(f.2.1,(f.2.2.1,(f.2.2.2.1,f.2.2.2.2.1)))))=some true:=p126 h.1;have e2:G20 (f.2.2.2.2.2.1,f.2.2.2.2.2.1)=some true:=p20 h.2.1;have e3:G18 (f.2.2.2.2.2.2,f.2.2.2.2.2.2)=some true:=p18 h.2.2.1 h.2.2.2;simp only [e1,e2,e3,Option.bind_some,Bool.not_true,cond_false]
theorem p59{x:List SF}(h:x.length<=1048576)(hx: ∀f∈x,okS f):G59 (x,x)=some true:=
 eqG (x:=x) h (fun i hi=>Aj (C8 hi) (Ao (Ab hi) (Ao (Ab hi) (Aa (p102 (hx _ (AK sf0 hi))) (Ae rfl (nx0 (wrS (by omega)))))))) (Ae Bk rfl)
theorem p38{r:Rl}(h:okR r):G38 (r,r)=some true:=Aa (p20 h.1) (Ae rfl (Aa (p18 h.2.1 h.2.2) rfl))
theorem p60{x:List Rl}(h:x.length<=1048576)(hx: ∀f∈x,okR f):G60 (x,x)=some true:=
 eqG (x:=x) h (fun i hi=>Aj (C8 hi) (Ao (Ab hi) (Ao (Ab hi) (Aa (p38 (hx _ (AK rl0 hi))) (Ae rfl (nx0 (wrS (by omega)))))))) (Ae Bk rfl)
theorem p19{s:St}(h:Mb s):G19 (s,s)=some true:=Aa (p59 h.1 h.2.2.1) (Ae rfl (Aa (p60 h.2.1 h.2.2.2) rfl))
theorem p61{k:Nd}(h:k.2.2.length<=1048576):G61 (k,k)=some true:=Ae (by simp) (Ae (by simp) (Aa (p20 h) rfl))
theorem p21{x:Fl}(h:DI x):G21 (x,x)=some true:=by
 have hx1:=h.1;exact eqG (x:=x) h.1 (fun i hi=>Aj (C8 hi) (Ao (Ab hi) (Ao (Ab hi) (Aa (p61 (h.2 _ (AK nd0 hi))) (Ae rfl (nx0 (wrS (by omega)))))))) (Ae Bk rfl)
end
end Go.Ve.D


namespace Go.Ve.D
open Go Go.Ve
noncomputable section
theorem okT_in{s:St}{G:List Int}{x:Fl}(h:okT (PT S3.ps) (s,(G,x))):inSt s/\G.length<=maxLen/\x.length<=maxLen/\∀k∈x,k.2.2.length<=maxLen:=by
 obtain⟨⟨⟨a1,a2⟩,b1,b2⟩,⟨g1,_⟩,x1,x2⟩:=h;refine⟨⟨a1,fun f hf=>?_,b1,fun r hr=>?_⟩,g1,x1,fun k hk=>?_⟩
 ·obtain⟨_,h1,h2,h3,h4,h6,h7⟩:=a2 f hf
  exact⟨h1.1,h2.1,h3.1,h4.1,fun y hy=>(h4.2 y hy).1,h6.1,h7.1,fun y hy=>(h7.2 y hy).1⟩
 ·obtain⟨h1,h2⟩:=b2 r hr
  exact⟨h1.1,h2.1,fun y hy=>(h2.2 y hy).1⟩
 ·obtain⟨_,_,h3⟩:=x2 k hk
  exact h3.1
end
end Go.Ve.D

