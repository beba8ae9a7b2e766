/- Formula values: the marked numbers; the two sides agree. -/
import Derived.Test.YtbbhfpbalccohaaGreatFeh
namespace Go.Ve.D
open Go Go.Ve
noncomputable section
def mkd(r:List Bool):List Int:=((List.range r.length).filter fun i=>r.getD i false).map fun(i:Nat)=>(i:Int)
theorem Aaa{r:List Bool}:(mkd r).length<=r.length:=fm_len
def lst(v:List (List Bool)):List (List Int):=(List.range v.length).map fun i=>mkd (v.getD i [])
theorem Aae{v:List (List Bool)}:(lst v).length=v.length:=by simp [lst]
theorem p101{r:List Bool}(h:r.length<=1048576):G101 r=some (mkd r):=by
 refine Aa (Y0 (n:=r.length) (q:=fun i=>r.getD i false) (g:=fun(i:Nat)=>(i:Int)) (id:=0) (fun i hi acc ha=>?_) (fun acc=>Ad A1 rfl)) rfl
 refine Aj (Cn hi) (Am (Ab hi) ?_);show(bif r.getD i false then _ else _)=_;cases r.getD i false with
 |true=>exact Am (Q2 (a:=acc) (by omega)) (nx1 (wrS (by omega)))
 |false=>exact nx1 (wrS (by omega))
theorem p58{v:List (List Bool)}(h:v.length<=1048576)(hv: ∀r∈v,r.length<=1048576):G58 v=some (lst v):=by
 refine Aa (Jp (n:=v.length) (g:=fun i=>mkd (v.getD i [])) (id:=0) (fun i hi acc ha=>?_) (fun acc=>Ad A1 rfl)) rfl
 exact Aj (Cn hi) (Am (Ab hi) (Aa (p101 (hv _ (As [] hi))) (Am trivial (Am (Q2 (a:=acc) (by omega)) (nx1 (wrS (by omega)))))))
theorem p52{v:List (List Bool)}(h:v.length<=1048576)(hv: ∀r∈v,r.length<=1048576):G52 v=some (lst v):=by
 refine Aa (Jp (n:=v.length) (g:=fun i=>mkd (v.getD i [])) (id:=0) (fun i hi acc ha=>?_) (fun acc=>Ad A1 rfl)) rfl
 have hr:=hv _ (As [] hi);refine Aj (Cn hi) (Aa (v:=.brk 2 (((v.getD i []).length:Int),mkd (v.getD i []))) (Y0 (n:=(v.getD i []).length) (q:=fun j=>(v.getD i []).getD j false) (g:=fun(j:Nat)=>(j:Int)) (id:=2) (fun j hj acc' ha'=>?_) (fun acc'=>Am (Ab hi) (Ad A1 rfl))) ?_)
 ·refine Am (Ab hi) (Aj (Cn hj) (Am (Ab hi) (Am (Ab hj) ?_)))
  show(bif(v.getD i []).getD j false then _ else _)=_;cases (v.getD i []).getD j false with
  |true=>exact Am (Q2 (a:=acc') (by omega)) (nx1 (wrS (by omega)))
  |false=>exact nx1 (wrS (by omega))
 ·exact Am rfl (Am trivial (Am (Q2 (a:=acc) (by omega)) (nx1 (wrS (by omega)))))
theorem PD{S:List SF}{G:List Int}(hs:SK S)(hc:CK S G)(f:Nat->Nat->Bool):(mkV S G f).length<=8/\∀r∈mkV S G f,r.length<=65536:=by
 refine⟨by rw [BA];exact hs.ob.2,fun r hr=>?_⟩
 unfold mkV at hr;obtain⟨x,hx,rfl⟩:=List.mem_map.1 hr;rw [ZL];exact C9 hs hc (List.mem_range.1 hx)
theorem p58V{S:List SF}{G:List Int}(hs:SK S)(hc:CK S G)(f:Nat->Nat->Bool):G58 (mkV S G f)=some (lst (mkV S G f)):=by
 obtain⟨h1,h2⟩:=PD hs hc f;exact p58 (by omega) fun r hr=>by have:=h2 r hr;omega
theorem p52V{S:List SF}{G:List Int}(hs:SK S)(hc:CK S G)(f:Nat->Nat->Bool):G52 (mkV S G f)=some (lst (mkV S G f)):=by
 obtain⟨h1,h2⟩:=PD hs hc f;exact p52 (by omega) fun r hr=>by have:=h2 r hr;omega
def okL(p:List (List Int)):Prop:=p.length<=1048576/\∀y∈p,y.length<=1048576
theorem lst_ok{S:List SF}{G:List Int}(hs:SK S)(hc:CK S G)(f:Nat->Nat->Bool):okL (lst (mkV S G f)):=by
 obtain⟨h1,h2⟩:=PD hs hc f;refine⟨by rw [Aae];omega,fun y hy=>?_⟩
 unfold lst at hy;obtain⟨i,hi,rfl⟩:=List.mem_map.1 hy;have:=Aaa (r:=(mkV S G f).getD i []);have:=h2 _ (As [] (List.mem_range.1 hi));omega
structure CdK(s:St)(G:List Int)(x:Fl):Prop where
 st:StK s
 fm:Dc x=true
 ck:CK s.1 G
 ty:tyF s G x=true
theorem Wu{s:St}{G:List Int}{x:Fl}(h:DI s G x=0):CdK s G x:=by
 unfold DI at h;cases h0:decide (cxC s G x=0)with
 |false=>
  rw [h0]at h;exact absurd h (of_decide_eq_false h0)
 |true=>
  obtain⟨h1,h2,h3⟩:=AaJ h0;rw [h0]at h;cases h4:tyF s G x with
  |false=>rw [h4]at h;cases h
  |true=>exact⟨Ks h1,h2,KJ h3,h4⟩
theorem JJ.rr{s:St}(h:JJ s): ∀r∈s.2,okR r:=h.2.2.2
theorem p57{S:List SF}{R:List Rl}{G:List Int}{x:Fl}(h:JJ (S,R))(hG:G.length<=1048576)(hx:C8 x):
  G57 ((S,R),(G,x))=some (bif decide (DI (S,R) G x=0)then(mkV S G (vlF (S,R) G x),0)else([],DI (S,R) G x)):=by
 have hL: ∀y∈ [x],C8 y:=fun y hy=>by rw [List.mem_singleton.1 hy];exact hx
 have e68:=p68 (S:=S) (R:=R) (L:=[x]) h hG (by show 1<=_;omega) hL
 have hall:(List.range [x].length).all (fun i=>Dc ([x].getD i []))=Dc x:=Bool.and_true _
 have e1:(bif !L2 (S,R)then 1 else bif Dc x then(bif Ij S G then 0 else 2)else 1)=cxC (S,R) G x:=by
  unfold cxC;cases L2 (S,R)<;>cases Dc x<;>cases Ij S G<;>rfl
 rw [hall,e1]at e68;refine Aa e68 ?_;unfold DI;cases h0:decide (cxC (S,R) G x=0)with
 |false=>
  simp only [Bool.not_false,cond_true,h0,cond_false]
 |true=>
 obtain⟨h1,h2,h3⟩:=AaJ h0;have hk:=Ks h1;have hc:=KJ h3;simp only [Bool.not_true,cond_false];have hF: ∀y∈ [x],Dc y=true:=fun y hy=>by rw [List.mem_singleton.1 hy];exact h2
 have e72:=p72 hk hc (L:=[x]) (by show 1<=_;omega) hL hF
 have ht:(List.range [x].length).all (fun i=>tyF (S,R) G ([x].getD i []))=tyF (S,R) G x:=Bool.and_true _
 have hf:(List.range [x].length).all (fun i=>ftF (S,R) G ([x].getD i []))=ftF (S,R) G x:=Bool.and_true _
 rw [ht,hf]at e72;refine Aa e72 ?_;cases h4:tyF (S,R) G x with
 |false=>rfl
 |true=>
 cases h5:ftF (S,R) G x with
 |false=>rfl
 |true=>exact Aa (p74 hk.sk) (Aa (p73 hk h.rr hx h2 hc h4) rfl)
def fvR(s:St)(G:List Int)(x:Fl):List (List Int)×Int:=bif decide (DI s G x=0)then(lst (mkV s.1 G (vlF s G x)),0)else([],DI s G x)
theorem p17{S:List SF}{R:List Rl}{G:List Int}{x:Fl}(h:JJ (S,R))(hG:G.length<=1048576)(hx:C8 x):G17 ((S,R),(G,x))=some (fvR (S,R) G x):=by
 refine Aa (p57 h hG hx) ?_;unfold fvR;cases h0:decide (DI (S,R) G x=0)with
 |false=>simp only [cond_false,h0,Bool.not_false,cond_true]
 |true=>
  have k:=Wu (of_decide_eq_true h0);exact Aa (p58V k.st.sk k.ck _) rfl
theorem p13{S:List SF}{R:List Rl}{G:List Int}{x:Fl}(h:JJ (S,R))(hG:G.length<=1048576)(hx:C8 x):G13 ((S,R),(G,x))=some (fvR (S,R) G x):=by
 refine Aa (p51 h hG hx) ?_;unfold fvR;cases h0:decide (DI (S,R) G x=0)with
 |false=>simp only [cond_false,h0,Bool.not_false,cond_true]
 |true=>
  have k:=Wu (of_decide_eq_true h0);exact Aa (p53 k.st h.rr hx k.fm k.ck k.ty) (Aa (p52V k.st.sk k.ck _) rfl)
theorem fvR_ok{s:St}{G:List Int}{x:Fl}:okL (fvR s G x).1:=by
 unfold fvR;cases h0:decide (DI s G x=0)with
 |false=>exact⟨Nat.zero_le _,fun y hy=>by cases hy⟩
 |true=>
  have k:=Wu (of_decide_eq_true h0);exact lst_ok k.st.sk k.ck _
end
end Go.Ve.D


namespace Go.Ve.D
open Go Go.Ve
noncomputable section
theorem p33{x:List Int}{k:Int}(h0:0<=k)(h1:k<=1152921504606846976)(h:x.length<=1048576):G33 (mk x k,k)=some (k+(x.length:Int)):=by
 unfold G33;have hst:((k,(0:Int)):Int×Int)=(fun i:Nat=>(k+(i:Int),(i:Int))) 0:=by simp
 simp only [hst];refine Aa (v:=.brk 0 (k+(x.length:Int),(x.length:Int))) (Ax (st:=fun i:Nat=>(k+(i:Int),(i:Int))) (n:=x.length) (fun i hi=>?_) ?_ (fun y=>by simp)) rfl
 ·simp only [Jc,Ak,hi,decide_true,cond_true,Ab hi,if_true,tNC,and_self,YT hi,Bool.not_true,cond_false]
  rw [Bx (by omega) (by omega),Ap (by omega) (by omega)]
  simp only [Int.natCast_add,Int.add_assoc];rfl
 ·simp only [Jc,Ak,Nat.lt_irrefl,decide_false,cond_false]
theorem p26{x:List (List Int)}{k:Int}(h0:0<=k)(h1:k<=1125899906842624)(h:x.length<=1048576)(hx: ∀y∈x,y.length<=1048576):G26 (mks x k,k)=some (k+(tot x x.length:Int)):=by
 unfold G26;have hst:((k,(0:Int)):Int×Int)=(fun i:Nat=>(k+(tot x i:Int),(i:Int))) 0:=by simp [tot]
 simp only [hst];refine Aa (v:=.brk 0 (k+(tot x x.length:Int),(x.length:Int))) (Ax (st:=fun i:Nat=>(k+(tot x i:Int),(i:Int))) (n:=x.length) (fun i hi=>?_) ?_ (fun y=>by simp)) rfl
 ·have ht:=O4 hx i (Nat.le_of_lt hi)
  have hr:=hx _ (As [] hi);have m: ¬ (k+(tot x i:Int)+((x.getD i []).length:Int)<0):=by omega
  simp only [C2,Ak,hi,decide_true,cond_true,Ab hi,if_true,tNC,and_self,VP hi,p33 (x:=x.getD i []) (k:=k+(tot x i:Int)) (by omega) (by omega) hr,Option.bind_some,m,decide_false,cond_false]
  rw [Ap (by omega) (by omega),K7 hi]
  simp only [Int.natCast_add,Int.add_assoc];rfl
 ·simp only [C2,Ak,Nat.lt_irrefl,decide_false,cond_false]
theorem mh26{p:List (List Int)}(hp:okL p): ∃k y,G25 (p,1)=some (k,y)/\0<=k/\G26 (y,1)=some k:=
 ⟨_,_,p25 (by omega) (by omega) hp.1 hp.2,by omega,p26 (by omega) (by omega) hp.1 hp.2⟩
def wI(x:List (List Int)):Nat:=x.length+(x.map List.length).sum
def sw{α:Type}(w:α->Nat)(x:List α)(i:Nat):Nat:=((x.take i).map w).sum
theorem UZ{α:Type}{w:α->Nat}{d:α}{x:List α}{i:Nat}(hi:i<x.length):sw w x (i+1)=sw w x i+w (x.getD i d):=by
 unfold sw;rw [<-Ha d hi];simp
theorem U0{α:Type}{w:α->Nat}{x:List α}:sw w x x.length=(x.map w).sum:=by
 unfold sw;rw [List.take_length]
def SzB(r b:Int)(n:Nat)(ok:Prop):Prop:=r<0\/(0<=r/\r+(n:Int)<=b/\ok)
theorem VE{α:Type}{g:α×Int->Option Int}{d:α}{w:α->Nat}{x:List α}{b:Int}{ok:α->Prop}(hb:0<=b/\b<=1048576)(hx:x.length<=maxLen)(hg: ∀y∈x,∀c:Int,0<=c/\c<=1048576->∃r,g (y,c)=some r/\SzB r c (w y) (ok y)):
  ∃r,szG g d x b=some r/\SzB r b (x.length+(x.map w).sum) (∀y∈x,ok y):=by
 rw [VR]at hx;have ew:IntKind.wrap .i64 (b-(x.length:Int))=b-x.length:=Bx (by omega) (by omega)
 by_cases n0:b-(x.length:Int)<0
 ·exact⟨-1,Aj (by rw [ew];exact dT n0) rfl,.inl (by decide)⟩
 ·obtain⟨o,ho,hq⟩:=Mq (R:=Int) (f:=fun(v0:(Int×Int))=>(bif(decide (v0.2<((x.length:Nat):Int)))then(if(((0:Int)<=v0.2)/\(v0.2<((x.length:Nat):Int)))then(Option.bind (g ((x.getD (v0.2).toNat d),v0.1)) (fun(v1:Int)=>(bif(decide (v1<(0:Int)))then(AM (some (-(1:Int))))else(some (LO.next (v1,(IntKind.wrap .i64 (v0.2+(1:Int)))))))))else none)else(some (LO.brk 0 (v0.1,v0.2)))))
   (I:=fun i s=>s.2=(i:Int)/\0<=s.1/\s.1+(x.length:Int)+(sw w x i:Int)<=b/\∀k,k<i->ok (x.getD k d)) (Q:=fun o=>(o= .ret (-1))\/∃c:Int,o= .brk 0 (c,(x.length:Int))/\0<=c/\c+(x.length:Int)+(sw w x x.length:Int)<=b/\∀k,k<x.length->ok (x.getD k d)) (n:=x.length) (x:=(b-(x.length:Int),0))
   ⟨rfl,by show 0<=b-(x.length:Int);omega,by show b-(x.length:Int)+(x.length:Int)+((0:Nat):Int)<=b;omega,fun k hk=>by omega⟩
   (fun i hi s hs=>by
    obtain⟨c,j⟩:=s;obtain⟨h1,h2,h3,h4⟩:=hs;have h1:j=(i:Int):=h1;subst h1;have h2:0<=c:=h2;have h3:c+(x.length:Int)+(sw w x i:Int)<=b:=h3;obtain⟨r,er,hr⟩:=hg _ (As d hi) c (by omega)
    by_cases nr:r<0
    ·exact .inr ⟨.ret (-1),Aj (Cn hi) (Am (Ab hi) (Aa er (Aj (dT nr) rfl))),(fun y=>by simp),.inl rfl⟩
    ·obtain⟨r0,r1,r2⟩:=hr.resolve_left nr
     refine .inl ⟨(r,((i+1:Nat):Int)),Aj (Cn hi) (Am (Ab hi) (Aa er (Ad (dF nr) ?_))),rfl,r0,?_,fun k hk=>?_⟩
     ·show some (LO.next (r,IntKind.wrap .i64 ((i:Int)+1)))=_
      rw [wrS (by omega)]
     ·show r+(x.length:Int)+(sw w x (i+1):Int)<=b
      rw [UZ (d:=d) hi];omega
     ·by_cases e:k=i
      ·subst e;exact r2
      ·exact h4 k (by omega))
   (fun s hs=>by
    obtain⟨c,j⟩:=s;obtain⟨h1,h2,h3,h4⟩:=hs;have h1:j=(x.length:Int):=h1;subst h1;exact⟨_,Ad A1 rfl,(fun y=>by simp),.inr ⟨c,rfl,h2,h3,h4⟩⟩)
  rw [<-ew]at ho;rcases hq with rfl|⟨c,rfl,c0,c1,hk⟩
  ·exact⟨-1,Ad (by rw [ew];exact dF n0) (Aa ho rfl),.inl (by decide)⟩
  ·rw [U0]at c1
   refine⟨c,Ad (by rw [ew];exact dF n0) (Aa ho rfl),.inr ⟨c0,by omega,fun y hy=>?_⟩⟩
   obtain⟨k,hk1,rfl⟩:=List.getElem_of_mem hy;have:=hk k hk1;rwa [gDE,gEE hk1]at this
theorem ZY{x:List Int}{b:Int}(hb:0<=b/\b<=1048576)(hx:x.length<=maxLen): ∃r,G91 (x,b)=some r/\SzB r b x.length (x.length<=1048576):=by
 obtain⟨r,e,h⟩:=p91 hb hx;refine⟨r,e,?_⟩;rcases h with h|h
 ·exact .inl h
 ·exact .inr ⟨h.2,by omega,by omega⟩
theorem Z2{x:List (List Int)}{b:Int}(hb:0<=b/\b<=1048576)(hx:x.length<=maxLen)(hy: ∀y∈x,y.length<=maxLen): ∃r,G118 (x,b)=some r/\SzB r b (wI x) (okL x):=by
 obtain⟨r,e,h⟩:=VE (g:=G91) (d:=[]) (w:=List.length) (ok:=fun y=>y.length<=1048576) hb hx (fun y hy' c hc=>ZY hc (hy y hy'))
 refine⟨r,e,?_⟩;rcases h with h|⟨h1,h2,h3⟩
 ·exact .inl h
 ·exact .inr ⟨h1,h2,by omega,h3⟩
theorem N0{r1 r2 b:Int}{n m:Nat}{p q:Prop}(h1:SzB r1 b n p)(n1: ¬r1<0)(h2:SzB r2 r1 m q)(n2: ¬r2<0):SzB r2 b (n+m) (p/\q):=by
 obtain⟨a1,a2,a3⟩:=h1.resolve_left n1;obtain⟨b1,b2,b3⟩:=h2.resolve_left n2;exact .inr ⟨b1,by omega,a3,b3⟩
theorem NZ{r b:Int}{n:Nat}{p:Prop}(hb:b<=1048576)(h:SzB r b n p)(n1: ¬r<0):0<=r/\r<=1048576:=by
 obtain⟨a1,a2,a3⟩:=h.resolve_left n1;omega
theorem Iw{r b:Int}{n m:Nat}{p q:Prop}(h:SzB r b n p)(e:n=m)(hpq:p->q):SzB r b m q:=by
 subst e;rcases h with h|⟨h1,h2,h3⟩
 ·exact .inl h
 ·exact .inr ⟨h1,h2,hpq h3⟩
def inS(f:SF):Prop:=f.2.1.length<=maxLen/\f.2.2.1.length<=maxLen/\f.2.2.2.1.length<=maxLen/\f.2.2.2.2.1.length<=maxLen/\(∀y∈f.2.2.2.2.1,y.length<=maxLen)/\f.2.2.2.2.2.1.length<=maxLen/\f.2.2.2.2.2.2.length<=maxLen/\∀y∈f.2.2.2.2.2.2,y.length<=maxLen
def wC(c:Cat):Nat:=c.2.1.length+c.2.2.1.length+c.2.2.2.1.length+wI c.2.2.2.2
def wS(f:SF):Nat:=wC (shS f)+(szF f).length+wI (acF f)
theorem p117w{c:Cat}{b:Int}(hb:0<=b/\b<=1048576)(h1:c.2.1.length<=maxLen)(h2:c.2.2.1.length<=maxLen)(h3:c.2.2.2.1.length<=maxLen)(h4:c.2.2.2.2.length<=maxLen)(h5: ∀y∈c.2.2.2.2,y.length<=maxLen):
  ∃r,G117 (c,b)=some r/\SzB r b (wC c) (okC c):=by
 obtain⟨r1,e1,f1⟩:=ZY (b:=b) hb h1;by_cases n1:r1<0
 ·exact⟨-1,Aa e1 (Aj (dT n1) rfl),.inl (by decide)⟩
 obtain⟨r2,e2,f2⟩:=ZY (b:=r1) (NZ hb.2 f1 n1) h2;by_cases n2:r2<0
 ·exact⟨-1,Aa e1 (Ad (dF n1) (Aa e2 (Aj (dT n2) rfl))),.inl (by decide)⟩
 have g2:=N0 f1 n1 f2 n2;obtain⟨r3,e3,f3⟩:=ZY (b:=r2) (NZ hb.2 g2 n2) h3;by_cases n3:r3<0
 ·exact⟨-1,Aa e1 (Ad (dF n1) (Aa e2 (Ad (dF n2) (Aa e3 (Aj (dT n3) rfl))))),.inl (by decide)⟩
 have g3:=N0 g2 n2 f3 n3;obtain⟨r4,e4,f4⟩:=Z2 (b:=r3) (NZ hb.2 g3 n3) h4 h5;by_cases n4:r4<0
 ·exact⟨-1,Aa e1 (Ad (dF n1) (Aa e2 (Ad (dF n2) (Aa e3 (Ad (dF n3) (Aa e4 (Aj (dT n4) rfl))))))),.inl (by decide)⟩
 have g4:=N0 g3 n3 f4 n4;exact⟨r4,Aa e1 (Ad (dF n1) (Aa e2 (Ad (dF n2) (Aa e3 (Ad (dF n3) (Aa e4 (Ad (dF n4) rfl))))))),Iw g4 rfl fun h=>⟨h.1.1.1,h.1.1.2,h.1.2,h.2.1,h.2.2⟩⟩
theorem p89{f:SF}{b:Int}(hb:0<=b/\b<=1048576)(h:inS f): ∃r,G89 (f,b)=some r/\SzB r b (wS f) (okS f):=by
 obtain⟨h1,h2,h3,h4,h5,h6,h7,h8⟩:=h;obtain⟨r1,e1,f1⟩:=p117w (c:=shS f) hb h1 h2 h3 h4 h5;by_cases n1:r1<0
 ·exact⟨-1,Aa e1 (Aj (dT n1) rfl),.inl (by decide)⟩
 obtain⟨r2,e2,f2⟩:=ZY (b:=r1) (NZ hb.2 f1 n1) h6;by_cases n2:r2<0
 ·exact⟨-1,Aa e1 (Ad (dF n1) (Aa e2 (Aj (dT n2) rfl))),.inl (by decide)⟩
 have g2:=N0 f1 n1 f2 n2;obtain⟨r3,e3,f3⟩:=Z2 (b:=r2) (NZ hb.2 g2 n2) h7 h8;by_cases n3:r3<0
 ·exact⟨-1,Aa e1 (Ad (dF n1) (Aa e2 (Ad (dF n2) (Aa e3 (Aj (dT n3) rfl))))),.inl (by decide)⟩
 exact⟨r3,Aa e1 (Ad (dF n1) (Aa e2 (Ad (dF n2) (Aa e3 (Ad (dF n3) rfl))))),Iw (N0 g2 n2 f3 n3) rfl fun h=>⟨h.1.1,h.1.2,h.2.1,h.2.2⟩⟩
def wSs(x:List SF):Nat:=x.length+(x.map wS).sum
theorem p48{x:List SF}{b:Int}(hb:0<=b/\b<=1048576)(hx:x.length<=maxLen)(h: ∀f∈x,inS f): ∃r,G48 (x,b)=some r/\SzB r b (wSs x) (∀f∈x,okS f):=
 VE (g:=G89) (d:=sf0) (w:=wS) hb hx fun f hf c hc=>p89 hc (h f hf)
def inR(r:Rl):Prop:=r.1.length<=maxLen/\r.2.length<=maxLen/\∀y∈r.2,y.length<=maxLen
def wR(r:Rl):Nat:=r.1.length+wI r.2
theorem p90{r:Rl}{b:Int}(hb:0<=b/\b<=1048576)(h:inR r): ∃v,G90 (r,b)=some v/\SzB v b (wR r) (okR r):=by
 obtain⟨h1,h2,h3⟩:=h;obtain⟨r1,e1,f1⟩:=ZY (b:=b) hb h1;by_cases n1:r1<0
 ·exact⟨-1,Aa e1 (Aj (dT n1) rfl),.inl (by decide)⟩
 obtain⟨r2,e2,f2⟩:=Z2 (b:=r1) (NZ hb.2 f1 n1) h2 h3;by_cases n2:r2<0
 ·exact⟨-1,Aa e1 (Ad (dF n1) (Aa e2 (Aj (dT n2) rfl))),.inl (by decide)⟩
 exact⟨r2,Aa e1 (Ad (dF n1) (Aa e2 (Ad (dF n2) rfl))),Iw (N0 f1 n1 f2 n2) rfl fun h=>⟨h.1,h.2.1,h.2.2⟩⟩
def wRs(x:List Rl):Nat:=x.length+(x.map wR).sum
theorem p49{x:List Rl}{b:Int}(hb:0<=b/\b<=1048576)(hx:x.length<=maxLen)(h: ∀f∈x,inR f): ∃r,G49 (x,b)=some r/\SzB r b (wRs x) (∀f∈x,okR f):=
 VE (g:=G90) (d:=rl0) (w:=wR) hb hx fun f hf c hc=>p90 hc (h f hf)
def inSt(s:St):Prop:=s.1.length<=maxLen/\(∀f∈s.1,inS f)/\s.2.length<=maxLen/\∀r∈s.2,inR r
def wSt(s:St):Nat:=wSs s.1+wRs s.2
theorem p11{s:St}{b:Int}(hb:0<=b/\b<=1048576)(h:inSt s): ∃r,G11 (s,b)=some r/\SzB r b (wSt s) (JJ s/\wSt s<=1048576):=by
 obtain⟨h1,h2,h3,h4⟩:=h;obtain⟨r1,e1,f1⟩:=p48 (b:=b) hb h1 h2;by_cases n1:r1<0
 ·exact⟨-1,Aa e1 (Aj (dT n1) rfl),.inl (by decide)⟩
 obtain⟨r2,e2,f2⟩:=p49 (b:=r1) (NZ hb.2 f1 n1) h3 h4;by_cases n2:r2<0
 ·exact⟨-1,Aa e1 (Ad (dF n1) (Aa e2 (Aj (dT n2) rfl))),.inl (by decide)⟩
 refine⟨r2,Aa e1 (Ad (dF n1) (Aa e2 (Ad (dF n2) rfl))),?_⟩;obtain⟨a1,a2,a3,a4⟩:=(N0 f1 n1 f2 n2).resolve_left n2;have hw:wSt s<=1048576:=by
  show wSs s.1+wRs s.2<=1048576;omega
 have hw1:s.1.length<=wSs s.1:=Nat.le_add_right _ _;have hw2:s.2.length<=wRs s.2:=Nat.le_add_right _ _;have hw':wSs s.1+wRs s.2<=1048576:=hw;exact .inr ⟨a1,a2,⟨by omega,by omega,a3,a4⟩,hw⟩
theorem p50{k:Nd}{b:Int}(hb:0<=b/\b<=1048576)(h:k.2.2.length<=maxLen): ∃v,G50 (k,b)=some v/\SzB v b k.2.2.length (k.2.2.length<=1048576):=by
 obtain⟨r1,e1,f1⟩:=ZY (b:=b) hb h;by_cases n1:r1<0
 ·exact⟨-1,Aa e1 (Aj (dT n1) rfl),.inl (by decide)⟩
 exact⟨r1,Aa e1 (Ad (dF n1) rfl),f1⟩
def wF(x:Fl):Nat:=x.length+(x.map fun k=>k.2.2.length).sum
theorem p12{x:Fl}{b:Int}(hb:0<=b/\b<=1048576)(hx:x.length<=maxLen)(h: ∀k∈x,k.2.2.length<=maxLen): ∃r,G12 (x,b)=some r/\SzB r b (wF x) (C8 x/\wF x<=1048576):=by
 obtain⟨r,e,f⟩:=VE (g:=G50) (d:=nd0) (w:=fun k=>k.2.2.length) (ok:=fun k=>k.2.2.length<=1048576) hb hx fun k hk c hc=>p50 hc (h k hk)
 refine⟨r,e,?_⟩;rcases f with f|⟨f1,f2,f3⟩
 ·exact .inl f
 ·have f2:r+((wF x:Nat):Int)<=b:=f2
  have hw:x.length<=wF x:=Nat.le_add_right _ _;exact .inr ⟨f1,f2,⟨by omega,f3⟩,by omega⟩
theorem Bn{α:Type}{d:α}{l:List α}{i:Nat}{v:α}(h:i<l.length):(l.set i v).getD i d=v:=by
 rw [gDE,List.getElem?_set_self h];rfl
theorem Yk{n m:Nat}(h:n<=1048576)(hm:m<=200):(0:Int)<=((n:Nat):Int)/\(((n:Nat):Int)<=((n:Nat):Int)/\(((m:Nat):Int)*((n:Nat):Int)<=(281474976710656:Int)/\((n:Nat):Int)<=(9223372036854775807:Int))):=by
 have h2:m*n<=200*1048576:=Nat.mul_le_mul hm h;have:((m:Nat):Int)*((n:Nat):Int)=((m*n:Nat):Int):=by rw [Int.natCast_mul]
 rw [this];omega
theorem cpL{α R:Type}{d:α}{x:List α}{F:Int×List α->Option (LO (Int×List α) R)}{id:Nat}(h1: ∀i,i<x.length->∀l:List α,l.length=x.length->F ((i:Int),l)=some (.next (((i+1:Nat):Int),l.set i (x.getD i d))))
  (h2: ∀l,F ((x.length:Int),l)=some (.brk id ((x.length:Int),l))):Ag F ((0:Int),List.replicate x.length d)=some (.brk id ((x.length:Int),x)):=by
 have e0:((0:Int),List.replicate x.length d)=(((0:Nat):Int),x.take 0++(List.replicate x.length d).drop 0):=by simp
 rw [e0];refine Ax (st:=fun i:Nat=>((i:Int),x.take i++(List.replicate x.length d).drop i)) (n:=x.length) (fun i hi=>?_) ?_ (fun y=>by simp)
 ·have hl:(x.take i++(List.replicate x.length d).drop i).length=x.length:=by simp;omega
  rw [h1 i hi _ hl,Hb d (by simp) hi]
 ·rw [h2]
  simp
theorem p99{f:SF}(h:okS f):G99 f=some f:=by
 unfold G99;have e1:G124 (f.1,(f.2.1,(f.2.2.1,(f.2.2.2.1,f.2.2.2.2.1))))=some (shS f):=p124 h.1;have e2:G15 f.2.2.2.2.2.1=some f.2.2.2.2.2.1:=p15 h.2.1;have e3:G125 f.2.2.2.2.2.2=some f.2.2.2.2.2.2:=p125 h.2.2.1 h.2.2.2;simp only [e1,e2,e3,Option.bind_some];rfl
theorem p54{x:List SF}(h:x.length<=1048576)(hx: ∀f∈x,okS f):G54 x=some x:=by
 refine Am (Yk (m:=152) h (by decide)) ?_
 refine Aa (cpL (d:=sf0) (id:=0) (fun i hi l hl=>?_) (fun l=>Ad A1 rfl)) rfl
 have hli:i<l.length:=by omega
 refine Aj (Cn hi) (Am (Ab hi) (Aa (v:=x.getD i sf0) (p99 (hx _ (As sf0 hi))) (Am (Ab hli) ?_)));have gs: ∀v:SF,(l.set i v).getD i sf0=v:=fun v=>Bn hli
 simp only [Option.bind_some,List.set_set,tNC,gs];exact nx1 (wrS (by omega))
theorem p100{r:Rl}(h:okR r):G100 r=some r:=Aa (p15 h.1) (Aa (p125 h.2.1 h.2.2) rfl)
theorem p55{x:List Rl}(h:x.length<=1048576)(hx: ∀f∈x,okR f):G55 x=some x:=by
 refine Am (Yk (m:=48) h (by decide)) ?_
 refine Aa (cpL (d:=rl0) (id:=0) (fun i hi l hl=>?_) (fun l=>Ad A1 rfl)) rfl
 have hli:i<l.length:=by omega
 refine Aj (Cn hi) (Am (Ab hi) (Aa (v:=x.getD i rl0) (p100 (hx _ (As rl0 hi))) (Am (Ab hli) ?_)));have gs: ∀v:Rl,(l.set i v).getD i rl0=v:=fun v=>Bn hli
 simp only [List.set_set,tNC,gs];exact nx1 (wrS (by omega))
theorem p14{s:St}(h:JJ s):G14 s=some s:=Aa (p54 h.1 h.2.2.1) (Aa (p55 h.2.1 h.2.2.2) rfl)
theorem p56{k:Nd}(h:k.2.2.length<=1048576):G56 k=some k:=Aa (p15 h) rfl
theorem p16{x:Fl}(h:C8 x):G16 x=some x:=by
 refine Am (Yk (m:=40) h.1 (by decide)) ?_
 have hx1:=h.1;refine Aa (cpL (d:=nd0) (id:=0) (fun i hi l hl=>?_) (fun l=>Ad A1 rfl)) rfl
 have hli:i<l.length:=by omega
 refine Aj (Cn hi) (Am (Ab hi) (Aa (v:=x.getD i nd0) (p56 (h.2 _ (As nd0 hi))) (Am (Ab hli) ?_)));have gs: ∀v:Nd,(l.set i v).getD i nd0=v:=fun v=>Bn hli
 simp only [Option.bind_some,List.set_set,tNC,gs];exact nx1 (wrS (by omega))
theorem eqG{α:Type}{x:List α}{F:Int->Option (LO Int Bool)}(h:x.length<=1048576)(h1: ∀i,i<x.length->F (i:Int)=some (.next ((i+1:Nat):Int)))(h2:F (x.length:Int)=some (.brk 0 (x.length:Int))):
  (bif(!decide (((x.length:Nat):Int)=((x.length:Nat):Int)))then some false else Option.bind (Ag F (0:Int)) (LO.fin fun i0 (v0:Int)=>(if i0=0 then(some true)else none)))=some true:=by
 refine Ad (by simp) (Aa (Ax (st:=fun i:Nat=>(i:Int)) (n:=x.length) h1 h2 (fun y=>by simp)) rfl)
theorem p102{f:SF}(h:okS f):G102 (f,f)=some true:=by
 unfold G102;have e1:G126 ((f.1,(f.2.1,(f.2.2.1,(f.2.2.2.1,f.2.2.2.2.1)))),(f.1,(f.2.1,(f.2.2.1,(f.2.2.2.1,f.2.2.2.2.1)))))=some true:=p126 h.1;have e2:G20 (f.2.2.2.2.2.1,f.2.2.2.2.2.1)=some true:=p20 h.2.1;have e3:G18 (f.2.2.2.2.2.2,f.2.2.2.2.2.2)=some true:=p18 h.2.2.1 h.2.2.2;simp only [e1,e2,e3,Option.bind_some,Bool.not_true,cond_false]
theorem p59{x:List SF}(h:x.length<=1048576)(hx: ∀f∈x,okS f):G59 (x,x)=some true:=
 eqG (x:=x) h (fun i hi=>Aj (Cn hi) (Am (Ab hi) (Am (Ab hi) (Aa (p102 (hx _ (As sf0 hi))) (Ad rfl (nx0 (wrS (by omega)))))))) (Ad A1 rfl)
theorem p38{r:Rl}(h:okR r):G38 (r,r)=some true:=Aa (p20 h.1) (Ad rfl (Aa (p18 h.2.1 h.2.2) rfl))
theorem p60{x:List Rl}(h:x.length<=1048576)(hx: ∀f∈x,okR f):G60 (x,x)=some true:=
 eqG (x:=x) h (fun i hi=>Aj (Cn hi) (Am (Ab hi) (Am (Ab hi) (Aa (p38 (hx _ (As rl0 hi))) (Ad rfl (nx0 (wrS (by omega)))))))) (Ad A1 rfl)
theorem p19{s:St}(h:JJ s):G19 (s,s)=some true:=Aa (p59 h.1 h.2.2.1) (Ad rfl (Aa (p60 h.2.1 h.2.2.2) rfl))
theorem p61{k:Nd}(h:k.2.2.length<=1048576):G61 (k,k)=some true:=Ad (by simp) (Ad (by simp) (Aa (p20 h) rfl))
theorem p21{x:Fl}(h:C8 x):G21 (x,x)=some true:=by
 have hx1:=h.1;exact eqG (x:=x) h.1 (fun i hi=>Aj (Cn hi) (Am (Ab hi) (Am (Ab hi) (Aa (p61 (h.2 _ (As nd0 hi))) (Ad rfl (nx0 (wrS (by omega)))))))) (Ad A1 rfl)
end
end Go.Ve.D


namespace Go.Ve.D
open Go Go.Ve
noncomputable section
theorem Aad{x:List Int}{k:Int}(h0:0<=k)(h1:k<=1125899906842624)(h:x.length<=1048576): ∃k' y,G23 (x,k)=some (k',y)/\0<=k'/\k'=k+x.length:=
 ⟨_,_,p23 h0 (by omega) h,by omega,rfl⟩
theorem mk25{x:List (List Int)}{k:Int}(h0:0<=k)(h1:k<=1125899906842624)(h:okL x): ∃k' y,G25 (x,k)=some (k',y)/\0<=k'/\k'<=k+(wI x:Int):=by
 refine⟨_,_,p25 h0 h1 h.1 h.2,by omega,?_⟩
 have:tot x x.length=(x.map List.length).sum:=by
  unfold tot;rw [List.take_length]
 unfold wI;omega
theorem mkLp{α R:Type}{d:α}{w:α->Nat}{x:List α}{F:Int×Int×List α->Option (LO (Int×Int×List α) R)}{id:Nat}{k:Int}(h0:0<=k)(hk:k+((x.map w).sum:Int)<=1099511627776)
  (h1: ∀i,i<x.length->∀ (l:List α) (c:Int),l.length=x.length->l.getD i d=x.getD i d->0<=c->c<=1099511627776->∃c' v,F (c,((i:Int),l))=some (.next (c',(((i+1:Nat):Int),l.set i v)))/\0<=c'/\c'<=c+(w (x.getD i d):Int))
  (h2: ∀c l,l.length=x.length->F (c,((x.length:Int),l))=some (.brk id (c,((x.length:Int),l)))):
  ∃c l,Ag F (k,((0:Int),x))=some (.brk id (c,((x.length:Int),l)))/\0<=c/\c<=k+((x.map w).sum:Int):=by
 have hmono: ∀i,i<=x.length->sw w x i<=(x.map w).sum:=fun i _=>by
  rw [<-U0];unfold sw
  conv=>rhs;rw [List.take_length,<-List.take_append_drop i x,List.map_append,List.sum_append]
  omega
 obtain⟨o,ho,hq⟩:=Mq (f:=F) (x:=(k,((0:Int),x))) (I:=fun i s=>s.2.1=(i:Int)/\0<=s.1/\s.1<=k+(sw w x i:Int)/\s.2.2.length=x.length/\∀e,i<=e->e<x.length->s.2.2.getD e d=x.getD e d)
  (Q:=fun o=>∃c l,o= .brk id (c,((x.length:Int),l))/\0<=c/\c<=k+((x.map w).sum:Int)) (n:=x.length)
  ⟨rfl,h0,by show k<=k+((0:Nat):Int);omega,rfl,fun e _ _=>rfl⟩
  (fun i hi s hs=>by
   obtain⟨c,j,l⟩:=s;obtain⟨a1,a2,a3,a4,a5⟩:=hs;have a1:j=(i:Int):=a1;subst a1;have a3:c<=k+(sw w x i:Int):=a3;have hm:=hmono i (by omega)
   obtain⟨c',v,e,b1,b2⟩:=h1 i hi l c a4 (a5 i (Nat.le_refl _) hi) a2 (by omega)
   refine .inl ⟨_,e,rfl,b1,?_,by show(l.set i v).length=_;rw [List.length_set];exact a4,fun e he hel=>?_⟩
   ·show c'<=k+(sw w x (i+1):Int)
    rw [UZ (d:=d) hi];omega
   ·show(l.set i v).getD e d=_
    rw [gDE,List.getElem?_set_ne (by omega),<-gDE]
    exact a5 e (by omega) hel)
  (fun s hs=>by
   obtain⟨c,j,l⟩:=s;obtain⟨a1,a2,a3,a4,a5⟩:=hs;have a1:j=(x.length:Int):=a1;subst a1;have a3:c<=k+(sw w x x.length:Int):=a3;rw [U0]at a3;exact⟨_,h2 c l a4,(fun y=>by simp),c,l,rfl,a2,a3⟩)
 obtain⟨c,l,rfl,h⟩:=hq;exact⟨c,l,ho,h⟩
theorem mk62{x:List SF}{k:Int}(h0:0<=k)(hx: ∀f∈x,okS f)(hk:k+(wSs x:Int)<=1099511627776): ∃c y,G62 (x,k)=some (c,y)/\0<=c/\c<=k+(wSs x:Int):=by
 have hws:(x.map fun f=>1+wS f).sum=wSs x:=by
  unfold wSs;clear hk hx
  induction x with
  |nil=>rfl
  |cons a x ih=>
   simp only [List.map_cons,List.sum_cons,List.length_cons]at ih⊢;omega
 have hlp: ∃c l,Ag G62F (k,((0:Int),x))=some (.brk 0 (c,((x.length:Int),l)))/\0<=c/\c<=k+(((x.map fun f=>1+wS f).sum:Nat):Int):=by
  refine mkLp (d:=sf0) (w:=fun f=>1+wS f) (x:=x) (k:=k) (id:=0) (R:=Int×List SF) (F:=G62F) h0 (by rw [hws];exact hk) (fun i hi l c hl hli hc0 hc1=>?_) (fun c l hl=>?_)
  ·obtain⟨f,hf⟩: ∃f:SF,f=x.getD i sf0:=⟨_,rfl⟩
   rw [<-hf]at hli⊢;obtain⟨⟨q1,q2,q3,q4,q5⟩,q6,q7,q8⟩:=hx _ (As sf0 hi);rw [<-hf]at q1 q2 q3 q4 q5 q6 q7 q8;have q1:f.2.1.length<=1048576:=q1;have q2:f.2.2.1.length<=1048576:=q2;have q3:f.2.2.2.1.length<=1048576:=q3;have q6:f.2.2.2.2.2.1.length<=1048576:=q6;have hil:i<l.length:=by omega
   have gs: ∀v:SF,(l.set i v).getD i sf0=v:=fun v=>Bn hil
   have hli':l.getD i sf0=f:=hli;have ew:IntKind.wrap .i64 (c+1)=c+1:=Bx (by omega) (by omega)
   obtain⟨k1,y1,e1,a1,b1⟩:=Aad (x:=f.2.1) (k:=c+1) (by omega) (by omega) q1
   obtain⟨k2,y2,e2,a2,b2⟩:=Aad (x:=f.2.2.1) (k:=k1) a1 (by omega) q2
   obtain⟨k3,y3,e3,a3,b3⟩:=Aad (x:=f.2.2.2.1) (k:=k2) a2 (by omega) q3
   have wl: ∀z:List (List Int),okL z->(wI z:Int)<=1099512676352+1048576:=fun z hz=>by
    have ht:=O4 hz.2 z.length (Nat.le_refl _)
    have:tot z z.length=(z.map List.length).sum:=by
     unfold tot;rw [List.take_length]
    have h1:=hz.1;have:z.length*1048576<=1048576*1048576:=Nat.mul_le_mul_right _ h1;unfold wI;omega
   have w4:=wl _ (show okL f.2.2.2.2.1 from⟨q4,q5⟩)
   have w7:=wl _ (show okL f.2.2.2.2.2.2 from⟨q7,q8⟩)
   obtain⟨k4,y4,e4,a4,b4⟩:=mk25 (x:=f.2.2.2.2.1) (k:=k3) a3 (by omega) ⟨q4,q5⟩
   obtain⟨k5,y5,e5,a5,b5⟩:=Aad (x:=f.2.2.2.2.2.1) (k:=k4) a4 (by omega) q6
   obtain⟨k6,y6,e6,a6,b6⟩:=mk25 (x:=f.2.2.2.2.2.2) (k:=k5) a5 (by omega) ⟨q7,q8⟩
   refine⟨k6,(c,(y1,(y2,(y3,(y4,(y5,y6)))))),?_,a6,?_⟩
   ·unfold G62F
    simp only [hl,Ak,hi,decide_true,cond_true,Ab hi,and_self,if_true,tNC,Option.bind_some,hli',gs,ew,e1,e2,e3,e4,e5,e6,List.set_set,List.length_set,wrS (show i<9223372036854775807 by have hxl:x.length<=wSs x:=Nat.le_add_right _ _;omega)]
   ·show k6<=c+((1+wS f:Nat):Int)
    have ewS:wS f=f.2.1.length+f.2.2.1.length+f.2.2.2.1.length+wI f.2.2.2.2.1+f.2.2.2.2.2.1.length+wI f.2.2.2.2.2.2:=rfl;rw [ewS];omega
  ·unfold G62F
   simp only [hl,Ak,Nat.lt_irrefl,decide_false,cond_false]
 obtain⟨c,l,e,h1,h2⟩:=hlp;exact⟨c,l,Aa e rfl,h1,by rw [hws]at h2;exact h2⟩
theorem mk63{x:List Rl}{k:Int}(h0:0<=k)(hx: ∀f∈x,okR f)(hk:k+(wRs x:Int)<=1099511627776): ∃c y,G63 (x,k)=some (c,y)/\0<=c/\c<=k+(wRs x:Int):=by
 have hwl:(x.map wR).sum<=wRs x:=Nat.le_add_left _ _
 have hlp: ∃c l,Ag G63F (k,((0:Int),x))=some (.brk 0 (c,((x.length:Int),l)))/\0<=c/\c<=k+(((x.map wR).sum:Nat):Int):=by
  refine mkLp (d:=rl0) (w:=wR) (x:=x) (k:=k) (id:=0) (R:=Int×List Rl) (F:=G63F) h0 (by omega) (fun i hi l c hl hli hc0 hc1=>?_) (fun c l hl=>?_)
  ·obtain⟨f,hf⟩: ∃f:Rl,f=x.getD i rl0:=⟨_,rfl⟩
   rw [<-hf]at hli⊢;obtain⟨q1,q2,q3⟩:=hx _ (As rl0 hi);rw [<-hf]at q1 q2 q3;have hil:i<l.length:=by omega
   have gs: ∀v:Rl,(l.set i v).getD i rl0=v:=fun v=>Bn hil
   have hli':l.getD i rl0=f:=hli;obtain⟨k1,y1,e1,a1,b1⟩:=Aad (x:=f.1) (k:=c) hc0 (by omega) q1
   obtain⟨k2,y2,e2,a2,b2⟩:=mk25 (x:=f.2) (k:=k1) a1 (by omega) ⟨q2,q3⟩
   refine⟨k2,(y1,y2),?_,a2,?_⟩
   ·unfold G63F
    simp only [hl,Ak,hi,decide_true,cond_true,Ab hi,and_self,if_true,tNC,Option.bind_some,hli',gs,e1,e2,List.set_set,List.length_set,wrS (show i<9223372036854775807 by have:=hk;have:x.length<=wRs x:=Nat.le_add_right _ _;omega)]
   ·show k2<=c+((f.1.length+wI f.2:Nat):Int)
    omega
  ·unfold G63F
   simp only [hl,Ak,Nat.lt_irrefl,decide_false,cond_false]
 obtain⟨c,l,e,h1,h2⟩:=hlp;exact⟨c,l,Aa e rfl,h1,by omega⟩
theorem mk22{s:St}{k:Int}(h0:0<=k)(h:JJ s)(hk:k+(wSt s:Int)<=1099511627776): ∃c y,G22 (s,k)=some (c,y)/\0<=c/\c<=k+(wSt s:Int):=by
 have hw:wSt s=wSs s.1+wRs s.2:=rfl;obtain⟨c1,y1,e1,a1,b1⟩:=mk62 (x:=s.1) (k:=k) h0 h.2.2.1 (by omega)
 obtain⟨c2,y2,e2,a2,b2⟩:=mk63 (x:=s.2) (k:=c1) a1 h.2.2.2 (by omega)
 exact⟨c2,(y1,y2),Aa e1 (Aa e2 rfl),a2,by omega⟩
theorem mk24{x:Fl}{k:Int}(h0:0<=k)(hx:C8 x)(hk:k+2*(wF x:Int)<=1099511627776): ∃c y,G24 (x,k)=some (c,y)/\0<=c/\c<=k+2*(wF x:Int):=by
 have hx1:=hx.1
 have hws:((x.map fun k=>2+k.2.2.length).sum:Nat)<=2*wF x:=by
  unfold wF;clear hk hx hx1
  induction x with
  |nil=>exact Nat.le_refl _
  |cons a x ih=>
   simp only [List.map_cons,List.sum_cons,List.length_cons]at ih⊢;omega
 have hlp: ∃c l,Ag G24F (k,((0:Int),x))=some (.brk 0 (c,((x.length:Int),l)))/\0<=c/\c<=k+(((x.map fun k=>2+k.2.2.length).sum:Nat):Int):=by
  refine mkLp (d:=nd0) (w:=fun k=>2+k.2.2.length) (x:=x) (k:=k) (id:=0) (R:=Int×List Nd) (F:=G24F) h0 (by omega) (fun i hi l c hl hli hc0 hc1=>?_) (fun c l hl=>?_)
  ·obtain⟨f,hf⟩: ∃f:Nd,f=x.getD i nd0:=⟨_,rfl⟩
   rw [<-hf]at hli⊢;have q1:=hx.2 _ (As nd0 hi);rw [<-hf]at q1;have hil:i<l.length:=by omega
   have gs: ∀v:Nd,(l.set i v).getD i nd0=v:=fun v=>Bn hil
   have hli':l.getD i nd0=f:=hli;have ew:IntKind.wrap .i64 (c+1)=c+1:=Bx (by omega) (by omega)
   have ew2:IntKind.wrap .i64 (c+1+1)=c+1+1:=Bx (by omega) (by omega)
   obtain⟨k1,y1,e1,a1,b1⟩:=Aad (x:=f.2.2) (k:=c+1+1) (by omega) (by omega) q1
   refine⟨k1,(c,(c+1,y1)),?_,a1,?_⟩
   ·unfold G24F
    simp only [hl,Ak,hi,decide_true,cond_true,Ab hi,and_self,if_true,tNC,Option.bind_some,hli',gs,ew,ew2,e1,List.set_set,List.length_set,wrS (show i<9223372036854775807 by omega)]
   ·show k1<=c+((2+f.2.2.length:Nat):Int)
    omega
  ·unfold G24F
   simp only [hl,Ak,Nat.lt_irrefl,decide_false,cond_false]
 obtain⟨c,l,e,h1,h2⟩:=hlp;exact⟨c,l,Aa e rfl,h1,by omega⟩
theorem YP{s:St}{G:List Int}{x:Fl}(h:okT (PT S3.ps) (s,(G,x))):inSt s/\G.length<=maxLen/\x.length<=maxLen/\∀k∈x,k.2.2.length<=maxLen:=by
 obtain⟨⟨⟨a1,a2⟩,b1,b2⟩,⟨g1,_⟩,x1,x2⟩:=h;refine⟨⟨a1,fun f hf=>?_,b1,fun r hr=>?_⟩,g1,x1,fun k hk=>?_⟩
 ·obtain⟨_,h1,h2,h3,h4,h6,h7⟩:=a2 f hf
  exact⟨h1.1,h2.1,h3.1,h4.1,fun y hy=>(h4.2 y hy).1,h6.1,h7.1,fun y hy=>(h7.2 y hy).1⟩
 ·obtain⟨h1,h2⟩:=b2 r hr
  exact⟨h1.1,h2.1,fun y hy=>(h2.2 y hy).1⟩
 ·obtain⟨_,_,h3⟩:=x2 k hk
  exact h3.1
theorem p3b{s:St}{G:List Int}{x:Fl}{r0 r1:Int}(hG:G.length<=1048576)(e0:G11 (s,1048576)=some r0)(n0: ¬r0<0)(e1:G12 (x,r0)=some r1)(n1: ¬r1<0)(hs:JJ s)(hw:wSt s<=1048576)(hx:C8 x)(hwx:wF x<=1048576):
  G3 (s,(G,x))=some true:=by
 obtain⟨S,R⟩:=s;have e14:=p14 hs;have e15:=p15 hG;have e16:=p16 hx;have e13:=p13 hs hG hx;have e17:=p17 hs hG hx;have hr:=fvR_ok (s:=(S,R)) (G:=G) (x:=x);generalize fvR (S,R) G x=r at*;obtain⟨k1,y1,e22,a1,b1⟩:=mk22 (s:=(S,R)) (k:=1) (by omega) hs (by omega)
 obtain⟨k2,y2,e23,a2,b2⟩:=Aad (x:=G) (k:=k1) a1 (by omega) hG
 obtain⟨k3,y3,e24,a3,b3⟩:=mk24 (x:=x) (k:=k2) a2 hx (by omega)
 obtain⟨k,y,e25,a4,e26⟩:=mh26 hr;have m1: ¬ (k3<0):=by omega
 have m2: ¬ (k<0):=by omega
 have g18:=p18 hr.1 hr.2;have g19:=p19 hs;have g20:=p20 hG;have g21:=p21 hx;have nG: ¬ ((1048576:Int)<(G.length:Int)):=by omega
 unfold G3;simp only [Prod.eta,nG,e0,n0,e1,n1,decide_false,cond_false,e14,e15,e16,e13,e17,g18,g19,g20,g21,e22,e23,e24,e25,e26,m1,m2,Option.bind_some,Bool.not_true,decide_true,cond_true]
theorem p3(z:St×List Int×Fl)(h:okT (PT S3.ps) z):G3 z=some true:=by
 obtain⟨s,G,x⟩:=z;obtain⟨h1,h2,h3,h4⟩:=YP h;by_cases nG:(1048576:Int)<(G.length:Int)
 ·unfold G3
  simp only [nG,decide_true,cond_true]
 obtain⟨r0,e0,f0⟩:=p11 (s:=s) (b:=1048576) (by omega) h1
 by_cases n0:r0<0
 ·unfold G3
  simp only [Prod.eta,nG,decide_false,cond_false,e0,n0,Option.bind_some,decide_true,cond_true]
 obtain⟨c1,c2,c3,c4⟩:=f0.resolve_left n0;obtain⟨r1,e1,f1⟩:=p12 (x:=x) (b:=r0) ⟨c1,by omega⟩ h3 h4
 by_cases n1:r1<0
 ·unfold G3
  simp only [Prod.eta,nG,decide_false,cond_false,e0,n0,e1,n1,Option.bind_some,decide_true,cond_true]
 obtain⟨d1,d2,d3,d4⟩:=f1.resolve_left n1;exact p3b (by omega) e0 n0 e1 n1 c3 c4 d3 d4
end
end Go.Ve.D

