/- Validity, failures, truth: both sides agree. -/
import Derived.Test.YtbbhfpbalccohaaGreatFek
import Derived.Test.YtbbhfpbalccohaaGreatUr7
namespace Go.Ve.D
open Go Go.Ve
noncomputable section
def Oc{R:Type}(o:Option R)(e:LO Int R):LO Int R:=match o with
 |some r=>.ret r
 |none=>e
theorem It{R:Type}{F:Int->Option (LO Int R)}{n:Nat}{p:Nat->Option R}{id:Nat}(h1: ∀i,i<n->F (i:Int)=some (Oc (p i) (.next ((i+1:Nat):Int))))
  (h2:F (n:Int)=some (.brk id (n:Int))):Am F (0:Int)=some (Oc ((List.range n).findSome? p) (.brk id (n:Int))):=by
 have key: ∀k i,i+k=n->Am F (i:Int)=some (Oc ((List.range' i k).findSome? p) (.brk id (n:Int))):=by
  intro k
  induction k with
  |zero=>
   intro i hi;obtain rfl:i=n:=by omega
   exact Je h2
  |succ k ih=>
   intro i hi;rw [List.range'_succ,List.findSome?_cons];have e:=h1 i (by omega)
   cases hp:p i with
   |some r=>
    rw [hp]at e;exact Jd e
   |none=>
    rw [hp]at e;exact Jc e (ih (i+1) (by omega))
 rw [List.range_eq_range'];exact key n 0 (by omega)
def NU(r:List Bool):Option Nat:=(List.range r.length).findSome? fun n=>bif r.getD n false then none else some n
def Hz(v:List (List Bool)):Option (Nat×Nat):=(List.range v.length).findSome? fun x=>(NU (v.getD x [])).map fun(n:Nat)=>(x,n)
theorem B6{α β:Type}{p:Nat->Option α}{g:α->β}: ∀l:List Nat,l.findSome? (fun i=>(p i).map g)=(l.findSome? p).map g
 | []=>rfl
 |a::l=>by
  rw [List.findSome?_cons,List.findSome?_cons];cases p a with
  |some y=>rfl
  |none=>exact B6 l
theorem p76{v:List (List Bool)}(hv:v.length<=1048576)(hr: ∀r∈v,r.length<=1048576):G76 v=some (match Hz v with|some (x,n)=>((x:Int),((n:Int),true))|none=>((0:Int),((0:Int),false))):=by
 have e:=It (R:=Int×Int×Bool) (n:=v.length) (p:=fun x=>(NU (v.getD x [])).map fun(n:Nat)=>((x:Int),((n:Int),true))) (id:=0) (F:=fun(v0:Int)=>(bif(decide (v0<((v.length:Nat):Int)))then(if(((0:Int)<=v0)/\(v0<((v.length:Nat):Int)))then(Option.bind (Am (fun(v1:Int)=>(bif(decide (v1<(((v.getD (v0).toNat ([]:(List Bool))).length:Nat):Int)))then(if(((0:Int)<=v1)/\(v1<(((v.getD (v0).toNat ([]:(List Bool))).length:Nat):Int)))then(bif(!((v.getD (v0).toNat ([]:(List Bool))).getD (v1).toNat false))then(AV (AV (some (v0,(v1,true)))))else(some (LO.next (IntKind.wrap .i64 (v1+(1:Int))))))else none)else(some (LO.brk 2 v1)))) (0:Int)) (LO.fin fun i1 (v1:Int)=>(if i1=2 then(some (LO.next (IntKind.wrap .i64 (v0+(1:Int)))))else none)))else none)else(some (LO.brk 0 v0))))
  (fun x hx=>?_) (Ai Bq rfl)
 ·refine Aa e ?_
  have em:(List.range v.length).findSome? (fun x=>(NU (v.getD x [])).map fun(n:Nat)=>((x:Int),((n:Int),true)))=(Hz v).map fun p=>((p.1:Int),((p.2:Int),true)):=by
   unfold Hz;rw [<-B6]
   congr 1
   funext x
   cases NU (v.getD x [])<;>rfl
  rw [em];cases Hz v with
  |none=>rfl
  |some p=>rfl
 ·have hl:=hr _ (AS [] hx)
  refine An (De hx) (Ay (Ac hx) ?_);refine Aa (It (n:=(v.getD x []).length) (p:=fun n=>bif(v.getD x []).getD n false then none else some (LO.ret ((x:Int),((n:Int),true)))) (id:=2) (fun n hn=>?_) (Ai Bq rfl)) ?_
  ·refine An (De hn) (Ay (Ac hn) ?_)
   show(bif !(v.getD x []).getD n false then _ else _)=some (Oc (bif(v.getD x []).getD n false then none else some (LO.ret ((x:Int),((n:Int),true)))) (LO.next ((n+1:Nat):Int)))
   cases (v.getD x []).getD n false with
   |true=>exact nx0 (wrS (by omega))
   |false=>rfl
  ·have em:(List.range (v.getD x []).length).findSome? (fun n=>bif(v.getD x []).getD n false then none else some (LO.ret ((x:Int),((n:Int),true)):LO Int (Int×Int×Bool)))=(NU (v.getD x [])).map fun(n:Nat)=>LO.ret ((x:Int),((n:Int),true)):=by
    unfold NU;rw [<-B6]
    congr 1
    funext n
    cases (v.getD x []).getD n false<;>rfl
   rw [em];show _=some (Oc ((NU (v.getD x [])).map (fun(n:Nat)=>((x:Int),((n:Int),true)))) (LO.next ((x+1:Nat):Int)))
   cases NU (v.getD x [])with
   |none=>exact Ay rfl (nx0 (wrS (by omega)))
   |some n=>rfl
theorem p75{S:List SF}{R:List Rl}(hs:StK (S,R))(hR: ∀r∈R,okR r){x:Fl}(hx:HX x)(hf:HG x=true){G:List Int}(hc:CK S G)(ht:tyF (S,R) G x=true):
  G75 ((S,R),(G,x))=some (match Hz (mkV S G (vlF (S,R) G x))with|some (y,n)=>((y:Int),(C9 (szs S G (y:Int)) n,true))|none=>((0:Int),(([]:List Int),false))):=by
 have ho:obN S<=8:=hs.sk.ob.2;refine Aa (p53 hs hR hx hf hc ht) ?_;obtain⟨v,ev⟩: ∃v,v=mkV S G (vlF (S,R) G x):=⟨_,rfl⟩;have hlv:v.length=obN S:=by rw [ev];exact BM
 have hrow: ∀y,y<obN S->(v.getD y []).length=cnt S G (y:Int):=fun y hy=>by rw [ev,Bm hy,Bg]
 rw [<-ev]
 have em:(List.range v.length).findSome? (fun y=>(NU (v.getD y [])).map fun(n:Nat)=>((y:Int),(C9 (szs S G (y:Int)) n,true)))=(Hz v).map fun p=>((p.1:Int),(C9 (szs S G (p.1:Int)) p.2,true)):=by
  unfold Hz;rw [<-B6]
  congr 1
  funext y
  cases NU (v.getD y [])<;>rfl
 refine Aa (It (R:=Int×List Int×Bool) (n:=v.length) (p:=fun y=>(NU (v.getD y [])).map fun(n:Nat)=>((y:Int),(C9 (szs S G (y:Int)) n,true))) (id:=0) (fun y hy=>?_) (Ai Bq rfl)) ?_
 ·have hy':y<obN S:=by omega
  have hl:=hrow y hy';have hcl:=Dz hs.sk hc hy';have hcl:cnt S G (y:Int)<=65536:=hcl;refine An (De hy) ?_;refine Aa (It (n:=(v.getD y []).length) (p:=fun n=>bif(v.getD y []).getD n false then none else some (LO.ret ((y:Int),(C9 (szs S G (y:Int)) n,true)))) (id:=2) (fun n hn=>?_) (Ay (Ac hy) (Ai Bq rfl))) ?_
  ·have hn':n<cnt S G (y:Int):=by omega
   refine Ay (Ac hy) (An (De hn) (Ay (Ac hy) (Ay (Ac hn) ?_)));show(bif !(v.getD y []).getD n false then _ else _)=some (Oc (bif(v.getD y []).getD n false then none else some (LO.ret ((y:Int),(C9 (szs S G (y:Int)) n,true)))) (LO.next ((n+1:Nat):Int)))
   cases (v.getD y []).getD n false with
   |true=>exact nx0 (wrS (by omega))
   |false=>exact Aa (p66 hs.sk hc hy') (Aa (p98 (CK.few hs.sk hc hy') (Jq hn') (by omega)) rfl)
  ·have em2:(List.range (v.getD y []).length).findSome? (fun n=>bif(v.getD y []).getD n false then none else some (LO.ret ((y:Int),(C9 (szs S G (y:Int)) n,true)):LO Int (Int×List Int×Bool)))=(NU (v.getD y [])).map fun(n:Nat)=>LO.ret ((y:Int),(C9 (szs S G (y:Int)) n,true)):=by
    unfold NU;rw [<-B6]
    congr 1
    funext n
    cases (v.getD y []).getD n false<;>rfl
   rw [em2];show _=some (Oc ((NU (v.getD y [])).map (fun(n:Nat)=>((y:Int),(C9 (szs S G (y:Int)) n,true)))) (LO.next ((y+1:Nat):Int)))
   cases NU (v.getD y [])with
   |none=>exact Ay rfl (nx0 (wrS (by omega)))
   |some n=>rfl
 ·rw [em]
  cases Hz v with
  |none=>rfl
  |some p=>rfl
theorem p76V{S:List SF}{G:List Int}(hs:SK S)(hc:CK S G)(f:Nat->Nat->Bool):G76 (mkV S G f)=some (match Hz (mkV S G f)with|some (x,n)=>((x:Int),((n:Int),true))|none=>((0:Int),((0:Int),false))):=by
 obtain⟨h1,h2⟩:=mkV_ok hs hc f;exact p76 (by omega) fun r hr=>by have:=h2 r hr;omega
def ivR(s:St)(G:List Int)(x:Fl):Bool×Int:=bif decide (Jt s G x=0)then((Hz (mkV s.1 G (vlF s G x))).isNone,0)else(false,Jt s G x)
theorem p30{S:List SF}{R:List Rl}{G:List Int}{x:Fl}(h:L9 (S,R))(hG:G.length<=1048576)(hx:HX x):G30 ((S,R),(G,x))=some (ivR (S,R) G x):=by
 refine Aa (p57 h hG hx) ?_;unfold ivR;cases h0:decide (Jt (S,R) G x=0)with
 |false=>simp only [cond_false,h0,Bool.not_false,cond_true]
 |true=>
  have k:=YN (of_decide_eq_true h0);refine Aa (p76V k.st.sk k.ck _) ?_;show some (!_,(0:Int))=some ((Hz (mkV S G (vlF (S,R) G x))).isNone,0);cases Hz (mkV S G (vlF (S,R) G x))<;>rfl
theorem p29{S:List SF}{R:List Rl}{G:List Int}{x:Fl}(h:L9 (S,R))(hG:G.length<=1048576)(hx:HX x):G29 ((S,R),(G,x))=some (ivR (S,R) G x):=by
 refine Aa (p51 h hG hx) ?_;unfold ivR;cases h0:decide (Jt (S,R) G x=0)with
 |false=>simp only [cond_false,h0,Bool.not_false,cond_true]
 |true=>
  have k:=YN (of_decide_eq_true h0);refine Aa (p75 k.st h.rr hx k.fm k.ck k.ty) ?_;show some (!_,(0:Int))=some ((Hz (mkV S G (vlF (S,R) G x))).isNone,0);cases Hz (mkV S G (vlF (S,R) G x))<;>rfl
end
end Go.Ve.D


namespace Go.Ve.D
open Go Go.Ve
noncomputable section
structure Szs(s:St)(G:List Int)(x:Fl)(r0 r1:Int):Prop where
 g:G.length<=1048576
 e0:G11 (s,1048576)=some r0
 n0: ¬r0<0
 e1:G12 (x,r0)=some r1
 n1: ¬r1<0
 hs:L9 s
 w:wSt s<=1048576
 hx:HX x
 wx:wF x<=1048576
theorem szs_of{s:St}{G:List Int}{x:Fl}(h1:inSt s)(h3:x.length<=maxLen)(h4: ∀k∈x,k.2.2.length<=maxLen)(P:Prop)
  (hG:(1048576:Int)<(G.length:Int)->P) (hA: ¬ (1048576:Int)<(G.length:Int)->∀r0,G11 (s,1048576)=some r0->r0<0->P)
  (hB: ¬ (1048576:Int)<(G.length:Int)->∀r0,G11 (s,1048576)=some r0->¬r0<0->∀r1,G12 (x,r0)=some r1->r1<0->P) (hC: ∀r0 r1,Szs s G x r0 r1->P):P:=by
 by_cases nG:(1048576:Int)<(G.length:Int)
 ·exact hG nG
 obtain⟨r0,e0,f0⟩:=p11 (s:=s) (b:=1048576) (by omega) h1
 by_cases n0:r0<0
 ·exact hA nG r0 e0 n0
 obtain⟨c1,c2,c3,c4⟩:=f0.resolve_left n0;obtain⟨r1,e1,f1⟩:=p12 (x:=x) (b:=r0) ⟨c1,by omega⟩ h3 h4
 by_cases n1:r1<0
 ·exact hB nG r0 e0 n0 r1 e1 n1
 obtain⟨d1,d2,d3,d4⟩:=f1.resolve_left n1;exact hC r0 r1 ⟨by omega,e0,n0,e1,n1,c3,c4,d3,d4⟩
theorem p5(z:St×List Int×Fl)(h:okT (PT S5.ps) z):G5 z=some true:=by
 obtain⟨s,G,x⟩:=z;obtain⟨h1,h2,h3,h4⟩:=okT_in h;refine szs_of (G:=G) h1 h3 h4 _ (fun nG=>?_) (fun nG r0 e0 n0=>?_) (fun nG r0 e0 n0 r1 e1 n1=>?_) (fun r0 r1 hz=>?_)
 ·unfold G5
  simp only [nG,decide_true,cond_true]
 ·unfold G5
  simp only [Prod.eta,nG,decide_false,cond_false,e0,n0,Option.bind_some,decide_true,cond_true]
 ·unfold G5
  simp only [Prod.eta,nG,decide_false,cond_false,e0,n0,e1,n1,Option.bind_some,decide_true,cond_true]
 ·obtain⟨hG,e0,n0,e1,n1,hs,hw,hx,hwx⟩:=hz
  obtain⟨S,R⟩:=s;have e14:=p14 hs;have e15:=p15 hG;have e16:=p16 hx;have e29:=p29 hs hG hx;have e30:=p30 hs hG hx;generalize ivR (S,R) G x=r at*;have g19:=p19 hs;have g20:=p20 hG;have g21:=p21 hx;have nG: ¬ ((1048576:Int)<(G.length:Int)):=by omega
  unfold G5;simp only [Prod.eta,nG,e0,n0,e1,n1,decide_false,cond_false,e14,e15,e16,e29,e30,g19,g20,g21,Option.bind_some,Bool.not_true,decide_true,cond_true,beq_self_eq_true]
end
end Go.Ve.D

