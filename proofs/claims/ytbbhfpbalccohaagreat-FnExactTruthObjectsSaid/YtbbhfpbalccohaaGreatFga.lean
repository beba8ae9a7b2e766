/- Validity, failures, truth: both sides agree. -/
import Derived.Test.YtbbhfpbalccohaaGreatFek
import Derived.Test.YtbbhfpbalccohaaGreatUr7
namespace Go.Ve.D
open Go Go.Ve
noncomputable section
def trL(v:List (List Bool)):List Int:=((List.range v.length).filter fun x=>(v.getD x []).getD 0 false).map fun(x:Nat)=>(x:Int)
def toR(s:St)(x:Fl):List Int×Int:=bif decide (Iv s [] x=0)then(trL (mkV s.1 [] (vlF s [] x)),0)else([],Iv s [] x)
theorem VP{S:List SF}{f:Nat->Nat->Bool}{x:Nat}(hx:x<obN S):((mkV S [] f).getD x []).length=1:=by
 rw [Bo hx,Bh];rfl
theorem p35{S:List SF}{R:List Rl}{x:Fl}(h:LM (S,R))(hx:H1 x):G35 ((S,R),x)=some (toR (S,R) x):=by
 refine Aa (p57 (G:=[]) h (Nat.zero_le _) hx) ?_;unfold toR;cases h0:decide (Iv (S,R) [] x=0)with
 |false=>simp only [cond_false,h0,Bool.not_false,cond_true]
 |true=>
  have k:=Wv (of_decide_eq_true h0);have hb:obN S<=8:=k.st.sk.ob.2;have hl:(mkV S [] (vlF (S,R) [] x)).length=obN S:=BH;refine Aa (Y3 (n:=(mkV S [] (vlF (S,R) [] x)).length) (q:=fun y=>((mkV S [] (vlF (S,R) [] x)).getD y []).getD 0 false) (g:=fun(y:Nat)=>(y:Int)) (id:=0) (fun i hi acc ha=>?_) (fun acc=>Ai BB rfl)) rfl
  have h1:=VP (f:=vlF (S,R) [] x) (show i<obN S by omega)
  refine Ao (Ds hi) (Ay (Ac hi) (Ay (show(0:Int)<=(0:Int)/\(0:Int)<((((mkV S [] (vlF (S,R) [] x)).getD i []).length:Nat):Int) by omega) ?_))
  show(bif((mkV S [] (vlF (S,R) [] x)).getD i []).getD 0 false then _ else _)=_;cases ((mkV S [] (vlF (S,R) [] x)).getD i []).getD 0 false with
  |true=>exact Ay (VZ (a:=acc) (by omega)) (nx1 (wrS (by omega)))
  |false=>exact nx1 (wrS (by omega))
theorem p34{S:List SF}{R:List Rl}{x:Fl}(h:LM (S,R))(hx:H1 x):G34 ((S,R),x)=some (toR (S,R) x):=by
 refine Aa (p51 (G:=[]) h (Nat.zero_le _) hx) ?_;unfold toR;cases h0:decide (Iv (S,R) [] x=0)with
 |false=>simp only [cond_false,h0,Bool.not_false,cond_true]
 |true=>
  have k:=Wv (of_decide_eq_true h0);have hb:obN S<=8:=k.st.sk.ob.2;have hl:(mkV S [] (vlF (S,R) [] x)).length=obN S:=BH;refine Aa (p53 k.st h.rr hx k.fm k.ck k.ty) ?_;refine Aa (Y3 (n:=(mkV S [] (vlF (S,R) [] x)).length) (q:=fun y=>((mkV S [] (vlF (S,R) [] x)).getD y []).getD 0 false) (g:=fun(y:Nat)=>(y:Int)) (id:=0) (fun i hi acc ha=>?_) (fun acc=>Ai BB rfl)) rfl
  have h1:=VP (f:=vlF (S,R) [] x) (show i<obN S by omega)
  refine Ao (Ds hi) (Ay (Ac hi) (Ay (show(0:Int)<=(0:Int)/\(0:Int)<((((mkV S [] (vlF (S,R) [] x)).getD i []).length:Nat):Int) by omega) ?_))
  show(bif((mkV S [] (vlF (S,R) [] x)).getD i []).getD 0 false then _ else _)=_;cases ((mkV S [] (vlF (S,R) [] x)).getD i []).getD 0 false with
  |true=>exact Ay (VZ (a:=acc) (by omega)) (nx1 (wrS (by omega)))
  |false=>exact nx1 (wrS (by omega))
theorem toR_ok{s:St}{x:Fl}:(toR s x).1.length<=1048576:=by
 unfold toR;cases h0:decide (Iv s [] x=0)with
 |false=>exact Nat.zero_le _
 |true=>
  have k:=Wv (of_decide_eq_true h0);have hb:obN s.1<=8:=k.st.sk.ob.2;have h1:(trL (mkV s.1 [] (vlF s [] x))).length<=(mkV s.1 [] (vlF s [] x)).length:=fm_len;have h2:(mkV s.1 [] (vlF s [] x)).length=obN s.1:=BH;show(trL (mkV s.1 [] (vlF s [] x))).length<=1048576;omega
end
end Go.Ve.D


namespace Go.Ve.D
open Go Go.Ve
noncomputable section
structure Szs(s:St)(G:List Int)(x:Fl)(r0 r1:Int):Prop where
 g:G.length<=1048576
 e0:G11 (s,1048576)=some r0
 n0: ¬r0<0
 e1:G12 (x,r0)=some r1
 n1: ¬r1<0
 hs:LM s
 w:wSt s<=1048576
 hx:H1 x
 wx:wF x<=1048576
theorem szs_of{s:St}{G:List Int}{x:Fl}(h1:inSt s)(h3:x.length<=maxLen)(h4: ∀k∈x,k.2.2.length<=maxLen)(P:Prop)
  (hG:(1048576:Int)<(G.length:Int)->P) (hA: ¬ (1048576:Int)<(G.length:Int)->∀r0,G11 (s,1048576)=some r0->r0<0->P)
  (hB: ¬ (1048576:Int)<(G.length:Int)->∀r0,G11 (s,1048576)=some r0->¬r0<0->∀r1,G12 (x,r0)=some r1->r1<0->P) (hC: ∀r0 r1,Szs s G x r0 r1->P):P:=by
 by_cases nG:(1048576:Int)<(G.length:Int)
 ·exact hG nG
 obtain⟨r0,e0,f0⟩:=p11 (s:=s) (b:=1048576) (by omega) h1
 by_cases n0:r0<0
 ·exact hA nG r0 e0 n0
 obtain⟨c1,c2,c3,c4⟩:=f0.resolve_left n0;obtain⟨r1,e1,f1⟩:=p12 (x:=x) (b:=r0) ⟨c1,by omega⟩ h3 h4
 by_cases n1:r1<0
 ·exact hB nG r0 e0 n0 r1 e1 n1
 obtain⟨d1,d2,d3,d4⟩:=f1.resolve_left n1;exact hC r0 r1 ⟨by omega,e0,n0,e1,n1,c3,c4,d3,d4⟩
theorem p7(z:St×Fl)(h:okT (PT S7.ps) z):G7 z=some true:=by
 obtain⟨s,x⟩:=z;have h':okT (PT S3.ps) (s,(([]:List Int),x)):=⟨h.1,⟨Nat.zero_le _,fun y hy=>by cases hy⟩,h.2⟩
 obtain⟨h1,h2,h3,h4⟩:=okT_in h';refine szs_of (G:=[]) h1 h3 h4 _ (fun nG=>absurd nG (by simp)) (fun nG r0 e0 n0=>?_) (fun nG r0 e0 n0 r1 e1 n1=>?_) (fun r0 r1 hz=>?_)
 ·unfold G7
  simp only [Prod.eta,e0,n0,Option.bind_some,decide_true,cond_true]
 ·unfold G7
  simp only [Prod.eta,decide_false,cond_false,e0,n0,e1,n1,Option.bind_some,decide_true,cond_true]
 ·obtain⟨hG,e0,n0,e1,n1,hs,hw,hx,hwx⟩:=hz
  obtain⟨k1,y1,e22,a1,b1⟩:=mk22 (s:=s) (k:=1) (by omega) hs (by omega)
  obtain⟨k3,y3,e24,a3,b3⟩:=mk24 (x:=x) (k:=k1) a1 hx (by omega)
  obtain⟨S,R⟩:=s;have e14:=p14 hs;have e16:=p16 hx;have e34:=p34 hs hx;have e35:=p35 hs hx;have hr:=toR_ok (s:=(S,R)) (x:=x);generalize toR (S,R) x=r at*;have g19:=p19 hs;have g20r:=p20 hr;have g21:=p21 hx;have m3:=p23 (k:=1) (by omega) (by omega) hr
  have m4:=p33 (x:=r.1) (k:=1) (by omega) (by omega) hr
  have m1: ¬ (k3<0):=by omega
  have m2: ¬ ((1:Int)+(r.1.length:Int)<0):=by omega
  unfold G7;simp only [Prod.eta,e0,n0,e1,n1,decide_false,cond_false,e14,e16,e34,e35,g19,g20r,g21,e22,e24,m1,m2,m3,m4,Option.bind_some,Bool.not_true,decide_true,cond_true]
end
end Go.Ve.D

