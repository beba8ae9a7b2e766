/- Validity, failures, truth: both sides agree. -/
import Derived.Test.YtbbhfpbalccohaaGreatFek
import Derived.Test.YtbbhfpbalccohaaGreatUr7
namespace Go.Ve.D
open Go Go.Ve
noncomputable section
def drR(s:St)(G:List Int)(x:Fl):Rl×Int:=bif !decide (cxC s G x=0)then(rl0,cxC s G x)else bif decide ((2:Int)<(G.length:Int))then(rl0,2)else bif !decide ((fvR s G x).2=0)then(rl0,(fvR s G x).2)else((G,(fvR s G x).1),0)
theorem cxC_12{s:St}{G:List Int}{x:Fl}:cxC s G x=0\/cxC s G x=1\/cxC s G x=2:=by
 unfold cxC;cases Nq s&&DP x<;>cases JV s.1 G<;>simp
theorem p36{S:List SF}{R:List Rl}{G:List Int}{x:Fl}(h:Ko (S,R))(hG:G.length<=1048576)(hx:Hu x):G36 ((S,R),(G,x))=some (drR (S,R) G x):=by
 refine Aa (p64 h hG hx) ?_;unfold drR;have h13:=p13 h hG hx;cases h0:decide (cxC (S,R) G x=0)with
 |false=>
  have hne:=of_decide_eq_false h0;refine Aa (v:=true) ?_ ?_
  ·show(bif decide (cxC (S,R) G x=1)then some true else some (decide (cxC (S,R) G x=2)))=some true
   rcases cxC_12 (s:=(S,R)) (G:=G) (x:=x)with e|e|e
   ·exact absurd e hne
   ·rw [e];rfl
   ·rw [e];rfl
  ·rfl
 |true=>
  refine Aa (v:=false) ?_ (Ai rfl ?_)
  ·show(bif decide ((bif !tyF (S,R) G x then(5:Int)else 0)=1)then some true else some (decide ((bif !tyF (S,R) G x then(5:Int)else 0)=2)))=some false
   cases tyF (S,R) G x<;>rfl
  ·show(bif decide ((2:Int)<(G.length:Int))then _ else _)=some (bif decide ((2:Int)<(G.length:Int))then _ else _)
   cases decide ((2:Int)<(G.length:Int))with
   |true=>rfl
   |false=>
    refine Aa h13 ?_;show(bif !decide ((fvR (S,R) G x).2=0)then _ else _)=some (bif !decide ((fvR (S,R) G x).2=0)then _ else _);cases decide ((fvR (S,R) G x).2=0)with
    |false=>rfl
    |true=>exact Aa (p78 hG) rfl
theorem p37{S:List SF}{R:List Rl}{G:List Int}{x:Fl}(h:Ko (S,R))(hG:G.length<=1048576)(hx:Hu x):G37 ((S,R),(G,x))=some (drR (S,R) G x):=by
 have hL: ∀y∈ [x],Hu y:=fun y hy=>by rw [List.mem_singleton.1 hy];exact hx
 have e68:=p68 (S:=S) (R:=R) (L:=[x]) h hG (by show 1<=_;omega) hL
 have hall:(List.range [x].length).all (fun i=>DP ([x].getD i []))=DP x:=Bool.and_true _
 have e1:(bif !Nq (S,R)then 1 else bif DP x then(bif JV S G then 0 else 2)else 1)=cxC (S,R) G x:=by
  unfold cxC;cases Nq (S,R)<;>cases DP x<;>cases JV S G<;>rfl
 rw [hall,e1]at e68;refine Aa e68 ?_;unfold drR;show(bif !decide (cxC (S,R) G x=0)then _ else bif decide ((2:Int)<(G.length:Int))then _ else _)=some (bif !decide (cxC (S,R) G x=0)then _ else bif decide ((2:Int)<(G.length:Int))then _ else _);cases decide (cxC (S,R) G x=0)with
 |false=>rfl
 |true=>
 cases decide ((2:Int)<(G.length:Int))with
 |true=>rfl
 |false=>
  refine Aa (p57 h hG hx) ?_;unfold fvR;cases h0:decide (Iv (S,R) G x=0)with
  |false=>simp only [cond_false,h0,Bool.not_false,cond_true,Bool.not_true]
  |true=>
   have k:=Ww (of_decide_eq_true h0);exact Aa (p79 hG) (Aa (p58V k.st.sk k.ck _) rfl)
theorem drR_ok{s:St}{G:List Int}{x:Fl}(hG:G.length<=1048576):okR (drR s G x).1:=by
 have hn:okR rl0:=⟨Nat.zero_le _,Nat.zero_le _,fun y hy=>by cases hy⟩
 have hf:=fvR_ok (s:=s) (G:=G) (x:=x);unfold drR;cases decide (cxC s G x=0)with
 |false=>exact hn
 |true=>
 cases decide ((2:Int)<(G.length:Int))with
 |true=>exact hn
 |false=>
 cases decide ((fvR s G x).2=0)with
 |false=>exact hn
 |true=>exact⟨hG,hf.1,hf.2⟩
end
end Go.Ve.D


namespace Go.Ve.D
open Go Go.Ve
noncomputable section
structure Szs(s:St)(G:List Int)(x:Fl)(r0 r1:Int):Prop where
 g:G.length<=1048576
 e0:G11 (s,1048576)=some r0
 n0: ¬r0<0
 e1:G12 (x,r0)=some r1
 n1: ¬r1<0
 hs:Ko s
 w:wSt s<=1048576
 hx:Hu x
 wx:wF x<=1048576
theorem szs_of{s:St}{G:List Int}{x:Fl}(h1:inSt s)(h3:x.length<=maxLen)(h4: ∀k∈x,k.2.2.length<=maxLen)(P:Prop)
  (hG:(1048576:Int)<(G.length:Int)->P) (hA: ¬ (1048576:Int)<(G.length:Int)->∀r0,G11 (s,1048576)=some r0->r0<0->P)
  (hB: ¬ (1048576:Int)<(G.length:Int)->∀r0,G11 (s,1048576)=some r0->¬r0<0->∀r1,G12 (x,r0)=some r1->r1<0->P) (hC: ∀r0 r1,Szs s G x r0 r1->P):P:=by
 by_cases nG:(1048576:Int)<(G.length:Int)
 ·exact hG nG
 obtain⟨r0,e0,f0⟩:=p11 (s:=s) (b:=1048576) (by omega) h1
 by_cases n0:r0<0
 ·exact hA nG r0 e0 n0
 obtain⟨c1,c2,c3,c4⟩:=f0.resolve_left n0;obtain⟨r1,e1,f1⟩:=p12 (x:=x) (b:=r0) ⟨c1,by omega⟩ h3 h4
 by_cases n1:r1<0
 ·exact hB nG r0 e0 n0 r1 e1 n1
 obtain⟨d1,d2,d3,d4⟩:=f1.resolve_left n1;exact hC r0 r1 ⟨by omega,e0,n0,e1,n1,c3,c4,d3,d4⟩
theorem mk3{s:St}{G:List Int}{x:Fl}{r0 r1:Int}(h:Szs s G x r0 r1): ∃k1 y1 k2 y2 k3 y3,G22 (s,1)=some (k1,y1)/\G23 (G,k1)=some (k2,y2)/\G24 (x,k2)=some (k3,y3)/\0<=k3:=by
 have hw:=h.w;have hwx:=h.wx;have hg:=h.g;obtain⟨k1,y1,e22,a1,b1⟩:=mk22 (s:=s) (k:=1) (by omega) h.hs (by omega)
 obtain⟨k2,y2,e23,a2,b2⟩:=Aaf (x:=G) (k:=k1) a1 (by omega) h.g
 obtain⟨k3,y3,e24,a3,b3⟩:=mk24 (x:=x) (k:=k2) a2 h.hx (by omega)
 exact⟨k1,y1,k2,y2,k3,y3,e22,e23,e24,a3⟩
theorem mh39{r:Rl}(h:okR r): ∃k y,G39 (r,1)=some (k,y)/\¬k<0/\G40 (y,1)=some k:=by
 obtain⟨h1,h2,h3⟩:=h;have a1:=p23 (x:=r.1) (k:=1) (by omega) (by omega) h1
 have a2:=p33 (x:=r.1) (k:=1) (by omega) (by omega) h1
 have b1:=p25 (x:=r.2) (k:=1+(r.1.length:Int)) (by omega) (by omega) h2 h3
 have b2:=p26 (x:=r.2) (k:=1+(r.1.length:Int)) (by omega) (by omega) h2 h3
 have n1: ¬ ((1:Int)+(r.1.length:Int)<0):=by omega
 have n2: ¬ ((1:Int)+(r.1.length:Int)+(tot r.2 r.2.length:Int)<0):=by omega
 exact⟨_,_,Aa a1 (Aa b1 rfl),n2,Aa a2 (Ai (decide_eq_false n1) (Aa b2 (Ai (decide_eq_false n2) rfl)))⟩
theorem p8(z:St×List Int×Fl)(h:okT (PT S8.ps) z):G8 z=some true:=by
 obtain⟨s,G,x⟩:=z;obtain⟨h1,h2,h3,h4⟩:=okT_in h;refine szs_of (G:=G) h1 h3 h4 _ (fun nG=>?_) (fun nG r0 e0 n0=>?_) (fun nG r0 e0 n0 r1 e1 n1=>?_) (fun r0 r1 hz=>?_)
 ·unfold G8
  simp only [nG,decide_true,cond_true]
 ·unfold G8
  simp only [Prod.eta,nG,decide_false,cond_false,e0,n0,Option.bind_some,decide_true,cond_true]
 ·unfold G8
  simp only [Prod.eta,nG,decide_false,cond_false,e0,n0,e1,n1,Option.bind_some,decide_true,cond_true]
 ·obtain⟨k1,y1,k2,y2,k3,y3,e22,e23,e24,a3⟩:=mk3 hz
  obtain⟨hG,e0,n0,e1,n1,hs,hw,hx,hwx⟩:=hz;obtain⟨S,R⟩:=s;have e14:=p14 hs;have e15:=p15 hG;have e16:=p16 hx;have e36:=p36 hs hG hx;have e37:=p37 hs hG hx;have hr:=drR_ok (s:=(S,R)) (G:=G) (x:=x) hG;generalize drR (S,R) G x=r at*;have g19:=p19 hs;have g20:=p20 hG;have g21:=p21 hx;have g38:=p38 hr;obtain⟨k,y,m3,m2,m4⟩:=mh39 hr;have m1: ¬ (k3<0):=by omega
  have nG: ¬ ((1048576:Int)<(G.length:Int)):=by omega
  unfold G8;simp only [Prod.eta,nG,e0,n0,e1,n1,decide_false,cond_false,e14,e15,e16,e36,e37,g19,g20,g21,g38,e22,e23,e24,m1,m2,m3,m4,Option.bind_some,Bool.not_true,decide_true,cond_true]
end
end Go.Ve.D

