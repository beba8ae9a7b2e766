/- Forcing by one tuple: the law. -/
import Derived.Test.YtbbhfpbalccohaaGreatFga
import Derived.Test.YtbbhfpbalccohaaGreatUr8
namespace Go.Ve.D
open Go Go.Ve
noncomputable section
def WJ(x t:List Int):Bool:=decide (t.length=x.length)&&(List.range t.length).all fun i=>inn (x.getD i 0) (t.getD i 0)
theorem Uq{x t:List Int}(h:WJ x t=true):t.length=x.length/\∀i,i<x.length->0<=t.getD i 0/\t.getD i 0<x.getD i 0:=by
 unfold WJ at h;rw [bAE,decide_eq_true_eq]at h;exact⟨h.1,fun i hi=>Ck.1 (aET.1 h.2 i (List.mem_range.2 (by omega)))⟩
theorem p70g{x t:List Int}(h:Few x)(ht:t.length<=1048576):G70 (x,t)=some (bif WJ x t then(((num x t:Nat):Int),0)else(0,1)):=by
 have hx:=h.l;cases hk:WJ x t with
 |true=>
  obtain⟨h1,h2⟩:=Uq hk;exact p70 h h1 h2
 |false=>
  unfold WJ at hk;refine Aa (p110 h) (Ae rfl ?_);by_cases hl:t.length=x.length
  ·rw [dT hl,Bool.true_and]at hk
   refine Ae (show(!decide ((t.length:Int)=(x.length:Int)))=false by rw [hl];simp) ?_
   refine(JM (n:=t.length) (p:=fun i=>inn (x.getD i 0) (t.getD i 0)) (id:=0) (r:=((0:Int),(1:Int))) (v:=(0,1)) (fun i hi=>?_) (Ae Bs rfl) (fun hall=>?_)).trans (by rw [hk];rfl)
   ·have hi':i<x.length:=by omega
    obtain⟨g1,g2⟩:=h.get hi';exact Aj (Dl hi) (Ao (Ab hi) (Ao (Ab hi') (Aa (p69' _ _ (show(0:Int)<=x.getD i 0/\x.getD i 0<=9223372036854775807 by omega)) (fin1 (wrS (by omega))))))
   ·rw [hk]at hall;cases hall
  ·exact Aj (show(!decide ((t.length:Int)=(x.length:Int)))=true by rw [dF (by omega)];rfl) rfl
def foR(s:St)(G:List Int)(x:Fl)(y:Int)(t:List Int):Bool×Int:=
 bif !decide (cxC s G x=0)then(false,cxC s G x)else bif !inn ((obN s.1:Nat):Int) y then(false,2)else bif !WJ (szs s.1 G y) t then(false,2)else
 bif !decide (Jj s G x=0)then(false,Jj s G x)else(vlF s G x y.toNat (num (szs s.1 G y) t),0)
theorem X5{s:St}{G:List Int}{x:Fl}(h:decide (cxC s G x=0)=true):Jj s G x=bif !tyF s G x then 5 else bif !ftF s G x then 3 else 0:=by
 unfold Jj;rw [h];rfl
theorem p28{S:List SF}{R:List Rl}{G:List Int}{x:Fl}{y:Int}{t:List Int}(h:MX (S,R))(hG:G.length<=1048576)(hx:Ij x)(ht:t.length<=1048576):
  G28 ((S,R),(G,(x,(y,t))))=some (foR (S,R) G x y t):=by
 have hL: ∀y∈ [x],Ij y:=fun y hy=>by rw [List.mem_singleton.1 hy];exact hx
 have e68:=p68 (S:=S) (R:=R) (L:=[x]) h hG (by show 1<=_;omega) hL
 have hall:(List.range [x].length).all (fun i=>HA ([x].getD i []))=HA x:=Bool.and_true _
 have e1:(bif !Oo (S,R)then 1 else bif HA x then(bif L0 S G then 0 else 2)else 1)=cxC (S,R) G x:=by
  unfold cxC;cases Oo (S,R)<;>cases HA x<;>cases L0 S G<;>rfl
 rw [hall,e1]at e68;refine Aa e68 ?_;unfold foR;cases h0:decide (cxC (S,R) G x=0)with
 |false=>rfl
 |true=>
 obtain⟨h1,h2,h3⟩:=X2 h0;have hk:=Nb h1;have hc:CK S G:=Nq h3;have hsk:SK S:=hk.sk;have ho:=hsk.ob;have ho':=hsk.ob'
 have e69:G69 (y,((0:Int),IntKind.wrap .i64 ((S.getD 0 sf0).1-1)))=some (inn ((obN S:Nat):Int) y):=by
  rw [ho'];exact p69' _ _ (by omega)
 refine Ae rfl (Ao hsk.i0 (Aa e69 ?_));show(bif !inn ((obN S:Nat):Int) y then _ else _)=some (bif !true then _ else bif !inn ((obN S:Nat):Int) y then _ else _);cases hy:inn ((obN S:Nat):Int) y with
 |false=>rfl
 |true=>
 obtain⟨y0,y1⟩:=Ck.1 hy;obtain⟨m,rfl⟩: ∃m:Nat,y=(m:Int):=⟨y.toNat,by omega⟩
 have hm:m<obN S:=by omega
 refine Ae rfl (Aa (p71 hsk hc hm) (Aa (p70g (CK.few hsk hc hm) ht) ?_));show _=some (bif !true then _ else bif !true then _ else bif !WJ (szs S G (m:Int)) t then _ else _);cases htk:WJ (szs S G (m:Int)) t with
 |false=>rfl
 |true=>
 have hF: ∀y∈ [x],HA y=true:=fun y hy=>by rw [List.mem_singleton.1 hy];exact h2
 have e72:=p72 hk hc (L:=[x]) (by show 1<=_;omega) hL hF
 have hty:(List.range [x].length).all (fun i=>tyF (S,R) G ([x].getD i []))=tyF (S,R) G x:=Bool.and_true _
 have hft:(List.range [x].length).all (fun i=>ftF (S,R) G ([x].getD i []))=ftF (S,R) G x:=Bool.and_true _
 rw [hty,hft]at e72;refine Ae rfl (Aa e72 ?_);rw [X5 h0];cases h4:tyF (S,R) G x with
 |false=>rfl
 |true=>
 cases h5:ftF (S,R) G x with
 |false=>rfl
 |true=>
 obtain⟨t1,t2⟩:=Uq htk;have hn:num (szs S G (m:Int)) t<cnt S G (m:Int):=Vu t1 t2;have hrow:(mkV S G (vlF (S,R) G x)).getD m []=row S G (vlF (S,R) G x) m:=Bb hm;refine Ae rfl (Aa (p74 hsk) (Aj rfl (Aa (p73 hk h.rr hx h2 hc h4) (Ao ?_ (Ao ?_ ?_)))))
 ·show(0:Int)<=(m:Int)/\(m:Int)<((mkV S G (vlF (S,R) G x)).length:Int)
  rw [BH];exact Ab hm
 ·show(0:Int)<=((num (szs S G (m:Int)) t:Nat):Int)/\((num (szs S G (m:Int)) t:Nat):Int)<(((mkV S G (vlF (S,R) G x)).getD m []).length:Int)
  rw [hrow,A4];exact Ab hn
 ·show some (((mkV S G (vlF (S,R) G x)).getD m []).getD (num (szs S G (m:Int)) t) false,(0:Int))=_
  rw [hrow,BE hn];rfl
theorem p27{S:List SF}{R:List Rl}{G:List Int}{x:Fl}{y:Int}{t:List Int}(h:MX (S,R))(hG:G.length<=1048576)(hx:Ij x)(ht:t.length<=1048576):
  G27 ((S,R),(G,(x,(y,t))))=some (foR (S,R) G x y t):=by
 refine Aa (p64 h hG hx) ?_;unfold foR;cases h0:decide (cxC (S,R) G x=0)with
 |false=>
  have hne:=of_decide_eq_false h0;refine Aa (v:=true) ?_ ?_
  ·show(bif decide (cxC (S,R) G x=1)then some true else some (decide (cxC (S,R) G x=2)))=some true
   rcases cxC_12 (s:=(S,R)) (G:=G) (x:=x)with e|e|e
   ·exact absurd e hne
   ·rw [e];rfl
   ·rw [e];rfl
  ·rfl
 |true=>
 obtain⟨h1,h2,h3⟩:=X2 h0;have hk:=Nb h1;have hc:CK S G:=Nq h3;have hsk:SK S:=hk.sk;have ho:=hsk.ob;have ho':=hsk.ob'
 have e65:G65 (shC S,y)=some (inn ((obN S:Nat):Int) y):=by
  have e:decide (y<(shC S).1)=decide (y<((obN S:Nat):Int)):=decide_eq_decide.2 (by omega)
  unfold inn;rw [<-e];show Option.bind (bif decide ((0:Int)<=y)then some (decide (y<(shC S).1))else some false) _=_;cases decide ((0:Int)<=y)<;>rfl
 refine Aa (v:=false) ?_ (Ae rfl (Ao hsk.i0 (Aa e65 ?_)))
 ·show(bif decide ((bif !tyF (S,R) G x then(5:Int)else 0)=1)then some true else some (decide ((bif !tyF (S,R) G x then(5:Int)else 0)=2)))=some false
  cases tyF (S,R) G x<;>rfl
 show _=some (bif !true then _ else bif !inn ((obN S:Nat):Int) y then _ else _);cases hy:inn ((obN S:Nat):Int) y with
 |false=>rfl
 |true=>
 obtain⟨y0,y1⟩:=Ck.1 hy;obtain⟨m,rfl⟩: ∃m:Nat,y=(m:Int):=⟨y.toNat,by omega⟩
 have hm:m<obN S:=by omega
 have hfew:=CK.few hsk hc hm;have hfl:=hfew.l;have hsl:(szs S G (m:Int)).length=G.length:=Bw;refine Aa (v:=!decide (t.length=(szs S G (m:Int)).length)) ?_ ?_
 ·refine Ae rfl (congrArg some ?_)
  show(!decide ((t.length:Int)=(G.length:Int)))=_;rw [hsl]
  congr 1
  exact decide_eq_decide.2 (by omega)
 ·show(bif !decide (t.length=(szs S G (m:Int)).length)then _ else _)=some (bif !true then _ else bif !true then _ else bif !(decide (t.length=(szs S G (m:Int)).length)&&(List.range t.length).all fun i=>inn ((szs S G (m:Int)).getD i 0) (t.getD i 0))then _ else _)
  by_cases hl:t.length=(szs S G (m:Int)).length
  ·rw [dT hl,Bool.true_and]
   refine Ae rfl (Aa (p66 hsk hc hm) ?_);refine(JM (n:=t.length) (p:=fun i=>inn ((szs S G (m:Int)).getD i 0) (t.getD i 0)) (id:=0) (r:=(false,(2:Int))) (v:=bif !decide (Jj (S,R) G x=0)then(false,Jj (S,R) G x)else(vlF (S,R) G x m (num (szs S G (m:Int)) t),0)) (fun i hi=>?_) (Ae Bs rfl) (fun hall=>Ao rfl ?_)).trans ?_
   ·have hi':i<(szs S G (m:Int)).length:=by omega
    refine Aj (Dl hi) (Ao (Ab hi) (Aa (v:=!inn ((szs S G (m:Int)).getD i 0) (t.getD i 0)) ?_ ?_))
    ·unfold inn
     show(bif decide (t.getD i 0<0)then some true else _)=_;by_cases hn:t.getD i 0<0
     ·rw [dT hn,dF (show ¬0<=t.getD i 0 by omega)];rfl
     ·rw [dF hn,dT (show 0<=t.getD i 0 by omega)]
      refine Ao (Ab hi) (Ao (Ab hi') (congrArg some ?_));show decide ((szs S G (m:Int)).getD i 0<=t.getD i 0)= !(true&&decide (t.getD i 0<(szs S G (m:Int)).getD i 0));rw [Bool.true_and];by_cases hq:t.getD i 0<(szs S G (m:Int)).getD i 0
      ·rw [dT hq,dF (by omega)];rfl
      ·rw [dF hq,dT (by omega)];rfl
    ·refine(YJ (wrS (by omega))).trans ?_
     rw [Bool.not_not]
   ·refine Aa (p51 h hG hx) ?_
    cases hcd:decide (Jj (S,R) G x=0)with
    |false=>simp only [hcd,Bool.not_false,cond_true]
    |true=>
     have k:=code_k (of_decide_eq_true hcd)
     have htk:WJ (szs S G (m:Int)) t=true:=by
      unfold WJ;rw [dT hl,Bool.true_and];exact hall
     obtain⟨t1,t2⟩:=Uq htk;have hn:num (szs S G (m:Int)) t<cnt S G (m:Int):=Vu t1 t2;have hrow:(mkV S G (vlF (S,R) G x)).getD m []=row S G (vlF (S,R) G x) m:=Bb hm;simp only [hcd,Bool.not_true,cond_false];refine Aa (p53 hk h.rr hx h2 hc k.ty) (Ao ?_ (Aa (p67 hfew t1 t2) (Ao ?_ ?_)))
     ·show(0:Int)<=(m:Int)/\(m:Int)<((mkV S G (vlF (S,R) G x)).length:Int)
      rw [BH];exact Ab hm
     ·show(0:Int)<=((num (szs S G (m:Int)) t:Nat):Int)/\((num (szs S G (m:Int)) t:Nat):Int)<(((mkV S G (vlF (S,R) G x)).getD m []).length:Int)
      rw [hrow,A4];exact Ab hn
     ·show some (((mkV S G (vlF (S,R) G x)).getD m []).getD (num (szs S G (m:Int)) t) false,(0:Int))=_
      rw [hrow,BE hn]
   ·cases (List.range t.length).all fun i=>inn ((szs S G (m:Int)).getD i 0) (t.getD i 0)<;>rfl
  ·rw [dF hl];rfl
theorem p4(z:St×List Int×Fl×Int×List Int)(h:okT (PT S4.ps) z):G4 z=some true:=by
 obtain⟨s,G,x,y,t⟩:=z;obtain⟨ha,hb,hcc,hd,he,_⟩:=h;have h':okT (PT S3.ps) (s,(G,x)):=⟨ha,hb,hcc⟩;obtain⟨h1,h2,h3,h4⟩:=okT_in h';by_cases nt:(1048576:Int)<(t.length:Int)
 ·unfold G4
  by_cases nG:(1048576:Int)<(G.length:Int)
  ·simp only [nG,decide_true,cond_true]
  ·simp only [nG,nt,decide_true,cond_true,decide_false,cond_false]
 refine szs_of (G:=G) h1 h3 h4 _ (fun nG=>?_) (fun nG r0 e0 n0=>?_) (fun nG r0 e0 n0 r1 e1 n1=>?_) (fun r0 r1 hz=>?_)
 ·unfold G4
  simp only [nG,decide_true,cond_true]
 ·unfold G4
  simp only [Prod.eta,nG,nt,decide_false,cond_false,e0,n0,Option.bind_some,decide_true,cond_true]
 ·unfold G4
  simp only [Prod.eta,nG,nt,decide_false,cond_false,e0,n0,e1,n1,Option.bind_some,decide_true,cond_true]
 ·obtain⟨hG,e0,n0,e1,n1,hs,hw,hx,hwx⟩:=hz
  obtain⟨S,R⟩:=s;have ht:t.length<=1048576:=by omega
  have e14:=p14 hs;have e15:=p15 hG;have e15t:=p15 ht;have e16:=p16 hx;have e27:=p27 (y:=y) hs hG hx ht;have e28:=p28 (y:=y) hs hG hx ht;generalize foR (S,R) G x y t=r at*;have g19:=p19 hs;have g20:=p20 hG;have g20t:=p20 ht;have g21:=p21 hx;have nG: ¬ ((1048576:Int)<(G.length:Int)):=by omega
  unfold G4;simp only [Prod.eta,nG,nt,e0,n0,e1,n1,decide_false,cond_false,e14,e15,e15t,e16,e27,e28,g19,g20,g20t,g21,Option.bind_some,Bool.not_true,decide_true,cond_true,beq_self_eq_true]
end
end Go.Ve.D

