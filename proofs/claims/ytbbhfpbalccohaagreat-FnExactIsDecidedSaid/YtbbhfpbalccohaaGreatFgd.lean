/- Decided formulas: the law. -/
import Derived.Test.YtbbhfpbalccohaaGreatFgc
import Derived.Test.YtbbhfpbalccohaaGreatUr9
namespace Go.Ve.D
open Go Go.Ve
noncomputable section
theorem p114{x:Fl}(h:DI x):G114 x=some x:=by
 have hx:=h.1
 have ex:(List.range x.length).map (fun i=>x.getD i nd0)=x:=by
  apply List.ext_getElem?;intro i;by_cases hi:i<x.length
  ·rw [List.getElem?_map,List.getElem?_range hi]
   show some (x.getD i nd0)=_;rw [gDE,gEE hi];rfl
  ·rw [List.getElem?_eq_none (by simp;omega),List.getElem?_eq_none (by omega)]
 refine Aa (LY (n:=x.length) (g:=fun i=>x.getD i nd0) (id:=0) (fun i hi acc ha=>?_) (fun acc=>Ae Bk rfl)) ?_
 ·exact Aj (C8 hi) (Ao (Ab hi) (Ao (Ab hi) (Ao (Ab hi) (Aa (p78 (h.nd hi)) (Ao (WU (a:=acc) (by omega)) (nx1 (wrS (by omega))))))))
 ·show some ((List.range x.length).map fun i=>x.getD i nd0)=some x
  rw [ex]
def ngF(x:Fl):Fl:=((6,(0,[])):Nd)::(x++ [((1,(0,[])):Nd)])
theorem p80{x:Fl}(h:DI x)(hl:x.length<=40):G80 (6,(x,[((1,(0,[])):Nd)]))=some (ngF x):=by
 have h1:DI [((1,(0,[])):Nd)]:=⟨by show 1<=_;omega,fun k hk=>by rw [List.mem_singleton.1 hk];exact Nat.zero_le _⟩
 refine Aa (p114 h) (Ao (by show(0+1)+x.length<=_;omega) (Aa (p114 h1) (Ao ?_ rfl)))
 show(([((6,(0,[])):Nd)]++x).length)+1<=_;simp;omega
def ngT(t:Tr):Tr:=.bin (6,(0,[])) t (.leaf (1,(0,[])))
theorem ngT_ok{t:Tr}(h:t.ok=true):(ngT t).ok=true:=by
 show((A1 (6,(0,[]))&&decide (pts (6,(0,[]))=2))&&(t.ok&&(A1 (1,(0,[]))&&decide (pts (1,(0,[]))=0))))=true;rw [h];rfl
theorem XF{t:Tr}:(ngT t).flat=ngF t.flat:=rfl
theorem ZT{x:Fl}(h:DI x)(hl:x.length<=40):DI (ngF x):=by
 refine⟨?_,fun k hk=>?_⟩
 ·show(x++ [_]).length+1<=_
  simp;omega
 ·unfold ngF at hk
  rcases List.mem_cons.1 hk with rfl|hk
  ·exact Nat.zero_le _
  ·rcases List.mem_append.1 hk with hk|hk
   ·exact h.2 k hk
   ·rw [List.mem_singleton.1 hk];exact Nat.zero_le _
theorem leaf1{S:List SF}{R:List Rl}{G:List Int}:val S R (.leaf (1,(0,[]))) G=fun _ _=>false:=by
 show HV S R (1,(0,[])) G=_;rw [Je (by decide) (by decide)];rfl
def ngV(s:St)(G:List Int)(x:Fl):Nat->Nat->Bool:=evB s.1 G (fun y n=>!vlF s G x y n) (ar (shC s.1))
theorem p53n{S:List SF}{R:List Rl}(hs:StK (S,R))(hR: ∀r∈R,okR r){x:Fl}(hx:DI x)(hf:HC x=true){G:List Int}(hc:CK S G)(ht:tyF (S,R) G x=true):
  G53 ((S,R),(G,(ngF x,(0:Int))))=some (mkV S G (ngV (S,R) G x)):=by
 obtain⟨h1,h2,h3⟩:=KY hf;have hl:(tr x).flat.length<=40:=by rw [<-h2];exact h3
 have hng:ngF x=(ngT (tr x)).flat:=by rw [XF,<-h2]
 have hfl:(ngT (tr x)).flat.length=(tr x).flat.length+1+1:=CA _ _ _;have hat:At (ngF x) 0 (ngT (tr x)):=by rw [hng];exact Y3 _
 have hty:tyB S R (ngT (tr x)) G=true:=by
  show(tyB S R (tr x) G&&Cy R (1,(0,[])) G)=true;have:tyB S R (tr x) G=true:=ht;rw [this];rfl
 have e:=p53T hs hR (ZT hx h3) (ngT (tr x)) (ngT_ok h1) G hc hty 0 hat 4096 (by omega)
 refine e.trans (congrArg some ?_);refine congrArg (mkV S G) ?_;show evB S G (fun y n=>!val S R (tr x) G y n||val S R (.leaf (1,(0,[]))) G y n) (ar (shC S))=evB S G (fun y n=>!val S R (tr x) G y n) (ar (shC S))
 congr 1
 funext y n
 rw [leaf1,Bool.or_false]
theorem p40082{S:List SF}{G:List Int}(hs:SK S)(hc:CK S G)(f g:Nat->Nat->Bool):G40082 (mkV S G f,(mkV S G g,()))=some (mkV S G fun x n=>!f x n):=
 p_pw hs hc (c:=G83) (h:=fun a _=>!a) (fun a b=>rfl) f g
theorem p50082{S:List SF}{G:List Int}(hs:SK S)(hc:CK S G)(f g:Nat->Nat->Bool):G50082 (mkV S G f,(mkV S G g,()))=some (mkV S G fun x n=>f x n||g x n):=
 p_pw hs hc (c:=G84) (h:=fun a b=>a||b) (fun a b=>by cases a<;>rfl) f g
theorem Ox{α:Type}{p:Nat->Option α}: ∀l:List Nat,(l.findSome? p).isNone=l.all fun i=>(p i).isNone
 | []=>rfl
 |a::l=>by
  rw [List.findSome?_cons,List.all_cons];cases hp:p a with
  |some y=>rfl
  |none=>rw [Ox l];rfl
theorem Q8(v:List (List Bool)):(L0 v).isNone=(List.range v.length).all fun x=>(List.range (v.getD x []).length).all fun n=>(v.getD x []).getD n false:=by
 unfold L0;rw [Ox]
 congr 1
 funext x
 rw [Option.isNone_map];unfold Xk;rw [Ox]
 congr 1
 funext n
 cases (v.getD x []).getD n false<;>rfl
def idR(s:St)(G:List Int)(x:Fl):Bool×Int:=bif decide (Jq s G x=0)then((List.range (obN s.1)).all (fun y=>(List.range (cnt s.1 G (y:Int))).all fun n=>vlF s G x y n||ngV s G x y n),0)else(false,Jq s G x)
theorem p42{S:List SF}{R:List Rl}{G:List Int}{x:Fl}(h:Mb (S,R))(hG:G.length<=1048576)(hx:DI x):G42 ((S,R),(G,x))=some (idR (S,R) G x):=by
 refine Aa (p57 h hG hx) ?_;unfold idR;cases h0:decide (Jq (S,R) G x=0)with
 |false=>simp only [cond_false,h0,Bool.not_false,cond_true]
 |true=>
  have k:=YT (of_decide_eq_true h0);have hsk:SK S:=k.st.sk;have hc:CK S G:=k.ck;refine Aa (p74 hsk) (Aj rfl (Aa (p40082 hsk hc _ _) (Aa (p81 hsk hc _) (Aa (p50082 hsk hc _ _) (Aa (p76V hsk hc _) ?_)))));have e:=Q8 (mkV S G fun y n=>vlF (S,R) G x y n||ngV (S,R) G x y n)
  have e2:((List.range (mkV S G fun y n=>vlF (S,R) G x y n||ngV (S,R) G x y n).length).all fun y=>(List.range ((mkV S G fun y n=>vlF (S,R) G x y n||ngV (S,R) G x y n).getD y []).length).all fun n=>((mkV S G fun y n=>vlF (S,R) G x y n||ngV (S,R) G x y n).getD y []).getD n false)=
    (List.range (obN S)).all fun y=>(List.range (cnt S G (y:Int))).all fun n=>vlF (S,R) G x y n||ngV (S,R) G x y n:=by
   rw [Bt];refine KT fun y hy=>?_
   rw [A6 hy,AZ];exact KT fun n hn=>Bw hn
  rw [e2]at e;show some (!_,(0:Int))=some ((List.range (obN S)).all (fun y=>(List.range (cnt S G (y:Int))).all fun n=>vlF (S,R) G x y n||ngV (S,R) G x y n),0)
  rw [<-e];show some (!(match L0 (mkV S G fun y n=>vlF (S,R) G x y n||ngV (S,R) G x y n)with|some (x,n)=>((x:Int),((n:Int),true))|none=>((0:Int),((0:Int),false))).2.2,(0:Int))=_
  cases L0 (mkV S G fun y n=>vlF (S,R) G x y n||ngV (S,R) G x y n)<;>rfl
theorem p41{S:List SF}{R:List Rl}{G:List Int}{x:Fl}(h:Mb (S,R))(hG:G.length<=1048576)(hx:DI x):G41 ((S,R),(G,x))=some (idR (S,R) G x):=by
 refine Aa (p51 h hG hx) ?_;unfold idR;cases h0:decide (Jq (S,R) G x=0)with
 |false=>simp only [cond_false,h0,Bool.not_false,cond_true]
 |true=>
  have k:=YT (of_decide_eq_true h0);have hsk:SK S:=k.st.sk;have hc:CK S G:=k.ck;have hob:obN S<=8:=hsk.ob.2;obtain⟨h1,h2,h3⟩:=KY k.fm;refine Aa (p80 hx h3) (Aa (p53 k.st h.rr hx k.fm k.ck k.ty) (Aa (p53n k.st h.rr hx k.fm k.ck k.ty) ?_));have hlf:(mkV S G (vlF (S,R) G x)).length=obN S:=Bt;have hln:(mkV S G (ngV (S,R) G x)).length=obN S:=Bt;refine(JR (n:=(mkV S G (vlF (S,R) G x)).length) (p:=fun y=>(List.range (cnt S G (y:Int))).all fun n=>vlF (S,R) G x y n||ngV (S,R) G x y n) (id:=0) (r:=(false,(0:Int))) (v:=(true,0)) (fun y hy=>?_) (Ae Bk rfl) (fun _=>Ao rfl rfl)).trans ?_
  ·have hy':y<obN S:=by omega
   have ef:=A6 (G:=G) (f:=vlF (S,R) G x) hy';have en:=A6 (G:=G) (f:=ngV (S,R) G x) hy';have hcl:=Dt hsk hc hy';have lf:((mkV S G (vlF (S,R) G x)).getD y []).length=cnt S G (y:Int):=by rw [ef,AZ]
   have ln:((mkV S G (ngV (S,R) G x)).getD y []).length=cnt S G (y:Int):=by rw [en,AZ]
   have hyn:y<(mkV S G (ngV (S,R) G x)).length:=by omega
   refine Aj (C8 hy) ?_;refine JR (n:=cnt S G (y:Int)) (p:=fun n=>vlF (S,R) G x y n||ngV (S,R) G x y n) (id:=2) (r:=LO.ret (false,(0:Int))) (v:=LO.next ((y+1:Nat):Int)) (fun n hn=>?_) (Ao (Ab hy) (Ae (dF (show ¬ ((cnt S G (y:Int):Int)<(((mkV S G (vlF (S,R) G x)).getD y []).length:Int)) by omega)) rfl)) (fun _=>Ao rfl (nx0 (wrS (by omega))))
   have hnf:(0:Int)<=(n:Int)/\(n:Int)<(((mkV S G (vlF (S,R) G x)).getD y []).length:Int):=by omega
   have hnn:(0:Int)<=(n:Int)/\(n:Int)<(((mkV S G (ngV (S,R) G x)).getD y []).length:Int):=by omega
   have vf:((mkV S G (vlF (S,R) G x)).getD y []).getD n false=vlF (S,R) G x y n:=by rw [ef,Bw hn]
   have vn:((mkV S G (ngV (S,R) G x)).getD y []).getD n false=ngV (S,R) G x y n:=by rw [en,Bw hn]
   refine Ao (Ab hy) (Aj (dT hnf.2) (Ao (Ab hy) (Ao hnf (Aa (v:=!(vlF (S,R) G x y n||ngV (S,R) G x y n)) ?_ ((YN (wrS (by omega))).trans (by rw [Bool.not_not]))))))
   show(bif !((mkV S G (vlF (S,R) G x)).getD y []).getD n false then _ else _)=_;rw [vf];cases vlF (S,R) G x y n with
   |true=>rfl
   |false=>exact Ao (Ab hyn) (Ao hnn (congrArg (fun b=>some (!b)) vn))
  ·rw [hlf]
   show _=some ((List.range (obN S)).all (fun y=>(List.range (cnt S G (y:Int))).all fun n=>vlF (S,R) G x y n||ngV (S,R) G x y n),(0:Int))
   cases (List.range (obN S)).all (fun y=>(List.range (cnt S G (y:Int))).all fun n=>vlF (S,R) G x y n||ngV (S,R) G x y n)<;>rfl
theorem p9(z:St×List Int×Fl)(h:okT (PT S9.ps) z):G9 z=some true:=by
 obtain⟨s,G,x⟩:=z;obtain⟨h1,h2,h3,h4⟩:=okT_in h;refine szs_of (G:=G) h1 h3 h4 _ (fun nG=>?_) (fun nG r0 e0 n0=>?_) (fun nG r0 e0 n0 r1 e1 n1=>?_) (fun r0 r1 hz=>?_)
 ·unfold G9
  simp only [nG,decide_true,cond_true]
 ·unfold G9
  simp only [Prod.eta,nG,decide_false,cond_false,e0,n0,Option.bind_some,decide_true,cond_true]
 ·unfold G9
  simp only [Prod.eta,nG,decide_false,cond_false,e0,n0,e1,n1,Option.bind_some,decide_true,cond_true]
 ·obtain⟨hG,e0,n0,e1,n1,hs,hw,hx,hwx⟩:=hz
  obtain⟨S,R⟩:=s;have e14:=p14 hs;have e15:=p15 hG;have e16:=p16 hx;have e41:=p41 hs hG hx;have e42:=p42 hs hG hx;generalize idR (S,R) G x=r at*;have g19:=p19 hs;have g20:=p20 hG;have g21:=p21 hx;have nG: ¬ ((1048576:Int)<(G.length:Int)):=by omega
  unfold G9;simp only [Prod.eta,nG,e0,n0,e1,n1,decide_false,cond_false,e14,e15,e16,e41,e42,g19,g20,g21,Option.bind_some,Bool.not_true,decide_true,cond_true,beq_self_eq_true]
end
end Go.Ve.D

