/- Entailment: the law. -/
import Derived.Test.YtbbhfpbalccohaaGreatFgd
import Derived.Test.YtbbhfpbalccohaaGreatUr10
namespace Go.Ve.D
open Go Go.Ve
noncomputable section
def cdL(s:St)(G:List Int)(L:List Fl):Int:=bif !L2 s then 1 else bif(List.range L.length).all (fun i=>Dc (L.getD i []))then(bif Ij s.1 G then 0 else 2)else 1
def tyL(s:St)(G:List Int)(L:List Fl):Bool:=(List.range L.length).all fun i=>tyF s G (L.getD i [])
def ftL(s:St)(G:List Int)(L:List Fl):Bool:=(List.range L.length).all fun i=>ftF s G (L.getD i [])
def enC(s:St)(G:List Int)(L:List Fl):Int:=bif !decide (cdL s G L=0)then cdL s G L else bif tyL s G L then(bif ftL s G L then 0 else 3)else 5
theorem cdL_0{s:St}{G:List Int}{L:List Fl}(h:decide (cdL s G L=0)=true):L2 s=true/\(∀x∈L,Dc x=true)/\Ij s.1 G=true:=by
 unfold cdL at h;cases h1:L2 s with
 |false=>rw [h1]at h;cases h
 |true=>
 cases h2:(List.range L.length).all (fun i=>Dc (L.getD i []))with
 |false=>rw [h1,h2]at h;cases h
 |true=>
 cases h3:Ij s.1 G with
 |false=>rw [h1,h2,h3]at h;cases h
 |true=>
  refine⟨rfl,fun x hx=>?_,rfl⟩
  obtain⟨i,hi,rfl⟩:=List.getElem_of_mem hx;have:=aET.1 h2 i (List.mem_range.2 hi);rwa [gDE,gEE hi]at this
theorem AaM{s:St}{G:List Int}{x:Fl}(h1:L2 s=true)(h2:Dc x=true)(h3:Ij s.1 G=true):DI s G x=bif !tyF s G x then 5 else bif !ftF s G x then 3 else 0:=by
 refine Yl ?_;unfold cxC;rw [h1,h2,h3];rfl
theorem p85{S:List SF}{R:List Rl}{G:List Int}{L:List Fl}(h:JJ (S,R))(hG:G.length<=1048576)(hL:L.length<=2097152)(hx: ∀x∈L,C8 x):G85 ((S,R),(G,L))=some (enC (S,R) G L):=by
 refine Aa (p103 h) ?_;cases hst:L2 (S,R)with
 |false=>
  unfold enC cdL;rw [hst];rfl
 |true=>
 have hcd:cdL (S,R) G L=bif(List.range L.length).all (fun i=>Dc (L.getD i []))then(bif Ij S G then 0 else 2)else 1:=by
  unfold cdL;rw [hst];rfl
 refine Ad rfl ((JM (n:=L.length) (p:=fun i=>Dc (L.getD i [])) (id:=0) (r:=(1:Int)) (v:=bif Ij S G then(bif tyL (S,R) G L then(bif ftL (S,R) G L then 0 else 3)else 5)else 2) (fun i hi=>?_) (Ad A1 rfl) (fun hall=>Am rfl ?_)).trans ?_)
 ·exact Aj (Cn hi) (Am (Ab hi) (Aa (p104 (hx _ (As [] hi))) (fin1 (wrS (by omega)))))
 ·refine Aa (p105 (R:=R) hG) ?_
  cases hc:Ij S G with
  |false=>rfl
  |true=>
  have hfm: ∀i,i<L.length->Dc (L.getD i [])=true:=fun i hi=>aET.1 hall i (List.mem_range.2 hi)
  have hcode: ∀i,i<L.length->DI (S,R) G (L.getD i [])=bif !tyF (S,R) G (L.getD i [])then 5 else bif !ftF (S,R) G (L.getD i [])then 3 else 0:=fun i hi=>AaM hst (hfm i hi) hc
  have hsucc: ∀k,(List.range (k+1)).all (fun i=>ftF (S,R) G (L.getD i []))=((List.range k).all (fun i=>ftF (S,R) G (L.getD i []))&&ftF (S,R) G (L.getD k [])):=fun k=>by
   rw [List.range_succ,List.all_append];simp only [List.all_cons,List.all_nil,Bool.and_true]
  have step: ∀i,i<L.length->tyF (S,R) G (L.getD i [])=true->(Option.bind (G51 ((S,R),(G,L.getD i []))) (fun(v4:Int)=>Option.bind (bif decide (v4=5)then some true else some (decide ((bif(List.range i).all (fun i=>ftF (S,R) G (L.getD i []))then(0:Int)else 3)=0))) (fun(v5:Bool)=>bif v5 then(bif decide (v4=5)then AM (some v4)else some (LO.next (v4,IntKind.wrap .i64 ((i:Int)+1))))else(bif decide (v4=5)then AM (some v4)else some (LO.next ((bif(List.range i).all (fun i=>ftF (S,R) G (L.getD i []))then(0:Int)else 3),IntKind.wrap .i64 ((i:Int)+1)))))):Option (LO (Int×Int) Int))=
    some (.next ((bif(List.range (i+1)).all (fun i=>ftF (S,R) G (L.getD i []))then(0:Int)else 3),((i+1:Nat):Int))):=by
   intro i hi hty;have hci:=hcode i hi;rw [hty]at hci;refine Aa (p51 h hG (hx _ (As [] hi))) ?_;rw [hci,hsucc,<-wrS (i:=i) (by omega)]
   cases (List.range i).all (fun i=>ftF (S,R) G (L.getD i []))<;>cases ftF (S,R) G (L.getD i [])<;>rfl
  refine Ad rfl ?_;show _=some (bif tyL (S,R) G L then(bif ftL (S,R) G L then 0 else 3)else 5);cases hty:tyL (S,R) G L with
  |true=>
   refine Aa (AI (st:=fun i:Nat=>((bif(List.range i).all (fun i=>ftF (S,R) G (L.getD i []))then(0:Int)else 3),(i:Int))) (n:=L.length) (o:=.brk 2 ((bif(List.range L.length).all (fun i=>ftF (S,R) G (L.getD i []))then(0:Int)else 3),(L.length:Int))) rfl (fun i hi=>?_) (Ad A1 rfl) (fun y=>by simp)) (Am rfl rfl)
   exact Aj (Cn hi) (Am (Ab hi) (step i hi (aET.1 hty i (List.mem_range.2 hi))))
  |false=>
   obtain⟨m,hm,hb,hlt⟩:=Jq hty;have hcm:=hcode m hm;rw [hb]at hcm;have e51:G51 ((S,R),(G,L.getD m []))=some 5:=by rw [p51 h hG (hx _ (As [] hm)),hcm];rfl
   refine Aa (AI (st:=fun i:Nat=>((bif(List.range i).all (fun i=>ftF (S,R) G (L.getD i []))then(0:Int)else 3),(i:Int))) (n:=m) (o:=.ret 5) rfl (fun i hi=>?_) (Aj (Cn hm) (Am (Ab hm) (Aa e51 rfl))) (fun y=>by simp)) rfl
   ·have hi':i<L.length:=by omega
    exact Aj (Cn hi') (Am (Ab hi') (step i hi' (hlt i hi)))
 ·unfold enC
  rw [hcd];cases (List.range L.length).all (fun i=>Dc (L.getD i []))<;>cases Ij S G<;>rfl
def hyV(s:St)(G:List Int)(H:List Fl)(j:Nat)(y n:Nat):Bool:=(List.range j).all fun k=>vlF s G (H.getD k []) y n
theorem hyV_s{s:St}{G:List Int}{H:List Fl}{j y n:Nat}:hyV s G H (j+1) y n=(hyV s G H j y n&&vlF s G (H.getD j []) y n):=by
 unfold hyV;rw [List.range_succ,List.all_append];simp only [List.all_cons,List.all_nil,Bool.and_true]
def enR(s:St)(G:List Int)(H:List Fl)(c:Fl):Bool×Int:=bif !decide (enC s G (H++ [c])=0)then(false,enC s G (H++ [c]))else
 ((List.range (obN s.1)).all (fun y=>(List.range (cnt s.1 G (y:Int))).all fun n=>!hyV s G H H.length y n||vlF s G c y n),0)
structure EnK(s:St)(G:List Int)(L:List Fl):Prop where
 st:StK s
 ck:CK s.1 G
 fm: ∀x∈L,Dc x=true
 ty: ∀x∈L,tyF s G x=true
theorem enC_k{s:St}{G:List Int}{L:List Fl}(h:decide (enC s G L=0)=true):decide (cdL s G L=0)=true/\tyL s G L=true/\ftL s G L=true/\EnK s G L:=by
 have h:=of_decide_eq_true h;unfold enC at h;cases h0:decide (cdL s G L=0)with
 |false=>
  rw [h0]at h;exact absurd h (of_decide_eq_false h0)
 |true=>
 rw [h0]at h;cases h1:tyL s G L with
 |false=>rw [h1]at h;cases h
 |true=>
 rw [h1]at h;cases h2:ftL s G L with
 |false=>rw [h2]at h;cases h
 |true=>
 obtain⟨g1,g2,g3⟩:=cdL_0 h0;refine⟨rfl,rfl,rfl,Ks g1,KJ g3,g2,fun x hx=>?_⟩
 obtain⟨i,hi,rfl⟩:=List.getElem_of_mem hx;have:=aET.1 h1 i (List.mem_range.2 hi);rwa [gDE,gEE hi]at this
theorem p60082{S:List SF}{G:List Int}(hs:SK S)(hc:CK S G)(f g:Nat->Nat->Bool):G60082 (mkV S G f,(mkV S G g,()))=some (mkV S G fun x n=>f x n&&g x n):=
 p_pw hs hc (c:=G87) (h:=fun a b=>a&&b) (fun a b=>by cases a<;>rfl) f g
theorem p70082{S:List SF}{G:List Int}(hs:SK S)(hc:CK S G)(f g:Nat->Nat->Bool):G70082 (mkV S G f,(mkV S G g,()))=some (mkV S G fun x n=>!f x n||g x n):=
 p_pw hs hc (c:=G88) (h:=fun a b=>!a||b) (fun a b=>by cases a<;>rfl) f g
theorem VI{H:List Fl}{c:Fl}(hH: ∀x∈H,C8 x)(hc:C8 c): ∀x∈H++ [c],C8 x:=fun x hx=>by
 rcases List.mem_append.1 hx with h|h
 ·exact hH x h
 ·rw [List.mem_singleton.1 h];exact hc
theorem p46{S:List SF}{R:List Rl}{G:List Int}{H:List Fl}{c:Fl}(h:JJ (S,R))(hG:G.length<=1048576)(hHl:H.length<=1048576)(hH: ∀x∈H,C8 x)(hcF:C8 c):
  G46 ((S,R),(G,(H,c)))=some (enR (S,R) G H c):=by
 have hLl:(H++ [c]).length<=2097152:=by rw [List.length_append];show H.length+1<=_;omega
 have hL:=VI hH hcF;refine Am (show([]:List Fl).length+H.length<=5864062014805 by simp;omega) (Am (show H.length+1<=5864062014805 by omega) (Aa (p68 (L:=H++ [c]) h hG hLl hL) ?_))
 show(bif !decide (cdL (S,R) G (H++ [c])=0)then _ else _)=_;unfold enR;cases h0:decide (cdL (S,R) G (H++ [c])=0)with
 |false=>
  have e:enC (S,R) G (H++ [c])=cdL (S,R) G (H++ [c]):=by
   unfold enC;rw [h0];rfl
  rw [e,h0];rfl
 |true=>
 obtain⟨g1,g2,g3⟩:=cdL_0 h0;have hk:=Ks g1;have hck:CK S G:=KJ g3;refine Ad rfl (Aa (p72 hk hck hLl hL g2) ?_)
 have e:enC (S,R) G (H++ [c])=bif tyL (S,R) G (H++ [c])then(bif ftL (S,R) G (H++ [c])then 0 else 3)else 5:=by
  unfold enC;rw [h0];rfl
 show(bif !decide ((bif tyL (S,R) G (H++ [c])then(bif ftL (S,R) G (H++ [c])then(0:Int)else 3)else 5)=0)then some (false,(bif tyL (S,R) G (H++ [c])then(bif ftL (S,R) G (H++ [c])then(0:Int)else 3)else 5))else _)=_;rw [e];cases h1:decide ((bif tyL (S,R) G (H++ [c])then(bif ftL (S,R) G (H++ [c])then(0:Int)else 3)else 5)=0)with
 |false=>rfl
 |true=>
 rw [<-e]at h1;obtain⟨_,_,_,hek⟩:=enC_k h1;have hsk:SK S:=hk.sk;have hcm:c∈H++ [c]:=List.mem_append.2 (.inr (List.mem_singleton.2 rfl));have hHm: ∀i,i<H.length->H.getD i []∈H++ [c]:=fun i hi=>List.mem_append.2 (.inl (As [] hi))
 refine Ad rfl (Aa (p74 hsk) (Aj rfl (Aa (p86 hsk hck) ?_)));refine Aa (AI (st:=fun j:Nat=>((j:Int),mkV S G (hyV (S,R) G H j))) (n:=H.length) (o:=.brk 0 ((H.length:Int),mkV S G (hyV (S,R) G H H.length))) rfl (fun j hj=>?_) (Ad A1 rfl) (fun y=>by simp)) ?_
 ·refine Aj (Cn hj) (Am (Ab hj) (Aa (p73 hk h.rr (hH _ (As [] hj)) (hek.fm _ (hHm j hj)) hck (hek.ty _ (hHm j hj))) (Aa (p60082 hsk hck _ _) ?_)))
  show some (LO.next (IntKind.wrap .i64 ((j:Int)+1),mkV S G fun y n=>hyV (S,R) G H j y n&&vlF (S,R) G (H.getD j []) y n))=_
  rw [wrS (by omega)]
  exact congrArg (fun v=>some (LO.next (((j+1:Nat):Int),v))) (congrArg (mkV S G) (funext fun y=>funext fun n=>hyV_s.symm))
 ·refine Am rfl (Aa (p73 hk h.rr hcF (hek.fm _ hcm) hck (hek.ty _ hcm)) (Aa (p70082 hsk hck _ _) (Aa (p76V hsk hck _) ?_)))
  have e1:=Ue (mkV S G fun y n=>!hyV (S,R) G H H.length y n||vlF (S,R) G c y n)
  have e2:((List.range (mkV S G fun y n=>!hyV (S,R) G H H.length y n||vlF (S,R) G c y n).length).all fun y=>(List.range ((mkV S G fun y n=>!hyV (S,R) G H H.length y n||vlF (S,R) G c y n).getD y []).length).all fun n=>((mkV S G fun y n=>!hyV (S,R) G H H.length y n||vlF (S,R) G c y n).getD y []).getD n false)=
    (List.range (obN S)).all fun y=>(List.range (cnt S G (y:Int))).all fun n=>!hyV (S,R) G H H.length y n||vlF (S,R) G c y n:=by
   rw [BA];refine K2 fun y hy=>?_
   rw [A6 hy,AS];exact K2 fun n hn=>Bw hn
  rw [e2]at e1;show _=some ((List.range (obN S)).all (fun y=>(List.range (cnt S G (y:Int))).all fun n=>!hyV (S,R) G H H.length y n||vlF (S,R) G c y n),(0:Int))
  rw [<-e1];show some (!(match L8 (mkV S G fun y n=>!hyV (S,R) G H H.length y n||vlF (S,R) G c y n)with|some (x,n)=>((x:Int),((n:Int),true))|none=>((0:Int),((0:Int),false))).2.2,(0:Int))=_
  cases L8 (mkV S G fun y n=>!hyV (S,R) G H H.length y n||vlF (S,R) G c y n)<;>rfl
def stq(f g:Nat->Nat->Bool)(i j x k:Nat):Bool:=bif decide (x<i)||(decide (x=i)&&decide (k<j))then g x k else f x k
theorem stq_0{f g:Nat->Nat->Bool}:stq f g 0 0=f:=by
 funext x k
 unfold stq;simp
theorem ZB{S:List SF}{G:List Int}{f g:Nat->Nat->Bool}:mkV S G (stq f g (obN S) 0)=mkV S G g:=BK fun x hx k _=>by
 unfold stq;rw [dT hx];rfl
theorem Xp{S:List SF}{G:List Int}{f g:Nat->Nat->Bool}{i:Nat}:mkV S G (stq f g i (cnt S G (i:Int)))=mkV S G (stq f g (i+1) 0):=BK fun x hx k hk=>by
 unfold stq;by_cases h:x=i
 ·subst h
  rw [dT hk,dT (show x<x+1 by omega),dT (rfl:x=x)]
  simp
 ·rw [dF h]
  by_cases h1:x<i
  ·rw [dT h1,dT (show x<i+1 by omega)];rfl
  ·rw [dF h1,dF (show ¬x<i+1 by omega),dF (show ¬k<0 by omega)];simp
theorem ZA{f g:Nat->Nat->Bool}{i j:Nat}:upd (stq f g i j) i j (g i j)=stq f g i (j+1):=by
 funext x k
 unfold upd stq;by_cases h:x=i/\k=j
 ·obtain⟨h1,h2⟩:=h
  subst h1;subst h2;rw [if_pos ⟨rfl,rfl⟩,dT (rfl:x=x),dT (show k<k+1 by omega)]
  simp
 ·rw [if_neg h]
  by_cases h1:x=i
  ·have h2:k≠j:=fun e=>h ⟨h1,e⟩
   have:decide (k<j)=decide (k<j+1):=decide_eq_decide.2 (by omega)
   rw [this]
  ·rw [dF h1];simp
theorem stq_at{f g:Nat->Nat->Bool}{i j:Nat}:stq f g i j i j=f i j:=by
 unfold stq;simp
def coV(s:St)(G:List Int)(H:List Fl)(c:Fl)(j:Nat)(y n:Nat):Bool:=vlF s G c y n|| !hyV s G H j y n
theorem coV_s{s:St}{G:List Int}{H:List Fl}{c:Fl}{j:Nat}:(fun y n=>coV s G H c j y n|| !vlF s G (H.getD j []) y n)=coV s G H c (j+1):=by
 funext y n
 unfold coV;rw [hyV_s];cases vlF s G c y n<;>cases hyV s G H j y n<;>cases vlF s G (H.getD j []) y n<;>rfl
theorem p44{S:List SF}{R:List Rl}{G:List Int}{H:List Fl}{c:Fl}(h:JJ (S,R))(hG:G.length<=1048576)(hHl:H.length<=1048576)(hH: ∀x∈H,C8 x)(hcF:C8 c):
  G44 ((S,R),(G,(H,c)))=some (enR (S,R) G H c):=by
 have hLl:(H++ [c]).length<=2097152:=by rw [List.length_append];show H.length+1<=_;omega
 have hL:=VI hH hcF;refine Am (show([]:List Fl).length+H.length<=5864062014805 by simp;omega) (Am (show H.length+1<=5864062014805 by omega) (Aa (p85 (L:=H++ [c]) h hG hLl hL) ?_))
 show(bif !decide (enC (S,R) G (H++ [c])=0)then some (false,enC (S,R) G (H++ [c]))else _)=_;unfold enR;cases h1:decide (enC (S,R) G (H++ [c])=0)with
 |false=>rfl
 |true=>
 obtain⟨_,_,_,hek⟩:=enC_k h1;have hk:=hek.st;have hck:CK S G:=hek.ck;have hsk:SK S:=hk.sk;have hob:obN S<=8:=hsk.ob.2;have hcm:c∈H++ [c]:=List.mem_append.2 (.inr (List.mem_singleton.2 rfl));have hHm: ∀i,i<H.length->H.getD i []∈H++ [c]:=fun i hi=>List.mem_append.2 (.inl (As [] hi))
 have hlv: ∀g,(mkV S G g).length=obN S:=fun g=>BA
 have e0:coV (S,R) G H c 0=vlF (S,R) G c:=by
  funext y n
  show(vlF (S,R) G c y n|| !true)=_;simp
 refine Ad rfl (Aa (p53 hk h.rr hcF (hek.fm _ hcm) hck (hek.ty _ hcm)) ?_);refine Aa (AI (st:=fun j:Nat=>((j:Int),mkV S G (coV (S,R) G H c j))) (n:=H.length) (o:=.brk 0 ((H.length:Int),mkV S G (coV (S,R) G H c H.length))) (congrArg (fun f=>((0:Int),mkV S G f)) e0.symm) (fun j hj=>?_) (Ad A1 rfl) (fun y=>by simp)) ?_
 ·refine Aj (Cn hj) (Am (Ab hj) (Aa (p53 hk h.rr (hH _ (As [] hj)) (hek.fm _ (hHm j hj)) hck (hek.ty _ (hHm j hj))) ?_))
  obtain⟨f,ef⟩: ∃f,f=coV (S,R) G H c j:=⟨_,rfl⟩;obtain⟨m,em⟩: ∃m,m=vlF (S,R) G (H.getD j []):=⟨_,rfl⟩;have ej:(fun y n=>f y n|| !m y n)=coV (S,R) G H c (j+1):=by rw [ef,em];exact coV_s
  rw [<-ej,<-ef,<-em];refine Aa (AI (st:=fun y:Nat=>((y:Int),(mkV S G (stq f (fun y n=>f y n|| !m y n) y 0),mkV S G m))) (n:=obN S) (o:=.brk 2 ((obN S:Int),(mkV S G (stq f (fun y n=>f y n|| !m y n) (obN S) 0),mkV S G m))) (by rw [stq_0];rfl) (fun y hy=>?_) ?_ (fun y=>by simp)) ?_
  ·have hcl:=C9 hsk hck hy
   have er: ∀g,(mkV S G g).getD y []=row S G g y:=fun g=>A6 hy
   have hyl: ∀g,(0:Int)<=(y:Int)/\(y:Int)<((mkV S G g).length:Int):=fun g=>by rw [hlv];exact Ab hy
   refine Aj (dT (hyl _).2) ?_;refine Aa (AI (st:=fun n:Nat=>((n:Int),(mkV S G (stq f (fun y n=>f y n|| !m y n) y n),mkV S G m))) (n:=cnt S G (y:Int)) (o:=.brk 4 ((cnt S G (y:Int):Int),(mkV S G (stq f (fun y n=>f y n|| !m y n) y (cnt S G (y:Int))),mkV S G m))) rfl (fun n hn=>?_) ?_ (fun y=>by simp)) ?_
   ·have hnl: ∀g,(0:Int)<=(n:Int)/\(n:Int)<(((mkV S G g).getD y []).length:Int):=fun g=>by rw [er,AS];exact Ab hn
    have hv: ∀g,((mkV S G g).getD y []).getD n false=g y n:=fun g=>by rw [er,Bw hn]
    refine Am (hyl _) (Aj (dT (hnl _).2) (Am (hyl _) (Am (hyl _) (Am (hnl _) (Aa (v:=f y n|| !m y n) ?_ (Am (hnl _) ?_))))))
    ·show(bif((mkV S G (stq f (fun y n=>f y n|| !m y n) y n)).getD y []).getD n false then _ else _)=_
     rw [hv,stq_at];cases f y n with
     |true=>rfl
     |false=>exact Am (hyl _) (Am (hnl _) (congrArg (fun b=>some (!b)) (hv _)))
    ·show some (LO.next (IntKind.wrap .i64 ((n:Int)+1),((mkV S G (stq f (fun y n=>f y n|| !m y n) y n)).set y (((mkV S G (stq f (fun y n=>f y n|| !m y n) y n)).getD y []).set n (f y n|| !m y n)),mkV S G m)))=_
     rw [er,show(mkV S G (stq f (fun y n=>f y n|| !m y n) y n)).set y ((row S G (stq f (fun y n=>f y n|| !m y n) y n) y).set n (f y n|| !m y n))=mkV S G (upd (stq f (fun y n=>f y n|| !m y n) y n) y n (f y n|| !m y n))from LU hy,show upd (stq f (fun y n=>f y n|| !m y n) y n) y n (f y n|| !m y n)=stq f (fun y n=>f y n|| !m y n) y (n+1)from ZA,wrS (by omega)]
   ·exact Am (hyl _) (Ad (dF (show ¬ ((cnt S G (y:Int):Int)<(((mkV S G (stq f (fun y n=>f y n|| !m y n) y (cnt S G (y:Int)))).getD y []).length:Int)) by rw [er,AS];omega)) rfl)
   ·refine Am rfl ?_
    show some (LO.next (IntKind.wrap .i64 ((y:Int)+1),(mkV S G (stq f (fun y n=>f y n|| !m y n) y (cnt S G (y:Int))),mkV S G m)))=_
    rw [Xp,wrS (by omega)]
  ·exact Ad (dF (show ¬ ((obN S:Int)<((mkV S G (stq f (fun y n=>f y n|| !m y n) (obN S) 0)).length:Int)) by rw [hlv];omega)) rfl
  ·refine Am rfl ?_
   show some (LO.next (IntKind.wrap .i64 ((j:Int)+1),mkV S G (stq f (fun y n=>f y n|| !m y n) (obN S) 0)))=_
   rw [ZB,wrS (by omega)]
 ·refine Am rfl ?_
  refine(JM (n:=obN S) (p:=fun y=>(List.range (cnt S G (y:Int))).all fun n=>coV (S,R) G H c H.length y n) (id:=6) (r:=(false,(0:Int))) (v:=(true,0)) (fun y hy=>?_) (Ad (dF (show ¬ ((obN S:Int)<((mkV S G (coV (S,R) G H c H.length)).length:Int)) by rw [hlv];omega)) rfl) (fun _=>Am rfl rfl)).trans ?_
  ·have hcl:=C9 hsk hck hy
   have er:(mkV S G (coV (S,R) G H c H.length)).getD y []=row S G (coV (S,R) G H c H.length) y:=A6 hy;have hyl:(0:Int)<=(y:Int)/\(y:Int)<((mkV S G (coV (S,R) G H c H.length)).length:Int):=by rw [hlv];exact Ab hy
   refine Aj (dT hyl.2) ?_;refine JM (n:=cnt S G (y:Int)) (p:=fun n=>coV (S,R) G H c H.length y n) (id:=8) (r:=LO.ret (false,(0:Int))) (v:=LO.next ((y+1:Nat):Int)) (fun n hn=>?_) (Am hyl (Ad (dF (show ¬ ((cnt S G (y:Int):Int)<(((mkV S G (coV (S,R) G H c H.length)).getD y []).length:Int)) by rw [er,AS];omega)) rfl)) (fun _=>Am rfl (nx0 (wrS (by omega))))
   have hnl:(0:Int)<=(n:Int)/\(n:Int)<(((mkV S G (coV (S,R) G H c H.length)).getD y []).length:Int):=by rw [er,AS];exact Ab hn
   have hv:((mkV S G (coV (S,R) G H c H.length)).getD y []).getD n false=coV (S,R) G H c H.length y n:=by rw [er,Bw hn]
   refine Am hyl (Aj (dT hnl.2) (Am hyl (Am hnl ?_)));rw [<-hv];exact fin1 (wrS (by omega))
  ·have e1:((List.range (obN S)).all fun y=>(List.range (cnt S G (y:Int))).all fun n=>coV (S,R) G H c H.length y n)=(List.range (obN S)).all fun y=>(List.range (cnt S G (y:Int))).all fun n=>!hyV (S,R) G H H.length y n||vlF (S,R) G c y n:=by
    congr 1
    funext y
    congr 1
    funext n
    unfold coV;rw [Bool.or_comm]
   rw [e1];show _=some ((List.range (obN S)).all (fun y=>(List.range (cnt S G (y:Int))).all fun n=>!hyV (S,R) G H H.length y n||vlF (S,R) G c y n),(0:Int))
   cases (List.range (obN S)).all (fun y=>(List.range (cnt S G (y:Int))).all fun n=>!hyV (S,R) G H H.length y n||vlF (S,R) G c y n)<;>rfl
theorem p43{x:List Fl}{b:Int}(hb:0<=b/\b<=1048576)(hx:x.length<=maxLen)(h: ∀y∈x,y.length<=maxLen/\∀k∈y,k.2.2.length<=maxLen): ∃r,G43 (x,b)=some r/\SzB r b (x.length+(x.map wF).sum) (∀y∈x,C8 y):=
 VE (g:=G12) (d:=[]) (w:=wF) hb hx fun y hy c hc=>by
  obtain⟨r,e,f⟩:=p12 hc (h y hy).1 (h y hy).2;exact⟨r,e,Iw f rfl fun g=>g.1⟩
theorem p45{x:List Fl}(h:x.length<=1048576)(hx: ∀y∈x,C8 y):G45 x=some x:=by
 refine Am (Yk (m:=24) h (by decide)) ?_
 refine Aa (cpL (d:=[]) (id:=0) (fun i hi l hl=>?_) (fun l=>Ad A1 rfl)) rfl
 have hli:i<l.length:=by omega
 exact Aj (Cn hi) (Am (Ab hi) (Aa (p16 (hx _ (As [] hi))) (Am (Ab hli) (nx1 (wrS (by omega))))))
theorem p47{x:List Fl}(h:x.length<=1048576)(hx: ∀y∈x,C8 y):G47 (x,x)=some true:=
 eqG (x:=x) h (fun i hi=>Aj (Cn hi) (Am (Ab hi) (Am (Ab hi) (Aa (p21 (hx _ (As [] hi))) (Ad rfl (nx0 (wrS (by omega)))))))) (Ad A1 rfl)
theorem p10(z:St×List Int×List Fl×Fl)(h:okT (PT S10.ps) z):G10 z=some true:=by
 obtain⟨s,G,H,c⟩:=z;obtain⟨ha,hb,hH,hc⟩:=h;have h':okT (PT S3.ps) (s,(G,c)):=⟨ha,hb,hc⟩;obtain⟨h1,h2,h3,h4⟩:=YP h';by_cases nG:(1048576:Int)<(G.length:Int)
 ·unfold G10
  simp only [nG,decide_true,cond_true]
 obtain⟨r0,e0,f0⟩:=p11 (s:=s) (b:=1048576) (by omega) h1
 by_cases n0:r0<0
 ·unfold G10
  simp only [Prod.eta,nG,decide_false,cond_false,e0,n0,Option.bind_some,decide_true,cond_true]
 obtain⟨c1,c2,c3,c4⟩:=f0.resolve_left n0
 obtain⟨r1,e1,f1⟩:=p43 (x:=H) (b:=r0) ⟨c1,by omega⟩ hH.1 (fun y hy=>by
  obtain⟨q1,q2⟩:=hH.2 y hy;exact⟨q1,fun k hk=>by obtain⟨_,_,q3⟩:=q2 k hk;exact q3.1⟩)
 by_cases n1:r1<0
 ·unfold G10
  simp only [Prod.eta,nG,decide_false,cond_false,e0,n0,e1,n1,Option.bind_some,decide_true,cond_true]
 obtain⟨d1,d2,d3⟩:=f1.resolve_left n1;obtain⟨r2,e2,f2⟩:=p12 (x:=c) (b:=r1) ⟨d1,by omega⟩ h3 h4
 by_cases n2:r2<0
 ·unfold G10
  simp only [Prod.eta,nG,decide_false,cond_false,e0,n0,e1,n1,e2,n2,Option.bind_some,decide_true,cond_true]
 obtain⟨g1,g2,g3,g4⟩:=f2.resolve_left n2;obtain⟨S,R⟩:=s;have hG:G.length<=1048576:=by omega
 have hHl:H.length<=1048576:=by omega
 have e14:=p14 c3;have e15:=p15 hG;have e45:=p45 hHl d3;have e16:=p16 g3;have e44:=p44 (H:=H) (c:=c) c3 hG hHl d3 g3;have e46:=p46 (H:=H) (c:=c) c3 hG hHl d3 g3;generalize enR (S,R) G H c=r at*;have q19:=p19 c3;have q20:=p20 hG;have q47:=p47 hHl d3;have q21:=p21 g3;unfold G10;simp only [Prod.eta,nG,e0,n0,e1,n1,e2,n2,decide_false,cond_false,e14,e15,e45,e16,e44,e46,q19,q20,q47,q21,Option.bind_some,Bool.not_true,decide_true,cond_true,beq_self_eq_true]
end
end Go.Ve.D

