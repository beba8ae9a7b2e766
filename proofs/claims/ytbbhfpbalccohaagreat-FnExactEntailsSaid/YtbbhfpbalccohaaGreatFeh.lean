/- Values of formulas: the program's. -/
import Derived.Test.YtbbhfpbalccohaaGreatFec
namespace Go.Ve.D
open Go Go.Ve
noncomputable section
theorem p10184{S:List SF}{R:List Rl}{C:Cat}{k:Nd}{G:List Int}(hk:StK (S,R))(hR: ∀r∈R,okR r)(hc:CK S G)(h:RLf S R k G)(e:k.1=2):
  G10184 (((S,R),C),(G,(((S,R),C),(rlA R k.2.1,k))))=some (mkV S G (Iq S R k G)):=by
 show tld (fun p=>G185 (p.1,(p.2,(((S,R),C),(rlA R k.2.1,k))))) ((S,R),C) G=_
 refine p_tld hk.sk hc fun x hx n hn=>(p185 hk hR hc h hx hn).trans ?_
 unfold Iq;rw [dT e];rfl
theorem p20184{S:List SF}{R:List Rl}{C:Cat}{k:Nd}{G:List Int}(hs:SK S)(hc:CK S G)(hw:wi (G.length:Int) k.2.2=true)(hl:k.2.2.length=2)(e:k.1=3):
  G20184 (((S,R),C),(G,k))=some (mkV S G (Iq S R k G)):=by
 show tld (fun p=>G186 (p.1,(p.2,k))) ((S,R),C) G=_
 refine p_tld hs hc fun x hx n hn=>?_
 have hlt:(D8 (szs S G (x:Int)) n).length=G.length:=by rw [K6,BG]
 unfold Iq;rw [Ah (show k.1≠2 by omega),dT e]
 exact Am (show(0:Int)<=(0:Int)/\(0:Int)<(k.2.2.length:Int) by omega) (Am (show 0<=k.2.2.getD 0 0/\k.2.2.getD 0 0<((D8 (szs S G (x:Int)) n).length:Int) by rw [hlt];exact BB hw (by omega)) (Am (show(0:Int)<=(1:Int)/\(1:Int)<(k.2.2.length:Int) by omega) (Am (show 0<=k.2.2.getD 1 0/\k.2.2.getD 1 0<((D8 (szs S G (x:Int)) n).length:Int) by rw [hlt];exact BB hw (by omega)) rfl)))
def qI(all:Bool)(p:Nat->Bool)(e:Nat):Bool:=bif all then(List.range e).all p else(List.range e).any p
theorem qI_0{all:Bool}{p:Nat->Bool}:qI all p 0=all:=by cases all<;>rfl
theorem qI_s{all:Bool}{p:Nat->Bool}{e:Nat}:qI all p (e+1)=(bif !(p e==all)then !all else qI all p e):=by
 unfold qI;rw [List.range_succ,List.all_append,List.any_append];simp only [List.all_cons,List.all_nil,List.any_cons,List.any_nil,Bool.and_true,Bool.or_false];cases all<;>cases p e<;>simp
def quV(S:List SF)(s:Int)(all:Bool)(f:Nat->Nat->Bool)(x n:Nat):Bool:=qI all (fun e=>f x (n*szN S s x+e)) (szN S s x)
theorem quV_t{S:List SF}{s:Int}{f:Nat->Nat->Bool}:quV S s true f=faV S s f:=rfl
theorem quV_f{S:List SF}{s:Int}{f:Nat->Nat->Bool}:quV S s false f=exV S s f:=rfl
theorem Aaq{n z e:Nat}(hn:n<65536)(hz:z<=16)(he:e<z):IntKind.wrap .i64 (IntKind.wrap .i64 ((n:Int)*(z:Int))+(e:Int))=((n*z+e:Nat):Int):=by
 have hm:n*z<=65536*16:=Nat.mul_le_mul (by omega) hz
 obtain⟨m,em⟩: ∃m:Nat,m=n*z:=⟨_,rfl⟩;rw [<-Int.natCast_mul,<-em];rw [<-em]at hm;have h1:IntKind.wrap .i64 (m:Int)=(m:Int):=Ap (by omega) (by omega)
 rw [h1,Ap (by omega) (by omega)]
 omega
theorem Aar{n z e c:Nat}(hn:n<c)(he:e<z):n*z+e<c*z:=by
 calc n*z+e<n*z+z:=by omega
  _=(n+1)*z:=by rw [Nat.add_mul,Nat.one_mul]
  _<=c*z:=Nat.mul_le_mul_right _ (by omega)
theorem UY{S:List SF}(hs:SK S){s:Int}(h:0<=s/\s<(S.length:Int)){x:Nat}(hx:x<obN S):sz (sfA S s) (x:Int)=((szN S s x:Nat):Int)/\szN S s x<=16:=by
 have:=(hs.f h).szi (x:=(x:Int)) (by rw [hs.ob1 h];omega)
 unfold szN;omega
theorem Ww{S:List SF}{G:List Int}{s:Int}{x:Nat}:cnt S (G++ [s]) (x:Int)=cnt S G (x:Int)*szN S s x:=Ym
theorem Zi{f:Nat->Nat->Bool}{x k:Nat}{a b:Bool}:upd (upd f x k a) x k b=upd f x k b:=by
 funext x' k'
 unfold upd;by_cases h:x'=x/\k'=k
 ·rw [if_pos h,if_pos h]
 ·rw [if_neg h,if_neg h,if_neg h]
theorem Xd{f:Nat->Nat->Bool}{x k:Nat}{b:Bool}(h:f x k=b):upd f x k b=f:=by
 funext x' k'
 unfold upd;by_cases h1:x'=x/\k'=k
 ·rw [if_pos h1,h1.1,h1.2,h]
 ·rw [if_neg h1]
theorem p187{S:List SF}{R:List Rl}{C:Cat}{G:List Int}{s:Int}{all:Bool}(hs:SK S)(hc:CK S G)(h0:0<=s/\s<(S.length:Int))(f:Nat->Nat->Bool):
  G187 (((S,R),C),(G,(s,(mkV S (G++ [s]) f,all))))=some (mkV S G (quV S s all f)):=by
 have ho:=hs.ob;refine Aa (p86 hs hc) ?_;have hl0:(mkV S G fun _ _=>all).length=obN S:=BA
 have hlv: ∀g,(mkV S G g).length=obN S:=fun g=>BA
 have hlp:(mkV S (G++ [s]) f).length=obN S:=BA;refine Aa (AI (st:=fun i:Nat=>((i:Int),mkV S G (stp all (quV S s all f) i 0))) (n:=obN S) (o:=.brk 0 ((obN S:Int),mkV S G (stp all (quV S s all f) (obN S) 0))) (congrArg (fun v=>((0:Int),v)) stp_0.symm) (fun i hi=>?_) ?_ (fun y=>by simp)) (congrArg some U2)
 ·have hcl:=C9 hs hc hi
  have hsz:=hs.szl h0 hi;obtain⟨ez,hz⟩:=UY hs h0 hi;have ez':(S.getD s.toNat sf0).2.2.2.2.2.1.getD i 0=((szN S s i:Nat):Int):=ez;have hli:(0:Int)<=(i:Int)/\(i:Int)<((mkV S G (stp all (quV S s all f) i 0)).length:Int):=by rw [hlv];exact Ab hi
  have hbd:(((mkV S G (stp all (quV S s all f) i 0)).getD i []).length:Int)=(cnt S G (i:Int):Int):=by rw [A6 hi,AS]
  refine Aj (dT (show(i:Int)<((mkV S G fun _ _=>all).length:Int) by rw [hl0];omega)) (Am hli (Am h0 (Am hsz ?_)))
  refine Aa (AI (st:=fun j:Nat=>((i:Int),((j:Int),mkV S G (stp all (quV S s all f) i j)))) (n:=cnt S G (i:Int)) (o:=.brk 2 ((i:Int),((cnt S G (i:Int):Int),mkV S G (stp all (quV S s all f) i (cnt S G (i:Int)))))) rfl (fun j hj=>?_) ?_ (fun y=>by simp)) ?_
  ·have hj1:(j:Int)<(((mkV S G (stp all (quV S s all f) i 0)).getD i []).length:Int):=by rw [hbd];omega
   refine Aj (dT hj1) ?_;refine Aa (AI (st:=fun e:Nat=>((i:Int),((e:Int),mkV S G (upd (stp all (quV S s all f) i j) i j (qI all (fun e=>f i (j*szN S s i+e)) e))))) (n:=szN S s i) (o:=.brk 4 ((i:Int),((szN S s i:Int),mkV S G (upd (stp all (quV S s all f) i j) i j (quV S s all f i j))))) ?_ (fun e he=>?_) ?_ (fun y=>by simp)) ?_
   ·show((i:Int),((0:Int),mkV S G (stp all (quV S s all f) i j)))=((i:Int),((0:Int),mkV S G (upd (stp all (quV S s all f) i j) i j (qI all (fun e=>f i (j*szN S s i+e)) 0))))
    rw [qI_0,Xd stp_at]
   ·have hlt:=Aar (e:=e) hj he
    rw [<-Ww]at hlt;have hpi:(0:Int)<=(i:Int)/\(i:Int)<((mkV S (G++ [s]) f).length:Int):=by rw [hlp];exact Ab hi
    have ew:IntKind.wrap .i64 (IntKind.wrap .i64 ((j:Int)*(S.getD s.toNat sf0).2.2.2.2.2.1.getD i 0)+(e:Int))=((j*szN S s i+e:Nat):Int):=by rw [ez'];exact Aaq (by omega) hz he
    have ep:(mkV S (G++ [s]) f).getD i []=row S (G++ [s]) f i:=A6 hi
    have hpe:(0:Int)<=IntKind.wrap .i64 (IntKind.wrap .i64 ((j:Int)*(S.getD s.toNat sf0).2.2.2.2.2.1.getD i 0)+(e:Int))/\IntKind.wrap .i64 (IntKind.wrap .i64 ((j:Int)*(S.getD s.toNat sf0).2.2.2.2.2.1.getD i 0)+(e:Int))<(((mkV S (G++ [s]) f).getD i []).length:Int):=by
     rw [ew,ep,AS];exact Ab hlt
    have eb:((mkV S (G++ [s]) f).getD i []).getD (IntKind.wrap .i64 (IntKind.wrap .i64 ((j:Int)*(S.getD s.toNat sf0).2.2.2.2.2.1.getD i 0)+(e:Int))).toNat false=f i (j*szN S s i+e):=by
     rw [ew,ep,tNC,Bw hlt]
    have e1: ∀g,(mkV S G g).getD i []=row S G g i:=fun g=>A6 hi
    have hj2: ∀g,(0:Int)<=(j:Int)/\(j:Int)<(((mkV S G g).getD i []).length:Int):=fun g=>by rw [e1,AS];exact Ab hj
    refine Aj (dT (show(e:Int)<(S.getD s.toNat sf0).2.2.2.2.2.1.getD i 0 by omega)) (Am hpi (Am hpe ?_))
    show(bif !(((mkV S (G++ [s]) f).getD i []).getD (IntKind.wrap .i64 (IntKind.wrap .i64 ((j:Int)*(S.getD s.toNat sf0).2.2.2.2.2.1.getD i 0)+(e:Int))).toNat false==all)then _ else _)=some (LO.next ((i:Int),(((e+1:Nat):Int),mkV S G (upd (stp all (quV S s all f) i j) i j (qI all (fun e=>f i (j*szN S s i+e)) (e+1))))))
    rw [eb,qI_s];cases !(f i (j*szN S s i+e)==all)with
    |true=>
     refine Am (hj2 _) ?_;show some (LO.next ((i:Int),(IntKind.wrap .i64 ((e:Int)+1),(mkV S G (upd (stp all (quV S s all f) i j) i j (qI all (fun e=>f i (j*szN S s i+e)) e))).set i (((mkV S G (upd (stp all (quV S s all f) i j) i j (qI all (fun e=>f i (j*szN S s i+e)) e))).getD i []).set j (!all)))))=_
     rw [e1,show ∀g,(mkV S G g).set i ((row S G g i).set j (!all))=mkV S G (upd g i j (!all))from fun g=>LU hi,Zi,wrS (by omega)]
     rfl
    |false=>
     show some (LO.next ((i:Int),(IntKind.wrap .i64 ((e:Int)+1),_)))=_
     rw [wrS (by omega)]
     rfl
   ·exact Ad (dF (show ¬ ((szN S s i:Int)<(S.getD s.toNat sf0).2.2.2.2.2.1.getD i 0) by omega)) rfl
   ·refine Am rfl ?_
    show some (LO.next ((i:Int),(IntKind.wrap .i64 ((j:Int)+1),mkV S G (upd (stp all (quV S s all f) i j) i j (quV S s all f i j)))))=_
    rw [U1,wrS (by omega)]
  ·exact Ad (dF (show ¬ ((cnt S G (i:Int):Int)<(((mkV S G (stp all (quV S s all f) i 0)).getD i []).length:Int)) by rw [hbd];omega)) rfl
  ·refine Am rfl ?_
   show some (LO.next (IntKind.wrap .i64 ((i:Int)+1),mkV S G (stp all (quV S s all f) i (cnt S G (i:Int)))))=_
   rw [Pe,wrS (by omega)]
 ·exact Ad (dF (show ¬ ((obN S:Int)<((mkV S G fun _ _=>all).length:Int)) by rw [hl0];omega)) rfl
theorem p81{S:List SF}{R:List Rl}{G:List Int}(hs:SK S)(hc:CK S G)(f:Nat->Nat->Bool):G81 (((S,R),shC S),(G,mkV S G f))=some (mkV S G (evB S G f (ar (shC S)))):=by
 have har:=hs.ar;have hlv: ∀g,(mkV S G g).length=obN S:=fun g=>BA
 refine Aa (p86 hs hc) ?_;refine Aa (AI (st:=fun a:Nat=>((a:Int),mkV S G (evB S G f a))) (n:=ar (shC S)) (o:=.brk 0 ((ar (shC S):Int),mkV S G (evB S G f (ar (shC S))))) rfl (fun a ha=>?_) (Ad A1 rfl) (fun y=>by simp)) rfl
 obtain⟨ex,hx⟩:=Wj hs ha;obtain⟨ey,hy⟩:=O6 hs ha;have hcl:=C9 hs hc hx;have ex':(shC S).2.1.getD a 0=((frN S a:Nat):Int):=ex;have ey':(shC S).2.2.1.getD a 0=((toN S a:Nat):Int):=ey;have ext:((shC S).2.1.getD a 0).toNat=frN S a:=rfl;have eyt:((shC S).2.2.1.getD a 0).toNat=toN S a:=rfl;have hfi: ∀g,(0:Int)<=(shC S).2.1.getD a 0/\(shC S).2.1.getD a 0<((mkV S G g).length:Int):=fun g=>by rw [ex',hlv];exact Ab hx
 have hti:(0:Int)<=(shC S).2.2.1.getD a 0/\(shC S).2.2.1.getD a 0<((mkV S G f).length:Int):=by rw [ey',hlv];exact Ab hy
 have er: ∀g,(mkV S G g).getD (frN S a) []=row S G g (frN S a):=fun g=>A6 hx
 have hbd: ∀g,(((mkV S G g).getD (frN S a) []).length:Int)=(cnt S G ((frN S a:Nat):Int):Int):=fun g=>by rw [er,AS]
 refine Aj (Cn ha) (Am (Ab ha) (Am (hs.tol ha) (Am (hfi _) ?_)));refine Aa (AI (st:=fun n:Nat=>((n:Int),mkV S G (evI S G f a (frN S a) n))) (n:=cnt S G ((frN S a:Nat):Int)) (o:=.brk 2 ((cnt S G ((frN S a:Nat):Int):Int),mkV S G (evI S G f a (frN S a) (cnt S G ((frN S a:Nat):Int))))) (congrArg (fun v=>((0:Int),v)) evI_0.symm) (fun n hn=>?_) ?_ (fun y=>by simp)) ?_
 ·have hn1:(n:Int)<(((mkV S G (evB S G f a)).getD (frN S a) []).length:Int):=by rw [hbd];omega
  have hn2: ∀g,(0:Int)<=(n:Int)/\(n:Int)<(((mkV S G g).getD (frN S a) []).length:Int):=fun g=>by rw [hbd];exact Ab hn
  have hnf:n<cnt S G (fT (shC S) a):=by rw [ex];exact hn
  have hm:=mv_lt hs hc ha hnf;rw [ey]at hm;have em:(mkV S G f).getD (toN S a) []=row S G f (toN S a):=A6 hy;have hmi:(0:Int)<=((mv S G a n:Nat):Int)/\((mv S G a n:Nat):Int)<(((mkV S G f).getD (toN S a) []).length:Int):=by rw [em,AS];exact Ab hm
  have ev:((mkV S G (evI S G f a (frN S a) n)).getD (frN S a) []).getD n false=evI S G f a (frN S a) n (frN S a) n:=by rw [er,Bw hn]
  have efm:((mkV S G f).getD (toN S a) []).getD (mv S G a n) false=f (toN S a) (mv S G a n):=by rw [em,Bw hm]
  have nxt: ∀v,v=mkV S G (evI S G f a (frN S a) (n+1))->(some (LO.next (IntKind.wrap .i64 ((n:Int)+1),v)):Option (LO (Int×List (List Bool)) (LO (Int×List (List Bool)) (List (List Bool)))))=some (.next (((n+1:Nat):Int),mkV S G (evI S G f a (frN S a) (n+1)))):=fun v hv=>by rw [hv,wrS (by omega)]
  refine Aj (dT hn1) (Am (hfi _) (Am (hn2 _) (Aa (v:=evI S G f a (frN S a) n (frN S a) n&& !f (toN S a) (mv S G a n)) ?_ ?_)))
  ·show(bif((mkV S G (evI S G f a (frN S a) n)).getD (frN S a) []).getD n false then _ else _)=_
   rw [ev];cases evI S G f a (frN S a) n (frN S a) n with
   |false=>rfl
   |true=>exact Am hti (Aa (p115 hs hc ha hnf) (Am hmi (congrArg (fun b=>some (!b)) efm)))
  ·cases hv:evI S G f a (frN S a) n (frN S a) n&& !f (toN S a) (mv S G a n)with
   |true=>
    rw [bAE,Bool.not_eq_true']at hv;refine Aj rfl (Am (hfi _) (Am (hn2 _) (nxt _ ?_)));show(mkV S G (evI S G f a (frN S a) n)).set (frN S a) (((mkV S G (evI S G f a (frN S a) n)).getD (frN S a) []).set n false)=_;rw [er,show(mkV S G (evI S G f a (frN S a) n)).set (frN S a) ((row S G (evI S G f a (frN S a) n) (frN S a)).set n false)=mkV S G (upd (evI S G f a (frN S a) n) (frN S a) n false)from LU hx]
    exact AaF hv.2
   |false=>
    refine Ad rfl (nxt _ (Yd ?_));show _\/f (toN S a) (mv S G a n)=true;cases h1:evI S G f a (frN S a) n (frN S a) n with
    |false=>exact .inl rfl
    |true=>
     rw [h1]at hv;right;simpa using hv
 ·exact Ad (dF (show ¬ ((cnt S G ((frN S a:Nat):Int):Int)<(((mkV S G (evB S G f a)).getD (frN S a) []).length:Int)) by rw [hbd];omega)) rfl
 ·refine Am rfl ?_
  show some (LO.next (IntKind.wrap .i64 ((a:Int)+1),mkV S G (evI S G f a (frN S a) (cnt S G ((frN S a:Nat):Int)))))=_
  rw [AaG ex,wrS (by omega)]
end
end Go.Ve.D


namespace Go.Ve.D
open Go Go.Ve
noncomputable section
theorem V1{S:List SF}{R:List Rl}{k:Nd}{G:List Int}(hk:LK k)(e:k.1=2)(h:CM R k G=true):RLf S R k G:=by
 unfold CM at h;rw [dT e,cond_true,bAE,bAE,decide_eq_true_eq,decide_eq_true_eq]at h;rcases hk.c with c|c|c|c
 ·omega
 ·omega
 ·exact⟨h.1,hk.l,⟨c.2.1,h.2.1⟩,h.2.2⟩
 ·omega
theorem V2{R:List Rl}{k:Nd}{G:List Int}(e:k.1=3)(h:CM R k G=true):wi (G.length:Int) k.2.2=true:=by
 unfold CM at h;rw [Ah (show k.1≠2 by omega),dT e,cond_false,cond_true,bAE]at h
 exact h.1
theorem L0{S:List SF}{R:List Rl}{k:Nd}{G:List Int}(h2:k.1≠2)(h3:k.1≠3):Iq S R k G=fun _ _=>decide (k.1=0):=by
 funext x n
 unfold Iq;rw [Ah h2,Ah h3];rfl
theorem XI{S:List SF}{R:List Rl}(hs:StK (S,R))(hR: ∀r∈R,okR r){x:Fl}(hx:C8 x): ∀t:Tr,t.ok=true->∀G:List Int,CK S G->tyB S R t G=true->∀i:Nat,At x i t->∀n,t.flat.length<=n->
  R183 n (((S,R),shC S),(G,(x,(i:Int))))=some (mkV S G (val S R t G),((i+t.flat.length:Nat):Int))
 |t,ho,G,hc,ht,i,ha,0,hn=>absurd hn (by have:=BN t;omega)
 |t,ho,G,hc,ht,i,ha,n+1,hn=>by
  obtain⟨hi,hnd,hle⟩:=Da ha;have hx1:=hx.1;have hl:=hc.l;have ew:IntKind.wrap .i64 ((i:Int)+1)=((i+1:Nat):Int):=wrS (by omega)
  refine Am (Ab hi) ?_;cases t with
  |leaf k=>
   have hnd:nd x i=k:=hnd;subst hnd;have hk:=LP ho;have ht:CM R (nd x i) G=true:=ht;have res: ∀v,v=mkV S G (Iq S R (nd x i) G)->(some (v,IntKind.wrap .i64 ((i:Int)+1)):Option (List (List Bool)×Int))=some (mkV S G (val S R (.leaf (nd x i)) G),((i+(Tr.leaf (nd x i)).flat.length:Nat):Int)):=fun v hv=>by rw [hv,ew];rfl
   rcases hk.c with e|e|⟨e,s0,s1⟩|⟨e,l2⟩
   ·refine Aj (dT (show(nd x i).1=0 from e)) (Aj (dT (show(nd x i).1=0 from e)) (Aa (p86 hs.sk hc) (res _ ?_)))
    rw [L0 (by omega) (by omega)];rfl
   ·refine Ad (Ah (show(nd x i).1≠0 by omega)) (Aj (dT (show(nd x i).1=1 from e)) (Aa (p86 hs.sk hc) (res _ ?_)))
    rw [L0 (by omega) (by omega)];rfl
   ·have h:=V1 (S:=S) hk e ht
    exact Ad (Ah (show(nd x i).1≠0 by omega)) (Ad (Ah (show(nd x i).1≠1 by omega)) (Aj (dT (show(nd x i).1=2 from e)) (Am (show 0<=(nd x i).2.1/\(nd x i).2.1<(R.length:Int)from h.s) (Aa (p10184 hs hR hc h e) (res _ rfl)))))
   ·exact Ad (Ah (show(nd x i).1≠0 by omega)) (Ad (Ah (show(nd x i).1≠1 by omega)) (Ad (Ah (show(nd x i).1≠2 by omega)) (Aj (dT (show(nd x i).1=3 from e)) (Aa (p20184 (R:=R) hs.sk hc (V2 e ht) l2 e) (res _ rfl)))))
  |un k a=>
   have hnd:nd x i=k:=hnd;subst hnd;obtain⟨hk,⟨k0,k1⟩,ka,hoa⟩:=QW ho;have hfl:=DW (nd x i) a;have ht:((decide ((nd x i).2.1<(S.length:Int))&& !decide (G.length=4))&&tyB S R a (G++ [(nd x i).2.1]))=true:=ht;rw [bAE,bAE,decide_eq_true_eq,Bool.not_eq_true',decide_eq_false_iff_not]at ht;have hsy:0<=(nd x i).2.1/\(nd x i).2.1<(S.length:Int):=⟨k0,ht.1.1⟩;have hc':=CK.snoc hc hsy ht.1.2;have ih:=XI hs hR hx a hoa (G++ [(nd x i).2.1]) hc' ht.2 (i+1) (Ui ha) n (by omega)
   rw [<-ew]at ih;have e2:(((i+1)+a.flat.length:Nat):Int)=((i+(Tr.un (nd x i) a).flat.length:Nat):Int):=by rw [hfl];congr 1;omega
   rw [e2]at ih;refine Ad (Ah (show(nd x i).1≠0 by omega)) (Ad (Ah (show(nd x i).1≠1 by omega)) (Ad (Ah (show(nd x i).1≠2 by omega)) (Ad (Ah (show(nd x i).1≠3 by omega)) ?_)))
   rcases hk with e|e
   ·refine Aj (dT (show(nd x i).1=7 from e)) (Aa (p142 (G:=G) (by omega)) (Aa ih (Aa (p187 hs.sk hc hsy _) ?_)))
    show _=some (mkV S G (bif decide ((nd x i).1=7)then _ else _),_);rw [dT e,quV_f];rfl
   ·refine Ad (Ah (show(nd x i).1≠7 by omega)) (Aj (dT (show(nd x i).1=8 from e)) (Aa (p142 (G:=G) (by omega)) (Aa ih (Aa (p187 hs.sk hc hsy _) (Aa (p81 hs.sk hc _) ?_)))))
    show _=some (mkV S G (bif decide ((nd x i).1=7)then _ else _),_);rw [Ah (show(nd x i).1≠7 by omega),quV_t];rfl
  |bin k a b=>
   have hnd:nd x i=k:=hnd;subst hnd;obtain⟨hk,hoa,hob⟩:=Kn ho;have hfl:=C3 (nd x i) a b;obtain⟨ha1,ha2⟩:=KY ha;have ht:(tyB S R a G&&tyB S R b G)=true:=ht;rw [bAE]at ht;have ih1:=XI hs hR hx a hoa G hc ht.1 (i+1) ha1 n (by omega)
   have ih2:=XI hs hR hx b hob G hc ht.2 (i+1+a.flat.length) ha2 n (by omega)
   rw [<-ew]at ih1;have e2:(((i+1+a.flat.length)+b.flat.length:Nat):Int)=((i+(Tr.bin (nd x i) a b).flat.length:Nat):Int):=by rw [hfl];congr 1;omega
   rw [e2]at ih2;refine Ad (Ah (show(nd x i).1≠0 by omega)) (Ad (Ah (show(nd x i).1≠1 by omega)) (Ad (Ah (show(nd x i).1≠2 by omega)) (Ad (Ah (show(nd x i).1≠3 by omega)) (Ad (Ah (show(nd x i).1≠7 by omega)) (Ad (Ah (show(nd x i).1≠8 by omega)) (Aa ih1 (Aa ih2 ?_)))))))
   show _=some (mkV S G (bif decide ((nd x i).1=4)then _ else bif decide ((nd x i).1=5)then _ else _),_);rcases hk with e|e|e
   ·refine Aj (dT (show(nd x i).1=4 from e)) (Aa (p10082 hs.sk hc _ _) ?_)
    rw [dT e];rfl
   ·refine Ad (Ah (show(nd x i).1≠4 by omega)) (Aj (dT (show(nd x i).1=5 from e)) (Aa (p20082 hs.sk hc _ _) ?_))
    rw [Ah (show(nd x i).1≠4 by omega),dT e];rfl
   ·refine Ad (Ah (show(nd x i).1≠4 by omega)) (Ad (Ah (show(nd x i).1≠5 by omega)) (Aa (p30082 hs.sk hc _ _) (Aa (p81 hs.sk hc _) ?_)))
    rw [Ah (show(nd x i).1≠4 by omega),Ah (show(nd x i).1≠5 by omega)];rfl
def vlF(s:St)(G:List Int)(x:Fl):Nat->Nat->Bool:=val s.1 s.2 (tr x) G
theorem p73{S:List SF}{R:List Rl}(hs:StK (S,R))(hR: ∀r∈R,okR r){x:Fl}(hx:C8 x)(hf:Dc x=true){G:List Int}(hc:CK S G)(ht:tyF (S,R) G x=true):
  G73 (((S,R),shC S),(G,x))=some (mkV S G (vlF (S,R) G x)):=by
 obtain⟨h1,h2,h3⟩:=NN hf;have hl:(tr x).flat.length<=40:=by rw [<-h2];exact h3
 exact Aa (XI hs hR hx (tr x) h1 G hc ht 0 (Qd hf) 4096 (by omega)) rfl
theorem p74{S:List SF}{R:List Rl}(hs:SK S):G74 (S,R)=some (true,((S,R),shC S)):=Am hs.i0 rfl
theorem p96{S:List SF}{R:List Rl}{G:List Int}{k:Nd}(hs:SK S)(hc:CK S G){x n:Nat}(hx:x<obN S)(hn:n<cnt S G (x:Int)){f1 f2:List (List Bool)}{h:Nat->Nat->Bool}
  (hh:(k.1=6/\∃g1 g2:Nat->Nat->Bool,f1=mkV S G g1/\f2=mkV S G g2/\h=fun x n=>!g1 x n||g2 x n)\/(k.1≠6/\(0<=k.2.1/\k.2.1<(S.length:Int))/\∃g:Nat->Nat->Bool,f1=mkV S (G++ [k.2.1]) g/\h=faV S k.2.1 g)):
  G96 ((S,R),(G,(k,((x:Int),((n:Int),(f1,f2))))))=some (evB S G h (ar (shC S)) x n):=by
 have har:=hs.ar;refine Am hs.i0 ((JM (n:=ar (shC S)) (p:=fun a=>!decide (fT (shC S) a=(x:Int))||h (toN S a) (mv S G a n)) (id:=0) (r:=false) (v:=true) (fun a ha=>?_) (Ad A1 rfl) (fun _=>Am rfl rfl)).trans ?_)
 ·obtain⟨ey,hy⟩:=O6 hs ha
  have ey':(shC S).2.2.1.getD a 0=((toN S a:Nat):Int):=ey;refine Aj (Cn ha) (Am (hs.frl ha) ?_);by_cases hfa:fT (shC S) a=(x:Int)
  ·rw [dT hfa,Bool.not_true,Bool.false_or]
   have hnf:n<cnt S G (fT (shC S) a):=by rw [hfa];exact hn
   have hm:=mv_lt hs hc ha hnf;rw [ey]at hm;refine Ad (show(!decide (fT (shC S) a=(x:Int)))=false by rw [dT hfa];rfl) (Am (hs.tol ha) (Aa (p120 hs hc ha hnf) ?_))
   rcases hh with⟨ek,g1,g2,e1,e2,eh⟩|⟨ek,hk,g,e1,eh⟩
   ·subst e1;subst e2;subst eh
    have hlv: ∀g,(0:Int)<=(shC S).2.2.1.getD a 0/\(shC S).2.2.1.getD a 0<((mkV S G g).length:Int):=fun g=>by rw [ey',BA];exact Ab hy
    have er: ∀g,(mkV S G g).getD (toN S a) []=row S G g (toN S a):=fun g=>A6 hy
    have hmi: ∀g,(0:Int)<=((mv S G a n:Nat):Int)/\((mv S G a n:Nat):Int)<(((mkV S G g).getD (toN S a) []).length:Int):=fun g=>by rw [er,AS];exact Ab hm
    have ev: ∀g,((mkV S G g).getD (toN S a) []).getD (mv S G a n) false=g (toN S a) (mv S G a n):=fun g=>by rw [er,Bw hm]
    refine Aj (dT (show k.1=6 from ek)) (Am (hlv g1) (Am (hmi g1) (Aa (v:=g1 (toN S a) (mv S G a n)&& !g2 (toN S a) (mv S G a n)) ?_ ((AaE (wrS (by omega))).trans ?_))))
    ·show(bif((mkV S G g1).getD (toN S a) []).getD (mv S G a n) false then _ else _)=_
     rw [ev];cases g1 (toN S a) (mv S G a n)with
     |false=>rfl
     |true=>exact Am (hlv g2) (Am (hmi g2) (congrArg (fun b=>some (!b)) (ev g2)))
    ·rw [Bool.not_and,Bool.not_not]
   ·subst e1;subst eh
    have hsz:=hs.szl hk hy;obtain⟨ez,hz⟩:=UY hs hk hy;have hcl:=C9 hs hc hy;have ez':(S.getD k.2.1.toNat sf0).2.2.2.2.2.1.getD (toN S a) 0=((szN S k.2.1 (toN S a):Nat):Int):=ez;have hsz':(0:Int)<=(shC S).2.2.1.getD a 0/\(shC S).2.2.1.getD a 0<(((S.getD k.2.1.toNat sf0).2.2.2.2.2.1.length:Nat):Int):=by rw [ey'];exact hsz
    refine Ad (Ah (show k.1≠6 from ek)) (Am (show 0<=k.2.1/\k.2.1<(S.length:Int)from hk) (Am hsz' ?_))
    refine(JM (n:=szN S k.2.1 (toN S a)) (p:=fun e=>g (toN S a) (mv S G a n*szN S k.2.1 (toN S a)+e)) (id:=2) (r:=LO.ret false) (v:=LO.next ((a+1:Nat):Int)) (fun e he=>?_) (Ad (dF (show ¬ ((szN S k.2.1 (toN S a):Int)<(S.getD k.2.1.toNat sf0).2.2.2.2.2.1.getD (toN S a) 0) by omega)) rfl) (fun _=>Am rfl (nx0 (wrS (by omega)))))
    have hlt:=Aar (e:=e) hm he;rw [<-Ww]at hlt;have er:(mkV S (G++ [k.2.1]) g).getD (toN S a) []=row S (G++ [k.2.1]) g (toN S a):=A6 hy;have ew:IntKind.wrap .i64 (IntKind.wrap .i64 (((mv S G a n:Nat):Int)*(S.getD k.2.1.toNat sf0).2.2.2.2.2.1.getD (toN S a) 0)+(e:Int))=((mv S G a n*szN S k.2.1 (toN S a)+e:Nat):Int):=by rw [ez'];exact Aaq (by omega) hz he
    have hl1:(0:Int)<=(shC S).2.2.1.getD a 0/\(shC S).2.2.1.getD a 0<((mkV S (G++ [k.2.1]) g).length:Int):=by rw [ey',BA];exact Ab hy
    have hl2:(0:Int)<=IntKind.wrap .i64 (IntKind.wrap .i64 (((mv S G a n:Nat):Int)*(S.getD k.2.1.toNat sf0).2.2.2.2.2.1.getD (toN S a) 0)+(e:Int))/\IntKind.wrap .i64 (IntKind.wrap .i64 (((mv S G a n:Nat):Int)*(S.getD k.2.1.toNat sf0).2.2.2.2.2.1.getD (toN S a) 0)+(e:Int))<(((mkV S (G++ [k.2.1]) g).getD (toN S a) []).length:Int):=by
     rw [ew,er,AS];exact Ab hlt
    have eb:((mkV S (G++ [k.2.1]) g).getD (toN S a) []).getD (IntKind.wrap .i64 (IntKind.wrap .i64 (((mv S G a n:Nat):Int)*(S.getD k.2.1.toNat sf0).2.2.2.2.2.1.getD (toN S a) 0)+(e:Int))).toNat false=g (toN S a) (mv S G a n*szN S k.2.1 (toN S a)+e):=by
     rw [ew,er,tNC,Bw hlt]
    refine Aj (dT (show(e:Int)<(S.getD k.2.1.toNat sf0).2.2.2.2.2.1.getD (toN S a) 0 by omega)) (Am hl1 (Am hl2 ?_))
    rw [<-eb];exact fin1 (wrS (by omega))
  ·rw [dF hfa,Bool.not_false,Bool.true_or]
   exact Aj (show(!decide (fT (shC S) a=(x:Int)))=true by rw [dF hfa];rfl) (nx0 (wrS (by omega)))
 ·show some (bif evB S G h (ar (shC S)) x n then true else false)=_
  cases evB S G h (ar (shC S)) x n<;>rfl
theorem p97{S:List SF}{R:List Rl}(hs:StK (S,R))(hR: ∀r∈R,okR r){l:Fl}{i:Nat}(hi:i<l.length){G:List Int}(hc:CK S G)(hk:LK (nd l i))(ht:CM R (nd l i) G=true){x n:Nat}(hx:x<obN S)(hn:n<cnt S G (x:Int)):
  G97 ((S,R),(G,(l,((i:Int),((x:Int),D8 (szs S G (x:Int)) n)))))=some (Iq S R (nd l i) G x n):=by
 show B97 (R97 4095) _=_;have hlt:(D8 (szs S G (x:Int)) n).length=G.length:=by rw [K6,BG]
 refine Am hs.sk.i0 (Am (Ab hi) ?_);rcases hk.c with e|e|⟨e,s0,s1⟩|⟨e,l2⟩
 ·rw [L0 (by omega) (by omega)]
  exact Aj (dT (show(nd l i).1=0 from e)) (congrArg some (dT (show(nd l i).1=0 from e)).symm)
 ·rw [L0 (by omega) (by omega)]
  exact Ad (Ah (show(nd l i).1≠0 by omega)) (Aj (dT (show(nd l i).1=1 from e)) (congrArg some (Ah (show(nd l i).1≠0 by omega)).symm))
 ·have h:=V1 (S:=S) hk e ht
  have hr:RK S (rlA R (nd l i).2.1):=hs.rl h.s;obtain⟨h1,h2,h3⟩:=h.nm hs.sk hc hx hn;have hm:(0:Int)<=(x:Int)/\(x:Int)<((rlA R (nd l i).2.1).2.length:Int):=by rw [hr.m];exact Ab hx
  have hok:okR (rlA R (nd l i).2.1):=hR _ (As rl0 (by have:=h.s;omega))
  have hl2:=h.l;unfold Iq;rw [dT e,cond_true];exact Ad (Ah (show(nd l i).1≠0 by omega)) (Ad (Ah (show(nd l i).1≠1 by omega)) (Aj (dT (show(nd l i).1=2 from e)) (Am (show 0<=(nd l i).2.1/\(nd l i).2.1<(R.length:Int)from h.s) (Am hm (Aa (p66 hs.sk hr.ck hx) (Aa (p122 (by show(nd l i).2.2.length<=1048576;omega) h1) (Aa (p67 (CK.few hs.sk hr.ck hx) h2 h3) (Aa (p121 (CB hok x) _) rfl))))))))
 ·have hw:=V2 e ht
  unfold Iq;rw [Ah (show(nd l i).1≠2 by omega),dT e,cond_false,cond_true]
  exact Ad (Ah (show(nd l i).1≠0 by omega)) (Ad (Ah (show(nd l i).1≠1 by omega)) (Ad (Ah (show(nd l i).1≠2 by omega)) (Aj (dT (show(nd l i).1=3 from e)) (Am (show(0:Int)<=(0:Int)/\(0:Int)<((nd l i).2.2.length:Int) by omega) (Am (show 0<=(nd l i).2.2.getD 0 0/\(nd l i).2.2.getD 0 0<((D8 (szs S G (x:Int)) n).length:Int) by rw [hlt];exact BB hw (by omega)) (Am (show(0:Int)<=(1:Int)/\(1:Int)<((nd l i).2.2.length:Int) by omega) (Am (show 0<=(nd l i).2.2.getD 1 0/\(nd l i).2.2.getD 1 0<((D8 (szs S G (x:Int)) n).length:Int) by rw [hlt];exact BB hw (by omega)) rfl)))))))
end
end Go.Ve.D


namespace Go.Ve.D
open Go Go.Ve
noncomputable section
def rwK(n:Nat)(f:Nat->Bool)(j:Nat)(b:Bool):List Bool:=(List.range n).map fun e=>if e<j then f e else if e=j then b else false
theorem rwK_f{n:Nat}{f:Nat->Bool}{j:Nat}:rwI n f j=rwK n f j false:=List.map_congr_left fun e _=>by
 by_cases h:e<j
 ·rw [if_pos h,if_pos h]
 ·rw [if_neg h,if_neg h]
  by_cases h1:e=j
  ·rw [if_pos h1]
  ·rw [if_neg h1]
theorem rwK_t{n:Nat}{f:Nat->Bool}{j:Nat}:rwK n f j (f j)=rwI n f (j+1):=List.map_congr_left fun e _=>by
 by_cases h:e<j
 ·rw [if_pos h,if_pos (by omega)]
 ·rw [if_neg h]
  by_cases h1:e=j
  ·subst h1;rw [if_pos rfl,if_pos (by omega)]
  ·rw [if_neg h1,if_neg (by omega)]
theorem ZI{n:Nat}{f:Nat->Bool}{j:Nat}{b:Bool}:(rwK n f j b).length=n:=by simp [rwK]
theorem ZJ{n:Nat}{f:Nat->Bool}{j:Nat}{b:Bool}(h:j<n):(rwK n f j b).getD j false=b:=by
 unfold rwK;rw [gDE,List.getElem?_map,List.getElem?_range h];show(if j<j then f j else if j=j then b else false)=b
 rw [if_neg (by omega),if_pos rfl]
theorem ZH{n:Nat}{f:Nat->Bool}{j:Nat}{b c:Bool}:(rwK n f j b).set j c=rwK n f j c:=by
 unfold rwK;rw [CV];refine List.map_congr_left fun e _=>?_
 by_cases h:e=j
 ·subst h;rw [if_pos rfl,if_neg (by omega),if_pos rfl]
 ·rw [if_neg h]
  by_cases h1:e<j
  ·rw [if_pos h1,if_pos h1]
  ·rw [if_neg h1,if_neg h1,if_neg h,if_neg h]
def Src(S:List SF)(R:List Rl)(G:List Int)(l:Fl)(i:Nat)(f1 f2:List (List Bool))(f:Nat->Nat->Bool):Prop:=
 ((nd l i).1=4/\∃g1 g2:Nat->Nat->Bool,f1=mkV S G g1/\f2=mkV S G g2/\f=fun x n=>g1 x n&&g2 x n)\/
 ((nd l i).1=5/\∃g1 g2:Nat->Nat->Bool,f1=mkV S G g1/\f2=mkV S G g2/\f=fun x n=>g1 x n||g2 x n)\/
 ((nd l i).1=6/\∃g1 g2:Nat->Nat->Bool,f1=mkV S G g1/\f2=mkV S G g2/\f=evB S G (fun x n=>!g1 x n||g2 x n) (ar (shC S)))\/
 ((nd l i).1=7/\(0<=(nd l i).2.1/\(nd l i).2.1<(S.length:Int))/\∃g:Nat->Nat->Bool,f1=mkV S (G++ [(nd l i).2.1]) g/\f=exV S (nd l i).2.1 g)\/
 ((nd l i).1=8/\(0<=(nd l i).2.1/\(nd l i).2.1<(S.length:Int))/\∃g:Nat->Nat->Bool,f1=mkV S (G++ [(nd l i).2.1]) g/\f=evB S G (faV S (nd l i).2.1 g) (ar (shC S)))\/
 (((nd l i).1≠4/\(nd l i).1≠5/\(nd l i).1≠6/\(nd l i).1≠7/\(nd l i).1≠8)/\LK (nd l i)/\CM R (nd l i) G=true/\f=Iq S R (nd l i) G)
abbrev KO:=Int×List Int×List Int×List Int×List (List Int)×Int×Int×List Int×List (List Bool)×List (List Bool)×List (List Bool)
abbrev KI:=Int×List Int×List Int×List Int×List (List Int)×Int×Int×List Int×List (List Bool)×List (List Bool)×List (List Bool)×List Int×List Bool
def zO(S:List SF)(k:Nd)(out f1 f2:List (List Bool)):KO:=((S.getD 0 sf0).1,((S.getD 0 sf0).2.1,((S.getD 0 sf0).2.2.1,((S.getD 0 sf0).2.2.2.1,((S.getD 0 sf0).2.2.2.2.1,(k.1,(k.2.1,(k.2.2,(out,(f1,f2))))))))))
def zI(S:List SF)(k:Nd)(out f1 f2:List (List Bool))(s:List Int)(m:List Bool):KI:=((S.getD 0 sf0).1,((S.getD 0 sf0).2.1,((S.getD 0 sf0).2.2.1,((S.getD 0 sf0).2.2.2.1,((S.getD 0 sf0).2.2.2.2.1,(k.1,(k.2.1,(k.2.2,(out,(f1,(f2,(s,m))))))))))))
theorem Kl{S:List SF}{R:List Rl}(hs:StK (S,R))(hR: ∀r∈R,okR r){l:Fl}{i:Nat}(hi:i<l.length){G:List Int}(hc:CK S G){f1 f2:List (List Bool)}{f:Nat->Nat->Bool}(hsrc:Src S R G l i f1 f2 f):
  AaZ ((S,R),(G,(l,(i:Int)))) f1 f2=some (mkV S G f):=by
 have hsk:SK S:=hs.sk;have ho:=hsk.ob;have ho':=hsk.ob';refine Aa (AI (st:=fun x:Nat=>((x:Int),zO S (nd l i) (pre S G f x) f1 f2)) (n:=obN S) (o:=.brk 1 ((obN S:Int),zO S (nd l i) (pre S G f (obN S)) f1 f2)) rfl (fun x hx=>?_) ?_ (fun y=>by simp)) rfl
 ·have hcl:=C9 hsk hc hx
  refine Aj (dT (show(x:Int)<(S.getD 0 sf0).1 by omega)) (Aa (p66 hsk hc hx) (Aa (p95 (CK.few hsk hc hx)) (Am (Aab (c:=((cnt S G (x:Int):Nat):Int)) (by omega) (by omega)) ?_)))
  refine Aa (AI (st:=fun j:Nat=>((j:Int),zI S (nd l i) (pre S G f x) f1 f2 (szs S G (x:Int)) (rwI (cnt S G (x:Int)) (f x) j))) (n:=cnt S G (x:Int)) (o:=.brk 3 ((cnt S G (x:Int):Int),zI S (nd l i) (pre S G f x) f1 f2 (szs S G (x:Int)) (rwI (cnt S G (x:Int)) (f x) (cnt S G (x:Int))))) ?_ (fun j hj=>?_) ?_ (fun y=>by simp)) ?_
  ·show((0:Int),zI S (nd l i) (pre S G f x) f1 f2 (szs S G (x:Int)) (List.replicate ((cnt S G (x:Int):Nat):Int).toNat false))=_
   rw [tNC,ZK (f:=f x)];rfl
  ·have hml:(0:Int)<=(j:Int)/\(j:Int)<((rwI (cnt S G (x:Int)) (f x) j).length:Int):=by rw [Lr];exact Ab hj
   have nxt: ∀v:List Bool,v=rwI (cnt S G (x:Int)) (f x) (j+1)->(some (LO.next (IntKind.wrap .i64 ((j:Int)+1),zI S (nd l i) (pre S G f x) f1 f2 (szs S G (x:Int)) v)):Option (LO (Int×KI) (LO (Int×KO) (List (List Bool)))))=some (.next (((j+1:Nat):Int),zI S (nd l i) (pre S G f x) f1 f2 (szs S G (x:Int)) (rwI (cnt S G (x:Int)) (f x) (j+1)))):=fun v hv=>by rw [hv,wrS (by omega)]
   have hlv: ∀g,(0:Int)<=(x:Int)/\(x:Int)<((mkV S G g).length:Int):=fun g=>by rw [BA];exact Ab hx
   have er: ∀g,(mkV S G g).getD x []=row S G g x:=fun g=>A6 hx
   have hri: ∀g,(0:Int)<=(j:Int)/\(j:Int)<(((mkV S G g).getD x []).length:Int):=fun g=>by rw [er,AS];exact Ab hj
   have ev: ∀g,((mkV S G g).getD x []).getD j false=g x j:=fun g=>by rw [er,Bw hj]
   refine Aj (dT hml.2) ?_;rcases hsrc with⟨e,g1,g2,e1,e2,ef⟩|⟨e,g1,g2,e1,e2,ef⟩|⟨e,g1,g2,e1,e2,ef⟩|⟨e,hk,g,e1,ef⟩|⟨e,hk,g,e1,ef⟩|⟨⟨n4,n5,n6,n7,n8⟩,hlk,hty,ef⟩
   ·subst e1;subst e2
    refine Aj (dT (show(nd l i).1=4 from e)) (Am (hlv g1) (Am (hri g1) (Aa (v:=f x j) ?_ (Am hml (nxt _ DQ)))))
    show(bif((mkV S G g1).getD x []).getD j false then _ else _)=_;rw [ev,ef];show _=some (g1 x j&&g2 x j);cases g1 x j with
    |false=>rfl
    |true=>exact Am (hlv g2) (Am (hri g2) (congrArg some (ev g2)))
   ·subst e1;subst e2
    refine Ad (Ah (show(nd l i).1≠4 by omega)) (Aj (dT (show(nd l i).1=5 from e)) (Am (hlv g1) (Am (hri g1) (Aa (v:=f x j) ?_ (Am hml (nxt _ DQ))))))
    show(bif((mkV S G g1).getD x []).getD j false then _ else _)=_;rw [ev,ef];show _=some (g1 x j||g2 x j);cases g1 x j with
    |true=>rfl
    |false=>exact Am (hlv g2) (Am (hri g2) (congrArg some (ev g2)))
   ·refine Ad (Ah (show(nd l i).1≠4 by omega)) (Ad (Ah (show(nd l i).1≠5 by omega)) (Ad (Ah (show(nd l i).1≠7 by omega)) (Aj (dT (show(nd l i).1=6 from e)) (Aj (dT (show(nd l i).1=6 from e)) (Aa (p96 (k:=nd l i) hsk hc hx hj (.inl ⟨e,g1,g2,e1,e2,rfl⟩)) (Am hml (nxt _ ?_)))))))
    rw [ef];exact DQ
   ·subst e1
    have hsz:=hsk.szl hk hx;obtain⟨ez,hz⟩:=UY hsk hk hx;have ez':(S.getD (nd l i).2.1.toNat sf0).2.2.2.2.2.1.getD x 0=((szN S (nd l i).2.1 x:Nat):Int):=ez;refine Ad (Ah (show(nd l i).1≠4 by omega)) (Ad (Ah (show(nd l i).1≠5 by omega)) (Aj (dT (show(nd l i).1=7 from e)) (Am hk (Am hsz ?_))))
    have hex: ∀e,(List.range (e+1)).any (fun e=>g x (j*szN S (nd l i).2.1 x+e))=((List.range e).any (fun e=>g x (j*szN S (nd l i).2.1 x+e))||g x (j*szN S (nd l i).2.1 x+e)):=fun e=>by
     rw [List.range_succ,List.any_append];simp only [List.any_cons,List.any_nil,Bool.or_false]
    refine Aa (AI (st:=fun e:Nat=>((e:Int),zI S (nd l i) (pre S G f x) (mkV S (G++ [(nd l i).2.1]) g) f2 (szs S G (x:Int)) (rwK (cnt S G (x:Int)) (f x) j ((List.range e).any fun e=>g x (j*szN S (nd l i).2.1 x+e))))) (n:=szN S (nd l i).2.1 x) (o:=.brk 6 ((szN S (nd l i).2.1 x:Int),zI S (nd l i) (pre S G f x) (mkV S (G++ [(nd l i).2.1]) g) f2 (szs S G (x:Int)) (rwK (cnt S G (x:Int)) (f x) j (f x j)))) ?_ (fun e he=>?_) ?_ (fun y=>by simp)) ?_
    ·show((0:Int),zI S (nd l i) (pre S G f x) (mkV S (G++ [(nd l i).2.1]) g) f2 (szs S G (x:Int)) (rwI (cnt S G (x:Int)) (f x) j))=_
     rw [rwK_f];rfl
    ·have hlt:=Aar (e:=e) hj he
     rw [<-Ww]at hlt;have ep:(mkV S (G++ [(nd l i).2.1]) g).getD x []=row S (G++ [(nd l i).2.1]) g x:=A6 hx;have ew:IntKind.wrap .i64 (IntKind.wrap .i64 ((j:Int)*(S.getD (nd l i).2.1.toNat sf0).2.2.2.2.2.1.getD x 0)+(e:Int))=((j*szN S (nd l i).2.1 x+e:Nat):Int):=by rw [ez'];exact Aaq (by omega) hz he
     have hl1:(0:Int)<=(x:Int)/\(x:Int)<((mkV S (G++ [(nd l i).2.1]) g).length:Int):=by rw [BA];exact Ab hx
     have hl2:(0:Int)<=IntKind.wrap .i64 (IntKind.wrap .i64 ((j:Int)*(S.getD (nd l i).2.1.toNat sf0).2.2.2.2.2.1.getD x 0)+(e:Int))/\IntKind.wrap .i64 (IntKind.wrap .i64 ((j:Int)*(S.getD (nd l i).2.1.toNat sf0).2.2.2.2.2.1.getD x 0)+(e:Int))<(((mkV S (G++ [(nd l i).2.1]) g).getD x []).length:Int):=by
      rw [ew,ep,AS];exact Ab hlt
     have eb:((mkV S (G++ [(nd l i).2.1]) g).getD x []).getD (IntKind.wrap .i64 (IntKind.wrap .i64 ((j:Int)*(S.getD (nd l i).2.1.toNat sf0).2.2.2.2.2.1.getD x 0)+(e:Int))).toNat false=g x (j*szN S (nd l i).2.1 x+e):=by
      rw [ew,ep,tNC,Bw hlt]
     have hkl: ∀b,(0:Int)<=(j:Int)/\(j:Int)<((rwK (cnt S G (x:Int)) (f x) j b).length:Int):=fun b=>by rw [ZI];exact Ab hj
     refine Aj (dT (show(e:Int)<(S.getD (nd l i).2.1.toNat sf0).2.2.2.2.2.1.getD x 0 by omega)) (Am (hkl _) (Aa (v:=(List.range (e+1)).any fun e=>g x (j*szN S (nd l i).2.1 x+e)) ?_ (Am (hkl _) ?_)))
     ·show(bif(rwK (cnt S G (x:Int)) (f x) j ((List.range e).any fun e=>g x (j*szN S (nd l i).2.1 x+e))).getD j false then _ else _)=_
      rw [ZJ hj,hex];cases (List.range e).any fun e=>g x (j*szN S (nd l i).2.1 x+e)with
      |true=>rfl
      |false=>exact Am hl1 (Am hl2 (congrArg some eb))
     ·show some (LO.next (IntKind.wrap .i64 ((e:Int)+1),zI S (nd l i) (pre S G f x) (mkV S (G++ [(nd l i).2.1]) g) f2 (szs S G (x:Int)) ((rwK (cnt S G (x:Int)) (f x) j ((List.range e).any fun e=>g x (j*szN S (nd l i).2.1 x+e))).set j ((List.range (e+1)).any fun e=>g x (j*szN S (nd l i).2.1 x+e)))))=_
      rw [ZH,wrS (by omega)]
    ·have efx:((List.range (szN S (nd l i).2.1 x)).any fun e=>g x (j*szN S (nd l i).2.1 x+e))=f x j:=by rw [ef];rfl
     rw [efx];exact Ad (dF (show ¬ ((szN S (nd l i).2.1 x:Int)<(S.getD (nd l i).2.1.toNat sf0).2.2.2.2.2.1.getD x 0) by omega)) rfl
    ·exact Am rfl (nxt _ rwK_t)
   ·refine Ad (Ah (show(nd l i).1≠4 by omega)) (Ad (Ah (show(nd l i).1≠5 by omega)) (Ad (Ah (show(nd l i).1≠7 by omega)) (Ad (Ah (show(nd l i).1≠6 by omega)) (Aj (dT (show(nd l i).1=8 from e)) (Aa (p96 (k:=nd l i) hsk hc hx hj (.inr ⟨by omega,hk,g,e1,rfl⟩)) (Am hml (nxt _ ?_)))))))
    rw [ef];exact DQ
   ·refine Ad (Ah n4) (Ad (Ah n5) (Ad (Ah n7) (Ad (Ah n6) (Ad (Ah n8) (Aa (p98 (CK.few hsk hc hx) (KE hj) (by omega)) (Aa (p97 hs hR hi hc hlk hty hx hj) (Am hml (nxt _ ?_))))))))
    rw [ef];exact DQ
  ·exact Ad (dF (show ¬ ((cnt S G (x:Int):Int)<((rwI (cnt S G (x:Int)) (f x) (cnt S G (x:Int))).length:Int)) by rw [Lr];omega)) rfl
  ·refine Am rfl (Am trivial (Am (lenB (a:=pre S G f x) (by rw [Oe];omega)) ?_))
   show some (LO.next (IntKind.wrap .i64 ((x:Int)+1),zO S (nd l i) (pre S G f x++ [rwI (cnt S G (x:Int)) (f x) (cnt S G (x:Int))]) f1 f2))=_
   rw [N2,Lw,wrS (by omega)]
 ·exact Ad (dF (show ¬ ((obN S:Int)<(S.getD 0 sf0).1) by omega)) rfl
theorem p53T{S:List SF}{R:List Rl}(hs:StK (S,R))(hR: ∀r∈R,okR r){x:Fl}(hx:C8 x): ∀t:Tr,t.ok=true->∀G:List Int,CK S G->tyB S R t G=true->∀i:Nat,At x i t->∀n,t.flat.length<=n->
  R53 n ((S,R),(G,(x,(i:Int))))=some (mkV S G (val S R t G))
 |t,ho,G,hc,ht,i,ha,0,hn=>absurd hn (by have:=BN t;omega)
 |t,ho,G,hc,ht,i,ha,n+1,hn=>by
  obtain⟨hi,hnd,hle⟩:=Da ha;have hx1:=hx.1;have hl:=hc.l;have ew:IntKind.wrap .i64 ((i:Int)+1)=((i+1:Nat):Int):=wrS (by omega)
  refine Am hs.sk.i0 (Am (Ab hi) (Aa (p78 (x:=G) (by omega)) (Am (Q2 (a:=G) (by omega)) (Aa (p93 (nd x i)) ?_))))
  cases t with
  |leaf k=>
   have hnd:nd x i=k:=hnd;subst hnd;have hk:=LP ho;have ht:CM R (nd x i) G=true:=ht
   have hp:pts (nd x i)=0:=by
    have ho:(A7 (nd x i)&&decide (pts (nd x i)=0))=true:=ho;rw [bAE,decide_eq_true_eq]at ho;exact ho.2
   rw [hp];refine Ad rfl (Ad rfl ?_);exact Kl hs hR hi hc (f1:=[]) (f2:=[]) (.inr (.inr (.inr (.inr (.inr ⟨pts0 hp,hk,ht,rfl⟩)))))
  |un k a=>
   have hnd:nd x i=k:=hnd;subst hnd;obtain⟨hk,⟨k0,k1⟩,ka,hoa⟩:=QW ho;have hp:pts (nd x i)=1:=XC hk;have hfl:=DW (nd x i) a;have ht:((decide ((nd x i).2.1<(S.length:Int))&& !decide (G.length=4))&&tyB S R a (G++ [(nd x i).2.1]))=true:=ht;rw [bAE,bAE,decide_eq_true_eq,Bool.not_eq_true',decide_eq_false_iff_not]at ht;have hsy:0<=(nd x i).2.1/\(nd x i).2.1<(S.length:Int):=⟨k0,ht.1.1⟩;have hc':=CK.snoc hc hsy ht.1.2;have ih:=p53T hs hR hx a hoa (G++ [(nd x i).2.1]) hc' ht.2 (i+1) (Ui ha) n (by omega)
   rw [<-ew]at ih;rw [hp];refine Ad rfl (Aj rfl (Aa ih ?_));show AaZ ((S,R),(G,(x,(i:Int)))) _ []=some (mkV S G (bif decide ((nd x i).1=7)then _ else _));rcases hk with e|e
   ·rw [dT e]
    exact Kl hs hR hi hc (.inr (.inr (.inr (.inl ⟨e,hsy,_,rfl,rfl⟩))))
   ·rw [Ah (show(nd x i).1≠7 by omega)]
    exact Kl hs hR hi hc (.inr (.inr (.inr (.inr (.inl ⟨e,hsy,_,rfl,rfl⟩)))))
  |bin k a b=>
   have hnd:nd x i=k:=hnd;subst hnd;obtain⟨hk,hoa,hob⟩:=Kn ho;have hp:pts (nd x i)=2:=XB hk;have hfl:=C3 (nd x i) a b;obtain⟨ha1,ha2⟩:=KY ha;have ht:(tyB S R a G&&tyB S R b G)=true:=ht;rw [bAE]at ht;have ih1:=p53T hs hR hx a hoa G hc ht.1 (i+1) ha1 n (by omega)
   have ih2:=p53T hs hR hx b hob G hc ht.2 (i+1+a.flat.length) ha2 n (by omega)
   have e94:=p94 hx1 ha1 hoa;rw [<-ew]at ih1 e94;rw [hp];refine Aj rfl (Aa ih1 (Aa e94 (Aa ih2 ?_)));show AaZ ((S,R),(G,(x,(i:Int)))) _ _=some (mkV S G (bif decide ((nd x i).1=4)then _ else bif decide ((nd x i).1=5)then _ else _));rcases hk with e|e|e
   ·rw [dT e]
    exact Kl hs hR hi hc (.inl ⟨e,_,_,rfl,rfl,rfl⟩)
   ·rw [Ah (show(nd x i).1≠4 by omega),dT e]
    exact Kl hs hR hi hc (.inr (.inl ⟨e,_,_,rfl,rfl,rfl⟩))
   ·rw [Ah (show(nd x i).1≠4 by omega),Ah (show(nd x i).1≠5 by omega)]
    exact Kl hs hR hi hc (.inr (.inr (.inl ⟨e,_,_,rfl,rfl,rfl⟩)))
theorem p53{S:List SF}{R:List Rl}(hs:StK (S,R))(hR: ∀r∈R,okR r){x:Fl}(hx:C8 x)(hf:Dc x=true){G:List Int}(hc:CK S G)(ht:tyF (S,R) G x=true):
  G53 ((S,R),(G,(x,(0:Int))))=some (mkV S G (vlF (S,R) G x)):=by
 obtain⟨h1,h2,h3⟩:=NN hf;have hl:(tr x).flat.length<=40:=by rw [<-h2];exact h3
 exact p53T hs hR hx (tr x) h1 G hc ht 0 (Qd hf) 4096 (by omega)
end
end Go.Ve.D

