/- Validity, failures, truth: both sides agree. -/
import Derived.Test.YtbbhfpbalccohaaGreatFek
import Derived.Test.YtbbhfpbalccohaaGreatUr7
namespace Go.Ve.D
open Go Go.Ve
noncomputable section
def Om{R:Type}(o:Option R)(e:LO Int R):LO Int R:=match o with
 |some r=>.ret r
 |none=>e
theorem IA{R:Type}{F:Int->Option (LO Int R)}{n:Nat}{p:Nat->Option R}{id:Nat}(h1: ∀i,i<n->F (i:Int)=some (Om (p i) (.next ((i+1:Nat):Int))))
  (h2:F (n:Int)=some (.brk id (n:Int))):Al F (0:Int)=some (Om ((List.range n).findSome? p) (.brk id (n:Int))):=by
 have key: ∀k i,i+k=n->Al F (i:Int)=some (Om ((List.range' i k).findSome? p) (.brk id (n:Int))):=by
  intro k
  induction k with
  |zero=>
   intro i hi;obtain rfl:i=n:=by omega
   exact Jo h2
  |succ k ih=>
   intro i hi;rw [List.range'_succ,List.findSome?_cons];have e:=h1 i (by omega)
   cases hp:p i with
   |some r=>
    rw [hp]at e;exact Jn e
   |none=>
    rw [hp]at e;exact Jm e (ih (i+1) (by omega))
 rw [List.range_eq_range'];exact key n 0 (by omega)
def MP(r:List Bool):Option Nat:=(List.range r.length).findSome? fun n=>bif r.getD n false then none else some n
def Dk(v:List (List Bool)):Option (Nat×Nat):=(List.range v.length).findSome? fun x=>(MP (v.getD x [])).map fun(n:Nat)=>(x,n)
theorem Cb{α β:Type}{p:Nat->Option α}{g:α->β}: ∀l:List Nat,l.findSome? (fun i=>(p i).map g)=(l.findSome? p).map g
 | []=>rfl
 |a::l=>by
  rw [List.findSome?_cons,List.findSome?_cons];cases p a with
  |some y=>rfl
  |none=>exact Cb l
theorem Yk{v:List (List Bool)}{x n:Nat}(h:Dk v=some (x,n)):x<v.length/\n<(v.getD x []).length:=by
 unfold Dk at h;obtain⟨y,hy,e⟩:=List.exists_of_findSome?_eq_some h;have hy:=List.mem_range.1 hy;cases hr:MP (v.getD y [])with
 |none=>rw [hr]at e;cases e
 |some m=>
  rw [hr]at e;cases e;refine⟨hy,?_⟩;unfold MP at hr;obtain⟨z,hz,e2⟩:=List.exists_of_findSome?_eq_some hr;have hz:=List.mem_range.1 hz;cases hb:(v.getD x []).getD z false with
  |true=>rw [hb]at e2;cases e2
  |false=>rw [hb]at e2;cases e2;exact hz
theorem p76{v:List (List Bool)}(hv:v.length<=1048576)(hr: ∀r∈v,r.length<=1048576):G76 v=some (match Dk v with|some (x,n)=>((x:Int),((n:Int),true))|none=>((0:Int),((0:Int),false))):=by
 have e:=IA (R:=Int×Int×Bool) (n:=v.length) (p:=fun x=>(MP (v.getD x [])).map fun(n:Nat)=>((x:Int),((n:Int),true))) (id:=0) (F:=fun(v0:Int)=>(bif(decide (v0<((v.length:Nat):Int)))then(if(((0:Int)<=v0)/\(v0<((v.length:Nat):Int)))then(Option.bind (Al (fun(v1:Int)=>(bif(decide (v1<(((v.getD (v0).toNat ([]:(List Bool))).length:Nat):Int)))then(if(((0:Int)<=v1)/\(v1<(((v.getD (v0).toNat ([]:(List Bool))).length:Nat):Int)))then(bif(!((v.getD (v0).toNat ([]:(List Bool))).getD (v1).toNat false))then(AW (AW (some (v0,(v1,true)))))else(some (LO.next (IntKind.wrap .i64 (v1+(1:Int))))))else none)else(some (LO.brk 2 v1)))) (0:Int)) (LO.fin fun i1 (v1:Int)=>(if i1=2 then(some (LO.next (IntKind.wrap .i64 (v0+(1:Int)))))else none)))else none)else(some (LO.brk 0 v0))))
  (fun x hx=>?_) (Ai Bs rfl)
 ·refine Aa e ?_
  have em:(List.range v.length).findSome? (fun x=>(MP (v.getD x [])).map fun(n:Nat)=>((x:Int),((n:Int),true)))=(Dk v).map fun p=>((p.1:Int),((p.2:Int),true)):=by
   unfold Dk;rw [<-Cb]
   congr 1
   funext x
   cases MP (v.getD x [])<;>rfl
  rw [em];cases Dk v with
  |none=>rfl
  |some p=>rfl
 ·have hl:=hr _ (AL [] hx)
  refine Ao (Dj hx) (Ay (Ac hx) ?_);refine Aa (IA (n:=(v.getD x []).length) (p:=fun n=>bif(v.getD x []).getD n false then none else some (LO.ret ((x:Int),((n:Int),true)))) (id:=2) (fun n hn=>?_) (Ai Bs rfl)) ?_
  ·refine Ao (Dj hn) (Ay (Ac hn) ?_)
   show(bif !(v.getD x []).getD n false then _ else _)=some (Om (bif(v.getD x []).getD n false then none else some (LO.ret ((x:Int),((n:Int),true)))) (LO.next ((n+1:Nat):Int)))
   cases (v.getD x []).getD n false with
   |true=>exact nx0 (wrS (by omega))
   |false=>rfl
  ·have em:(List.range (v.getD x []).length).findSome? (fun n=>bif(v.getD x []).getD n false then none else some (LO.ret ((x:Int),((n:Int),true)):LO Int (Int×Int×Bool)))=(MP (v.getD x [])).map fun(n:Nat)=>LO.ret ((x:Int),((n:Int),true)):=by
    unfold MP;rw [<-Cb]
    congr 1
    funext n
    cases (v.getD x []).getD n false<;>rfl
   rw [em];show _=some (Om ((MP (v.getD x [])).map (fun(n:Nat)=>((x:Int),((n:Int),true)))) (LO.next ((x+1:Nat):Int)))
   cases MP (v.getD x [])with
   |none=>exact Ay rfl (nx0 (wrS (by omega)))
   |some n=>rfl
theorem p75{S:List SF}{R:List Rl}(hs:StK (S,R))(hR: ∀r∈R,okR r){x:Fl}(hx:HN x)(hf:HO x=true){G:List Int}(hc:CK S G)(ht:tyF (S,R) G x=true):
  G75 ((S,R),(G,x))=some (match Dk (mkV S G (vlF (S,R) G x))with|some (y,n)=>((y:Int),(CL (szs S G (y:Int)) n,true))|none=>((0:Int),(([]:List Int),false))):=by
 have ho:obN S<=8:=hs.sk.ob.2;refine Aa (p53 hs hR hx hf hc ht) ?_;obtain⟨v,ev⟩: ∃v,v=mkV S G (vlF (S,R) G x):=⟨_,rfl⟩;have hlv:v.length=obN S:=by rw [ev];exact BI
 have hrow: ∀y,y<obN S->(v.getD y []).length=cnt S G (y:Int):=fun y hy=>by rw [ev,Bj hy,Bc]
 rw [<-ev]
 have em:(List.range v.length).findSome? (fun y=>(MP (v.getD y [])).map fun(n:Nat)=>((y:Int),(CL (szs S G (y:Int)) n,true)))=(Dk v).map fun p=>((p.1:Int),(CL (szs S G (p.1:Int)) p.2,true)):=by
  unfold Dk;rw [<-Cb]
  congr 1
  funext y
  cases MP (v.getD y [])<;>rfl
 refine Aa (IA (R:=Int×List Int×Bool) (n:=v.length) (p:=fun y=>(MP (v.getD y [])).map fun(n:Nat)=>((y:Int),(CL (szs S G (y:Int)) n,true))) (id:=0) (fun y hy=>?_) (Ai Bs rfl)) ?_
 ·have hy':y<obN S:=by omega
  have hl:=hrow y hy';have hcl:=DE hs.sk hc hy';have hcl:cnt S G (y:Int)<=65536:=hcl;refine Ao (Dj hy) ?_;refine Aa (IA (n:=(v.getD y []).length) (p:=fun n=>bif(v.getD y []).getD n false then none else some (LO.ret ((y:Int),(CL (szs S G (y:Int)) n,true)))) (id:=2) (fun n hn=>?_) (Ay (Ac hy) (Ai Bs rfl))) ?_
  ·have hn':n<cnt S G (y:Int):=by omega
   refine Ay (Ac hy) (Ao (Dj hn) (Ay (Ac hy) (Ay (Ac hn) ?_)));show(bif !(v.getD y []).getD n false then _ else _)=some (Om (bif(v.getD y []).getD n false then none else some (LO.ret ((y:Int),(CL (szs S G (y:Int)) n,true)))) (LO.next ((n+1:Nat):Int)))
   cases (v.getD y []).getD n false with
   |true=>exact nx0 (wrS (by omega))
   |false=>exact Aa (p66 hs.sk hc hy') (Aa (p98 (CK.few hs.sk hc hy') (Io hn') (by omega)) rfl)
  ·have em2:(List.range (v.getD y []).length).findSome? (fun n=>bif(v.getD y []).getD n false then none else some (LO.ret ((y:Int),(CL (szs S G (y:Int)) n,true)):LO Int (Int×List Int×Bool)))=(MP (v.getD y [])).map fun(n:Nat)=>LO.ret ((y:Int),(CL (szs S G (y:Int)) n,true)):=by
    unfold MP;rw [<-Cb]
    congr 1
    funext n
    cases (v.getD y []).getD n false<;>rfl
   rw [em2];show _=some (Om ((MP (v.getD y [])).map (fun(n:Nat)=>((y:Int),(CL (szs S G (y:Int)) n,true)))) (LO.next ((y+1:Nat):Int)))
   cases MP (v.getD y [])with
   |none=>exact Ay rfl (nx0 (wrS (by omega)))
   |some n=>rfl
 ·rw [em]
  cases Dk v with
  |none=>rfl
  |some p=>rfl
theorem p76V{S:List SF}{G:List Int}(hs:SK S)(hc:CK S G)(f:Nat->Nat->Bool):G76 (mkV S G f)=some (match Dk (mkV S G f)with|some (x,n)=>((x:Int),((n:Int),true))|none=>((0:Int),((0:Int),false))):=by
 obtain⟨h1,h2⟩:=mkV_ok hs hc f;exact p76 (by omega) fun r hr=>by have:=h2 r hr;omega
def ffR(s:St)(G:List Int)(x:Fl):Int×List Int×Int:=bif decide (Iy s G x=0)then(match Dk (mkV s.1 G (vlF s G x))with|some (y,n)=>((y:Int),(CL (szs s.1 G (y:Int)) n,0))|none=>(0,([],4)))else(0,([],Iy s G x))
theorem p31{S:List SF}{R:List Rl}{G:List Int}{x:Fl}(h:LU (S,R))(hG:G.length<=1048576)(hx:HN x):G31 ((S,R),(G,x))=some (ffR (S,R) G x):=by
 refine Aa (p51 h hG hx) ?_;unfold ffR;cases h0:decide (Iy (S,R) G x=0)with
 |false=>simp only [cond_false,h0,Bool.not_false,cond_true]
 |true=>
  have k:=Zd (of_decide_eq_true h0);refine Aa (p75 k.st h.rr hx k.fm k.ck k.ty) ?_;show _=some (match Dk (mkV S G (vlF (S,R) G x))with|some (y,n)=>((y:Int),(CL (szs S G (y:Int)) n,(0:Int)))|none=>(0,([],4)))
  cases Dk (mkV S G (vlF (S,R) G x))<;>rfl
theorem p32{S:List SF}{R:List Rl}{G:List Int}{x:Fl}(h:LU (S,R))(hG:G.length<=1048576)(hx:HN x):G32 ((S,R),(G,x))=some (ffR (S,R) G x):=by
 refine Aa (p57 h hG hx) ?_;unfold ffR;cases h0:decide (Iy (S,R) G x=0)with
 |false=>simp only [cond_false,h0,Bool.not_false,cond_true]
 |true=>
  have k:=Zd (of_decide_eq_true h0);refine Aa (p76V k.st.sk k.ck _) ?_;show _=some (match Dk (mkV S G (vlF (S,R) G x))with|some (y,n)=>((y:Int),(CL (szs S G (y:Int)) n,(0:Int)))|none=>(0,([],4)))
  cases hf:Dk (mkV S G (vlF (S,R) G x))with
  |none=>rfl
  |some p=>
   obtain⟨y,n⟩:=p;obtain⟨h1,h2⟩:=Yk hf;have hy:y<obN S:=by rw [BI]at h1;exact h1
   have hn:n<cnt S G (y:Int):=by rw [Bj hy,Bc]at h2;exact h2
   exact Ai rfl (Aa (p71 k.st.sk k.ck hy) (Aa (p77 (CK.few k.st.sk k.ck hy) (Io hn) hn) rfl))
theorem ffR_ok{s:St}{G:List Int}{x:Fl}(h:G.length<=1048576):(ffR s G x).2.1.length<=1048576:=by
 unfold ffR;cases decide (Iy s G x=0)with
 |false=>exact Nat.zero_le _
 |true=>
  show(match Dk (mkV s.1 G (vlF s G x))with|some (y,n)=>((y:Int),(CL (szs s.1 G (y:Int)) n,(0:Int)))|none=>(0,([],4))).2.1.length<=1048576
  cases Dk (mkV s.1 G (vlF s G x))with
  |none=>exact Nat.zero_le _
  |some p=>
   show(CL (szs s.1 G (p.1:Int)) p.2).length<=_;rw [Iz,BG];exact h
end
end Go.Ve.D


namespace Go.Ve.D
open Go Go.Ve
noncomputable section
structure Szs(s:St)(G:List Int)(x:Fl)(r0 r1:Int):Prop where
 g:G.length<=1048576
 e0:G11 (s,1048576)=some r0
 n0: ¬r0<0
 e1:G12 (x,r0)=some r1
 n1: ¬r1<0
 hs:LU s
 w:wSt s<=1048576
 hx:HN x
 wx:wF x<=1048576
theorem szs_of{s:St}{G:List Int}{x:Fl}(h1:inSt s)(h3:x.length<=maxLen)(h4: ∀k∈x,k.2.2.length<=maxLen)(P:Prop)
  (hG:(1048576:Int)<(G.length:Int)->P) (hA: ¬ (1048576:Int)<(G.length:Int)->∀r0,G11 (s,1048576)=some r0->r0<0->P)
  (hB: ¬ (1048576:Int)<(G.length:Int)->∀r0,G11 (s,1048576)=some r0->¬r0<0->∀r1,G12 (x,r0)=some r1->r1<0->P) (hC: ∀r0 r1,Szs s G x r0 r1->P):P:=by
 by_cases nG:(1048576:Int)<(G.length:Int)
 ·exact hG nG
 obtain⟨r0,e0,f0⟩:=p11 (s:=s) (b:=1048576) (by omega) h1
 by_cases n0:r0<0
 ·exact hA nG r0 e0 n0
 obtain⟨c1,c2,c3,c4⟩:=f0.resolve_left n0;obtain⟨r1,e1,f1⟩:=p12 (x:=x) (b:=r0) ⟨c1,by omega⟩ h3 h4
 by_cases n1:r1<0
 ·exact hB nG r0 e0 n0 r1 e1 n1
 obtain⟨d1,d2,d3,d4⟩:=f1.resolve_left n1;exact hC r0 r1 ⟨by omega,e0,n0,e1,n1,c3,c4,d3,d4⟩
theorem mk3{s:St}{G:List Int}{x:Fl}{r0 r1:Int}(h:Szs s G x r0 r1): ∃k1 y1 k2 y2 k3 y3,G22 (s,1)=some (k1,y1)/\G23 (G,k1)=some (k2,y2)/\G24 (x,k2)=some (k3,y3)/\0<=k3:=by
 have hw:=h.w;have hwx:=h.wx;have hg:=h.g;obtain⟨k1,y1,e22,a1,b1⟩:=mk22 (s:=s) (k:=1) (by omega) h.hs (by omega)
 obtain⟨k2,y2,e23,a2,b2⟩:=Aai (x:=G) (k:=k1) a1 (by omega) h.g
 obtain⟨k3,y3,e24,a3,b3⟩:=mk24 (x:=x) (k:=k2) a2 h.hx (by omega)
 exact⟨k1,y1,k2,y2,k3,y3,e22,e23,e24,a3⟩
theorem p6(z:St×List Int×Fl)(h:okT (PT S6.ps) z):G6 z=some true:=by
 obtain⟨s,G,x⟩:=z;obtain⟨h1,h2,h3,h4⟩:=okT_in h;refine szs_of (G:=G) h1 h3 h4 _ (fun nG=>?_) (fun nG r0 e0 n0=>?_) (fun nG r0 e0 n0 r1 e1 n1=>?_) (fun r0 r1 hz=>?_)
 ·unfold G6
  simp only [nG,decide_true,cond_true]
 ·unfold G6
  simp only [Prod.eta,nG,decide_false,cond_false,e0,n0,Option.bind_some,decide_true,cond_true]
 ·unfold G6
  simp only [Prod.eta,nG,decide_false,cond_false,e0,n0,e1,n1,Option.bind_some,decide_true,cond_true]
 ·obtain⟨k1,y1,k2,y2,k3,y3,e22,e23,e24,a3⟩:=mk3 hz
  obtain⟨hG,e0,n0,e1,n1,hs,hw,hx,hwx⟩:=hz;obtain⟨S,R⟩:=s;have e14:=p14 hs;have e15:=p15 hG;have e16:=p16 hx;have e31:=p31 hs hG hx;have e32:=p32 hs hG hx;have hr:=ffR_ok (s:=(S,R)) (G:=G) (x:=x) hG;generalize ffR (S,R) G x=r at*;have g19:=p19 hs;have g20:=p20 hG;have g20r:=p20 hr;have g21:=p21 hx;have m3:=p23 (k:=1) (by omega) (by omega) hr
  have m4:=p33 (x:=r.2.1) (k:=1) (by omega) (by omega) hr
  have m1: ¬ (k3<0):=by omega
  have m2: ¬ ((1:Int)+(r.2.1.length:Int)<0):=by omega
  have nG: ¬ ((1048576:Int)<(G.length:Int)):=by omega
  unfold G6;simp only [Prod.eta,nG,e0,n0,e1,n1,decide_false,cond_false,e14,e15,e16,e31,e32,g19,g20,g20r,g21,e22,e23,e24,m1,m2,m3,m4,Option.bind_some,Bool.not_true,decide_true,cond_true]
end
end Go.Ve.D

