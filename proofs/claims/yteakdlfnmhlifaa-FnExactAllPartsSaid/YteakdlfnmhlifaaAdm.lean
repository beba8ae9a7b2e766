/- The reference's search. -/
import Derived.Test.YteakdlfnmhlifaaAdi
open Go.IntKind(wrap)
set_option linter.all false
namespace Go.Ve.D
open Go Go.Ve
variable{L:LLL}{k x:Nat}{f:SF}
noncomputable def insB(L:List (List (List Int))):Option ((List (List (List Int)))×Bool):=(Option.bind (Ap (fun(u:(Int×(List (List (List Int)))))=>(bif(decide (u.1<((u.2.length:Nat):Int)))then(Option.bind (Ap (fun(e:(Int×(List (List (List Int)))))=>(Option.bind (bif(decide ((0:Int)<e.1))then(if(((0:Int)<=e.1)/\(e.1<((e.2.length:Nat):Int)))then(if(((0:Int)<=(wrap .i64 (e.1-(1:Int))))/\((wrap .i64 (e.1-(1:Int)))<((e.2.length:Nat):Int)))then(Option.bind (G68 ((e.2.getD (e.1).toNat ([]:(List (List Int)))),(e.2.getD ((wrap .i64 (e.1-(1:Int)))).toNat ([]:(List (List Int)))))) (fun(A:Bool)=>(some A)))else none)else none)else(some false)) (fun(A:Bool)=>(bif A then(if(((0:Int)<=e.1)/\(e.1<((e.2.length:Nat):Int)))then(if(((0:Int)<=(wrap .i64 (e.1-(1:Int))))/\((wrap .i64 (e.1-(1:Int)))<((e.2.length:Nat):Int)))then(if(((0:Int)<=e.1)/\(e.1<((e.2.length:Nat):Int)))then(if(((0:Int)<=(wrap .i64 (e.1-(1:Int))))/\((wrap .i64 (e.1-(1:Int)))<(((e.2.set (e.1).toNat (e.2.getD ((wrap .i64 (e.1-(1:Int)))).toNat ([]:(List (List Int))))).length:Nat):Int)))then(some (LO.next ((wrap .i64 (e.1-(1:Int))),((e.2.set (e.1).toNat (e.2.getD ((wrap .i64 (e.1-(1:Int)))).toNat ([]:(List (List Int))))).set ((wrap .i64 (e.1-(1:Int)))).toNat (e.2.getD (e.1).toNat ([]:(List (List Int))))))))else none)else none)else none)else none)else(some (LO.brk 8 (e.1,e.2))))))) (u.1,u.2)) (LO.fin λB (e:(Int×(List (List (List Int)))))=>(if B=8 then(some (LO.next ((wrap .i64 (u.1+(1:Int))),e.2)))else none)))else(some (LO.brk 6 (u.1,u.2))))) ((1:Int),L)) (LO.fin λE (u:(Int×(List (List (List Int)))))=>(if E=6 then(some (u.2,(decide (((u.2.length:Nat):Int)<=(200:Int)))))else none)))
def rw2(f:SF)(k:Nat)(L:LLL)(x e:Nat):LLL:=(prR f x e).foldl (stp f k) L
def Z0{e:Nat}:rw2 f k L x (e+1)=stp f k (rw2 f k L x e) (x,e):=by
 unfold rw2;rw[Uz,List.foldl_append];rfl
def Acw:rw2 f k L (x+1) 0=rw2 f k L x (nx f x):=by
 unfold rw2;rw[Qi]
def Acx:row f k L (prs f).length=rw2 f k L f.2.2.2.2.2.1.length 0:=by
 unfold row rw2;rw[List.take_length];rfl
def UZ{f:SF}{k:Nat}:∀(l:List (Nat×Nat)) (L:LLL),(l.foldl (stp f k) L).length<=L.length+l.length/\L.length<=(l.foldl (stp f k) L).length
 |[],L=>⟨Nat.le_refl _,Nat.le_refl _⟩
 |q::l,L=>by
  have h:=UZ (f:=f) (k:=k) l (stp f k L q)
  have u:(stp f k L q).length<=L.length+1:=by
   unfold stp;split
   .omega
   .simp
  have e:=Xq (f:=f) (k:=k) (L:=L) (q:=q);show((l.foldl (stp f k) (stp f k L q)).length<=L.length+(l.length+1))/\L.length<=(l.foldl (stp f k) (stp f k L q)).length;omega
structure Ok3(f:SF)(L:LLL):Prop where
 a:All f L
 c:AllC f L
def Ok3.stp{f:SF}(u:GT f){k:Nat}{L:LLL}{q:Nat×Nat}(h:Ok3 f L)(e:k<L.length)(B:q.1<f.2.2.2.2.2.1.length)(A:q.2<nx f q.1):Ok3 f (stp f k L q):=⟨h.a.stp,h.c.stp u e B A⟩
theorem p34a(h:UV f=true){Q:LLL×Bool->Prop}(hI:∀L,L=By f->Ok3 f L->0<L.length->L.length<=1000->Tot Q (insB L)):Tot Q (G34 f):=by
 have U:=Ko h;have hg:=gt_of h;obtain⟨a1,a2,_⟩:=U.sh.hd;have l1:((f.2.2.2.2.2.1.length:Nat):Int)=f.1:=U.l1;have hN:f.2.2.2.2.2.1.length<=8:=by
  have:f.1<=8:=a1.2;omega
 have hl:f.2.2.2.2.2.1.length<=1048576:=by omega
 have hm:f.2.1.length<=1048576:=Nat.le_trans (show f.2.1.length<=40 from a2) (by decide)
 unfold G34;refine AT (p63 hl) λv0 h0=>?_
 subst h0;refine DK (I:=λv=>∃k:Nat,v.1=(k:Int)/\k<=201/\v.2.length<=400/\0<v.2.length/\Ok3 f v.2/\run f (201-k) k v.2=By f) (λv=>300-v.1.toNat) ⟨0,rfl,by omega,by show 1<=400;omega,by show 0<1;omega,⟨λp Y=>by rw[List.mem_singleton.1 Y];exact Zm,λp Y=>by rw[List.mem_singleton.1 Y];exact AdH⟩,rfl⟩ (λv E=>?_)
 obtain⟨k0,L⟩:=v;obtain⟨k,(H:k0=_),hk,(hL:L.length<=400),(Y:0<L.length),(hA:Ok3 f L),(hr:run f (201-k) k L=By f)⟩:=E;subst H;refine AT (P:=λb=>b=true↔k<L.length/\L.length<=200) (AX (λe=>Aa ?_) λe=>Aa ?_) λb hb=>AX (λe=>?_) λe=>?_
 .have e:(k:Int)<((L.length:Nat):Int):=Jp e
  show decide (((L.length:Nat):Int)<=200)=true↔_;rw[decide_eq_true_iff];omega
 .have e:¬ (k:Int)<((L.length:Nat):Int):=KG e
  exact⟨λh=>(by cases h),λh=>absurd h.1 (by omega)⟩
 .obtain⟨hk2,hL2⟩:=hb.1 e
  have hr2:run f (200-k) (k+1) (rw2 f k L f.2.2.2.2.2.1.length 0)=By f:=by
   rw[<-hr,<-Acx,show 201-k=(200-k)+1 by omega]
   show _=(if k<L.length/\L.length<=200 then _ else L)
   rw[if_pos ⟨hk2,hL2⟩]
  have O:∀x e,x<=f.2.2.2.2.2.1.length->e<=16->(rw2 f k L x e).length<=344/\L.length<=(rw2 f k L x e).length:=λx e J he=>by
   have h1:=UZ (f:=f) (k:=k) (prR f x e) L;have h2:=Qj U x e J he;have h3:(rw2 f k L x e).length=((prR f x e).foldl (stp f k) L).length:=rfl;omega
  refine AE (n:=f.2.2.2.2.2.1.length) (λx v=>v.1=(x:Int)/\v.2=rw2 f k L x 0/\Ok3 f v.2) ⟨rfl,rfl,hA⟩ (λx J v E=>?_) λv E=>?_
  .obtain⟨x0,M0⟩:=v
   obtain⟨(H:x0=_),(W:M0=_),(hM0:Ok3 f M0)⟩:=E;subst H;obtain⟨n,hn,hn16,hnn⟩:=U.size J;have hnx:nx f x=n:=hnn;have en:f.2.2.2.2.2.1.getD ((x:Int)).toNat 0=(n:Int):=by rw[tNC];exact hn
   have gx:(0:Int)<=(x:Int)/\(x:Int)<((f.2.2.2.2.2.1.length:Nat):Int):=by omega
   refine BC (by show decide ((x:Int)<f.1)=true;rw[<-l1];exact ltt J) (AE (n:=n) (λe v=>v.1=(e:Int)/\v.2=rw2 f k L x e/\Ok3 f v.2) ⟨rfl,W,hM0⟩ (λe he v E=>?_) λv E=>?_)
   .obtain⟨j0,M⟩:=v
    obtain⟨(H:j0=_),(W:M=rw2 f k L x e),(B:Ok3 f M)⟩:=E;subst H;have hb:=O x e (by omega) (by omega)
    rw[<-W]at hb;have hkM:k<M.length:=by omega
    obtain⟨P0,A⟩:∃P0,P0=M.getD k []:=⟨_,rfl⟩;have F:P0∈M:=by rw[A];exact Jn hkM
    have hF:P0=pL f (mem P0):=B.a P0 F;have hPl:P0.length=f.2.2.2.2.2.1.length:=by rw[hF];exact Kd
    have hPr:(P0.getD x []).length<=1048576:=by rw[hF];exact X9 U J
    have he':e<nx f x:=by omega
    have hsz:(e:Int)<sz f (x:Int):=by
     have:nx f x=(sz f (x:Int)).toNat:=rfl;omega
    have hs:rw2 f k L x (e+1)=stp f k M (x,e):=by rw[Z0,<-W]
    have eP:M.getD ((k:Int)).toNat []=P0:=by rw[tNC,A]
    have gk:(0:Int)<=(k:Int)/\(k:Int)<((M.length:Nat):Int):=by omega
    have hN3:=B.stp hg (q:=(x,e)) hkM J he';refine Ah gx (BC (by show decide ((e:Int)<f.2.2.2.2.2.1.getD ((x:Int)).toNat 0)=true;rw[en];exact ltt he) (Ah gk (Ah (by show(0:Int)<=(x:Int)/\(x:Int)<(((M.getD ((k:Int)).toNat []).length:Nat):Int);rw[eP,hPl];omega) (Bu (v:=mem P0 x e) (by show G64 ((M.getD ((k:Int)).toNat []).getD ((x:Int)).toNat [],(e:Int))=_;rw[eP,tNC];exact p64 hPr _) (AX (λc=>?_) λc=>?_)))))
    .refine Ah gk (AT (P:=λr=>r=pL f (gen f x e)) (p66 U hl hm hsz) λv6 h6=>?_)
     subst h6
     have hj65:Tot (λr=>r=jn f P0 (x,e)) (G65 (f,(P0,pL f (gen f x e)))):=by
      have:=p65 U hl (S:=mem P0) (T:=gen f x e);rw[<-hF]at this;exact this
     refine AT (P:=λr=>r=jn f P0 (x,e)) (by show Tot _ (G65 (f,(M.getD ((k:Int)).toNat [],pL f (gen f x e))));rw[eP];exact hj65) λv7 h7=>?_
     subst h7;refine AT (p67 (L:=M) (q:=jn f P0 (x,e)) (by omega) (λp Y=>by rw[B.a p Y];exact VY U hl)) λb hb2=>AX (λc2=>?_) λc2=>?_
     .have Z:¬jn f P0 (x,e)∈M:=λh=>by rw[hb2.2 h]at c2;cases c2
      have u:stp f k M (x,e)=M++[jn f P0 (x,e)]:=by
       unfold stp;rw[<-A,if_neg Z]
      refine Ah (by show M.length+1<=_;omega) (Aa ⟨wr1 he (by omega),by rw[hs,u],by rw[<-u];exact hN3⟩)
     .have Z:jn f P0 (x,e)∈M:=hb2.1 (by simpa using c2)
      have u:stp f k M (x,e)=M:=by
       unfold stp;rw[<-A,if_pos Z]
      exact Aa ⟨wr1 he (by omega),by rw[hs,u],B⟩
    .have hmm:mem P0 x e=true:=by simpa using c
     have u:stp f k M (x,e)=M:=by
      unfold stp;rw[<-A,Ac6 (B.a P0 F) (B.c P0 F) J he' hmm,if_pos F]
     exact Aa ⟨wr1 he (by omega),by rw[hs,u],B⟩
   .obtain⟨j0,M⟩:=v
    obtain⟨(H:j0=_),(W:M=rw2 f k L x n),(B:Ok3 f M)⟩:=E;subst H;exact Ah gx (Bt (by show decide ((n:Int)<f.2.2.2.2.2.1.getD ((x:Int)).toNat 0)=false;rw[en];exact ltf) (Aa (Ah rfl (Aa ⟨wr1 J (by omega),by rw[Acw,hnx];exact W,B⟩))))
  .obtain⟨x0,M⟩:=v
   obtain⟨(H:x0=_),(W:M=_),(B:Ok3 f M)⟩:=E;subst H;have hb:=O f.2.2.2.2.2.1.length 0 (Nat.le_refl _) (by omega)
   rw[<-W]at hb hr2;refine Bt (by show decide (((f.2.2.2.2.2.1.length:Nat):Int)<f.1)=false;rw[<-l1];exact ltf) (Aa (Ah rfl (Aa ⟨⟨k+1,wr1 (n:=201) (by omega) (by omega),by omega,by show M.length<=400;omega,by show 0<M.length;omega,B,by rw[show 201-(k+1)=200-k by omega];exact hr2⟩,?_⟩)))
   show 300-(wrap .i64 ((k:Int)+1)).toNat<300-((k:Int)).toNat;rw[wr1 (n:=201) (by omega) (by omega),tNC,tNC];omega
 .have hne:¬ (k<L.length/\L.length<=200):=λh=>by rw[hb.2 h]at e;cases e
  have hr3:L=By f:=by
   rw[<-hr];by_cases h1:k<L.length
   .exact(Uh (λh2=>hne ⟨h1,h2⟩) _ _).symm
   .exact(XC h1 _).symm
  exact Aa (Ah rfl (hI L hr3 hA Y (by omega)))
end Go.Ve.D


namespace Go.Ve.D
open Go Go.Ve
def p96{x y:List Int}(U:x.length<=1000000000):Tot (λb=>b=decide (CC x y<0)) (G96 (x,y)):=by
 unfold G96;refine DK (I:=λv=>∃i:Nat,v=(i:Int)/\i<=x.length/\i<=y.length/\CC x y=CC (x.drop i) (y.drop i)) (λv=>x.length-v.toNat) ⟨0,rfl,Nat.zero_le _,Nat.zero_le _,rfl⟩ (λv B=>?_)
 obtain⟨i,rfl,Y,u,E⟩:=B;refine AT (P:=λb=>b=true↔i<x.length/\i<y.length) (AX (λe=>Aa ?_) λe=>Aa ?_) λb H=>AX (λe=>?_) λe=>?_
 .have e:(i:Int)<((x.length:Nat):Int):=Jp e
  show decide ((i:Int)<((y.length:Nat):Int))=true↔_;rw[decide_eq_true_iff];omega
 .have e:¬ (i:Int)<((x.length:Nat):Int):=KG e
  exact⟨λh=>(by cases h),λh=>absurd h.1 (by omega)⟩
 .obtain⟨l1,l2⟩:=H.1 e
  have O:=Nv (d:=(0:Int)) l1;have J:=Nv (d:=(0:Int)) l2;have F:((i:Int)).toNat=i:=tNC i;have g1:(0:Int)<=(i:Int)/\(i:Int)<((x.length:Nat):Int):=by omega
  have g2:(0:Int)<=(i:Int)/\(i:Int)<((y.length:Nat):Int):=by omega
  refine Ah g1 (Ah g2 (AX (λc=>Ah g1 (Ah g2 (DL (Aa ?_)))) λc=>Aa ⟨⟨i+1,wr1 l1 (by omega),by omega,by omega,?_⟩,?_⟩))
  .have c:(!decide (x.getD ((i:Int)).toNat 0=y.getD ((i:Int)).toNat 0))=true:=c
   rw[F]at c;have c:¬x.getD i 0=y.getD i 0:=by simpa using c
   show decide (x.getD ((i:Int)).toNat 0<y.getD ((i:Int)).toNat 0)=_;have B:CC x y=if x.getD i 0<y.getD i 0 then-1 else 1:=by
    rw[E,O,J];show(if x.getD i 0=y.getD i 0 then _ else _)=_
    rw[if_neg c]
   rw[F,decide_eq_decide,B];by_cases h:x.getD i 0<y.getD i 0
   .rw[if_pos h];exact⟨λ_=>by decide,λ_=>h⟩
   .rw[if_neg h];exact⟨λu=>absurd u h,λu=>absurd u (by decide)⟩
  .have c:(!decide (x.getD ((i:Int)).toNat 0=y.getD ((i:Int)).toNat 0))=false:=c
   rw[F]at c;have c:x.getD i 0=y.getD i 0:=by simpa using c
   rw[E,O,J];show(if x.getD i 0=y.getD i 0 then _ else _)=_
   rw[if_pos c]
  .show x.length-(wrap .i64 ((i:Int)+1)).toNat<x.length-((i:Int)).toNat
   rw[wr1 l1 (by omega),tNC,tNC];omega
 .have W:¬ (i<x.length/\i<y.length):=λh=>by rw[H.2 h]at e;cases e
  refine Aa (Ah rfl (Aa ?_));show decide (((x.length:Nat):Int)<((y.length:Nat):Int))=_;rw[E];by_cases l1:i<x.length
  .have l2:i=y.length:=by omega
   rw[Nv (d:=(0:Int)) l1,l2,List.drop_length,dF (by omega)];rfl
  .have A:i=x.length:=by omega
   rw[A,List.drop_length];by_cases l2:x.length<y.length
   .rw[Nv (d:=(0:Int)) l2,dT (by omega)];rfl
   .rw[List.drop_eq_nil_iff.2 (by omega),dF (by omega)];rfl
end Go.Ve.D


namespace Go.Ve.D
open Go Go.Ve
def p68{x y:List (List Int)}(A:x.length=y.length)(W:x.length<=1048576)(J:∀z∈x,z.length<=1048576):Tot (λb=>b=decide (AV x y<0)) (G68 (x,y)):=by
 unfold G68;refine AE (n:=x.length) (λi v=>v=(i:Int)/\AV x y=AV (x.drop i) (y.drop i)) ⟨rfl,rfl⟩ (λi hi v e=>?_) λv e=>?_
 .obtain⟨rfl,u⟩:=e
  have B:i<y.length:=by omega
  have F:=Nv (d:=[]) hi;have E:=Nv (d:=[]) B;have H:((i:Int)).toNat=i:=tNC i;have g1:(0:Int)<=(i:Int)/\(i:Int)<((x.length:Nat):Int):=by omega
  have g2:(0:Int)<=(i:Int)/\(i:Int)<((y.length:Nat):Int):=by omega
  have O:(x.getD i []).length<=1048576:=J _ (CQ [] hi);refine BC (ltt hi) (Ah g1 (Ah g2 (Bu (v:=decide (x.getD i []=y.getD i [])) (by show G92 (x.getD ((i:Int)).toNat [],y.getD ((i:Int)).toNat [])=_;rw[H];exact p92 O) (AX (λc=>?_) λc=>Aa ⟨wr1 hi (by omega),?_⟩))))
  .have c:¬x.getD i []=y.getD i []:=by simpa using c
   refine Ah g1 (Ah g2 (AT (P:=λb=>b=decide (CC (x.getD i []) (y.getD i [])<0)) (by show Tot _ (G96 (x.getD ((i:Int)).toNat [],y.getD ((i:Int)).toNat []));rw[H];exact p96 (by omega)) λb U=>DL (Aa ?_)))
   have e:AV x y=CC (x.getD i []) (y.getD i []):=by
    rw[u,F,E];show(if _=0 then _ else _)=_
    rw[if_neg (λh=>c (KL _ _ h))]
   rw[U,decide_eq_decide,e]
  .have c:x.getD i []=y.getD i []:=by simpa using c
   rw[u,F,E];show(if _=0 then _ else _)=_
   rw[if_pos (by rw[c];exact KK _)]
 .obtain⟨rfl,u⟩:=e
  have e:AV x y=0:=by
   rw[u,List.drop_length,A,List.drop_length];rfl
  refine Bt ltf (Aa (Ah rfl (Aa ?_)));have:¬AV x y<0:=by rw[e];decide
  exact(dF this).symm
end Go.Ve.D

