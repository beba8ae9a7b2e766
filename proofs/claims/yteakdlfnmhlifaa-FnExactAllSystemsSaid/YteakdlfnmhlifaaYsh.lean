/- Factorizations, systems. -/
import Derived.Test.YteakdlfnmhlifaaYse
open List(range range_succ append_nil length_map length_range)
open Go.IntKind(wrap i64)
set_option linter.all false
namespace Go.Ve.D
open Go Go.Ve
noncomputable section
variable{c:Cat}{e m:List Int}{n:Nat}{α:Type}
def appL{R:Type}{f:Int×List α->Option (LO (Int×List α) R)}{K:Nat}{g:Nat->List α}{id:Nat}{a0:List α}(H:∀i,i<n->(g i).length<=K)
  (U:∀i,i<n->∀A:List α,A.length<=a0.length+i*K->f ((i:Int),A)=some (.next (((i+1:Nat):Int),A++g i)))
  (B:∀A:List α,f ((n:Int),A)=some (.brk id ((n:Int),A))):Aq f ((0:Int),a0)=some (.brk id ((n:Int),a0++(range n).flatMap g)):=by
 have key:∀i,i<=n->(a0++(range i).flatMap g).length<=a0.length+i*K:=by
  intro i
  induction i with
  |zero=>intro _;simp
  |succ i F=>
   intro hi;have h:=F (by omega)
   have B:=H i (by omega)
   rw[range_succ,List.flatMap_append,<-List.append_assoc,List.length_append];simp only[List.flatMap_cons,List.flatMap_nil,append_nil];rw[Nat.succ_mul];omega
 refine Dc (st:=λi:Nat=>((i:Int),a0++(range i).flatMap g)) (n:=n) (by simp) (λi hi=>?_) (B _) (λy=>by simp)
 rw[U i hi _ (key i (by omega)),range_succ,List.flatMap_append,List.append_assoc]
 simp
def NO(d:α){x:List α}{p:α->Bool}{i:Nat}(hi:i<x.length):(x.take (i+1)).any p=((x.take i).any p||p (x.getD i d)):=by
 rw[List.take_add_one,List.any_append,gEE hi,gDE,gEE hi];simp
def fc(c:Cat)(e m:List Int)(h:Nat):Bool:=e.any λa=>m.any λb=>decide (T c a.toNat b.toNat=(h:Int))
def fc_iff{h:Nat}:fc c e m h=true↔ ∃a∈e,∃b∈m,T c a.toNat b.toNat=(h:Int):=by
 unfold fc;simp only[List.any_eq_true,decide_eq_true_eq]
theorem map_set{t:Nat}{f:Nat->Bool}(B:t<n):((range n).map f).set t true=(range n).map λh=>f h||decide ((t:Int)=(h:Int)):=by
 apply List.ext_getElem?;intro k;by_cases A:k<n
 .by_cases e:k=t
  .subst e;simp[A]
  .rw[List.getElem?_set_ne (Ne.symm e)]
   have:decide ((t:Int)=(k:Int))=false:=dF (by omega)
   simp[A,this]
 .simp[A]
theorem p103(h:Sh c)(Y:e.length<=1048576)(F:m.length<=1048576)(he:wi (ar c) e=true)(hm:wi (ar c) m=true):G103 (c,(e,m))=some ((range (ar c)).all (fc c e m)):=by
 have hl:=Cf h;unfold G103;refine Af (p99 c) (A8 ⟨by omega,by omega,by show 1*((ar c:Nat):Int)<=_;omega,by show((ar c:Nat):Int)<=_;omega⟩ ?_)
 refine Af (Dc (st:=λi:Nat=>((i:Int),(range (ar c)).map fun(h:Nat)=>(e.take i).any λa=>m.any λb=>decide (T c a.toNat b.toNat=(h:Int)))) (n:=e.length) (o:=.brk 0 ((e.length:Int),(range (ar c)).map fun(h:Nat)=>(e.take e.length).any λa=>m.any λb=>decide (T c a.toNat b.toNat=(h:Int)))) ?_ (λi hi=>?_) (Bf ltn rfl) (λy=>by simp)) ?_
 .show((0:Int),List.replicate (ar c) false)=_
  rw[OZ (f:=λ_=>false)];rfl
 .obtain⟨a,U,ea⟩:=Z5 he hi
  refine Bb (ltd hi) (A8 (Ab hi) (Af (Dc (st:=λk:Nat=>((k:Int),(range (ar c)).map fun(h:Nat)=>((e.take i).any λa=>m.any λb=>decide (T c a.toNat b.toNat=(h:Int)))||(m.take k).any λb=>decide (T c a b.toNat=(h:Int)))) (n:=m.length) (o:=.brk 2 ((m.length:Int),(range (ar c)).map fun(h:Nat)=>((e.take i).any λa=>m.any λb=>decide (T c a.toNat b.toNat=(h:Int)))||(m.take m.length).any λb=>decide (T c a b.toNat=(h:Int)))) ?_ (λk A=>?_) (Bf ltn rfl) (λy=>by simp)) ?_))
  .simp
  .obtain⟨b,H,eb⟩:=Z5 hm A
   refine Bb (ltd A) (A8 (Ab A) ?_);rw[show e.getD ((i:Int)).toNat 0=(a:Int)from ea,show m.getD ((k:Int)).toNat 0=(b:Int)from eb]
   have en:∀h:Nat,((m.take (k+1)).any λb=>decide (T c a b.toNat=(h:Int)))=((m.take k).any (λb=>decide (T c a b.toNat=(h:Int)))||decide (T c a b=(h:Int))):=λh=>by rw[NO (0:Int) A,eb];rfl
   simp only[en];by_cases Z:mt c a b=true
   .obtain⟨g1,g2,_⟩:=h.pos a b U H Z
    obtain⟨t,W⟩:∃t:Nat,T c a b=(t:Int):=⟨(T c a b).toNat,by omega⟩
    have B:t<ar c:=by
     have:(t:Int)<(ar c:Int):=by rw[<-W];exact g2
     omega
    rw[W];refine Af ((Uc h (Ab U) (Ab H)).trans (congrArg some W)) (Bb (dT (by omega)) (A8 ?_ ?_))
    .show(0:Int)<=(t:Int)/\(t:Int)<(((range (ar c)).map _).length:Int)
     rw[length_map,length_range];exact Ab B
    .show some (LO.next (wrap .i64 ((k:Int)+1),((range (ar c)).map _).set t true))=_
     rw[map_set B,wr A F];simp only[Bool.or_assoc]
   .have hn:=h.neg a b U H (by simpa using Z)
    rw[hn];refine Af ((Uc h (Ab U) (Ab H)).trans (congrArg some hn)) (Bf (by decide) ?_)
    show some (LO.next (wrap .i64 ((k:Int)+1),(range (ar c)).map _))=some (LO.next (_,(range (ar c)).map _))
    rw[wr A F];refine congrArg (λz=>some (LO.next (((k+1:Nat):Int),z))) (List.map_congr_left λx _=>?_)
    have:decide ((-1:Int)=(x:Int))=false:=dF (by omega)
    rw[this,Bool.or_false]
  .show some (LO.next (wrap .i64 ((i:Int)+1),(range (ar c)).map _))=some (LO.next (_,(range (ar c)).map _))
   rw[wr hi Y,List.take_length];refine congrArg (λz=>some (LO.next (((i+1:Nat):Int),z))) (List.map_congr_left λx _=>?_)
   rw[NO (0:Int) hi,ea];rfl
 .show Option.bind (G56 ((range (ar c)).map _)) _=_
  rw[List.take_length];refine Af (p56 (by omega) _) (Af (p99 c) ?_)
  congr 1
  rw[length_map];show decide ((((range (ar c)).filter (fc c e m)).length:Int)=(ar c:Int))=_;rw[Bool.eq_iff_iff,decide_eq_true_eq,aET];have:=List.length_filter_eq_length_iff (p:=fc c e m) (l:=range (ar c));rw[length_range]at this;rw[<-this];omega
def Pl(c:Cat)(e m:List Int):Bool:=decide (rt c e=m)&&(decide (lf c m=e)&&(range (ar c)).all (fc c e m))
theorem p57(h:Sh c)(B:e.length<=1048576)(A:m.length<=1048576)(U:wi (ar c) e=true)(hm:wi (ar c) m=true):G57 (c,(ot c,(e,m)))=some (Pl c e m):=by
 have H:=Cf h
 have F:∀q:Nat->Bool,(((range (ar c)).filter q).map fun(i:Nat)=>(i:Int)).length<=1048576:=λq=>by
  rw[length_map];have:=List.length_filter_le q (range (ar c));rw[length_range]at this;omega
 unfold G57;refine Af (p58 H B U) (Af (p101 (F _)) (Af (v:=decide (rt c e=m)&&decide (lf c m=e)) ?_ (Af (v:=Pl c e m) ?_ rfl)))
 .cases W:decide (rt c e=m)
  .exact Bf rfl rfl
  .exact Bb rfl (Af (p102 H A hm) (Af (p101 (F _)) rfl))
 .unfold Pl
  rw[<-Bool.and_assoc];cases W:decide (rt c e=m)&&decide (lf c m=e)
  .exact Bf rfl rfl
  .exact Bb rfl (Af (p103 h B A U hm) rfl)
end
end Go.Ve.D


namespace Go.Ve.D
open Go Go.Ve
noncomputable section
variable{b:Bool}{c:Cat}{e m v:List Int}{a f i:Nat}{q:Nat->Nat->Nat->Bool}{R:Type}
def YH{d:Bool}{o:Option Bool}(h:b=true->o=some d):(bif b then o else some false)=some (b&&d):=by
 cases b
 .rfl
 .exact h rfl
def pushR{R:Type}{b:Bool}{A:List (List Int)}{v:List Int}{i j:Int}(B:A.length<=1048576)(hj:i=j):
  (bif b then if A.length+(v::[]).length<=5864062014805 then some (LO.next (R:=R) (i,A++(v::[])))else none else some (LO.next (i,A)))=some (.next (j,A++bif b then [v]else [])):=by
 subst hj;cases b
 .show some _=some (LO.next (i,A++[]));rw[append_nil]
 .exact A8 (by show A.length+1<=_;omega) rfl
def eN(e:List Int)(i:Nat):Nat:=(e.getD i 0).toNat
def YW(e m:List Int)(z i k:Nat):List Int:=[(z:Int),e.getD i 0,m.getD k 0]
def q68(c:Cat)(e m:List Int)(f z i k:Nat):Bool:=(((decide (fT c (eN e i)=fT c f)&&decide (tT c (eN e i)=(z:Int)))&&decide (fT c (eN m k)=(z:Int)))&&decide (tT c (eN m k)=tT c f))&&decide (T c (eN e i) (eN m k)=(f:Int))
def fac(c:Cat)(e m:List Int)(q:Nat->Nat->Nat->Bool):List (List Int):=(range c.1.toNat).flatMap λz=>(range e.length).flatMap λi=>(range m.length).flatMap λk=>bif q z i k then [YW e m z i k]else []
def Nj{α:Type}{K:Nat}{g:Nat->List α}(A:∀i,(g i).length<=K):∀n,((range n).flatMap g).length<=n*K
 |0=>by simp
 |n+1=>by
  have F:=Nj A n;have B:=A n;rw[range_succ,List.flatMap_append,List.length_append,Nat.succ_mul];simp only[List.flatMap_cons,List.flatMap_nil,append_nil];omega
def Abp:(bif b then [v]else []).length<=1:=by cases b<;>simp
def acc_le{z k E M:Nat}(H:z<8)(hi:i<E)(U:k<M)(B:E<=40)(W:M<=40)(h:a<=z*(E*(M*1))+i*(M*1)+k*1):a<=1048576:=by
 have A:M*1<=40:=by omega
 have F:E*(M*1)<=40*40:=Nat.mul_le_mul B A;have h3:z*(E*(M*1))<=8*(40*40):=Nat.mul_le_mul (by omega) F
 have h4:i*(M*1)<=40*40:=Nat.mul_le_mul (by omega) A
 omega
theorem loop3(h:Sh c)(hE:e.length<=40)(hM:m.length<=40){q:Nat->Nat->Nat->Bool}{F1:Int×List (List Int)->Option (LO (Int×List (List Int)) R)}{F2:Int×List (List Int)->Int×List (List Int)->Option (LO (Int×List (List Int)) (LO (Int×List (List Int)) R))}
  {F3:Int×List (List Int)->Int×List (List Int)->Int×List (List Int)->Option (LO (Int×List (List Int)) (LO (Int×List (List Int)) (LO (Int×List (List Int)) R)))}{S:Type}{k:LO (Int×List (List Int)) R->Option S}
  (h1:∀v,F1 v=bif decide (v.1<c.1)then Option.bind (Aq (F2 v) ((0:Int),v.2)) (LO.fin λZ Y=>if Z=2 then some (LO.next (i64.wrap (v.1+1),Y.2))else none)else some (LO.brk 0 v))
  (h2:∀z v,(0<=v.1/\v.1<(e.length:Int))->F2 z v=Option.bind (Aq (F3 z v) ((0:Int),v.2)) (LO.fin λZ Y=>if Z=4 then some (LO.next (i64.wrap (v.1+1),Y.2))else none)) (h2':∀z A,F2 z ((e.length:Int),A)=some (LO.brk 2 ((e.length:Int),A)))
  (h3:∀(z i k:Nat) A a1 a2,(z:Int)<c.1->i<e.length->k<m.length->A.length<=1048576->F3 ((z:Int),a1) ((i:Int),a2) ((k:Int),A)=some (.next (((k+1:Nat):Int),A++bif q z i k then [YW e m z i k]else []))) (h3':∀z i A,F3 z i ((m.length:Int),A)=some (LO.brk 4 ((m.length:Int),A))) {r:Option S}
  (U:k (.brk 0 (c.1,fac c e m q))=r):Option.bind (Aq F1 ((0:Int),[])) k=r:=by
 have h0:=h.hd.1;obtain⟨n,H⟩:∃n:Nat,c.1=(n:Int):=⟨c.1.toNat,by omega⟩
 have hn8:n<=8:=by omega
 have W:∀z i,((range m.length).flatMap λk=>bif q z i k then [YW e m z i k]else []).length<=m.length*1:=λz i=>Nj (λk=>Abp) _
 have hg2:∀z,((range e.length).flatMap λi=>(range m.length).flatMap λk=>bif q z i k then [YW e m z i k]else []).length<=e.length*(m.length*1):=λz=>Nj (W z) _
 refine Af (appL (n:=n) (K:=e.length*(m.length*1)) (g:=λz=>(range e.length).flatMap λi=>(range m.length).flatMap λk=>bif q z i k then [YW e m z i k]else []) (id:=0) (λz hz=>hg2 z) (λz hz A ha=>?_) (λA=>?_)) ?_
 .rw[h1,H]
  refine Bb (ltd hz) (Af (appL (n:=e.length) (K:=m.length*1) (g:=λi=>(range m.length).flatMap λk=>bif q z i k then [YW e m z i k]else []) (id:=2) (λi hi=>W z i) (λi hi B ha2=>?_) (λB=>h2' _ _)) ?_)
  .rw[h2 _ _ (Ab hi)]
   refine Af (appL (n:=m.length) (K:=1) (g:=λk=>bif q z i k then [YW e m z i k]else []) (id:=4) (λk U=>Abp) (λk U F ha3=>?_) (λF=>h3' _ _ _)) ?_
   .refine h3 z i k F A B (by rw[H];omega) hi U (acc_le (z:=z) (i:=i) (k:=k) (by omega) hi U hE hM ?_)
    have:A.length<=0+z*(e.length*(m.length*1)):=ha;have:B.length<=A.length+i*(m.length*1):=ha2;have:F.length<=B.length+k*1:=ha3;omega
   .show some (LO.next (wrap .i64 ((i:Int)+1),_))=_
    rw[wr hi (by omega)]
  .show some (LO.next (wrap .i64 ((z:Int)+1),_))=_
   rw[wr hz (by omega)]
 .rw[h1,H];exact Bf ltn rfl
 .rw[<-U,H]
  show k (.brk 0 ((n:Int),[]++_))=k (.brk 0 ((n:Int),_));unfold fac;rw[H];rfl
theorem p95(h:Sh c)(hE:e.length<=40)(hM:m.length<=40)(he:wi (ar c) e=true)(hm:wi (ar c) m=true)(hf:f<ar c):G95 (c,(e,(m,(f:Int))))=some (fac c e m (q68 c e m f)):=by
 have ht:=W4 h;unfold G95;refine loop3 (q:=q68 c e m f) h hE hM (λv=>rfl) (λz v hi=>Bb (dT hi.2) rfl) (λz Z=>Bf ltn rfl) (λz i k Z a1 a2 hz hi A ha=>?_) (λz i Z=>Bf ltn rfl) rfl
 obtain⟨a,Y,ea⟩:=Z5 he hi;obtain⟨b,hb,eb⟩:=Z5 hm A;have ga:eN e i=a:=by unfold eN;rw[ea];rfl
 have gb:eN m k=b:=by unfold eN;rw[eb];rfl
 have W:(0:Int)<=e.getD i 0/\e.getD i 0<(c.2.1.length:Int):=by rw[ea];exact Ab Y
 have U:(0:Int)<=e.getD i 0/\e.getD i 0<(c.2.2.1.length:Int):=by rw[ea,ht];exact Ab Y
 have H:(0:Int)<=m.getD k 0/\m.getD k 0<(c.2.1.length:Int):=by rw[eb];exact Ab hb
 have F:(0:Int)<=m.getD k 0/\m.getD k 0<(c.2.2.1.length:Int):=by rw[eb,ht];exact Ab hb
 have B:(0:Int)<=(f:Int)/\(f:Int)<(c.2.2.1.length:Int):=by rw[ht];exact Ab hf
 refine Bb (ltd A) (A8 (Ab hi) (A8 W (A8 (Ab hf) (Af (YH λ_=>A8 (Ab hi) (A8 U rfl)) (Af (YH λ_=>A8 (Ab A) (A8 H rfl)) (Af (YH λ_=>A8 (Ab A) (A8 F (A8 B rfl))) (Af (YH λ_=>A8 (Ab hi) (A8 (Ab A) (Af (p133 h W H) rfl))) ?_)))))))
 have:=pushR (R:=LO (Int×List (List Int)) (LO (Int×List (List Int)) (List (List Int)))) (b:=q68 c e m f z i k) (v:=YW e m z i k) ha (wr A (by omega))
 rw[<-this];show(bif q68 c e m f z i k then _ else _)=_;cases q68 c e m f z i k
 .rfl
 .exact A8 (Ab hi) (A8 (Ab A) rfl)
theorem Ym{y:List Int}:y∈fac c e m q↔ ∃z i k,z<c.1.toNat/\i<e.length/\k<m.length/\q z i k=true/\y=YW e m z i k:=by
 unfold fac;simp only[List.mem_flatMap,List.mem_range];constructor
 .rintro ⟨z,A,i,hi,k,F,h⟩
  refine⟨z,i,k,A,hi,F,?_⟩;cases B:q z i k<;>rw[B]at h<;>simp at h
  exact⟨rfl,h⟩
 .rintro ⟨z,i,k,A,hi,F,B,rfl⟩
  exact⟨z,A,i,hi,k,F,by rw[B];simp⟩
theorem Acl{α:Type}{x:List α}:decide ((x.length:Int)=0)=true↔ ∀y,y∉x:=by
 cases x with
 |nil=>simp
 |cons a x=>
  refine⟨λh=>?_,λh=>absurd List.mem_cons_self (h a)⟩
  have h:=of_decide_eq_true h;rw[List.length_cons]at h;omega
theorem fc_get{h:Nat}:fc c e m h=true↔ ∃i k,i<e.length/\k<m.length/\T c (eN e i) (eN m k)=(h:Int):=by
 rw[fc_iff];constructor
 .rintro ⟨a,F,b,B,h⟩
  obtain⟨i,hi,rfl⟩:=List.getElem_of_mem F;obtain⟨k,A,rfl⟩:=List.getElem_of_mem B;refine⟨i,k,hi,A,?_⟩;unfold eN;rw[gDE,gEE hi,gDE,gEE A];exact h
 .rintro ⟨i,k,hi,A,h⟩
  exact⟨_,M0 0 hi,_,M0 0 A,h⟩
theorem eN_lt{n:Nat}(A:wi n e=true)(hi:i<e.length):eN e i<n:=by
 obtain⟨a,B,F⟩:=Z5 A hi;unfold eN;rw[F];exact B
def T_mt(h:Sh c){b:Nat}(F:a<ar c)(B:b<ar c)(W:T c a b=(f:Int)):mt c a b=true/\f<ar c/\fT c f=fT c a/\tT c f=tT c b:=by
 cases A:mt c a b
 .have:=h.neg a b F B A;omega
 .obtain⟨g1,g2,U,H⟩:=h.pos a b F B A
  rw[W]at g2 U H;refine⟨rfl,by have:(f:Int)<(ar c:Int):=g2;omega,U,H⟩
theorem fac68(h:Sh c)(he:wi (ar c) e=true)(hm:wi (ar c) m=true):decide (((fac c e m (q68 c e m f)).length:Int)=0)= !fc c e m f:=by
 rw[Bool.eq_iff_iff,Acl,Bool.not_eq_true',<-Bool.not_eq_true,fc_get];constructor
 .rintro F ⟨i,k,hi,A,U⟩
  have W:=eN_lt he hi;have hb:=eN_lt hm A;obtain⟨g1,g2,g3,g4⟩:=T_mt h W hb U;have Y:=h.to _ W;have h0:=h.hd.1;obtain⟨z,H⟩:∃z:Nat,tT c (eN e i)=(z:Int):=⟨(tT c (eN e i)).toNat,by have:0<=tT c (eN e i):=Y.1;omega⟩
  have h6:tT c (eN e i)<c.1:=Y.2;refine F (YW e m z i k) (Ym.2 ⟨z,i,k,by omega,hi,A,?_,rfl⟩)
  have g1:tT c (eN e i)=fT c (eN m k):=of_decide_eq_true g1;unfold q68;rw[dT g3.symm,dT H,dT (show fT c (eN m k)=(z:Int) by rw[<-g1,H]),dT g4.symm,dT U];rfl
 .intro F y Z
  obtain⟨z,i,k,_,hi,A,B,_⟩:=Ym.1 Z;unfold q68 at B;rw[bAE]at B;exact F ⟨i,k,hi,A,of_decide_eq_true B.2⟩
theorem p49(h:Sh c)(H:e.length<=40)(F:m.length<=40)(A:wi (ar c) e=true)(hm:wi (ar c) m=true):G49 (c,(e,m))=some (Pl c e m):=by
 have U:=Cf h
 have B:∀q:Nat->Bool,(((range (ar c)).filter q).map fun(i:Nat)=>(i:Int)).length<=1048576:=λq=>by
  rw[length_map];have:=List.length_filter_le q (range (ar c));rw[length_range]at this;omega
 unfold G49 Pl;refine Af (p93 h (by show e.length<=_;omega) A) (Af (p92 (B _)) ((Af (v:=!decide (rt c e=m)|| !decide (lf c m=e)) ?_ rfl).trans ?_))
 .cases decide (rt c e=m)
  .rfl
  .exact Bf rfl (Af (p94 h (by show m.length<=_;omega) hm) (Af (p92 (B _)) rfl))
 .cases decide (rt c e=m)
  .rfl
  cases decide (lf c m=e)
  .rfl
  refine Bf rfl ((Adr (n:=ar c) (p:=fc c e m) (r:=false) (v:=true) (id:=0) (λi hi=>?_) (Bf ltn rfl) (λ_=>rfl)).trans ?_)
  .refine Bb (ltd hi) (Af (p95 h H F A hm hi) ?_)
   rw[show decide ((((fac c e m (q68 c e m i)).length:Nat):Int)=0)=_ from fac68 h A hm]
   exact fin1' (wr hi (by omega))
  .cases (range (ar c)).all (fc c e m)<;>rfl
end
end Go.Ve.D

