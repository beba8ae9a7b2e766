/- The source of numbers. -/
import Derived.Test.YtojjlnbnneemaaaUom
import Derived.Test.YtojjlnbnneemaaaLt
import Derived.Test.YtojjlnbnneemaaaEda
import Derived.Test.YtojjlnbnneemaaaEba
set_option linter.all false
namespace Go.Ve.D
open Go Go.Ve
abbrev Src:=List Int×(Int×Int)
def OkS(s:Src):Prop:=0<=s.2.1/\s.1.length<=4096/\∀b∈s.1,0<=b/\b<=255
def wr64(n:Int):IntKind.u64.wrap n=n % 18446744073709551616:=by simp[IntKind.wrap,IntKind.bits,IntKind.signed]
def and24(a:Int):0<=AaB .u64 a 16777215/\AaB .u64 a 16777215<=16777215:=by
 unfold AaB
 have h:(BitVec.ofInt IntKind.u64.bits a&&&BitVec.ofInt IntKind.u64.bits 16777215).toNat<=16777215:=by
  rw[BitVec.toNat_and];exact Nat.le_trans Nat.and_le_right (by decide)
 rw[wr64];omega
def Ack{s:Src}(h:OkS s)(i:Nat):0<=s.1.getD i 0/\s.1.getD i 0<=255:=by
 rw[gDE];by_cases e:i<s.1.length
 .rw[gEE e]
  exact h.2.2 _ (List.getElem_mem e)
 .rw[List.getElem?_eq_none (by omega)]
  exact⟨Int.le_refl _,by decide⟩
def Num(n:Int)(r:Int×Src):Prop:=(0<=r.1/\(0<n->r.1<n)/\(n<=0->r.1=0))/\OkS r.2
def p38{z:Int}{s:Src}(h:OkS s):Tot (Num z) (G38 z s):=by
 unfold G38;have hn:=and24;refine Ak (λB=>?_) (λB=>?_)
 .have B:=Bz B
  exact Aa ⟨⟨Int.le_refl _,λh=>h,λ_=>rfl⟩,h⟩
 have B:¬z<1:=DF B;have e:z≠0:=by omega
 have key:∀A:Int,0<=A->0<=Int.tmod A z/\(0<z->Int.tmod A z<z)/\(z<=0->Int.tmod A z=0):=by
  intro A J;rw[Int.tmod_eq_emod_of_nonneg J];exact⟨Int.emod_nonneg _ e,λE=>Int.emod_lt_of_pos _ E,λE=>by omega⟩
 refine Ab (by decide) (Ak (λha=>?_) (λ_=>?_))
 .have ha:=Bz ha
  refine Ab ⟨h.1,ha⟩ (Ab e (Aa ⟨key _ ?_,?_⟩))
  .obtain⟨a1,a2⟩:=hn (Aa8 .u64 (IntKind.wrap .u64 ((IntKind.wrap .u64 (s.2.2*(6364136223846793005:Int)))+(1442695040888963407:Int))) (33:Int))
   obtain⟨L,U⟩:=Ack h s.2.1.toNat;rw[AL a1 (by omega),AL L (by omega),AL (by omega) (by omega)]
   omega
  .have M:=h.2.1
   have O:=h.1;refine⟨?_,h.2⟩;show 0<=IntKind.wrap .i64 (s.2.1+1);rw[AL (by omega) (by omega)]
   omega
 .refine Ab e (Aa ⟨key _ ?_,h⟩)
  obtain⟨a1,a2⟩:=hn (Aa8 .u64 (IntKind.wrap .u64 ((IntKind.wrap .u64 (s.2.2*(6364136223846793005:Int)))+(1442695040888963407:Int))) (33:Int));rw[AL a1 (by omega)]
  exact a1
def QL(x:List Int):Prop:=x.length<=4096/\∀b∈x,0<=b/\b<=255
theorem p35{x:List Int}(h:QL x):Tot OkS (G35 x):=by
 unfold G35;refine Ao (n:=x.length) (λi v=>v.1=(i:Int)/\v.2.1=x/\v.2.2.1=0) ⟨rfl,rfl,rfl⟩ (λi J v e=>?_) λv e=>?_
 .obtain⟨k,y,a,b⟩:=v
  obtain⟨rfl,rfl,rfl⟩:=e;have U:=h.1;refine AI (v:=true) ?_ ?_
  .show(bif decide ((i:Int)<_)then some (decide ((i:Int)<4096))else _)=_
   rw[dT (by omega),dT (by omega)];rfl
  .refine Ab (An J) (Aa ⟨?_,rfl,rfl⟩)
   show IntKind.wrap .i64 ((i:Int)+1)=((i+1:Nat):Int);rw[AL (by omega) (by omega)];rfl
 .obtain⟨k,y,a,b⟩:=v
  obtain⟨E,B,A⟩:=e;have O:k=(x.length:Int):=E;have M:x=y:=B.symm;have L:a=0:=A;clear E B A;subst O M L;refine AI (v:=false) ?_ (Aa (Ab rfl (Aa ⟨Int.le_refl _,h.1,h.2⟩)));show(bif decide _ then _ else some false)=_;rw[dF (by omega)];rfl
def okN(n:Nat)(t:List (List Int)):Prop:=t.length<=n/\∀y∈t,y.length<=n
end Go.Ve.D


namespace Go.Ve.D
open Go Go.Ve
noncomputable section
variable{t:List (List Int)}{n:Nat}
def p100{x:List Int}(h:x.length<=1048576):G100 x=some x:=by
 unfold G100;rw[if_pos (by simp;omega)]
 rfl
def getN(h:okN n t)(i:Nat):(t.getD i []).length<=n:=by
 rw[gDE];by_cases e:i<t.length
 .rw[gEE e]
  exact h.2 _ (List.getElem_mem e)
 .rw[List.getElem?_eq_none (by omega)]
  exact Nat.zero_le _
theorem p50(h:okN 1048576 t):G50 t=some t:=by
 unfold G50;refine Cf (v:=.brk 0 ((t.length:Int),t)) (K4 (st:=λi=>((i:Int),t.take i)) (n:=t.length) (λi e=>?_) ?_ (λy=>by simp)) rfl
 .have A:=h.1
  simp only[A3,e,decide_true,cond_true,An e,if_true,and_self,tNC,p100 (getN h i),Option.bind_some,List.length_take,List.length_cons,List.length_nil];rw[if_pos (by omega),Nu [] e,wr1 e (by omega)]
 .simp
def p54(h:okN 1048576 t):G54 t=some ((1:Int),(List.replicate t.length (0:Int),(List.replicate t.length (0:Int),([(0:Int)],t)))):=by
 unfold G54;have e:=h.1;rw[if_pos (by omega),if_pos (by omega),p50 h]
 simp
def Sq(n:Nat)(t:List (List Int)):Prop:=t.length=n/\∀i,i<n->(t.getD i []).length=n
theorem Sq.set{n:Nat}{t:List (List Int)}(h:Sq n t){i:Nat}{y:List Int}(B:y.length=n):Sq n (t.set i y):=by
 refine⟨by rw[List.length_set];exact h.1,λj A=>?_⟩
 by_cases e:i=j
 .subst e
  rw[gDE,List.getElem?_set_self (by rw[h.1];exact A)]
  exact B
 .rw[gDE,List.getElem?_set_ne e,<-gDE]
  exact h.2 j A
theorem Sq.okN{n m:Nat}{t:List (List Int)}(h:Sq n t)(E:n<=m):okN m t:=⟨by rw[h.1];exact E,λy B=>by
 obtain⟨i,A,e⟩:=List.getElem_of_mem B;have:=h.2 i (by rw[<-h.1];exact A)
 rw[gDE,gEE A]at this;have J:y.length=n:=by rw[<-e];exact this
 omega⟩
def Sq.snoc{i:Nat}(h:t.length=i/\∀j,j<i->(t.getD j []).length=n){y:List Int}(A:y.length=n):(t++[y]).length=i+1/\∀j,j<i+1->((t++[y]).getD j []).length=n:=by
 refine⟨by simp[h.1],λj B=>?_⟩
 by_cases e:j<i
 .rw[gDE,gAL (by omega),<-gDE]
  exact h.2 j e
 .obtain rfl:j=i:=by omega
  rw[gDE,gAR (by omega)]
  simp[h.1,A]
def warB{R:Type}(z:Int):(Int×List (List Int))->Option (LO (Int×List (List Int)) R):=(fun(B:(Int×(List (List Int))))=>(bif(decide (B.1<z))then(Option.bind (Ar (fun(A:(Int×(List (List Int))))=>(bif(decide (A.1<z))then(Option.bind (Ar (fun(e:(Int×(List (List Int))))=>(bif(decide (e.1<z))then(if(((0:Int)<=A.1)/\(A.1<((e.2.length:Nat):Int)))then(if(((0:Int)<=B.1)/\(B.1<(((e.2.getD (A.1).toNat ([]:(List Int))).length:Nat):Int)))then(Option.bind (bif(decide (((e.2.getD (A.1).toNat ([]:(List Int))).getD (B.1).toNat (0:Int))=(1:Int)))then(if(((0:Int)<=B.1)/\(B.1<((e.2.length:Nat):Int)))then(if(((0:Int)<=e.1)/\(e.1<(((e.2.getD (B.1).toNat ([]:(List Int))).length:Nat):Int)))then(some (decide (((e.2.getD (B.1).toNat ([]:(List Int))).getD (e.1).toNat (0:Int))=(1:Int))))else none)else none)else(some false)) (fun(E:Bool)=>(bif E then(if(((0:Int)<=A.1)/\(A.1<((e.2.length:Nat):Int)))then(if(((0:Int)<=e.1)/\(e.1<(((e.2.getD (A.1).toNat ([]:(List Int))).length:Nat):Int)))then(some (LO.next ((IntKind.wrap .i64 (e.1+(1:Int))),(e.2.set (A.1).toNat ((e.2.getD (A.1).toNat ([]:(List Int))).set (e.1).toNat (1:Int))))))else none)else none)else(some (LO.next ((IntKind.wrap .i64 (e.1+(1:Int))),e.2))))))else none)else none)else(some (LO.brk 8 (e.1,e.2))))) ((0:Int),A.2)) (LO.fin λJ (e:(Int×(List (List Int))))=>(if J=8 then(some (LO.next ((IntKind.wrap .i64 (A.1+(1:Int))),e.2)))else none)))else(some (LO.brk 6 (A.1,A.2))))) ((0:Int),B.2)) (LO.fin λL (A:(Int×(List (List Int))))=>(if L=6 then(some (LO.next ((IntKind.wrap .i64 (B.1+(1:Int))),A.2)))else none)))else(some (LO.brk 4 (B.1,B.2)))))
end
end Go.Ve.D


namespace Go.Ve.D
open Go Go.Ve
noncomputable section
variable{t:List (List Int)}{F:List Int}{i j n:Nat}
def okN.big(h:okN n t)(hn:n<=1048576):t.length<=1048576/\∀y∈t,y.length<=1048576:=⟨Nat.le_trans h.1 hn,λy e=>Nat.le_trans (h.2 y e) hn⟩
def MonT(t:List (List Int)):Prop:=0<t.length/\TB t t.length
structure HB(t:List (List Int))(n:Nat):Prop where
 sq:Sq n t
 refl:∀i,i<n->cell t i i=1
 tr:∀i j k,i<n->j<n->k<n->cell t i j=1->cell t j k=1->cell t i k=1
theorem sq_of{b:Int}(h:sqB t b=true):Sq t.length t:=by
 refine⟨rfl,λi e=>?_⟩
 have:=aET.1 h i (List.mem_range.2 e);unfold rowB at this;rw[bAE,decide_eq_true_eq]at this;omega
theorem p46(h:okN 1000 t):Tot (λb=>b=true->HB t t.length) (G46 t):=by
 unfold G46;obtain⟨h1,h2⟩:=h.big (by decide)
 refine AI (p98 h1 h2) (Ak (λ_=>Aa (λh=>by cases h)) λE=>?_)
 have E:sqB t 2=true:=by simpa using E
 have J:=sq_of E;obtain⟨n,hn⟩:∃n,n=t.length:=⟨_,rfl⟩;rw[<-hn]at J⊢;have hn1:n<=1000:=by rw[hn];exact h.1
 have W:∀x y:Nat,x<n->y<n->((0:Int)<=(y:Int))/\((y:Int)<(((t.getD ((x:Int)).toNat []).length:Nat):Int)):=λx y L hy=>by
  rw[tNC,J.2 x L];omega
 have M:∀x y:Nat,(t.getD ((x:Int)).toNat []).getD ((y:Int)).toNat 0=cell t x y:=λx y=>by
  rw[tNC,tNC];rfl
 refine Ao (n:=n) (λi v=>v=(i:Int)/\∀a,a<i->cell t a a=1/\∀b c,b<n->c<n->cell t a b=1->cell t b c=1->cell t a c=1) ⟨rfl,λa ha=>by omega⟩ (λa ha v B=>?_) λv B=>?_
 .obtain⟨rfl,Y⟩:=B
  refine AY (ltt ha) (Ab (An ha) (Ab (W a a ha ha) (Ak (λ_=>A4 (Aa (λh=>by cases h))) λhd=>?_)))
  have hd:cell t a a=1:=by
   rw[M]at hd;simpa using hd
  refine Ao (n:=n) (λi v=>v=(i:Int)/\∀b,b<i->∀c,c<n->cell t a b=1->cell t b c=1->cell t a c=1) ⟨rfl,λa ha=>by omega⟩ (λb E v B=>?_) λv B=>?_
  .obtain⟨rfl,hJ⟩:=B
   refine AY (ltt E) (Ao (n:=n) (λi v=>v=(i:Int)/\∀c,c<i->cell t a b=1->cell t b c=1->cell t a c=1) ⟨rfl,λa ha=>by omega⟩ (λc A v B=>?_) λv B=>?_)
   .obtain⟨rfl,hK⟩:=B
    refine AY (ltt A) (Ab (An ha) (Ab (W a b ha E) (Ah (P:=λx=>x=(decide (cell t a b=1)&&decide (cell t b c=1))) (Ak (λe=>Ab (An E) (Ab (W b c E A) (Aa ?_))) λe=>Aa ?_) λx L=>?_)))
    .rw[M]at e
     rw[M,e];rfl
    .rw[M]at e
     rw[e];rfl
    subst L;refine Ah (P:=λx=>x=((decide (cell t a b=1)&&decide (cell t b c=1))&& !decide (cell t a c=1))) (Ak (λe=>Ab (An ha) (Ab (W a c ha A) (Aa ?_))) λe=>Aa ?_) λx L=>?_
    .rw[M,e];rfl
    .rw[e];rfl
    subst L;refine Ak (λ_=>A4 (A4 (A4 (Aa (λh=>by cases h))))) λe=>Aa ⟨wr1 A (by omega),λd hd U O=>?_⟩
    by_cases hdc:d<c
    .exact hK d hdc U O
    .obtain rfl:d=c:=by omega
     rw[U,O]at e;simpa using e
   .obtain⟨rfl,hK⟩:=B
    refine AH ltf (Aa (Ab rfl (Aa ⟨wr1 E (by omega),λd hd c A U O=>?_⟩)))
    by_cases hdb:d<b
    .exact hJ d hdb c A U O
    .obtain rfl:d=b:=by omega
     exact hK c A U O
  .obtain⟨rfl,hJ⟩:=B
   refine AH ltf (Aa (Ab rfl (Aa ⟨wr1 ha (by omega),λd hd'=>?_⟩)))
   by_cases hda:d<a
   .exact Y d hda
   .obtain rfl:d=a:=by omega
    exact⟨hd,λb c E A=>hJ b E c A⟩
 .obtain⟨rfl,Y⟩:=B
  exact AH ltf (Aa (Ab rfl (Aa λ_=>⟨J,λi Z=>(Y i Z).1,λi j k Z hj hk=>(Y i Z).2 j k hj hk⟩)))
structure XY(t:List (List Int))(n i j:Nat)(F T:List Int):Prop where
 len:T.length=F.length
 le:F.length<=i*n+j
 inn:∀k,k<F.length->(0<=F.getD k 0/\F.getD k 0<(n:Int))/\(0<=T.getD k 0/\T.getD k 0<(n:Int))
 rel:∀k,k<F.length->cell t (F.getD k 0).toNat (T.getD k 0).toNat=1
 mem:∀a b,(a<i\/(a=i/\b<j))->b<n->cell t a b=1->∃k,k<F.length/\F.getD k 0=(a:Int)/\T.getD k 0=(b:Int)
def BY{x:Int}{k:Nat}:(F++[x]).getD k 0=if k<F.length then F.getD k 0 else if k=F.length then x else 0:=by
 simp only[gDE];by_cases h:k<F.length
 .rw[gAL h,if_pos h]
 .rw[gAR (by omega),if_neg h]
  by_cases e:k=F.length
  .subst e;simp
  .rw[if_neg e]
   have:0<k-F.length:=by omega
   rw[List.getElem?_eq_none (by simp;omega)];rfl
def XY.zero:XY t n 0 0 [] []:=⟨rfl,by simp,λk e=>by simp at e,λk e=>by simp at e,λa b h=>by omega⟩
def XY.hit{T:List Int}(h:XY t n i j F T)(Z:i<n)(Y:j<n)(J:cell t i j=1):XY t n i (j+1) (F++[(i:Int)]) (T++[(j:Int)]):=by
 have A:=h.len;refine⟨by simp[A],by have:=h.le;simp;omega,λk B=>?_,λk B=>?_,λa b O M L=>?_⟩
 .rw[BY,BY,A]
  by_cases e:k<F.length
  .rw[if_pos e,if_pos e];exact h.inn k e
  .have:k=F.length:=by simp at B;omega
   rw[if_neg e,if_neg e,if_pos this,if_pos this];omega
 .rw[BY,BY,A]
  by_cases e:k<F.length
  .rw[if_pos e,if_pos e];exact h.rel k e
  .have:k=F.length:=by simp at B;omega
   rw[if_neg e,if_neg e,if_pos this,if_pos this,tNC,tNC];exact J
 .by_cases e:a=i/\b=j
  .obtain⟨rfl,rfl⟩:=e
   refine⟨F.length,by simp,?_,?_⟩
   .rw[BY,if_neg (Nat.lt_irrefl _),if_pos rfl]
   .rw[BY,A,if_neg (Nat.lt_irrefl _),if_pos rfl]
  .obtain⟨k,E,W,U⟩:=h.mem a b (by omega) M L
   refine⟨k,by simp;omega,?_,?_⟩
   .rw[BY,if_pos E];exact W
   .rw[BY,A,if_pos E];exact U
def XY.row{T:List Int}(h:XY t n i n F T):XY t n (i+1) 0 F T:=
 ⟨h.len,by have:=h.le;rw[Nat.add_mul];omega,h.inn,h.rel,λa b B A e=>h.mem a b (by omega) A e⟩
def XY.bound{T:List Int}(h:XY t n i j F T)(e:i*n+j<=n*n)(hn:n<=1000):F.length<=1000000:=by
 have B:=h.le;have A:n*n<=1000*1000:=Nat.mul_le_mul hn hn;omega
end
end Go.Ve.D


namespace Go.Ve.D
open Go Go.Ve
noncomputable section
structure PosC(t:List (List Int))(n:Nat)(c:Cat):Prop where
 ob:c.1=(n:Int)
 pos:XY t n n 0 c.2.1 c.2.2.1
 ids:c.2.2.2.1.length=n
 co:Sq c.2.1.length c.2.2.2.2
end
end Go.Ve.D


namespace Go.Ve.D
open Go Go.Ve
noncomputable section
def catM(m:MC):Cat:=(m.1,(m.2.1,(m.2.2.1,(m.2.2.2.1,m.2.2.2.2.1))))
def obM(m:MC):List (List Int):=m.2.2.2.2.2.2.1
def amM(m:MC):List (List Int):=m.2.2.2.2.2.2.2
def p49(c:Cat):G49 c=some (decide (c.1<=8)&&decide (((c.2.1.length:Nat):Int)<=40)):=by
 unfold G49;cases decide (c.1<=8)<;>rfl
def sq_all{n:Nat}{t:List (List Int)}(h:Sq n t)(hn:n<=1048576):t.length<=1048576/\∀y∈t,y.length<=1048576:=h.okN hn
def PosC.okC{t:List (List Int)}{n:Nat}{c:Cat}(h:PosC t n c)(hn:n<=1000):okC c:=by
 have B:=h.pos.bound (by omega) hn
 have A:=h.pos.len;have e:=sq_all h.co (by omega)
 exact⟨by omega,by omega,by have:=h.ids;omega,e.1,e.2⟩
end
end Go.Ve.D


namespace Go.Ve.D
open Go Go.Ve
noncomputable section
def Y8{c:Cat}{x y:Int}{k:Nat}(e:k<ar c)(B:fT c k=x)(A:tT c k=y):0<(KT c x y).length:=by
 have:(k:Int)∈KT c x y:=by
  unfold KT;refine List.mem_map.2 ⟨k,List.mem_filter.2 ⟨List.mem_range.2 e,?_⟩,rfl⟩;rw[B,A];simp
 exact List.length_pos_of_mem this
end
end Go.Ve.D


namespace Go.Ve.D
open Go Go.Ve
noncomputable section
def z2:List (List Int):=[[0,1],[1,0]]
def AaE:okN 1000 z2:=⟨by decide,by decide⟩
theorem z2_mon:G47 z2=some true:=by
 unfold G47;refine Cf (v:=true) (show(bif true then _ else _)=_ from Cf (p98 (t:=z2) (b:=((z2.length:Nat):Int)) (by decide) (by decide)) ?_) (Cf (v:=true) (show(bif true then _ else _)=_ from Cf (show G99 (z2,((0:Nat):Int))=_ from p99 (n:=2) (V2 ?_) (by decide) (by decide)) ?_) rfl)
 .exact congrArg some (by decide:sqB z2 ((z2.length:Nat):Int)=true)
 .decide
 .exact congrArg some (by decide:BU z2 0=true)
end
end Go.Ve.D

