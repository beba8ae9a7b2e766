/- The reference's order is the program's. -/
import Derived.Test.YteakdlfnmhlifaaYsj
import Derived.Test.YteakdlfnmhlifaaUso
open Go.IntKind(wrap)
set_option linter.all false
namespace Go.Ve.D
open Go Go.Ve
def Hx{X R:Type}{f:X->Option (LO X R)}{x:X}{g:Nat->X->Option R}{Q:R->Prop}{I:X->Prop}(A:X->Nat)(Y:I x)(U:∀x,I x->Tot (LoT (λy=>I y/\A y<A x) g Q) (f x)):Tot Q (Option.bind (Aq f x) (LO.fin g)):=by
 have key:∀m x,A x<=m->I x->Tot Q (Option.bind (Aq f x) (LO.fin g)):=by
  intro m
  induction m with
  |zero=>
   intro x hm F;obtain⟨o,H,B⟩:=U x F;rw[A7,H];cases o with
   |next y=>have:=B.2;omega
   |brk id y=>exact B
   |ret r=>exact⟨_,rfl,B⟩
  |succ m W=>
   intro x hm F;obtain⟨o,H,B⟩:=U x F;rw[A7,H];cases o with
   |next y=>exact W y (by have:=B.2;omega) B.1
   |brk id y=>exact B
   |ret r=>exact⟨_,rfl,B⟩
 exact key _ x (Nat.le_refl _) Y
def Aal{α:Type}{x:List α}{d:α}{i:Nat}(h:i<x.length):x.drop i=x.getD i d::x.drop (i+1):=by
 rw[List.drop_eq_getElem_cons h,gDE,gEE h];rfl
theorem p96{x y:List Int}(hx:x.length<=1000000000):Tot (λb=>b=decide (BG x y<0)) (G96 (x,y)):=by
 unfold G96;refine Hx (I:=λv=>∃i:Nat,v=(i:Int)/\i<=x.length/\i<=y.length/\BG x y=BG (x.drop i) (y.drop i)) (λv=>x.length-v.toNat) ⟨0,rfl,Nat.zero_le _,Nat.zero_le _,rfl⟩ (λv hv=>?_)
 obtain⟨i,rfl,h1,F,U⟩:=hv;refine D4 (P:=λb=>b=true↔i<x.length/\i<y.length) (Cq (λe=>As ?_) λe=>As ?_) λb Y=>Cq (λe=>?_) λe=>?_
 .have e:(i:Int)<((x.length:Nat):Int):=AcX e
  show decide ((i:Int)<((y.length:Nat):Int))=true↔_;rw[decide_eq_true_iff];omega
 .have e:¬ (i:Int)<((x.length:Nat):Int):=AcY e
  exact⟨λh=>(by cases h),λh=>absurd h.1 (by omega)⟩
 .obtain⟨B,A⟩:=Y.1 e
  have ex:=Aal (d:=(0:Int)) B;have Z:=Aal (d:=(0:Int)) A;have W:((i:Int)).toNat=i:=tNC i;have g1:(0:Int)<=(i:Int)/\(i:Int)<((x.length:Nat):Int):=by omega
  have g2:(0:Int)<=(i:Int)/\(i:Int)<((y.length:Nat):Int):=by omega
  refine AS g1 (AS g2 (Cq (λc=>AS g1 (AS g2 (Ww (As ?_)))) λc=>As ⟨⟨i+1,wr1 B (by omega),by omega,by omega,?_⟩,?_⟩))
  .have c:(!decide (x.getD ((i:Int)).toNat 0=y.getD ((i:Int)).toNat 0))=true:=c
   rw[W]at c;have c:¬x.getD i 0=y.getD i 0:=by simpa using c
   show decide (x.getD ((i:Int)).toNat 0<y.getD ((i:Int)).toNat 0)=_;have hv:BG x y=if x.getD i 0<y.getD i 0 then-1 else 1:=by
    rw[U,ex,Z];show(if x.getD i 0=y.getD i 0 then _ else _)=_
    rw[if_neg c]
   rw[W,decide_eq_decide,hv];by_cases h:x.getD i 0<y.getD i 0
   .rw[if_pos h];exact⟨λ_=>by decide,λ_=>h⟩
   .rw[if_neg h];exact⟨λF=>absurd F h,λF=>absurd F (by decide)⟩
  .have c:(!decide (x.getD ((i:Int)).toNat 0=y.getD ((i:Int)).toNat 0))=false:=c
   rw[W]at c;have c:x.getD i 0=y.getD i 0:=by simpa using c
   rw[U,ex,Z];show(if x.getD i 0=y.getD i 0 then _ else _)=_
   rw[if_pos c]
  .show x.length-(wrap .i64 ((i:Int)+1)).toNat<x.length-((i:Int)).toNat
   rw[wr1 B (by omega),tNC,tNC];omega
 .have hn:¬ (i<x.length/\i<y.length):=λh=>by rw[Y.2 h]at e;cases e
  refine As (AS rfl (As ?_));show decide (((x.length:Nat):Int)<((y.length:Nat):Int))=_;rw[U];by_cases B:i<x.length
  .have A:i=y.length:=by omega
   rw[Aal (d:=(0:Int)) B,A,List.drop_length,dF (by omega)];rfl
  .have H:i=x.length:=by omega
   rw[H,List.drop_length];by_cases A:x.length<y.length
   .rw[Aal (d:=(0:Int)) A,dT (by omega)];rfl
   .rw[List.drop_eq_nil_iff.2 (by omega),dF (by omega)];rfl
end Go.Ve.D


namespace Go.Ve.D
open Go Go.Ve
variable{i k:Nat}
abbrev LL0:=List Int
variable{x y:LL0}{L M N:List LL0}
def Wg(x y:LL0):Prop:=leC BG x y=true
def HT:Wg x y↔BG x y<=0:=by
 unfold Wg leC;rw[Bool.not_eq_true',Hl];have:=CX x y;omega
def LH{z:LL0}(B:Wg x y)(A:Wg y z):Wg x z:=by
 rw[HT]at*;by_cases H:BG x y=0
 .rw[IN _ _ H];exact A
 by_cases F:BG y z=0
 .rw[<-IN _ _ F];exact B
 have:=Ha x y z (by omega) (by omega)
 omega
def swp(N:List LL0)(k:Nat):List LL0:=(N.set k (N.getD (k-1) [])).set (k-1) (N.getD k [])
def Zj(A:k<N.length):(swp N k).Perm N:=by
 have h:=@List.set_set_perm _ N k (k-1) A (by omega)
 unfold swp;rw[gDE,gDE,gEE A,gEE (by omega:k-1<N.length)]
 exact h
def Mz(H:0<k)(F:k<N.length)(j:Nat):(swp N k).getD j []=if j=k then N.getD (k-1) []else if j=k-1 then N.getD k []else N.getD j []:=by
 unfold swp;by_cases B:j=k
 .subst B
  rw[if_pos rfl,gDE,List.getElem?_set_ne (by omega),List.getElem?_set_self F];rfl
 .rw[if_neg B]
  by_cases A:j=k-1
  .subst A
   rw[if_pos rfl,gDE,List.getElem?_set_self (by rw[List.length_set];omega)];rfl
  .rw[if_neg A,gDE,List.getElem?_set_ne (by omega),List.getElem?_set_ne (by omega),<-gDE]
def Pre(M:List LL0)(i:Nat):Prop:=∀a b,a<b->b<i->Wg (M.getD a []) (M.getD b [])
def Mid(N:List LL0)(i k:Nat):Prop:=(∀a b,a<b->b<=i->a≠k->b≠k->Wg (N.getD a []) (N.getD b []))/\∀b,k<b->b<=i->Wg (N.getD k []) (N.getD b [])
def Pre.mid(h:Pre M i):Mid M i i:=⟨λa b A B _ h3=>h a b A (by omega),λb A B=>by omega⟩
def Mid.swp{N:List LL0}{i k:Nat}(h:Mid N i k)(F:0<k)(Y:k<=i)(hi:i<N.length)(U:Wg (N.getD k []) (N.getD (k-1) [])):Mid (swp N k) i (k-1):=by
 refine⟨λa b W B h3 h4=>?_,λb W B=>?_⟩
 .rw[Mz F (by omega),Mz F (by omega),if_neg h3,if_neg h4]
  by_cases H:a=k
  .rw[if_pos H,if_neg (by omega)]
   exact h.1 _ _ (by omega) B (by omega) (by omega)
  .rw[if_neg H]
   by_cases A:b=k
   .rw[if_pos A]
    exact h.1 _ _ (by omega) (by omega) H (by omega)
   .rw[if_neg A]
    exact h.1 _ _ W B H A
 .rw[Mz F (by omega),Mz F (by omega),if_neg (by omega),if_pos rfl]
  by_cases A:b=k
  .rw[if_pos A];exact U
  .rw[if_neg A,if_neg (by omega)]
   exact h.2 b (by omega) B
def Mid.done(h:Mid N i k)(U:k<=i)(A:0<k->Wg (N.getD (k-1) []) (N.getD k [])):Pre N (i+1):=λa b H W=>by
 by_cases B:a=k
 .rw[B];exact h.2 b (by omega) (by omega)
 by_cases F:b=k
 .rw[F]
  by_cases e:a=k-1
  .rw[e];exact A (by omega)
  .exact LH (h.1 a (k-1) (by omega) (by omega) B (by omega)) (A (by omega))
 .exact h.1 a b H (by omega) B F
def Pre.sort(F:M.Perm L)(h:Pre M M.length):M=B0 BG L:=by
 refine DE swoL Ac9 F (List.pairwise_iff_getElem.2 λa b H B A=>?_)
 have:=h a b A B;rw[gDE,gDE,gEE H,gEE B]at this;exact this
theorem p50(hl:L.length<=1000)(hL:∀p∈L,p.length<=1048576):Tot (λr=>r=B0 BG L) (G50 L):=by
 unfold G50;refine AS (by show 0+L.length<=_;omega) ?_
 rw[List.nil_append];refine Hx (I:=λv=>∃i:Nat,v.1=(i:Int)/\1<=i/\i<=v.2.length+1/\v.2.Perm L/\Pre v.2 i) (λv=>2000-v.1.toNat) ⟨1,rfl,Nat.le_refl _,Nat.le_add_left _ _,List.Perm.refl _,λa b h1 h2=>by omega⟩ (λv hv=>?_)
 obtain⟨i0,M⟩:=v;obtain⟨i,(e1:i0=_),hi1,(hiM:i<=M.length+1),(H:M.Perm L),(Y:Pre M i)⟩:=hv;subst e1;have hlM:M.length=L.length:=H.length_eq;refine Cq (λe=>?_) λe=>?_
 .have e:(i:Int)<((M.length:Nat):Int):=AcX e
  have hi:i<M.length:=by omega
  refine Hx (I:=λv=>∃k:Nat,v.1=(k:Int)/\k<=i/\v.2.Perm L/\Mid v.2 i k) (λv=>v.1.toNat) ⟨i,rfl,Nat.le_refl _,H,Y.mid⟩ (λv hv=>?_)
  obtain⟨k0,N⟩:=v;obtain⟨k,(e1:k0=_),hk,(F:N.Perm L),(Y:Mid N i k)⟩:=hv;subst e1;have hlN:N.length=L.length:=F.length_eq;have W:k<N.length:=by omega
  refine D4 (P:=λb=>b=true↔0<k/\BG (N.getD k []) (N.getD (k-1) [])<0) (Cq (λe=>?_) λe=>As ?_) λb hb=>Cq (λe=>?_) λe=>?_
  .have e:(0:Int)<(k:Int):=AcX e
   have U:0<k:=by omega
   have Z:((k:Int)).toNat=k:=tNC k
   have A:wrap .i64 ((k:Int)-1)=((k-1:Nat):Int):=by
    rw[AP (by omega) (by omega)];omega
   have B:(wrap .i64 ((k:Int)-1)).toNat=k-1:=by rw[A,tNC]
   refine AS (by show(0:Int)<=(k:Int)/\(k:Int)<((N.length:Nat):Int);omega) (AS (by show(0:Int)<=(wrap .i64 ((k:Int)-1))/\(wrap .i64 ((k:Int)-1))<((N.length:Nat):Int);rw[A];omega) (D4 (P:=λb=>b=decide (BG (N.getD k []) (N.getD (k-1) [])<0)) ?_ λb hb=>As ?_))
   .have h1:=hL _ (F.mem_iff.1 (BR [] W))
    show Tot _ (G96 (N.getD ((k:Int)).toNat [],N.getD ((wrap .i64 ((k:Int)-1))).toNat []));rw[Z,B];exact p96 (by omega)
   .subst hb
    rw[decide_eq_true_iff];exact⟨λh=>⟨U,h⟩,λh=>h.2⟩
  .have e:¬ (0:Int)<(k:Int):=AcY e
   exact⟨λh=>(by cases h),λh=>absurd h.1 (by omega)⟩
  .obtain⟨U,hlt⟩:=hb.1 e
   have Z:((k:Int)).toNat=k:=tNC k
   have A:wrap .i64 ((k:Int)-1)=((k-1:Nat):Int):=by
    rw[AP (by omega) (by omega)];omega
   have B:(wrap .i64 ((k:Int)-1)).toNat=k-1:=by rw[A,tNC]
   have g1:(0:Int)<=(k:Int)/\(k:Int)<((N.length:Nat):Int):=by omega
   have g2:(0:Int)<=(wrap .i64 ((k:Int)-1))/\(wrap .i64 ((k:Int)-1))<((N.length:Nat):Int):=by rw[A];omega
   refine AS g1 (AS g2 (AS g1 (AS (by show(0:Int)<=(wrap .i64 ((k:Int)-1))/\(wrap .i64 ((k:Int)-1))<(((N.set _ _).length:Nat):Int);rw[List.length_set];exact g2) (As ⟨⟨k-1,A,by omega,?_,?_⟩,?_⟩))))
   .show((N.set ((k:Int)).toNat (N.getD ((wrap .i64 ((k:Int)-1))).toNat [])).set ((wrap .i64 ((k:Int)-1))).toNat (N.getD ((k:Int)).toNat [])).Perm L
    rw[Z,B];exact(Zj W).trans F
   .show Mid ((N.set ((k:Int)).toNat (N.getD ((wrap .i64 ((k:Int)-1))).toNat [])).set ((wrap .i64 ((k:Int)-1))).toNat (N.getD ((k:Int)).toNat [])) i (k-1)
    rw[Z,B];exact Y.swp U hk (by omega) (HT.2 (by omega))
   .show(wrap .i64 ((k:Int)-1)).toNat<((k:Int)).toNat
    rw[B,Z];omega
  .have hn:¬ (0<k/\BG (N.getD k []) (N.getD (k-1) [])<0):=λh=>by rw[hb.2 h]at e;cases e
   refine As (AS rfl (As ⟨⟨i+1,wr1 hi (by omega),by omega,by show i+1<=N.length+1;omega,F,Y.done hk λh=>HT.2 ?_⟩,?_⟩))
   .have:=CX (N.getD k []) (N.getD (k-1) [])
    by_cases h2:BG (N.getD k []) (N.getD (k-1) [])<0
    .exact absurd ⟨h,h2⟩ hn
    .omega
   .show 2000-(wrap .i64 ((i:Int)+1)).toNat<2000-((i:Int)).toNat
    rw[wr1 hi (by omega),tNC,tNC];omega
 .have e:¬ (i:Int)<((M.length:Nat):Int):=AcY e
  have hS2:Pre M M.length:=λa b h1 h2=>Y a b h1 (by omega)
  exact As (AS rfl (As (hS2.sort H)))
end Go.Ve.D

