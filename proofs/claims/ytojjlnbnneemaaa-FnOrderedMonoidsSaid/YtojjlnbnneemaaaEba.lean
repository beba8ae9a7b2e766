/- Set functors: what makes them. -/
import Derived.Test.YtojjlnbnneemaaaEaa
set_option linter.all false
namespace Go.Ve.D
open Go Go.Ve
variable{s:Int}{R:Type}
def chk2{S:Type}{F:Int->Option (LO Int R)}{n:Nat}{p:Nat->Bool}{Q:R->Prop}{o:LO Int R}{k:LO Int R->Option S}{Post:Bool->Option S->Prop}
  (L:∀i,i<n->(p i=true->F (i:Int)=some (.next ((i+1:Nat):Int)))/\(p i=false->∃r,F (i:Int)=some (.ret r)/\Q r)) (J:F (n:Int)=some o) (ho:∀y,o≠.next y)
  (E:Post true (k o)) (B:∀r,Q r->Post false (k (.ret r))):Post ((List.range n).all p) (Option.bind (Ar F (0:Int)) k):=by
 refine Hg (st:=λi:Nat=>(i:Int)) (p:=p) (Q:=Q) (o:=o) (Post:=λx=>Post ((List.range n).all p) x) L J ho (λe=>?_) (λe r A=>?_)
 .rw[e];exact E
 .rw[e];exact B r A
def Xn{R:Type}(bad:R->Prop)(s:Int)(p:Bool)(o:Option (LO Int R)):Prop:=(p=true->o=some (.next s))/\(p=false->∃r,o=some (.ret r)/\bad r)
def Z7{R:Type}(bad:R->Prop)(r:LO Int R):Prop:=∃r',r=.ret r'/\bad r'
def Aas{bad:R->Prop}{F:Int->Option (LO Int (LO Int R))}{n:Nat}{p:Nat->Bool}{id:Nat}{s:Int}{g:Nat->Int->Option (LO Int R)}
  (L:∀i,i<n->Xn (Z7 bad) ((i+1:Nat):Int) (p i) (F (i:Int))) (J:F (n:Int)=some (.brk id (n:Int))) (B:g id (n:Int)=some (.next s)):
  Xn bad s ((List.range n).all p) (Option.bind (Ar F (0:Int)) (LO.fin g)):=by
 refine Hg (st:=λi:Nat=>(i:Int)) (p:=p) (Q:=Z7 bad) (o:=.brk id (n:Int)) (Post:=λx=>Xn bad s ((List.range n).all p) x) L J (λy=>by simp) (λe=>?_) (λe r A=>?_)
 .rw[e]
  exact⟨λ_=>B,(λh=>by cases h)⟩
 .rw[e]
  obtain⟨r',rfl,E⟩:=A;exact⟨(λh=>by cases h),λ_=>⟨r',rfl,E⟩⟩
def AcG{bad:R->Prop}{F:Int->Option (LO Int R)}{n:Nat}{p:Nat->Bool}{id:Nat}{g:Nat->Int->Option R}{Post:Bool->Option R->Prop}
  (J:∀i,i<n->Xn bad ((i+1:Nat):Int) (p i) (F (i:Int))) (E:F (n:Int)=some (.brk id (n:Int))) (B:Post true (g id (n:Int))) (A:∀r,bad r->Post false (some r)):
  Post ((List.range n).all p) (Option.bind (Ar F (0:Int)) (LO.fin g)):=
 chk2 (Q:=bad) J E (λy=>by simp) B λr e=>A r e
def Jc{bad:R->Prop}{o:Option (LO Int R)}(h:o=some (.next s)):Xn bad s true o:=⟨λ_=>h,(λh=>by cases h)⟩
def DM{bad:R->Prop}{o:Option (LO Int R)}(h:∃r,o=some (.ret r)/\bad r):Xn bad s false o:=⟨(λh=>by cases h),λ_=>h⟩
abbrev SF:=Int×List Int×List Int×List Int×List (List Int)×List Int×List (List Int)
def szF(f:SF):List Int:=f.2.2.2.2.2.1
def sz(f:SF)(x:Int):Int:=(szF f).getD x.toNat 0
end Go.Ve.D


namespace Go.Ve.D
open Go Go.Ve
def Abu{c:Cat}{x:Int}{q:Int->Bool}:(List.range (J2 c x).length).all (λi=>q ((J2 c x).getD i 0))=(List.range (ar c)).all λb=>!decide (fT c b=x)||q (b:Int):=by
 rw[Nd (0:Int) q];unfold J2;rw[List.all_map,List.all_filter];rfl
end Go.Ve.D


namespace Go.Ve.D
open Go Go.Ve
noncomputable section
end
end Go.Ve.D


namespace Go.Ve.D
open Go Go.Ve
noncomputable section
def Ui(r:Bool):Prop:=r=false
def MS{s:Int}{R:Type}{bad:R->Prop}{o:Option (LO Int (LO Int R))}{r:R}(h:o=some (.ret (.ret r)))(e:bad r):Xn (Z7 bad) s false o:=DM ⟨_,h,_,rfl,e⟩
def CV{n:Nat}:decide ((n:Int)<(n:Int))=false:=dF (by omega)
end
end Go.Ve.D


namespace Go.Ve.D
open Go Go.Ve
noncomputable section
def idX{c:Cat}(h:Sh c)(e:H5 c=true){x:Nat}(B:(x:Int)<c.1):∃a:Nat,a<ar c/\c.2.2.2.1.getD x 0=(a:Int)/\fT c a=(x:Int)/\tT c a=(x:Int):=by
 unfold H5 HJ at e;rw[bAE,bAE,bAE]at e;obtain⟨a1,a2,a3,a4,a5,a6,a7,a8⟩:=h.hd;have A:=aET.1 e.1.2.1 x (List.mem_range.2 (by omega))
 unfold Xo at A;rw[bAE,decide_eq_true_eq,decide_eq_true_eq]at A;obtain⟨g1,g2⟩:=IZ a8 (i:=x) (by omega)
 exact⟨(c.2.2.2.1.getD x 0).toNat,by show _<c.2.1.length;omega,by omega,A⟩
def idA(c:Cat)(x:Nat):Nat:=(c.2.2.2.1.getD x 0).toNat
end
end Go.Ve.D


namespace Go.Ve.D
open Go Go.Ve
noncomputable section
variable{c:Cat}
def scope{A:Type}{F:Nat×Unit->Option (LO (Nat×Unit) A)}{X:A}(h:F (0,())=some (.ret X)):Option.bind (Ar F (0,())) LO.fin1=some X:=by
 rw[Cg,h];rfl
def p40(F:c.2.1.length<=1048576)(E:c.2.2.1.length=c.2.1.length)(x y:Int):G40 (c,(x,y))=some (KT c x y):=by
 obtain⟨c1,c2,c3,c4,c5⟩:=c;unfold G40;simp only at F E⊢;refine Cf (v:=.brk 0 ((c2.length:Int),KT (c1,(c2,(c3,(c4,c5)))) x y)) (Aac (λi B e ha=>?_) λe=>?_) rfl
 .have A:i<c3.length:=by omega
  simp only[A3,B,decide_true,cond_true,An B,An A,if_true,and_self,tNC,List.length_cons,List.length_nil];rw[AL (by omega) (by omega),if_pos (show e.length+(0+1)<=17592186044416 by omega)]
  show _=some (LO.next (((i+1:Nat):Int),bif decide (c2.getD i 0=x)&&decide (c3.getD i 0=y)then e++[(i:Int)]else e))
  cases decide (c2.getD i 0=x)<;>cases decide (c3.getD i 0=y)<;>rfl
 .simp only[A3,Nat.lt_irrefl,decide_false,cond_false]
def p45(A:c.2.1.length<=1048576)(e:c.2.2.1.length=c.2.1.length)(x y:Int):G45 (c,(x,y))=some (KT c x y):=p40 A e x y
def AbX{x y:Int}{i:Nat}(B:i<(KT c x y).length):∃f:Nat,f<ar c/\(KT c x y).getD i 0=(f:Int)/\fT c f=x/\tT c f=y:=by
 have A:(KT c x y).getD i 0∈KT c x y:=Dp 0 B;obtain⟨f,E,e⟩:=List.mem_map.1 A;obtain⟨g1,g2⟩:=List.mem_filter.1 E;rw[bAE,decide_eq_true_eq,decide_eq_true_eq]at g2;exact⟨f,List.mem_range.1 g1,e.symm,g2⟩
end
end Go.Ve.D

