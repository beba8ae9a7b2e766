/- Systems, factorizations, diagonals, isomorphisms: the functions of the law. -/
import Derived.Test.YtlggjlgcmilmhaaSyh
namespace Go.Ve.D
open Go Go.Ve
noncomputable section
variable{c:Cat}{ws:List (List Int)}{n:Nat}{q:Nat->Bool}
theorem Aay:(((List.range n).filter q).map fun(i:Nat)=>(i:Int)).length<=n:=by
 rw [List.length_map];have:=List.length_filter_le q (List.range n);rwa [List.length_range]at this
theorem JY{d:Int}:d∈(((List.range n).filter q).map fun(i:Nat)=>(i:Int))↔ ∃f,f<n/\q f=true/\d=(f:Int):=by
 simp only [List.mem_map,List.mem_filter,List.mem_range];exact⟨fun⟨f,⟨h1,h2⟩,h3⟩=>⟨f,h1,h2,h3.symm⟩,fun⟨f,h1,h2,h3⟩=>⟨f,⟨h1,h2⟩,h3.symm⟩⟩
theorem Qb:wi n (((List.range n).filter q).map fun(i:Nat)=>(i:Int))=true:=by
 unfold wi;rw [aET];intro d hd;obtain⟨f,hf,_,rfl⟩:=JY.1 hd;exact Aaj (by omega) (by omega)
theorem Aax:IQ (((List.range n).filter q).map fun(i:Nat)=>(i:Int))=true:=by
 have hp:(((List.range n).filter q).map fun(i:Nat)=>(i:Int)).Pairwise (· < ·):=by
  rw [List.pairwise_map];refine(List.Pairwise.filter _ List.pairwise_lt_range).imp λh=>by omega
 generalize ((List.range n).filter q).map (fun(i:Nat)=>(i:Int))=x at hp
 unfold IQ;rw [aET];intro i hi;have hi:=List.mem_range.1 hi;have h1:=List.pairwise_iff_getElem.1 hp i (i+1) (by omega) (by omega) (by omega)
 rw [gDE,gEE (by omega),gDE,gEE (by omega)]
 show(!decide (x[i+1]<=x[i]))=true;rw [dF (by omega)];rfl
theorem Ye(h:decide (clC c ws=0)=true):BM c=true/\(∀w∈ws,wi (ar c) w=true)/\∀w∈ws,IQ w=true:=by
 unfold clC at h;cases h1:BM c<;>rw [h1]at h
 ·cases h
 cases h2:ws.all (wi (ar c))<;>rw [h2]at h
 ·cases h
 cases h3:ws.all IQ<;>rw [h3]at h
 ·cases h
 exact⟨rfl,aET.1 h2,aET.1 h3⟩
theorem clC_of(h1:BM c=true)(h2: ∀w∈ws,wi (ar c) w=true)(h3: ∀w∈ws,IQ w=true):clC c ws=0:=by
 unfold clC;rw [h1,aET.2 h2,aET.2 h3];rfl
theorem le6(h:n<=40):n<=1048576:=by omega
def idv(c:Cat)(x:Int):Int:=c.2.2.2.1.getD x.toNat 0
end
end Go.Ve.D


namespace Go.Ve.D
open Go Go.Ve
noncomputable section
variable{c:Cat}{e f g i m:Nat}
theorem Uu(hc:BM c=true)(hf:f<ar c)(hg:g<ar c)(h:tT c f=fT c g): ∃k:Nat,T c f g=(k:Int)/\k<ar c/\fT c k=fT c f/\tT c k=tT c g:=by
 obtain⟨g1,g2,g3,g4⟩:=(Bj hc).pos f g hf hg (dT h);refine⟨(T c f g).toNat,by omega,?_,g3,g4⟩
 have:T c f g<(ar c:Int):=g2;omega
theorem O9(hc:BM c=true):(∀f,f<ar c->D7 c f=true)/\∀f g h,f<ar c->g<ar c->h<ar c->mt c f g=true->Dz c f g h=true:=by
 unfold BM HP at hc;simp only [bAE]at hc;obtain⟨_,h1,h2⟩:=hc;refine⟨λf hf=>aET.1 h1 f (List.mem_range.2 hf),λf g h hf hg hh hm=>?_⟩
 have h3:=aET.1 (aET.1 h2 f (List.mem_range.2 hf)) g (List.mem_range.2 hg);rw [hm]at h3;exact aET.1 h3 h (List.mem_range.2 hh)
theorem Cy(hc:BM c=true){h k l:Nat}(hf:f<ar c)(hg:g<ar c)(hh:h<ar c)(m1:tT c f=fT c g)(m2:tT c g=fT c h)(hk:T c f g=(k:Int))(hl:T c g h=(l:Int)):T c k h=T c f l:=by
 have:=(O9 hc).2 f g h hf hg hh (dT m1);unfold Dz at this;rw [show mt c g h=true from dT m2,hk,hl]at this
 exact of_decide_eq_true this
theorem Ha(hc:BM c=true){x:Int}(hx:0<=x/\x<c.1): ∃i:Nat,idv c x=(i:Int)/\idn c x=i/\i<ar c/\fT c i=x/\tT c i=x:=by
 have hs:=Bj hc;obtain⟨a1,a2⟩:=hs.id x hx.1 hx.2;have hi0:(c.2.2.2.1.length:Int)=c.1:=hs.hd.2.2.2.2.2.2.1;obtain⟨i,hi⟩: ∃i:Nat,idv c x=(i:Int):=⟨(idv c x).toNat,by have:0<=idv c x:=a1;omega⟩
 have hn:idn c x=i:=by show(idv c x).toNat=i;rw [hi];rfl
 have hc':=hc;unfold BM Hu at hc';simp only [bAE]at hc';have h2:=aET.1 hc'.1.2.1 x.toNat (List.mem_range.2 (by omega))
 unfold Wh at h2;rw [bAE,decide_eq_true_eq,decide_eq_true_eq,show(c.2.2.2.1.getD x.toNat 0).toNat=i from hn]at h2
 refine⟨i,hi,hn,?_,?_,?_⟩
 ·have:idv c x<(ar c:Int):=a2
  omega
 ·show c.2.1.getD i 0=x;omega
 ·show c.2.2.1.getD i 0=x;omega
theorem Lc(hc:BM c=true)(hf:f<ar c)(hi:idn c (fT c f)=i):T c i f=(f:Int):=by
 have:=(O9 hc).1 f hf;unfold D7 at this;rw [bAE,decide_eq_true_eq]at this;rw [<-hi];exact this.1
theorem Lb(hc:BM c=true)(hf:f<ar c)(hi:idn c (tT c f)=i):T c f i=(f:Int):=by
 have:=(O9 hc).1 f hf;unfold D7 at this;rw [bAE]at this;rw [<-hi];exact of_decide_eq_true this.2
theorem Wz{u v:Int}{d:Int}:d∈dg c e m u v↔ ∃k,k<ar c/\d=(k:Int)/\fT c k=tT c e/\tT c k=fT c m/\T c e k=u/\T c k m=v:=by
 unfold dg;rw [List.mem_filter,BR];constructor
 ·rintro ⟨⟨k,hk,rfl,h1,h2⟩,h3⟩
  rw [bAE,decide_eq_true_eq,decide_eq_true_eq]at h3;exact⟨k,hk,rfl,h1,h2,h3.1,h3.2⟩
 ·rintro ⟨k,hk,rfl,h1,h2,h3,h4⟩
  exact⟨⟨k,hk,rfl,h1,h2⟩,by rw [bAE,decide_eq_true_eq,decide_eq_true_eq];exact⟨h3,h4⟩⟩
theorem og_get{u v:Nat}(h:og c e m=true)(hu:u<ar c)(hv:v<ar c)(h1:fT c u=fT c e)(h2:tT c u=fT c m)(h3:fT c v=tT c e)(h4:tT c v=tT c m)(h5:T c e v=T c u m):
  ∃d,d<ar c/\dg c e m u v= [(d:Int)]/\fT c d=tT c e/\tT c d=fT c m/\T c e d=(u:Int)/\T c d m=(v:Int):=by
 have:=aET.1 (aET.1 h u (BR.2 ⟨u,hu,rfl,h1,h2⟩)) v (BR.2 ⟨v,hv,rfl,h3,h4⟩);unfold ogV at this;rw [show((u:Int)).toNat=u from rfl,show((v:Int)).toNat=v from rfl,dT h5,Bool.true_and,Bool.not_not,decide_eq_true_eq]at this
 obtain⟨a,ha⟩:=List.length_eq_one_iff.1 (show(dg c e m u v).length=1 by omega)
 obtain⟨d,hd,e1,h⟩:=Wz.1 (show a∈dg c e m u v by rw [ha];simp)
 exact⟨d,hd,by rw [ha,e1],h⟩
end
end Go.Ve.D

