/- Categories that are equal; natural maps: their shape. -/
import Derived.Test.YteakdlfnmhlifaaAba
open List(range ext_getElem mem_range map_congr_left length_cons length_nil)
open Nat(lt_irrefl)
set_option linter.all false
namespace Go.Ve.D
open Go Go.Ve
noncomputable section
theorem AcZ{x y:List Int}(h:x.length=y.length):decide (x=y)=(range x.length).all λi=>decide (x.getD i 0=y.getD i 0):=by
 rw[Bool.eq_iff_iff,decide_eq_true_eq,aET];constructor
 .rintro rfl i _
  exact dT rfl
 .intro H
  refine ext_getElem h λi e u=>?_
  have:=of_decide_eq_true (H i (mem_range.2 e));simpa [e,u]using this
theorem p92{x y:List Int}(B:x.length<=1048576):G92 (x,y)=some (decide (x=y)):=by
 unfold G92;cases e:decide ((x.length:Int)=(y.length:Int))with
 |false=>
  have e:=of_decide_eq_false e;have:decide (x=y)=false:=dF λh=>e (by rw[h])
  rw[this];rfl
 |true=>
  have e:=of_decide_eq_true e;have e:x.length=y.length:=by omega
  rw[AcZ e];simp only[Bool.not_true,cond_false];refine AaU (n:=x.length) (p:=λi=>decide (x.getD i 0=y.getD i 0)) (bad:=λr:Bool=>r=false) (id:=0) (Post:=λb (o:Option Bool)=>o=some b) (λi hi=>?_) ?_ rfl (λr A=>by rw[A])
  .have u:i<y.length:=by omega
   simp only[Ao,hi,decide_true,cond_true,Af hi,Af u,and_self,if_true,tNC];rw[Aw (by omega) (by omega)]
   cases decide (x.getD i 0=y.getD i 0)with
   |true=>exact Ha rfl
   |false=>exact Ht ⟨_,rfl,rfl⟩
  .simp only[Ao,lt_irrefl,decide_false,cond_false]
theorem Aap{x y:List (List Int)}(h:x.length=y.length):decide (x=y)=(range x.length).all λi=>decide (x.getD i []=y.getD i []):=by
 rw[Bool.eq_iff_iff,decide_eq_true_eq,aET];constructor
 .rintro rfl i _
  exact dT rfl
 .intro H
  refine ext_getElem h λi e u=>?_
  have:=of_decide_eq_true (H i (mem_range.2 e));simpa [e,u]using this
def getL{x:List (List Int)}{n:Nat}(e:∀y∈x,y.length<=n)(i:Nat):(x.getD i []).length<=n:=by
 by_cases hi:i<x.length
 .exact e _ (CQ _ hi)
 .rw[gDE,List.getElem?_eq_none (by omega)];exact Nat.zero_le _
theorem p111{x y:List (List Int)}(E:x.length<=1048576)(A:∀z∈x,z.length<=1048576):G111 (x,y)=some (decide (x=y)):=by
 unfold G111;cases e:decide ((x.length:Int)=(y.length:Int))with
 |false=>
  have e:=of_decide_eq_false e;have:decide (x=y)=false:=dF λh=>e (by rw[h])
  rw[this];rfl
 |true=>
  have e:=of_decide_eq_true e;have e:x.length=y.length:=by omega
  rw[Aap e];simp only[Bool.not_true,cond_false];refine AaU (n:=x.length) (p:=λi=>decide (x.getD i []=y.getD i [])) (bad:=λr:Bool=>r=false) (id:=0) (Post:=λb (o:Option Bool)=>o=some b) (λi hi=>?_) ?_ rfl (λr B=>by rw[B])
  .have u:i<y.length:=by omega
   simp only[Ao,hi,decide_true,cond_true,Af hi,Af u,and_self,if_true,tNC,p92 (getL A i),Option.bind_some];rw[Aw (by omega) (by omega)]
   cases decide (x.getD i []=y.getD i [])with
   |true=>exact Ha rfl
   |false=>exact Ht ⟨_,rfl,rfl⟩
  .simp only[Ao,lt_irrefl,decide_false,cond_false]
end
end Go.Ve.D


namespace Go.Ve.D
open Go Go.Ve
noncomputable section
def FS.ends{f:SF}(h:FS f){a:Nat}(e:a<ar (shS f)):a<f.2.1.length/\a<f.2.2.1.length/\a<f.2.2.2.2.2.2.length/\∃X Y:Nat,f.2.1.getD a 0=(X:Int)/\f.2.2.1.getD a 0=(Y:Int)/\X<f.2.2.2.2.2.1.length/\Y<f.2.2.2.2.2.1.length/\f.2.2.2.2.2.1.getD X 0=((act f a).length:Int)/\wi (f.2.2.2.2.2.1.getD Y 0) (act f a)=true:=by
 obtain⟨a1,a2,a3,a4,a5,a6,a7,a8⟩:=h.sh.hd;have l1:((f.2.2.2.2.2.1.length:Nat):Int)=f.1:=h.l1;have l2:f.2.2.2.2.2.2.length=ar (shS f):=h.l2;have F:f.2.2.1.length=ar (shS f):=a3;have H:f.2.1.length=ar (shS f):=rfl;obtain⟨E,B⟩:=h.sh.fr a e;obtain⟨A,u⟩:=h.sh.to a e;have E:0<=f.2.1.getD a 0:=E;have B:f.2.1.getD a 0<f.1:=B;have A:0<=f.2.2.1.getD a 0:=A;have u:f.2.2.1.getD a 0<f.1:=u;exact⟨e,by omega,by omega,(f.2.1.getD a 0).toNat,(f.2.2.1.getD a 0).toNat,by omega,by omega,by omega,by omega,(h.al a e).symm,h.aw a e⟩
end
end Go.Ve.D


namespace Go.Ve.D
open Go Go.Ve
noncomputable section
abbrev okL(p:List (List Int)):Prop:=p.length<=1048576/\∀y∈p,y.length<=1048576
structure PT2(f:SF)(p:List (List Int)):Prop where
 l:p.length=f.2.2.2.2.2.1.length
 w:∀i,i<p.length->wi (f.2.2.2.2.2.1.getD i 0) (p.getD i [])=true
def PT2.len{f:SF}{p:List (List Int)}(h:okL p)(X:Nat):(p.getD X []).length<=1048576:=getL h.2 X
end
end Go.Ve.D


namespace Go.Ve.D
open Go Go.Ve
noncomputable section
end
end Go.Ve.D


namespace Go.Ve.D
open Go Go.Ve
noncomputable section
variable{b:Bool}{N d i n:Nat}{q:Nat->Nat->Bool}{f:SF}
def ZH{X R:Type}{f:X->Option (LO X R)}{st:Nat->X}{o:LO X R}{e:X}(E:st 0=e)(B:∀i,i<n->f (st i)=some (.next (st (i+1))))(A:f (st n)=some o)(u:∀y,o≠.next y):Ap f e=some o:=E▸Bi B A u
theorem Xw{q:Nat->Bool}:((range n).map q).set d b=(range n).map λe=>if e=d then b else q e:=by
 apply ext_getElem (by simp)
 intro i A u;simp only[List.getElem_set,List.getElem_map,List.getElem_range];by_cases h:d=i
 .rw[if_pos h,if_pos h.symm]
 .rw[if_neg h,if_neg λe=>h e.symm]
theorem set2{X:Nat}{nx:Nat->Nat}:((range N).map λx=>(range (nx x)).map (q x)).set X (((range (nx X)).map (q X)).set d b)=(range N).map λx=>(range (nx x)).map λe=>if x=X/\e=d then b else q x e:=by
 rw[Xw];apply ext_getElem (by simp)
 intro i B A;simp only[List.getElem_set,List.getElem_map,List.getElem_range];by_cases h:X=i
 .subst h
  rw[if_pos rfl];refine map_congr_left λe _=>?_
  by_cases u:e=d
  .rw[if_pos u,if_pos ⟨rfl,u⟩]
  .rw[if_neg u,if_neg λh=>u h.2]
 .rw[if_neg h]
  refine map_congr_left λe _=>?_
  rw[if_neg λe=>h e.1.symm]
def V9{nx:Nat->Nat}{r:Nat->Nat->Bool}(h:∀x,x<N->∀e,e<nx x->q x e=r x e):((range N).map λx=>(range (nx x)).map (q x))=(range N).map λx=>(range (nx x)).map (r x):=
 map_congr_left λx u=>map_congr_left λe A=>h x (mem_range.1 u) e (mem_range.1 A)
def getM{α:Type}{q:Nat->α}{z:α}(hi:i<n):((range n).map q).getD i z=q i:=by
 rw[gDE,List.getElem?_map,List.getElem?_range hi];rfl
def AaS{w:List Int}{k:Nat}(e:k<w.length)(a:Int):(w.take (k+1)).contains a=((w.take k).contains a||decide (w.getD k 0=a)):=by
 rw[<-DM 0 e,Bool.eq_iff_iff];simp only[List.contains_eq_mem,List.mem_append,List.mem_singleton,Bool.or_eq_true,decide_eq_true_eq];exact or_congr Iff.rfl eq_comm
def mkN(n:Nat)(w:List Int):List Bool:=(range n).map fun(e:Nat)=>w.contains (e:Int)
def inL(f:SF)(p:List (List Int)):List (List Bool):=(range f.2.2.2.2.2.1.length).map fun(x:Nat)=>mkN (sz f (x:Int)).toNat (p.getD x [])
def FS.size(A:FS f)(hi:i<f.2.2.2.2.2.1.length):∃n:Nat,f.2.2.2.2.2.1.getD i 0=(n:Int)/\n<=16/\(sz f (i:Int)).toNat=n:=by
 have B:((f.2.2.2.2.2.1.length:Nat):Int)=f.1:=A.l1;obtain⟨u,e⟩:=A.szi (x:=(i:Int)) ⟨by omega,by omega⟩
 have u:0<=f.2.2.2.2.2.1.getD i 0:=u;have e:f.2.2.2.2.2.1.getD i 0<=16:=e;refine⟨(f.2.2.2.2.2.1.getD i 0).toNat,by omega,by omega,rfl⟩
theorem p108{p:List (List Int)}(hf:FS f)(O:PT2 f p)(B:okL p):G108 (f,p)=some (inL f p):=by
 have l:=O.l;have Y:f.2.2.2.2.2.1.length<=1048576:=by have:=B.1;omega
 unfold G108;simp only;refine A6 (YP (n:=f.2.2.2.2.2.1.length) (g:=fun(x:Nat)=>mkN (sz f (x:Int)).toNat (p.getD x [])) (id:=0) (λi hi u ha=>?_) λu=>?_) rfl
 .obtain⟨n,W,U,H⟩:=hf.size hi
  have E:i<p.length:=by omega
  have hG:(0:Int)<=(n:Int)/\((n:Int)<=(n:Int)/\((1:Int)*(n:Int)<=(281474976710656:Int)/\(n:Int)<=(9223372036854775807:Int))):=by omega
  have Z:=getL B.2 i;have A:=O.w i E;rw[W]at A;simp only[Ao,hi,decide_true,cond_true,Af hi,Af E,W,hG,and_self,if_true,tNC];refine A6 (ZH (st:=λk:Nat=>((k:Int),(u,(range n).map fun(e:Nat)=>((p.getD i []).take k).contains (e:Int)))) (n:=(p.getD i []).length) (o:=.brk 2 (((p.getD i []).length:Int),(u,mkN n (p.getD i [])))) (by simp[List.map_const']) (λk F=>?_) ?_ (λy=>by simp)) ?_
  .obtain⟨g1,g2⟩:=Hq A F
   obtain⟨d,hd⟩:∃d:Nat,(p.getD i []).getD k 0=(d:Int):=⟨((p.getD i []).getD k 0).toNat,by omega⟩
   have J:d<n:=by omega
   simp only[Ao,F,decide_true,cond_true,Af F,hd,List.length_map,List.length_range,Af J,and_self,if_true,tNC];rw[Aw (by omega) (by omega),Xw]
   congr 4
   refine map_congr_left λe _=>?_
   rw[AaS F,hd];by_cases h:e=d
   .subst h;simp
   .rw[if_neg h]
    have:decide ((d:Int)=(e:Int))=false:=dF (by omega)
    rw[this,Bool.or_false]
  .simp only[Ao,lt_irrefl,decide_false,cond_false,Q7]
   rfl
  .show(if 2=2 then _ else none)=_
   rw[if_pos rfl];simp only[length_cons,length_nil];rw[if_pos (show u.length+(0+1)<=5864062014805 by omega),Aw (by omega) (by omega),H]
   rfl
 .simp only[Ao,lt_irrefl,decide_false,cond_false]
def mkd(x:List (List Bool)):List (List Int):=(range x.length).map λi=>((range (x.getD i []).length).filter λe=>(x.getD i []).getD e false).map fun(e:Nat)=>(e:Int)
theorem p109{x:List (List Bool)}(O:x.length<=1048576)(F:∀i,i<x.length->(x.getD i []).length<=1048576):G109 x=some (mkd x):=by
 unfold G109;refine A6 (YP (n:=x.length) (g:=λi=>((range (x.getD i []).length).filter λe=>(x.getD i []).getD e false).map fun(e:Nat)=>(e:Int)) (id:=0) (λi hi u J=>?_) λu=>?_) rfl
 .have H:=F i hi
  simp only[Ao,hi,decide_true,cond_true,Af hi,and_self,if_true,tNC];refine A6 (AbE (n:=(x.getD i []).length) (q:=λe=>(x.getD i []).getD e false) (g:=fun(e:Nat)=>(e:Int)) (id:=2) (λe A B E=>?_) λB=>?_) ?_
  .simp only[Ao,A,decide_true,cond_true,Af A,and_self,if_true,tNC,length_cons,length_nil]
   rw[Aw (by omega) (by omega),if_pos (show B.length+(0+1)<=17592186044416 by omega)]
   cases (x.getD i []).getD e false<;>rfl
  .simp only[Ao,lt_irrefl,decide_false,cond_false]
  .show(if 2=2 then _ else none)=_
   rw[if_pos rfl];simp only[length_cons,length_nil];rw[if_pos (show u.length+(0+1)<=5864062014805 by omega),Aw (by omega) (by omega)]
   rfl
 .simp only[Ao,lt_irrefl,decide_false,cond_false]
end
end Go.Ve.D


namespace Go.Ve.D
open Go Go.Ve
noncomputable section
def nx(g:SF)(x:Nat):Nat:=(sz g (x:Int)).toNat
end
end Go.Ve.D

