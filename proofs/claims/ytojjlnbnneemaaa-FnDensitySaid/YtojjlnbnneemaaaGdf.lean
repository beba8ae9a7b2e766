/- The classes of the glued generators are the elements: the law. -/
import Derived.Test.YtojjlnbnneemaaaGdd
import Derived.Test.YtojjlnbnneemaaaDro
open Option(bind_some)
open List(length_map length_cons length_nil range replicate ext_getElem? take_length mem_map)
set_option linter.all false
namespace Go.Ve.D
open Go Go.Ve
noncomputable section
variable{n y:Int}{i:Nat}{f:SF}
def Xb(h:inn n y=true):∃k:Nat,y=(k:Int)/\k<n.toNat:=by
 obtain⟨A,u⟩:=Io.1 h;exact⟨y.toNat,by omega,by omega⟩
theorem Mi:(lab f y).length=(trp f y).length:=by unfold lab mgL;rw[Ma (n:=0),Cm]
def OT{t:Trp}(A:t∈trp f y):tAt (trp f y) ((trp f y).idxOf t)=t:=by
 have u:=List.idxOf_lt_length_of_mem A;unfold tAt;rw[gDE,gEE u];exact List.getElem_idxOf u
def AbN(u:i<(trp f y).length):(trp f y).idxOf (tAt (trp f y) i)=i:=by
 unfold tAt;rw[gDE,gEE u];exact Vs.idxOf_getElem i u
section
variable {f:SF} (hs:Km f=true) {y:Nat}
include hs
theorem Wv{k:Nat}:(i,k)∈psG f y↔glu f y i k:=by
 have W:=C8 hs;constructor
 .intro hp
  obtain⟨a,e,h1,h2,h3,h4,h5,Z⟩:=O6.1 hp;have hm:=LG h1;obtain⟨b1,b2,b3,b4,b5⟩:=B7.1 hm;obtain⟨x,u,hx⟩:=K4 W h2;rw[u,tNC]at h4 Z;exact⟨a,e,(tAt (trp f y) k).2.2,x,(tAt (trp f y) k).1,(tAt (trp f y) k).2.1,h2,b3,u,h3,b4,b5,h4,h5,Z,(AbN h1).symm⟩
 .rintro ⟨a,e,h,x,z,d,U,hh,u,ez,fh,th,Y,hd,rfl,rfl⟩
  obtain⟨_,B,hd',O⟩:=Ka W U u ez Y;have:B=d:=by omega
  subst this;obtain⟨A,ez',J⟩:=Vy W U;have:A=z:=by omega
  subst this;have E:((A,B,h):Trp)∈trp f y:=B7.2 ⟨J,O,hh,fh,th⟩;refine O6.2 ⟨a,e,List.idxOf_lt_length_of_mem E,U,?_,?_,?_,?_⟩
  .show tT (shS f) a=((tAt (trp f y) ((trp f y).idxOf (A,B,h))).1:Int)
   rw[OT E];exact ez
  .rw[u,tNC];exact Y
  .show(act f a).getD e 0=((tAt (trp f y) ((trp f y).idxOf (A,B,h))).2.1:Int)
   rw[OT E];exact hd
  .show(trp f y).idxOf (x,e,(T (shS f) a h).toNat)=(trp f y).idxOf ((fT (shS f) a).toNat,e,(T (shS f) a (tAt (trp f y) ((trp f y).idxOf (A,B,h))).2.2).toNat)
   rw[OT E,u,tNC]
theorem Qw:(∀i k,i<(trp f y).length->k<(trp f y).length->(lab f y).getD i 0=(lab f y).getD k 0->Gen (glu f y) i k)/\∀i k,glu f y i k->(lab f y).getD i 0=(lab f y).getD k 0:=by
 obtain⟨B,U,A⟩:=Z0 (R:=glu f y) (n:=(trp f y).length) (psG f y) (IS (trp f y).length) Cm (λp E=>by
  have u:glu f y p.1 p.2:=(Wv hs).1 E
  exact⟨(HP hs u).1,(HP hs u).2.1,u⟩) λi k O J e=>by
   rw[IW O,IW J]at e;have:i=k:=by omega
   subst this;exact .refl i
 exact⟨B,λi k u=>A (i,k) ((Wv hs).2 u)⟩
end
theorem p28(h:okS f)(y:Int):G28 (f,y)=some (Ot f y):=by
 have J:∀z,G30028 (f,y)=some z->G28 (f,y)=some z:=λz W=>by unfold G28 orO;rw[W]
 have Z:∀z,G30028 (f,y)=none->G20028 (f,y)=some z->G28 (f,y)=some z:=λz W h2=>by unfold G28 orO;rw[W];exact h2
 have u:=XT (f,y);have B:=XU (f,y);unfold Ot;simp only[p75 h,bind_some]at u B;cases hs:Km f with
 |false=>rw[hs]at u;exact J _ u
 |true=>
 rw[hs]at u B;have hF:=C8 hs;have h8:0<=f.1/\f.1<=8:=hF.sh.hd.1;simp only[Bool.not_true,cond_false,p76' y f.1 (by omega),bind_some]at u B⊢
 cases hy:inn f.1 y with
 |false=>rw[hy]at u;exact J _ u
 |true=>
 rw[hy]at u B;simp only[Bool.not_true,cond_false,p77 hF,bind_some,length_map]at u B⊢;cases E:decide (256<((trp f y).length:Int))with
 |true=>rw[E]at u;exact J _ u
 |false=>
 rw[E]at u B;have E:(trp f y).length<=256:=by have:=of_decide_eq_false E;omega
 obtain⟨k,rfl,hk⟩:=Xb hy;obtain⟨j,hj,U⟩:=pF28 hs E;simp only[cond_false,p78 (S:=trp f k) (by omega) (ZA hF) Vs,p79 (n:=(trp f k).length) (show(trp f k).length<=1048576 by omega),bind_some,hj]at u B⊢
 have hl:=U.len;by_cases h0:0<j.length
 .obtain⟨j',h83⟩:=p83 U.ok h0 (by omega)
  refine J _ (u.trans ?_);show Option.bind (bif decide (0<((j.length:Nat):Int))then G83 () j else none) _=_;rw[show decide (0<((j.length:Nat):Int))=true by simp;omega,cond_true,h83]
  show some ((trp f k).map Bs,(cs (X4 j)).1,(0:Int))=_;have O:∀x,x<(trp f k).length->(X4 j).getD x 0=(root j x:Int):=λx hx=>by simp[X4,hl,hx]
  obtain⟨l1,l2⟩:=Qw hs (y:=k);rw[Yx (R:=glu f k) (n:=(trp f k).length) (l:=X4 j) (m:=lab f k) (by simp[X4,hl]) Mi (λa b ha E e=>U.gen a b ha E (by rw[O a ha,O b E]at e;omega)) l1 (λa b A=>⟨(HP hs A).1,(HP hs A).2.1⟩) (λa b A=>by rw[O a (HP hs A).1,O b (HP hs A).2.1,U.hit a b A]) l2]
 .have hn:(trp f k).length=0:=by omega
  have hj0:j=[]:=List.length_eq_zero_iff.1 (by omega)
  have Y:trp f k=[]:=List.length_eq_zero_iff.1 hn;subst hj0;refine Z _ (u.trans rfl) (B.trans ?_);show(G10083 []).bind _=_;have e:G10083 []=some []:=by
   delta G10083 ln lw lt bk
   rw[if_pos ⟨by simp,by simp,by simp,by simp⟩]
   refine Ao (v:=.brk 0 ((0:Int),[])) ?_ ?_
   .rw[Bi];rfl
   .show(G91 []).bind _=_
    rw[p91 (by simp)];rfl
  rw[e];have el:lab f k=[]:=List.length_eq_zero_iff.1 (by rw[Mi];exact hn)
  rw[el,Y];rfl
def p32(h:okS f)(hs:Km f=true){a e:Nat}(B:a<ar (shS f))(Y:e<(act f a).length):G32 (f,((a:Int),(e:Int)))=some ((act f a).getD e 0,0):=by
 have E:=C8 hs;have J:ar (shS f)<=40:=E.sh.hd.2.1;have Z:(act f a).length<=16:=by have:=PX E B;omega
 have A:a<f.2.2.2.2.2.2.length:=by show a<(acF f).length;rw[E.l2];exact B
 have u:f.2.2.2.2.2.2.getD a []=act f a:=rfl;have W:inn ((f.2.1.length:Nat):Int) (a:Int)=true:=Xa (by omega) (by have:a<f.2.1.length:=B;omega)
 have U:inn (((act f a).length:Nat):Int) (e:Int)=true:=Xa (by omega) (by omega)
 have O:f.2.1.length<=40:=J
 delta G32 l2 g2 k4 gd li q4 wz
 simp only[p75 h,hs,bind_some,Bool.not_true,cond_false,p89,p76' (a:Int) ((f.2.1.length:Nat):Int) (by omega),W,Ac A,and_self,if_true,tNC,u,p76' (e:Int) (((act f a).length:Nat):Int) (by omega),U,Ac Y]
theorem p31{x:List Int}(A:x.length<=1048576):G31 (x,x)=some true:=by
 delta G31 ln lw lt gd l0 sc nx bk
 rw[show(!decide (((x.length:Nat):Int)=((x.length:Nat):Int)))=false by simp]
 refine Ao (v:=.brk 0 (x.length:Int)) (AG (st:=λi:Nat=>(i:Int)) (n:=x.length) (λi u=>?_) ?_ (λy=>by simp)) rfl
 .simp only[Af,u,decide_true,cond_true,Ac u,and_self,if_true,Bool.not_true,cond_false]
  rw[Ah (by omega) (by omega)];rfl
 .simp only[Af,Nat.lt_irrefl,decide_false,cond_false]
theorem p30{S:List Trp}(A:S.length<=1048576):G30 (S.map Bs,S.map Bs)=some true:=by
 delta G30 ln lw lt gd li sc nx bk
 rw[show(!decide ((((S.map Bs).length:Nat):Int)=(((S.map Bs).length:Nat):Int)))=false by simp]
 refine Ao (v:=.brk 0 (S.length:Int)) (AG (st:=λi:Nat=>(i:Int)) (n:=S.length) (λi u=>?_) ?_ (λy=>by simp)) rfl
 .simp only[length_map,Af,u,decide_true,cond_true,Ac u,and_self,if_true,tNC,DS u,p31 (x:=Bs (tAt S i)) (by rw[C0];omega),bind_some,Bool.not_true,cond_false]
  rw[Ah (by omega) (by omega)];rfl
 .simp only[length_map,Af,Nat.lt_irrefl,decide_false,cond_false]
theorem p90(B:0<=n/\n<=256){m:List Int}(E:m.length<=256)(A:wi n m=true):G90 (n,[m])=some 0:=by
 delta G90 G136 lw lt gd li sc nx bk
 simp only[p76,bind_some];rw[show(decide (0<=n)&&decide (n<=256))=true by simp;omega]
 simp only[Bool.not_true,cond_false];refine Ao (v:=.brk 0 (((1:Nat):Int))) (AG (st:=λi:Nat=>(i:Int)) (n:=1) (λi J=>?_) rfl (λy=>by simp)) rfl
 obtain rfl:i=0:=by omega
 have e:([m]:List (List Int)).getD (0:Nat) []=m:=rfl
 have u:G137 (n,m)=some true:=by
  delta G137 an
  rw[show decide ((m.length:Int)<=256)=true by simp;omega]
  simp only[cond_true,p93 (n:=n) (x:=m) (by omega) (by omega),A,bind_some]
 simp only[length_cons,length_nil,Af,show(0:Nat)<0+1 by omega,decide_true,cond_true,Ac (show(0:Nat)<0+1 by omega),and_self,if_true,tNC,e,u,bind_some,Bool.not_true,cond_false]
 rfl
def p138{B:List Bool}(J:B.length<=1048576):G138 B=some (((range B.length).filter λi=>B.getD i false).map fun(i:Nat)=>(i:Int)):=by
 delta G138 mA lw lt gd sc nx bk cp
 refine Ao (v:=.brk 0 ((B.length:Int),((range B.length).filter λi=>B.getD i false).map fun(i:Nat)=>(i:Int))) (Aad (λi A u E=>?_) λu=>?_) rfl
 .simp only[Af,A,decide_true,cond_true,Ac A,and_self,if_true,tNC,length_cons,length_nil]
  rw[Ah (by omega) (by omega),if_pos (by omega)]
  cases B.getD i false<;>rfl
 .simp only[Af,Nat.lt_irrefl,decide_false,cond_false]
theorem p92{n:Nat}(hn:n<=256){w:List Int}(hw:w.length<=256)(O:wi n w=true)(B:∀k,k<n->(k:Int)∈w):∃l,G92 ((n:Int),w)=some l/\l.length=n:=by
 delta G92 lw lt gd l0 sc nx bk
 rw[if_pos ⟨by omega,by omega,by omega,by omega⟩]
 let M:Nat->List Bool:=λi=>(range n).map fun(k:Nat)=>(w.take i).contains (k:Int)
 have E:∀i,(M i).length=n:=λi=>by simp[M]
 have e0:replicate ((n:Nat):Int).toNat false=M 0:=by
  show _=(range n).map fun(k:Nat)=>([]:List Int).contains (k:Int)
  apply ext_getElem?;intro j;by_cases u:j<n<;>simp[u]
 have Y:M w.length=replicate n true:=by
  show(range n).map (fun(k:Nat)=>(w.take w.length).contains (k:Int))=_
  rw[take_length];apply ext_getElem?;intro j;by_cases u:j<n
  .have:=B j u
   simp[u,this]
  .simp[u]
 refine⟨(((range (M w.length).length).filter λi=>(M w.length).getD i false).map fun(i:Nat)=>(i:Int)),?_,?_⟩
 .show Option.bind (A4 _ ((0:Int),replicate ((n:Nat):Int).toNat false)) _=_
  rw[e0];refine Ao (v:=.brk 0 ((w.length:Int),M w.length)) (AG (st:=λi:Nat=>((i:Int),M i)) (n:=w.length) (λi J=>?_) ?_ (λy=>by simp)) ?_
  .have W:=DY O J
   simp only[Af,J,decide_true,cond_true,Ac J,if_true,and_self,tNC,E,W];rw[Ah (by omega) (by omega)]
   have e:(M i).set (w.getD i 0).toNat true=M (i+1):=by
    apply ext_getElem?;intro j;by_cases u:j<n
    .have Z:(M (i+1))[j]? =some ((w.take i++[w.getD i 0]).contains (j:Int)):=by
      show((range n).map fun(k:Nat)=>(w.take (i+1)).contains (k:Int))[j]? =_
      rw[<-CI (0:Int) J];simp[u]
     have e1:(M i)[j]? =some ((w.take i).contains (j:Int)):=by
      show((range n).map fun(k:Nat)=>(w.take i).contains (k:Int))[j]? =_
      simp[u]
     rw[Z];by_cases A:(w.getD i 0).toNat=j
     .have:(j:Int)=w.getD i 0:=by omega
      rw[A,List.getElem?_set_self (by rw[E];exact u),this]
      simp
     .have:¬ (j:Int)=w.getD i 0:=by omega
      rw[List.getElem?_set_ne A,e1]
      congr 1
      rw[Bool.eq_iff_iff];simp only[List.contains_eq_mem,decide_eq_true_eq,List.mem_append,List.mem_singleton,this,or_false]
    .rw[List.getElem?_eq_none (by rw[List.length_set,E];omega),List.getElem?_eq_none (by rw[E];omega)]
   rw[e];rfl
  .simp only[Af,Nat.lt_irrefl,decide_false,cond_false]
  .show(G138 (M w.length)).bind _=_
   rw[p138 (by rw[E];omega)];rfl
 .rw[length_map,Y,List.length_replicate,List.filter_eq_self.2,List.length_range]
  intro a U;have U:=List.mem_range.1 U;simp[U]
end
end Go.Ve.D


namespace Go.Ve.D
open Go Go.Ve
noncomputable section
theorem YD{f:SF}(y:Int)(h:okS f):G30 ((Ot f y).1,(Ot f y).1)=some true/\G31 ((Ot f y).2.1,(Ot f y).2.1)=some true:=by
 have A:G30 (([]:LL),([]:LL))=some true:=p30 (S:=[]) (by simp)
 have u:G31 (([]:LI),([]:LI))=some true:=p31 (x:=[]) (by simp)
 unfold Ot;cases hs:Km f with
 |false=>exact⟨A,u⟩
 |true=>
 cases hy:inn f.1 y with
 |false=>exact⟨A,u⟩
 |true=>
 cases B:decide (256<((trp f y).length:Int))with
 |true=>exact⟨A,u⟩
 |false=>
 have B:(trp f y).length<=256:=by have:=of_decide_eq_false B;omega
 refine⟨p30 (S:=trp f y) (by omega),p31 (x:=(cs (lab f y)).1) ?_⟩
 have E:=(QJ (lab f y).length (lab f y) (Nat.le_refl _)).1;rw[take_length,Mi]at E;omega
section
variable {f:SF} (hs:Km f=true) {y:Nat} (hy:y<f.1.toNat)
include hs hy
theorem AbK:(cs ((trp f y).map (img f))).1=(cs (lab f y)).1:=by
 obtain⟨l1,l2⟩:=Qw hs (y:=y)
 have g:∀i k,Gen (glu f y) i k->(lab f y).getD i 0=(lab f y).getD k 0:=by
  intro i k J
  induction J with
  |rel J=>exact l2 _ _ J
  |refl x=>rfl
  |symm _ O=>exact O.symm
  |trans _ _ E B=>exact E.trans B
 refine Aam (by rw[length_map,Mi]) λi k u A=>?_
 rw[length_map]at u A;have e:∀i,i<(trp f y).length->((trp f y).map (img f)).getD i 0=img f ((trp f y).getD i (0,0,0)):=λi u=>by simp[u]
 rw[e i u,e k A,<-AbU hs hy u A];exact⟨g i k,l1 i k u A⟩
theorem Z8:wi (szN f y) ((trp f y).map (img f))=true:=by
 unfold wi;rw[aET];intro z u;obtain⟨t,A,rfl⟩:=mem_map.1 u;obtain⟨_,d,B,E,_⟩:=Xh hs hy A;rw[B];exact Xa (by omega) (by omega)
theorem AbL{k:Nat}(B:k<szN f y):(k:Int)∈(trp f y).map (img f):=by
 obtain⟨u,J,W,U,O,A,_⟩:=AbO (C8 hs) hy;have E:=W8 hs A B;rw[W,tNC]at E;exact mem_map.2 ⟨(y,k,u),B7.2 ⟨hy,B,J,U,O⟩,E⟩
end
theorem law5{x:List Int}(hx:WI x):G5 x=some true:=by
 obtain⟨f,y,U,e27⟩:=p27 hx
 delta G5 mA ln lw an l2 lt gd li l0 q4 wz sc nx bk cp
 refine Ao (a:=G6 x) (v:=false) (congrArg some (dF (by have:=hx.1;omega))) ?_
 refine Ao (a:=G27 x) e27 (Ao (a:=G28 (f,y)) (p28 U y) (Ao (a:=G29 (f,y)) (p29 U y) ?_));obtain⟨r1,Z⟩:=YD y U;refine Ao (v:=false) ?_ (Ao (v:=false) ?_ ?_)
 .rw[dT rfl]
  exact Ao r1 rfl
 .exact Ao (a:=G31 ((Ot f y).2.1,(Ot f y).2.1)) Z rfl
 show(bif !decide ((Ot f y).2.2=0)then some true else _)=some true;cases u:decide ((Ot f y).2.2=0)with
 |false=>rfl
 |true=>
 have u:=of_decide_eq_true u
 have h3:Km f=true/\inn f.1 y=true/\(trp f y).length<=256:=by
  unfold Ot at u;cases hs:Km f with
  |false=>rw[hs]at u;cases u
  |true=>
   rw[hs]at u;cases hy:inn f.1 y with
   |false=>rw[hy]at u;cases u
   |true=>
    rw[hy]at u;cases W:decide (256<((trp f y).length:Int))with
    |true=>rw[W]at u;cases u
    |false=>exact⟨rfl,rfl,by have:=of_decide_eq_false W;omega⟩
 obtain⟨hs,hy,W⟩:=h3
 have hr:Ot f y=((trp f y).map Bs,(cs (lab f y)).1,0):=by
  unfold Ot;rw[hs,hy,show decide (256<((trp f y).length:Int))=false by simp;omega];rfl
 rw[hr];obtain⟨k,rfl,E⟩:=Xb hy;have Y:=C8 hs;have h8:0<=f.1/\f.1<=8:=Y.sh.hd.1;obtain⟨s1,s2⟩:=Hp Y E;have s1:f.2.2.2.2.2.1.getD k 0=((szN f k:Nat):Int):=s1;have B:k<f.2.2.2.2.2.1.length:=by have:((szF f).length:Int)=f.1:=Y.l1;show k<(szF f).length;omega
 refine Ao (v:=.brk 0 (((trp f k).length:Int),((trp f k).take (trp f k).length).map (img f))) (AG (st:=λi:Nat=>((i:Int),((trp f k).take i).map (img f))) (n:=(trp f k).length) (λi J=>?_) ?_ (λy=>by simp)) ?_
 .obtain⟨b1,b2,b3,b4,b5⟩:=B7.1 (LG J)
  obtain⟨hel,_⟩:=Ka Y b3 b4 b5 b2;have A:(((trp f k).take i).map (img f)).length<=256:=by simp;omega
  simp only[length_map,Af,J,decide_true,cond_true,Ac J,and_self,if_true,tNC,DS J,C0,ZH,ZG,k13,k23,p32 U hs b3 hel,bind_some,Bool.not_true,cond_false,length_cons,length_nil];rw[Ah (by omega) (by omega),if_pos (by simp at A⊢;omega),<-CI (0,0,0) J,List.map_append];rfl
 .simp only[length_map,Af,Nat.lt_irrefl,decide_false,cond_false]
 .rw[take_length]
  have hW:((trp f k).map (img f)).length<=256:=by rw[length_map];exact W
  have O:=p90 (n:=((szN f k:Nat):Int)) (by omega) hW (Z8 hs E)
  have h33:G33 (((szN f k:Nat):Int),(trp f k).map (img f))=some ((cs (lab f k)).1,0):=by
   unfold G33;simp only[O,bind_some,decide_true,Bool.not_true,cond_false,p91 (x:=(trp f k).map (img f)) (by omega),AbK hs E]
  obtain⟨l,h92,hl⟩:=p92 (n:=szN f k) (by omega) hW (Z8 hs E) λj hj=>AbL hs E hj
  have h34:G34 (((szN f k:Nat):Int),(trp f k).map (img f))=some (l,0):=by
   unfold G34;simp only[O,bind_some,decide_true,Bool.not_true,cond_false,h92]
  rw[hr]at Z;show(if 0=0 then if(0:Int)<=(k:Int)/\(k:Int)<(f.2.2.2.2.2.1.length:Int)then _ else none else none)=_
  rw[if_pos rfl,if_pos (Ac B)];simp only[tNC,s1,h33,h34,bind_some,if_pos (Ac B),hl];rw[show decide (IntKind.i64.wrap (0+0)=0)=true by decide]
  simp only[cond_true,decide_true,Z,bind_some]
def u8_in{n:Int}(h:(Lit.int .u8 n).wf=true):0<=n/\n<=255:=by
 have h:(decide (IntKind.u8.min<=n)&&decide (n<=IntKind.u8.max))=true:=h;rw[bAE,decide_eq_true_eq,decide_eq_true_eq]at h;have A:IntKind.u8.min=0:=by decide
 have u:IntKind.u8.max=255:=by decide
 omega
theorem p5(x:List Int)(h:okT (PT S5.ps) x):G5 x=some true:=by
 have h:x.length<=maxLen/\∀n∈x,(Lit.int .u8 n).wf=true:=h;by_cases u:x.length<=4096
 .exact law5 ⟨u,λb A=>u8_in (h.2 b A)⟩
 .delta G5 mA ln lw an l2 lt gd li l0 q4 wz sc nx bk cp
  exact Ao (v:=true) (congrArg some (dT (by omega))) rfl
end
end Go.Ve.D

