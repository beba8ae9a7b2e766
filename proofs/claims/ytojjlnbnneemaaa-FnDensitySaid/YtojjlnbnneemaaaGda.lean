/- The generators of a set functor at an object and their gluing: plain lists. -/
import Derived.Test.YtojjlnbnneemaaaGkc
open List(range mem_range length_range Pairwise nodup_range mem_flatMap mem_map getElem_mem length_cons length_nil length_map map_append map_map)
open Nat(lt_irrefl)
open Option(bind_some)
set_option linter.all false
namespace Go.Ve.D
open Go Go.Ve
variable{c:Cat}{x y:Int}{a e i k:Nat}{f:SF}
abbrev Trp:=Nat×Nat×Nat
variable{t:Trp}
def N3(c:Cat)(x y:Int):List Nat:=(range (ar c)).filter λf=>decide (fT c f=x)&&decide (tT c f=y)
def Xc:JM c x y=(N3 c x y).map fun(f:Nat)=>(f:Int):=rfl
def Mp{h:Nat}:h∈N3 c x y↔h<ar c/\fT c h=x/\tT c h=y:=by
 unfold N3;simp only[List.mem_filter,mem_range,bAE,decide_eq_true_eq]
theorem I1:(N3 c x y).length<=ar c:=by
 have:=List.length_filter_le (λf=>decide (fT c f=x)&&decide (tT c f=y)) (range (ar c))
 rwa [length_range]at this
def AbP:(N3 c x y).Nodup:=Pairwise.filter _ nodup_range
def trE(f:SF)(y:Int)(x e:Nat):List Trp:=(N3 (shS f) (x:Int) y).map λh=>(x,e,h)
def szN(f:SF)(x:Nat):Nat:=(sz f (x:Int)).toNat
def trX(f:SF)(y:Int)(x:Nat):List Trp:=(range (szN f x)).flatMap (trE f y x)
def trp(f:SF)(y:Int):List Trp:=(range f.1.toNat).flatMap (trX f y)
theorem B7:t∈trp f y↔t.1<f.1.toNat/\t.2.1<szN f t.1/\t.2.2<ar (shS f)/\fT (shS f) t.2.2=(t.1:Int)/\tT (shS f) t.2.2=y:=by
 unfold trp trX trE;simp only[mem_flatMap,mem_range,mem_map,Mp];constructor
 .rintro ⟨x,E,e,J,h,⟨B,A,u⟩,rfl⟩
  exact⟨E,J,B,A,u⟩
 .rintro ⟨B,A,u,U,O⟩
  exact⟨t.1,B,t.2.1,A,t.2.2,⟨u,U,O⟩,rfl⟩
theorem Vs:(trp f y).Nodup:=by
 unfold trp;show Pairwise (·≠·) _
 rw[List.pairwise_flatMap];refine⟨λx _=>?_,nodup_range.imp fun{a b} hab p hp q hq e=>?_⟩
 .unfold trX
  rw[List.pairwise_flatMap];refine⟨λe _=>?_,nodup_range.imp fun{a b} hab p hp q hq e=>?_⟩
  .unfold trE
   rw[List.pairwise_map];exact AbP.imp fun{a b} hab e=>hab (by simpa using e)
  .obtain⟨_,_,rfl⟩:=mem_map.1 hp
   obtain⟨_,_,rfl⟩:=mem_map.1 hq;simp at e;exact hab e.1
 .unfold trX trE at hp hq
  simp only[mem_flatMap,mem_map]at hp hq;obtain⟨_,_,_,_,rfl⟩:=hp;obtain⟨_,_,_,_,rfl⟩:=hq;simp at e;exact hab e.1
def glu(f:SF)(y:Int)(i k:Nat):Prop:=∃a e h x z d:Nat,a<ar (shS f)/\h<ar (shS f)/\fT (shS f) a=(x:Int)/\tT (shS f) a=(z:Int)/\fT (shS f) h=(z:Int)/\tT (shS f) h=y/\e<szN f x/\(act f a).getD e 0=(d:Int)/\
 i=(trp f y).idxOf (x,e,(T (shS f) a h).toNat)/\k=(trp f y).idxOf (z,d,h)
def img(f:SF)(t:Trp):Int:=(act f t.2.2).getD t.2.1 0
def K4(E:FS f)(B:a<ar (shS f)):∃x:Nat,fT (shS f) a=(x:Int)/\x<f.1.toNat:=by
 obtain⟨A,u⟩:=E.sh.fr a B;have A:0<=fT (shS f) a:=A;have u:fT (shS f) a<f.1:=u;exact⟨(fT (shS f) a).toNat,by omega,by omega⟩
def Vy(E:FS f)(B:a<ar (shS f)):∃x:Nat,tT (shS f) a=(x:Int)/\x<f.1.toNat:=by
 obtain⟨A,u⟩:=E.sh.to a B;have A:0<=tT (shS f) a:=A;have u:tT (shS f) a<f.1:=u;exact⟨(tT (shS f) a).toNat,by omega,by omega⟩
def Ka(B:FS f){x z:Nat}(A:a<ar (shS f))(J:fT (shS f) a=(x:Int))(E:tT (shS f) a=(z:Int))(O:e<szN f x):e<(act f a).length/\∃d:Nat,(act f a).getD e 0=(d:Int)/\d<szN f z:=by
 have W:=B.al a A;rw[J]at W;unfold szN at O;have u:e<(act f a).length:=by omega
 obtain⟨Y,U⟩:=DY (B.aw a A) u;rw[E]at U;exact⟨u,((act f a).getD e 0).toNat,by omega,by unfold szN;omega⟩
def AbE(h:Km f=true){b x:Nat}(U:a<ar (shS f))(O:b<ar (shS f))(B:fT (shS f) a=(x:Int))(E:tT (shS f) a=fT (shS f) b)(J:e<szN f x):(act f (T (shS f) a b).toNat).getD e 0=(act f b).getD ((act f a).getD e 0).toNat 0:=by
 unfold Km at h;simp only[bAE]at h;have Y:=aET.1 h.2.2 a (mem_range.2 U);have A:=aET.1 Y b (mem_range.2 O);unfold coB at A;have u:mt (shS f) a b=true:=dT E;rw[u,B]at A;have W:=aET.1 A e (mem_range.2 J);exact of_decide_eq_true W
def W8(h:Km f=true){x:Nat}(u:x<f.2.2.2.1.length)(A:e<szN f x):(act f (Aaa f x).toNat).getD e 0=(e:Int):=by
 unfold Km at h;simp only[bAE]at h;have E:=aET.1 h.2.1 x (mem_range.2 u);have B:=aET.1 E e (mem_range.2 A);exact of_decide_eq_true B
def AbO(O:FS f){y:Nat}(hy:y<f.1.toNat):∃u:Nat,u<ar (shS f)/\Aaa f y=(u:Int)/\fT (shS f) u=(y:Int)/\tT (shS f) u=(y:Int)/\y<f.2.2.2.1.length/\∀h,h<ar (shS f)->tT (shS f) h=(y:Int)->T (shS f) h u=(h:Int):=by
 have hl:(f.2.2.2.1.length:Int)=f.1:=O.sh.hd.2.2.2.2.2.2.1;have A:y<f.2.2.2.1.length:=by omega
 obtain⟨u,hu,Z,e2⟩:=O.ida A;have W:=O.sp;unfold DW at W;simp only[bAE]at W;have J:=aET.1 W.2.1 y (mem_range.2 A);unfold Vg at J;simp only[bAE,decide_eq_true_eq]at J
 have E:((shS f).2.2.2.1.getD y 0).toNat=u:=by
  have:(shS f).2.2.2.1.getD y 0=(u:Int):=Z;rw[this];rfl
 rw[E]at J;refine⟨u,hu,Z,e2,J.2,A,λh hh ht=>?_⟩
 have Y:=O.cat;unfold Hc HM at Y;simp only[bAE]at Y;have B:=aET.1 Y.2.1 h (mem_range.2 hh);unfold Iz at B;simp only[bAE,decide_eq_true_eq]at B;have:=B.2;have U:(shS f).2.2.1.getD h 0=(y:Int):=ht;unfold idn at this;rw[U,tNC,E]at this;exact this
section
variable {f:SF} (h:Km f=true) {y:Nat} (hy:y<f.1.toNat)
include h
theorem HP(hg:glu f y i k):i<(trp f y).length/\k<(trp f y).length/\(trp f y).getD i (0,0,0)∈trp f y/\img f ((trp f y).getD i (0,0,0))=img f ((trp f y).getD k (0,0,0)):=by
 have B:=C8 h;obtain⟨a,e,b,x,z,d,u,Z,ex,ez,fb,tb,U,hd,rfl,rfl⟩:=hg;have O:mt (shS f) a b=true:=dT (ez.trans fb.symm);obtain⟨t1,t2,t3,t4⟩:=B.sh.pos a b u Z O;obtain⟨_,d',Y,W⟩:=Ka B u ex ez U;have:d'=d:=by omega
 subst this;obtain⟨x',ex',J⟩:=K4 B u;have:x'=x:=by omega
 subst this;obtain⟨z',ez',E⟩:=Vy B u;have:z'=z:=by omega
 subst this;have A:((x',e,(T (shS f) a b).toNat):Trp)∈trp f y:=B7.2 ⟨J,U,by show(T (shS f) a b).toNat<(shS f).2.1.length;omega,by show(shS f).2.1.getD _ 0=_;rw[t3];exact ex,by show(shS f).2.2.1.getD _ 0=_;rw[t4];exact tb⟩
 have m2:((z',d',b):Trp)∈trp f y:=B7.2 ⟨E,W,Z,fb,tb⟩
 have g:∀t:Trp,t∈trp f y->(trp f y).getD ((trp f y).idxOf t) (0,0,0)=t:=λt ht=>by
  have hl:=List.idxOf_lt_length_of_mem ht;rw[gDE,gEE hl];exact List.getElem_idxOf hl
 refine⟨List.idxOf_lt_length_of_mem A,List.idxOf_lt_length_of_mem m2,by rw[g _ A];exact A,?_⟩
 rw[g _ A,g _ m2];show(act f (T (shS f) a b).toNat).getD e 0=(act f b).getD d' 0;rw[AbE h u Z ex (ez.trans fb.symm) U,Y,tNC]
include hy
theorem Xh(ht:t∈trp f y):∃u d:Nat,img f t=(d:Int)/\d<szN f y/\((y,d,u):Trp)∈trp f y/\img f (y,d,u)=(d:Int)/\(∀U:Nat,Aaa f y=(U:Int)->U=u)/\glu f y ((trp f y).idxOf t) ((trp f y).idxOf (y,d,u)):=by
 have hF:=C8 h;obtain⟨x,e,a⟩:=t;obtain⟨h1,O,E,J,B⟩:=B7.1 ht;have h1:x<f.1.toNat:=h1;have O:e<szN f x:=O;have E:a<ar (shS f):=E;have J:fT (shS f) a=(x:Int):=J;have B:tT (shS f) a=(y:Int):=B;obtain⟨u,Y,e1,e2,e3,W,e4⟩:=AbO hF hy;obtain⟨_,d,hd,A⟩:=Ka hF E J B O;have Z:=W8 h W A;rw[e1,tNC]at Z;refine⟨u,d,hd,A,B7.2 ⟨hy,A,Y,e2,e3⟩,Z,λU hu'=>by omega,a,e,u,x,y,d,E,Y,J,B,e2,e3,O,hd,?_,rfl⟩
 rw[e4 a E B,tNC]
theorem AbU(A:i<(trp f y).length)(O:k<(trp f y).length):Gen (glu f y) i k↔img f ((trp f y).getD i (0,0,0))=img f ((trp f y).getD k (0,0,0)):=by
 have g:∀i,i<(trp f y).length->(trp f y).getD i (0,0,0)∈trp f y/\(trp f y).idxOf ((trp f y).getD i (0,0,0))=i:=λi A=>by
  rw[gDE,gEE A];exact⟨getElem_mem A,Vs.idxOf_getElem i A⟩
 constructor
 .intro J
  clear A O
  induction J with
  |rel J=>exact(HP h J).2.2.2
  |refl x=>rfl
  |symm _ ih=>exact ih.symm
  |trans _ _ E B=>exact E.trans B
 .intro e
  obtain⟨m1,Z⟩:=g i A;obtain⟨m2,Y⟩:=g k O;obtain⟨u,d,a1,a2,a3,a4,a5,a6⟩:=Xh h hy m1;obtain⟨W,d',b1,b2,b3,b4,b5,U⟩:=Xh h hy m2;have hd:d=d':=by omega
  subst hd;obtain⟨v,hv,ev,_⟩:=AbO (C8 h) hy;have hu:u=W:=by rw[<-a5 v ev,<-b5 v ev]
  subst hu;rw[Z]at a6;rw[Y]at U;exact(Gen.rel a6).trans (Gen.rel U).symm
end
end Go.Ve.D


namespace Go.Ve.D
open Go Go.Ve
noncomputable section
variable{x y:List Int}
theorem Abt(h:x.length=y.length):decide (x=y)=(range x.length).all λi=>decide (x.getD i 0=y.getD i 0):=by
 rw[Bool.eq_iff_iff,decide_eq_true_eq,aET];constructor
 .rintro rfl i _
  exact dT rfl
 .intro H
  refine List.ext_getElem h λi u A=>?_
  have:=of_decide_eq_true (H i (mem_range.2 u));simpa [u,A]using this
theorem p134(E:x.length<=1048576):G134 (x,y)=some (decide (x=y)):=by
 delta G134 ln lw lt gd l0 sc nx bk
 cases u:decide ((x.length:Int)=(y.length:Int))with
 |false=>
  have u:=of_decide_eq_false u;have:decide (x=y)=false:=dF λh=>u (by rw[h])
  rw[this];rfl
 |true=>
  have u:=of_decide_eq_true u;have u:x.length=y.length:=by omega
  rw[Abt u];simp only[Bool.not_true,cond_false];refine Aap (n:=x.length) (p:=λi=>decide (x.getD i 0=y.getD i 0)) (bad:=λr:Bool=>r=false) (id:=0) (Post:=λb (o:Option Bool)=>o=some b) (λi A=>?_) ?_ rfl (λr B=>by rw[B])
  .have hy:i<y.length:=by omega
   simp only[Af,A,decide_true,cond_true,Ac A,Ac hy,and_self,if_true,tNC];rw[Ah (by omega) (by omega)]
   cases decide (x.getD i 0=y.getD i 0)with
   |true=>exact D6 rfl
   |false=>exact HN ⟨_,rfl,rfl⟩
  .simp only[Af,lt_irrefl,decide_false,cond_false]
end
end Go.Ve.D


namespace Go.Ve.D
open Go Go.Ve
variable{c:Cat}{S:List Trp}{s t:Trp}
theorem p40(E:c.2.1.length<=1048576)(A:c.2.2.1.length=c.2.1.length)(x y:Int):G40 (c,(x,y))=some (JM c x y):=by
 obtain⟨c1,c2,c3,c4,c5⟩:=c
 delta G40 mA lw an lt gd l0 sc nx bk cp
 simp only at E A⊢;refine Ao (v:=.brk 0 ((c2.length:Int),JM (c1,(c2,(c3,(c4,c5)))) x y)) (Aad (λi B u J=>?_) λu=>?_) rfl
 .simp only[Af,B,decide_true,cond_true,Ac B,if_true,and_self,tNC,length_cons,length_nil,A]
  rw[Ah (by omega) (by omega),if_pos (show u.length+(0+1)<=17592186044416 by omega)]
  show Option.bind (bif decide (c2.getD i 0=x)then some (decide (c3.getD i 0=y))else some false) _=_;show _=some (LO.next (((i+1:Nat):Int),bif decide (c2.getD i 0=x)&&decide (c3.getD i 0=y)then u++[(i:Int)]else u))
  cases decide (c2.getD i 0=x)<;>cases decide (c3.getD i 0=y)<;>rfl
 .simp only[Af,lt_irrefl,decide_false,cond_false]
theorem p45(A:c.2.1.length<=1048576)(u:c.2.2.1.length=c.2.1.length)(x y:Int):G45 (c,(x,y))=some (JM c x y):=by
 have e:G45=G40:=rfl;rw[e];exact p40 A u x y
def Bs(t:Trp):List Int:=[(t.1:Int),(t.2.1:Int),(t.2.2:Int)]
def C0:(Bs t).length=3:=rfl
theorem YB:Bs s=Bs t↔s=t:=by
 obtain⟨a,b,c⟩:=s;obtain⟨A,u,c'⟩:=t;simp[Bs];omega
def rowT_0:(Bs t).getD (0:Int).toNat 0=(t.1:Int):=rfl
def ZH:(Bs t).getD (1:Int).toNat 0=(t.2.1:Int):=rfl
def ZG:(Bs t).getD (2:Int).toNat 0=(t.2.2:Int):=rfl
def tAt(S:List Trp)(i:Nat):Trp:=S.getD i (0,0,0)
def DS{i:Nat}(u:i<S.length):(S.map Bs).getD i []=Bs (tAt S i):=by simp[tAt,u]
theorem u86(U:S.length<=1048576)(J:t∈S):G86 (S.map Bs,Bs t)=some ((S.idxOf t:Nat):Int):=by
 delta G86 lw lt gd li sc nx bk
 have A:=List.idxOf_lt_length_of_mem J
 have O:tAt S (S.idxOf t)=t:=by
  unfold tAt;rw[gDE,gEE A];exact List.getElem_idxOf A
 have B:∀i,i<S.idxOf t->tAt S i≠t:=λi E e=>by
  have u:i<S.length:=by omega
  have:=List.not_of_lt_findIdx (xs:=S) (p:=(· ==t)) (i:=i) E
  unfold tAt at e;rw[gDE,gEE u]at e;simp only[Option.getD_some]at e;simp[e]at this
 refine Ao (v:=.ret ((S.idxOf t:Nat):Int)) (AG (st:=λi:Nat=>(i:Int)) (n:=S.idxOf t) (λi E=>?_) ?_ (λy=>by simp)) rfl
 .have u:i<S.length:=by omega
  have hd:decide (Bs (tAt S i)=Bs t)=false:=dF λe=>B i E (YB.1 e)
  simp only[length_map,Af,u,decide_true,cond_true,Ac u,and_self,if_true,tNC,DS u,p134 (x:=Bs (tAt S i)) (y:=Bs t) (by rw[C0];omega),bind_some,hd,cond_false]
  rw[Ah (by omega) (by omega)];rfl
 .have hd:decide (Bs t=Bs t)=true:=dT rfl
  simp only[length_map,Af,A,decide_true,cond_true,Ac A,and_self,if_true,tNC,DS A,O,p134 (x:=Bs t) (y:=Bs t) (by rw[C0];omega),bind_some]
  rfl
def UL(t:Trp):ByteArray:=Go.strOfNums ((Bs t).map (IntKind.u8.wrap ·)++[255])
theorem p81(t:Trp):G81 [Bs t]=some (UL t):=by
 delta G81 lw l2 lt gd li sc nx bk cp
 refine Ao (v:=.brk 0 (((1:Nat):Int),(Bs t).map (IntKind.u8.wrap ·)++[255])) (AG (st:=λi:Nat=>((i:Int),bif Nat.beq i 0 then []else(Bs t).map (IntKind.u8.wrap ·)++[255])) (n:=1) (λi A=>?_) rfl (λy=>by simp)) rfl
 obtain rfl:i=0:=by omega
 have e:([Bs t]:List (List Int)).getD (0:Nat) []=Bs t:=rfl;simp only[length_cons,length_nil,Af,show(0:Nat)<0+1 by omega,decide_true,cond_true,Ac (show(0:Nat)<0+1 by omega),and_self,if_true,tNC,e]
 refine Ao (v:=.brk 2 (((3:Nat):Int),(Bs t).map (IntKind.u8.wrap ·))) (AG (st:=λi:Nat=>((i:Int),((Bs t).take i).map (IntKind.u8.wrap ·))) (n:=3) (λi A=>?_) ?_ (λy=>by simp)) ?_
 .have u:i<(Bs t).length:=A
  have B:(((Bs t).take i).map (IntKind.u8.wrap ·)).length<=3:=by simp[C0];omega
  simp only[Af,u,decide_true,cond_true,Ac u,and_self,if_true,tNC,length_cons,length_nil];rw[Ah (by omega) (by omega),if_pos (by omega),<-CI (0:Int) u,map_append];rfl
 .show(bif decide (((3:Nat):Int)<(((Bs t).length:Nat):Int))then _ else _)=_
  rw[C0];rfl
 .show(if 2=2 then _ else none)=_
  rw[if_pos rfl,if_pos (by simp[C0])];rfl
def smT(t:Trp):Prop:=t.1<256/\t.2.1<256/\t.2.2<256
theorem AbA(Z:smT s)(Y:smT t):eqT .str (UL s) (UL t)=decide (s=t):=by
 obtain⟨a,b,c⟩:=s;obtain⟨O,J,c'⟩:=t;obtain⟨E,B,A⟩:=Z;obtain⟨g1,g2,W⟩:=Y
 have w:∀n:Nat,n<256->IntKind.u8.wrap (n:Int)=(n:Int):=λn U=>by
  simp[IntKind.wrap,IntKind.bits,IntKind.signed];omega
 have u:∀m n:Nat,m<256->n<256->(UInt8.ofNat m=UInt8.ofNat n↔m=n):=λm n hm U=>by
  constructor
  .intro h
   have:=congrArg UInt8.toNat h;rw[UInt8.toNat_ofNat_of_lt' hm,UInt8.toNat_ofNat_of_lt' U]at this;exact this
  .rintro rfl;rfl
 have e:∀a b c:Nat,a<256->b<256->c<256->(UL (a,b,c)).data.toList=[UInt8.ofNat a,UInt8.ofNat b,UInt8.ofNat c,255]:=λa b c E B A=>by
  show([IntKind.u8.wrap (a:Int),IntKind.u8.wrap (b:Int),IntKind.u8.wrap (c:Int),255].map λn:Int=>UInt8.ofNat n.toNat)=_
  rw[w a E,w b B,w c A];rfl
 show decide ((UL (a,b,c)).data.toList=(UL (O,J,c')).data.toList)=_;rw[e a b c E B A,e O J c' g1 g2 W]
 congr 1
 simp only[List.cons.injEq,and_true,Prod.mk.injEq,u a O E g1,u b J B g2,u c c' A W]
def mpS(S:List Trp)(k:Nat):List (ByteArray×Int):=(S.zipIdx k).map λp=>(UL p.1,(p.2:Int))
theorem Mu{t:Trp}(A:smT t):∀(S:List Trp) (k:Nat),(∀s∈S,smT s)->BA .str (.int .i64) (UL t) (mpS S k)=if t∈S then some (((k+S.idxOf t:Nat):Int))else none
 |[],k,_=>rfl
 |s::S,k,h=>by
  have B:=Mu A S (k+1) λx E=>h x (mCM _ E)
  show(bif eqT .str (UL t) (UL s)then some ((k:Nat):Int)else BA .str (.int .i64) (UL t) (mpS S (k+1)))=_;rw[AbA A (h s (List.mem_cons_self ..)),B];by_cases e:t=s
  .subst e;simp
  .have O:s≠t:=Ne.symm e
   have J:(s::S).idxOf t=S.idxOf t+1:=by
    rw[List.idxOf_cons,show(s==t)=false by simpa using O];rfl
   simp only[e,decide_false,cond_false,List.mem_cons,false_or,J];by_cases u:t∈S
   .rw[if_pos u,if_pos u];congr 2;omega
   .rw[if_neg u,if_neg u]
def Xj(A:∀s∈S,smT s)(u:t∈S):Ov .str (.int .i64) (UL t) (mpS S 0)=((S.idxOf t:Nat):Int):=by
 unfold Ov;rw[Mu (A t u) S 0 A,if_pos u,Nat.zero_add];rfl
def Vq{a:ByteArray}{b:Int}:∀(l:List (ByteArray×Int)),BA .str (.int .i64) a l=none->MT .str (.int .i64) a b l=l++[(a,b)]
 |[],_=>rfl
 |e::l,h=>by
  have h:(bif eqT .str a e.1 then some e.2 else BA .str (.int .i64) a l)=none:=h;show(bif eqT .str a e.1 then(a,b)::l else e::MT .str (.int .i64) a b l)=_;cases hd:eqT .str a e.1 with
  |true=>rw[hd]at h;cases h
  |false=>
   rw[hd]at h;rw[cond_false,Vq l h];rfl
theorem p78(hS:S.length<=1048576)(O:∀s∈S,smT s)(U:S.Nodup):G78 (S.map Bs)=some (mpS S 0):=by
 delta G78 lw lt gd li sc nx bk
 refine Ao (v:=.brk 0 ((S.length:Int),mpS (S.take S.length) 0)) (AG (st:=λi:Nat=>((i:Int),mpS (S.take i) 0)) (n:=S.length) (λi u=>?_) ?_ (λy=>by simp)) ?_
 .simp only[length_map,Af,u,decide_true,cond_true,Ac u,and_self,if_true,tNC,DS u,p81,bind_some]
  rw[Ah (by omega) (by omega)]
  have A:tAt S i∈S:=by
   unfold tAt;rw[gDE,gEE u];exact getElem_mem u
  have B:tAt S i∉S.take i:=by
   intro W;obtain⟨j,Z,J⟩:=List.getElem_of_mem W;have Y:j<i:=by simp at Z;omega
   have E:j<S.length:=by omega
   rw[List.getElem_take]at J;have e1:tAt S i=S[i]:=by
    unfold tAt;rw[gDE,gEE u];rfl
   rw[e1]at J;have a1:=U.idxOf_getElem j E;rw[J,U.idxOf_getElem i u]at a1;omega
  rw[Vq _ (by rw[Mu (O _ A) _ 0 λs h=>O s (List.mem_of_mem_take h),if_neg B])]
  have ek:mpS (S.take i) 0++[(UL (tAt S i),(i:Int))]=mpS (S.take (i+1)) 0:=by
   rw[<-CI (0,0,0) u];unfold mpS;rw[List.zipIdx_append,map_append];simp[tAt,show i<=S.length by omega]
  rw[ek];rfl
 .simp only[length_map,Af,lt_irrefl,decide_false,cond_false]
 .rw[List.take_length];rfl
end Go.Ve.D


namespace Go.Ve.D
open Go Go.Ve
variable{y:Int}{x:Nat}{f:SF}
def elX(f:SF)(x:Nat):List (Nat×Nat):=(range (szN f x)).map λe=>(x,e)
def elP(f:SF):List (Nat×Nat):=(range f.1.toNat).flatMap (elX f)
theorem Hp(u:FS f)(E:x<f.1.toNat):(szF f).getD x 0=((szN f x:Nat):Int)/\szN f x<=16:=by
 obtain⟨B,A⟩:=u.szi (x:=(x:Int)) ⟨by omega,by omega⟩
 have e:sz f (x:Int)=(szF f).getD x 0:=by unfold sz;rw[tNC]
 unfold szN;rw[e]at B A⊢;omega
theorem Ab5{i:Nat}(A:i<(elP f).length):((elP f).map IN).getD i []=IN ((elP f).getD i (0,0))/\((elP f).getD i (0,0)).1<f.1.toNat/\((elP f).getD i (0,0)).2<szN f ((elP f).getD i (0,0)).1:=by
 refine⟨by simp[A],?_⟩
 have u:(elP f).getD i (0,0)∈elP f:=by
  rw[gDE,gEE A];exact getElem_mem A
 generalize (elP f).getD i (0,0)=p at u;unfold elP elX at u;simp only[mem_flatMap,mem_range,mem_map]at u;obtain⟨x,B,e,E,rfl⟩:=u;exact⟨B,E⟩
theorem Ab4(u:FS f):(elP f).length<=128:=by
 have A:=u.sh.hd.1.2;have A:f.1<=8:=A
 have:=DT (g:=elX f) (K:=16) f.1.toNat λx B=>by
  unfold elX;rw[length_map,length_range];exact(Hp u B).2
 have:f.1.toNat*16<=8*16:=Nat.mul_le_mul_right _ (by omega)
 unfold elP;omega
theorem p130(B:FS f):G130 f=some ((elP f).map IN):=by
 obtain⟨n,W⟩:∃n:Nat,n=f.1.toNat:=⟨_,rfl⟩;have h8:f.1<=8:=B.sh.hd.1.2;have Y:(szF f).length=n:=by have:=B.l1;omega
 have J:f.2.2.2.2.2.1.length=n:=Y
 delta G130 mB lw lt gd l0 q4 sc nx bk cp
 have e:(elP f).map IN=[]++(range n).flatMap λx=>(elX f x).map IN:=by
  rw[List.nil_append,W];unfold elP;rw[List.map_flatMap]
 rw[e];refine Ao (v:=.brk 0 ((n:Int),[]++(range n).flatMap λx=>(elX f x).map IN)) ?_ rfl
 rw[J];refine MP (K:=16) (L:=0) (λx E=>?_) (λx E u ha=>?_) (λu=>?_) [] (Nat.zero_le _)
 .rw[length_map];unfold elX
  rw[length_map,length_range];exact(Hp B (by omega)).2
 .obtain⟨s1,s2⟩:=Hp B (x:=x) (by omega)
  have s1:f.2.2.2.2.2.1.getD x 0=((szN f x:Nat):Int):=s1;have U:u.length<=1000:=by
   have:x*16<=8*16:=Nat.mul_le_mul_right _ (by omega)
   omega
  simp only[Af,E,decide_true,cond_true,Ac E,and_self,if_true,tNC,s1]
  have e2:u++(elX f x).map IN=u++(range (szN f x)).flatMap λe=>[IN (x,e)]:=by
   unfold elX;rw[map_map,List.map_eq_flatMap];rfl
  refine Ao (v:=.brk 2 (((szN f x:Nat):Int),u++(elX f x).map IN)) ?_ ?_
  .rw[e2]
   refine MP (K:=1) (L:=u.length) (λe O=>Nat.le_refl _) (λe O A Z=>?_) (λA=>?_) u (Nat.le_refl _)
   .simp only[Af,O,decide_true,cond_true,length_cons,length_nil]
    rw[Ah (by omega) (by omega),if_pos (by omega)];rfl
   .simp only[Af,lt_irrefl,decide_false,cond_false]
  .show(if 2=2 then _ else none)=_
   rw[if_pos rfl,Ah (by omega) (by omega)];rfl
 .simp only[Af,lt_irrefl,decide_false,cond_false]
def Vv{e:Nat}:(trE f y x e).map Bs=(JM (shS f) (x:Int) y).map λh=>[(x:Int),(e:Int),h]:=by
 unfold trE;rw[Xc,map_map,map_map];rfl
theorem trp_el:trp f y=(elP f).flatMap λp=>trE f y p.1 p.2:=by
 unfold trp elP trX elX;rw[List.flatMap_assoc]
 congr 1
 funext x
 rw[List.flatMap_map]
def QB{α A:Type}(d:α)(g:α->List A)(l:List α):(range l.length).flatMap (λi=>g (l.getD i d))=l.flatMap g:=by
 have:l=(range l.length).map λi=>l.getD i d:=by
  apply List.ext_getElem
  .simp
  .intro i u B;simp[u]
 conv=>rhs;rw[this]
 rw[List.flatMap_map]
theorem p77(B:FS f)(y:Int):G77 (f,y)=some ((trp f y).map Bs):=by
 have O:ar (shS f)<=40:=B.sh.hd.2.1;have E:(shS f).2.1.length<=1048576:=by show ar (shS f)<=_;omega
 have a3:(shS f).2.2.1.length=(shS f).2.1.length:=B.sh.hd.2.2.1;have hE:=Ab4 B
 delta G77 mB lw l2 k4 lt gd li l0 q4 sc nx bk cp
 simp only[p130 B,bind_some]
 have e:(trp f y).map Bs=[]++(range (elP f).length).flatMap λi=>(trE f y ((elP f).getD i (0,0)).1 ((elP f).getD i (0,0)).2).map Bs:=by
  rw[List.nil_append,trp_el,List.map_flatMap,<-QB (0,0) (λp=>(trE f y p.1 p.2).map Bs)]
 rw[e];refine Ao (v:=.brk 0 (((elP f).length:Int),[]++(range (elP f).length).flatMap λi=>(trE f y ((elP f).getD i (0,0)).1 ((elP f).getD i (0,0)).2).map Bs)) ?_ rfl
 refine MP (K:=40) (L:=0) (λi A=>?_) (λi A u ha=>?_) (λu=>?_) [] (Nat.zero_le _)
 .rw[length_map];unfold trE
  rw[length_map];exact Nat.le_trans I1 O
 .obtain⟨g1,g2,Y⟩:=Ab5 A
  have W:u.length<=10000:=by
   have:i*40<=128*40:=Nat.mul_le_mul_right _ (by omega)
   omega
  generalize (elP f).getD i (0,0)=p at g1 g2 Y;have Z:((f.1,(f.2.1,(f.2.2.1,(f.2.2.2.1,f.2.2.2.2.1)))):Cat)=shS f:=rfl;simp only[length_map,Af,A,decide_true,cond_true,Ac A,and_self,if_true,tNC,g1,LS,Wa,V9,k02,k12,Z,p45 E a3,bind_some];have hl:=Qz (c:=shS f) (x:=(p.1:Int)) (y:=y);rw[Vv];refine Ao (v:=.brk 2 ((i:Int),((JM (shS f) (p.1:Int) y).length:Int),u++((JM (shS f) (p.1:Int) y).take (JM (shS f) (p.1:Int) y).length).map λh=>[(p.1:Int),(p.2:Int),h])) ?_ ?_
  .rw[show((i:Int),(0:Int),u)=(λk:Nat=>((i:Int),(k:Int),u++((JM (shS f) (p.1:Int) y).take k).map λh=>[(p.1:Int),(p.2:Int),h])) 0 by simp]
   refine AG (st:=λk:Nat=>((i:Int),(k:Int),u++((JM (shS f) (p.1:Int) y).take k).map λh=>[(p.1:Int),(p.2:Int),h])) (n:=(JM (shS f) (p.1:Int) y).length) (λk J=>?_) ?_ (λy=>by simp)
   .have U:(u++((JM (shS f) (p.1:Int) y).take k).map λh=>[(p.1:Int),(p.2:Int),h]).length<=20000:=by simp;omega
    simp only[Af,J,decide_true,cond_true,Ac J,and_self,if_true,tNC,g1,LS,Wa,V9,k02,k12,length_cons,length_nil];rw[Ah (by omega) (by omega),if_pos (by omega),<-CI (0:Int) J,map_append,List.append_assoc];rfl
   .simp only[Af,lt_irrefl,decide_false,cond_false,tNC]
  .show(if 2=2 then _ else none)=_
   rw[if_pos rfl,Ah (by omega) (by omega),List.take_length];rfl
 .simp only[length_map,Af,lt_irrefl,decide_false,cond_false]
end Go.Ve.D

