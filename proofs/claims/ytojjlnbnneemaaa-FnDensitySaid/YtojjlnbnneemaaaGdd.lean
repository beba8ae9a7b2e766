/- The reference's gluing. -/
import Derived.Test.YtojjlnbnneemaaaGda
open Option(bind_some)
open List(range mem_flatMap mem_range map_flatMap length_map)
open Nat(zero_le mul_le_mul_right le_trans le_refl lt_irrefl)
open Go.IntKind(i64)
set_option linter.all false
namespace Go.Ve.D
open Go Go.Ve
variable{y:Int}{a i:Nat}{f:SF}
def q87{c:Cat}(h:Sh c){f g:Int}(A:0<=f/\f<(c.2.1.length:Int))(u:0<=g/\g<(c.2.1.length:Int)):G87 (c,(f,g))=some (T c f.toNat g.toNat):=p82 h A u
def q85(c:Cat)(y:Int):G85 (c,y)=some (inn c.1 y):=by
 delta G85 inn an
 by_cases h:0<=y
 .simp only[h,decide_true,cond_true,bind_some,Bool.true_and]
 .simp only[h,decide_false,cond_false,bind_some,Bool.false_and]
def psA(f:SF)(y:Int)(i a:Nat):List (Nat×Nat):=bif decide (tT (shS f) a=((tAt (trp f y) i).1:Int))then(range (szN f (fT (shS f) a).toNat)).flatMap λe=>bif decide ((act f a).getD e 0=((tAt (trp f y) i).2.1:Int))then [((trp f y).idxOf ((fT (shS f) a).toNat,e,(T (shS f) a (tAt (trp f y) i).2.2).toNat),i)]else []else []
def psI(f:SF)(y:Int)(i:Nat):List (Nat×Nat):=(range (ar (shS f))).flatMap (psA f y i)
def psG(f:SF)(y:Int):List (Nat×Nat):=(range (trp f y).length).flatMap (psI f y)
def LG(u:i<(trp f y).length):tAt (trp f y) i∈trp f y:=by
 unfold tAt;rw[gDE,gEE u];exact List.getElem_mem u
theorem O6{p:Nat×Nat}:p∈psG f y↔ ∃a e:Nat,p.2<(trp f y).length/\a<ar (shS f)/\tT (shS f) a=((tAt (trp f y) p.2).1:Int)/\e<szN f (fT (shS f) a).toNat/\(act f a).getD e 0=((tAt (trp f y) p.2).2.1:Int)/\p.1=(trp f y).idxOf ((fT (shS f) a).toNat,e,(T (shS f) a (tAt (trp f y) p.2).2.2).toNat):=by
 unfold psG psI;simp only[mem_flatMap,mem_range];constructor
 .rintro ⟨i,B,a,J,h⟩
  unfold psA at h;cases A:decide (tT (shS f) a=((tAt (trp f y) i).1:Int))with
  |false=>rw[A]at h;cases h
  |true=>
   rw[A,cond_true,mem_flatMap]at h;obtain⟨e,E,h⟩:=h;cases u:decide ((act f a).getD e 0=((tAt (trp f y) i).2.1:Int))with
   |false=>rw[u]at h;cases h
   |true=>
    rw[u,cond_true,List.mem_singleton]at h;subst h;exact⟨a,e,B,J,of_decide_eq_true A,mem_range.1 E,of_decide_eq_true u,rfl⟩
 .rintro ⟨a,e,B,J,A,E,u,O⟩
  refine⟨p.2,B,a,J,?_⟩;unfold psA;rw[dT A,cond_true,mem_flatMap];refine⟨e,mem_range.2 E,?_⟩;rw[dT u,cond_true,List.mem_singleton,<-O]
def PX(u:FS f)(A:a<ar (shS f)):(act f a).length=szN f (fT (shS f) a).toNat/\szN f (fT (shS f) a).toNat<=16/\(szF f).getD (fT (shS f) a).toNat 0=((szN f (fT (shS f) a).toNat:Nat):Int):=by
 obtain⟨x,E,J⟩:=K4 u A;obtain⟨B,U⟩:=Hp u J;have O:=u.al a A;have e:sz f (fT (shS f) a)=(szF f).getD x 0:=by unfold sz;rw[E,tNC]
 rw[e,B]at O;rw[E,tNC];exact⟨by omega,U,B⟩
def Ww(A:FS f)(u:a<ar (shS f)):(psA f y i a).length<=16:=by
 unfold psA;cases decide (tT (shS f) a=((tAt (trp f y) i).1:Int))with
 |false=>exact zero_le _
 |true=>
  have:=DT (g:=λe=>bif decide ((act f a).getD e 0=((tAt (trp f y) i).2.1:Int))then [((trp f y).idxOf ((fT (shS f) a).toNat,e,(T (shS f) a (tAt (trp f y) i).2.2).toNat),i)]else []) (K:=1) (szN f (fT (shS f) a).toNat) λe _=>by
   show(bif _ then _ else _:List (Nat×Nat)).length<=1;cases decide ((act f a).getD e 0=((tAt (trp f y) i).2.1:Int))<;>simp
  have h:=(PX A u).2.1;rw[cond_true];omega
theorem Wu(A:FS f):(psI f y i).length<=640:=by
 have u:ar (shS f)<=40:=A.sh.hd.2.1;have:=DT (g:=psA f y i) (K:=16) (ar (shS f)) λa B=>Ww A B
 have:ar (shS f)*16<=40*16:=mul_le_mul_right _ u;unfold psI;omega
def OE(E:FS f){t:Trp}(U:t∈trp f y){e:Nat}(B:a<ar (shS f))(W:tT (shS f) a=(t.1:Int))(A:e<szN f (fT (shS f) a).toNat):(((fT (shS f) a).toNat,e,(T (shS f) a t.2.2).toNat):Trp)∈trp f y/\0<=T (shS f) a t.2.2:=by
 obtain⟨b1,b2,b3,Z,Y⟩:=B7.1 U;have u:mt (shS f) a t.2.2=true:=dT (W.trans Z.symm);obtain⟨t1,t2,t3,t4⟩:=E.sh.pos a t.2.2 B b3 u;obtain⟨x,J,O⟩:=K4 E B;rw[J,tNC]at A⊢;refine⟨B7.2 ⟨O,A,by show(T (shS f) a t.2.2).toNat<(shS f).2.1.length;omega,by show(shS f).2.1.getD _ 0=_;rw[t3];exact J,by show(shS f).2.2.1.getD _ 0=_;rw[t4];exact Y⟩,t1⟩
def lab(f:SF)(y:Int):List Int:=mgL (psG f y) (trp f y).length
def Ot(f:SF)(y:Int):List (List Int)×List Int×Int:=bif !Km f then([],[],1)else bif !inn f.1 y then([],[],2)else bif decide (256<((trp f y).length:Int))then([],[],3)else((trp f y).map Bs,(cs (lab f y)).1,0)
theorem p29(h:okS f)(y:Int):G29 (f,y)=some (Ot f y):=by
 delta G29 Ot mB ln lw an l2 g2 k4 lt gd li l0 q4 sc nx bk cp
 simp only[p84 h,bind_some];cases hs:Km f with
 |false=>rfl
 |true=>
 have E:=C8 hs;have ec:((f.1,(f.2.1,(f.2.2.1,(f.2.2.2.1,f.2.2.2.2.1)))):Cat)=shS f:=rfl;simp only[Bool.not_true,cond_false,ec,q85,bind_some];have e1:(shS f).1=f.1:=rfl;rw[e1];cases hy:inn f.1 y with
 |false=>rfl
 |true=>
 simp only[Bool.not_true,cond_false];obtain⟨n,hn⟩:∃n:Nat,n=f.1.toNat:=⟨_,rfl⟩;have h8:0<=f.1/\f.1<=8:=E.sh.hd.1;have hn1:f.1=(n:Int):=by omega
 have h40:ar (shS f)<=40:=E.sh.hd.2.1;have hm2:(shS f).2.1.length<=1048576:=by show ar (shS f)<=_;omega
 have a3:(shS f).2.2.1.length=(shS f).2.1.length:=E.sh.hd.2.2.1;have hl:f.2.2.2.2.2.1.length=n:=by have:((szF f).length:Int)=f.1:=E.l1;show(szF f).length=n;omega
 refine Ao (v:=.brk 0 ((n:Int),(trp f y).map Bs)) ?_ ?_
 .have e:(trp f y).map Bs=[]++(range n).flatMap λx=>(trX f y x).map Bs:=by
   rw[List.nil_append,hn];unfold trp;rw[map_flatMap]
  rw[e];refine MP (K:=640) (L:=0) (λx hx=>?_) (λx hx B J=>?_) (λB=>?_) [] (zero_le _)
  .have h16:=(Hp E (x:=x) (by omega)).2
   have:=DT (g:=trE f y x) (K:=40) (szN f x) λe _=>by
    show(trE f y x e).length<=40;unfold trE;rw[length_map];exact le_trans I1 h40
   have:szN f x*40<=16*40:=mul_le_mul_right _ h16;rw[length_map];unfold trX;omega
  .obtain⟨s1,h16⟩:=Hp E (x:=x) (by omega)
   have s1:f.2.2.2.2.2.1.getD x 0=((szN f x:Nat):Int):=s1;have hacc:B.length<=10000:=by
    have:x*640<=8*640:=mul_le_mul_right _ (by omega)
    omega
   have hx2:x<f.2.2.2.2.2.1.length:=by rw[hl];exact hx
   simp only[hn1,Af,hx,decide_true,cond_true,p40 hm2 a3,bind_some,Ac hx2,and_self,if_true,tNC,s1];have hhl:=Qz (c:=shS f) (x:=(x:Int)) (y:=y)
   have e2:B++(trX f y x).map Bs=B++(range (szN f x)).flatMap λe=>(trE f y x e).map Bs:=by
    unfold trX;rw[map_flatMap]
   refine Ao (v:=.brk 2 (((szN f x:Nat):Int),B++(trX f y x).map Bs)) ?_ ?_
   .rw[e2]
    refine MP (K:=40) (L:=B.length) (λe W=>?_) (λe W u ha2=>?_) (λu=>?_) B (le_refl _)
    .rw[length_map];unfold trE
     rw[length_map];exact le_trans I1 h40
    .have Z:u.length<=20000:=by
      have:e*40<=16*40:=mul_le_mul_right _ (by omega)
      omega
     simp only[Af,W,decide_true,cond_true];rw[Vv]
     have e3:u++((JM (shS f) (x:Int) y).map λh=>[(x:Int),(e:Int),h])=u++(range (JM (shS f) (x:Int) y).length).flatMap λk=>[[(x:Int),(e:Int),(JM (shS f) (x:Int) y).getD k 0]]:=by
      rw[QB (0:Int) (λh=>[[(x:Int),(e:Int),h]]),List.map_eq_flatMap]
     refine Ao (v:=.brk 4 (((JM (shS f) (x:Int) y).length:Int),u++((JM (shS f) (x:Int) y).map λh=>[(x:Int),(e:Int),h]))) ?_ ?_
     .rw[e3]
      refine MP (K:=1) (L:=u.length) (λk hk=>le_refl _) (λk hk O ha3=>?_) (λO=>?_) u (le_refl _)
      .simp only[Af,hk,decide_true,cond_true,Ac hk,and_self,if_true,tNC,List.length_cons,List.length_nil]
       rw[Ah (by omega) (by omega),if_pos (by omega)];rfl
      .simp only[Af,lt_irrefl,decide_false,cond_false]
     .show(if 4=4 then _ else none)=_
      rw[if_pos rfl,Ah (by omega) (by omega)];rfl
    .simp only[Af,lt_irrefl,decide_false,cond_false]
   .show(if 2=2 then _ else none)=_
    rw[if_pos rfl,Ah (by omega) (by omega)];rfl
  .simp only[hn1,Af,lt_irrefl,decide_false,cond_false]
 show(bif decide (256<(((trp f y).map Bs).length:Int))then _ else _)=_;rw[length_map];cases hb:decide (256<((trp f y).length:Int))with
 |true=>rfl
 |false=>
 have hb:(trp f y).length<=256:=by have:=of_decide_eq_false hb;omega
 simp only[cond_false]
 have eps:(psG f y).map IN=[]++(range (trp f y).length).flatMap λi=>(psI f y i).map IN:=by
  rw[List.nil_append];unfold psG;rw[map_flatMap]
 refine Ao (v:=.brk 6 (((trp f y).length:Int),(psG f y).map IN)) ?_ ?_
 .rw[eps]
  refine MP (K:=640) (L:=0) (λi hi=>?_) (λi hi B J=>?_) (λB=>?_) [] (zero_le _)
  .rw[length_map];exact Wu E
  .have hacc:B.length<=200000:=by
    have:i*640<=256*640:=mul_le_mul_right _ (by omega)
    omega
   have U:=LG hi;have hpre:=λa J Y e W=>OE E U (a:=a) (e:=e) J Y W
   have e2:B++(psI f y i).map IN=B++(range (ar (shS f))).flatMap λa=>(psA f y i a).map IN:=by unfold psI;rw[map_flatMap]
   simp only[length_map,Af,hi,decide_true,cond_true,Ac hi,and_self,if_true,tNC,DS hi,C0,rowT_0,ZH,ZG,k03,k13,k23];obtain⟨b1,b2,b3,b4,b5⟩:=B7.1 U;refine Ao (v:=.brk 8 (((ar (shS f):Nat):Int),B++(psI f y i).map IN)) ?_ ?_
   .rw[e2]
    refine MP (K:=16) (L:=B.length) (λa J=>?_) (λa J u ha2=>?_) (λu=>?_) B (le_refl _)
    .rw[length_map];exact Ww E J
    .have Z:u.length<=300000:=by
      have:a*16<=40*16:=mul_le_mul_right _ (by omega)
      omega
     have ha1:a<f.2.1.length:=J;have ha2':a<f.2.2.1.length:=by show a<(shS f).2.2.1.length;rw[a3];exact J
     have haA:a<f.2.2.2.2.2.2.length:=by show a<(acF f).length;rw[E.l2];exact J
     obtain⟨sz1,sz2,sz3⟩:=PX E J;obtain⟨fx,efx,hfx⟩:=K4 E J;have hin:=E.sh.fr a J;have efT:f.2.1.getD a 0=(fx:Int):=efx;have etT:f.2.2.1.getD a 0=tT (shS f) a:=rfl;have esz:f.2.2.2.2.2.1.getD fx 0=((szN f (fT (shS f) a).toNat:Nat):Int):=by rw[efx,tNC]at sz3⊢;exact sz3
     have hfxl:fx<f.2.2.2.2.2.1.length:=by rw[hl];omega
     simp only[show((a:Int)<((f.2.1.length:Nat):Int))=True by simp[ha1],decide_true,cond_true,Ac ha2',Ac ha1,Ac haA,and_self,if_true,tNC,efT,etT,Ac hfxl,esz]
     unfold psA;by_cases Y:tT (shS f) a=((tAt (trp f y) i).1:Int)
     .simp only[Y,decide_true,cond_true,bind_some]
      have eact:f.2.2.2.2.2.2.getD a []=act f a:=rfl;have e4:∀A:List (List Int),A++((range (szN f (fT (shS f) a).toNat)).flatMap λe=>bif decide ((act f a).getD e 0=((tAt (trp f y) i).2.1:Int))then [((trp f y).idxOf ((fT (shS f) a).toNat,e,(T (shS f) a (tAt (trp f y) i).2.2).toNat),i)]else []).map IN=A++(range (szN f (fT (shS f) a).toNat)).flatMap λe=>(bif decide ((act f a).getD e 0=((tAt (trp f y) i).2.1:Int))then [((trp f y).idxOf ((fT (shS f) a).toNat,e,(T (shS f) a (tAt (trp f y) i).2.2).toNat),i)]else []).map IN:=λA=>by rw[map_flatMap]
      rw[e4];refine Ao (v:=.brk 10 (((szN f (fT (shS f) a).toNat:Nat):Int),u++(range (szN f (fT (shS f) a).toNat)).flatMap λe=>(bif decide ((act f a).getD e 0=((tAt (trp f y) i).2.1:Int))then [((trp f y).idxOf ((fT (shS f) a).toNat,e,(T (shS f) a (tAt (trp f y) i).2.2).toNat),i)]else []).map IN)) ?_ ?_
      .refine MP (K:=1) (L:=u.length) (λe W=>?_) (λe W O ha3=>?_) (λO=>?_) u (le_refl _)
       .cases decide ((act f a).getD e 0=((tAt (trp f y) i).2.1:Int))<;>simp
       .obtain⟨m1,m2⟩:=hpre a J Y e W
        have hel:e<(act f a).length:=by omega
        obtain⟨k,hk⟩:∃k:Nat,T (shS f) a (tAt (trp f y) i).2.2=(k:Int):=⟨(T (shS f) a (tAt (trp f y) i).2.2).toNat,by omega⟩
        have erow:([(fx:Int),((e:Int)),T (shS f) a (tAt (trp f y) i).2.2]:List Int)=Bs ((fT (shS f) a).toNat,e,(T (shS f) a (tAt (trp f y) i).2.2).toNat):=by
         unfold Bs;rw[efx,tNC,hk,tNC]
        simp only[Af,W,decide_true,cond_true,eact,Ac hel,and_self,if_true,tNC];rw[Ah (by omega) (by omega)]
        cases hd:decide ((act f a).getD e 0=((tAt (trp f y) i).2.1:Int))with
        |false=>simp
        |true=>
         have hq:G87 (shS f,((a:Int),((tAt (trp f y) i).2.2:Int)))=some (T (shS f) a (tAt (trp f y) i).2.2):=by
          have:=q87 E.sh (f:=(a:Int)) (g:=((tAt (trp f y) i).2.2:Int)) (Ac J) (Ac b3);rwa [tNC,tNC]at this
         simp only[cond_true,hq,bind_some,erow,u86 (S:=trp f y) (by omega) m1,List.length_cons,List.length_nil]
         rw[if_pos (by omega)];rfl
       .simp only[Af,lt_irrefl,decide_false,cond_false,bind_some]
      .show(if 10=10 then _ else none)=_
       rw[if_pos rfl,Ah (by omega) (by omega)];rfl
     .simp only[Y,decide_false,cond_false,bind_some,List.map_nil,List.append_nil]
      refine Ao (v:=.brk 10 ((0:Int),u)) ?_ ?_
      .rw[Bi];rfl
      .show(if 10=10 then _ else none)=_
       rw[if_pos rfl,Ah (by omega) (by omega)];rfl
    .show(bif decide (((ar (shS f):Nat):Int)<((f.2.1.length:Nat):Int))then _ else _)=_
     rw[show decide (((ar (shS f):Nat):Int)<((f.2.1.length:Nat):Int))=false by rw[Af];exact dF (lt_irrefl _)];rfl
   .show(if 8=8 then _ else none)=_
    rw[if_pos rfl,Ah (by omega) (by omega)];rfl
  .simp only[length_map,Af,lt_irrefl,decide_false,cond_false]
 .show(G88 ((((trp f y).length:Nat):Int),(psG f y).map IN)).bind _=_
  have hpl:(psG f y).length<=200000:=by
   have:=DT (g:=psI f y) (K:=640) (trp f y).length λi _=>Wu E
   have:(trp f y).length*640<=256*640:=mul_le_mul_right _ hb;unfold psG;omega
  rw[u88 (by omega) (by omega) λp hp=>by
   obtain⟨a,e,Y,h2,h3,h4,h5,h6⟩:=O6.1 hp;obtain⟨m1,_⟩:=OE E (LG Y) h2 h3 h4;rw[h6];exact⟨List.idxOf_lt_length_of_mem m1,Y⟩]
  rfl
end Go.Ve.D


namespace Go.Ve.D
open Go Go.Ve
noncomputable section
variable{y:Int}{j:List Int}{i k n:Nat}{R:Nat->Nat->Prop}{f:SF}
def F28(x:Sf×Int):(Int×LL×List (ByteArray×Int)×LI)->Option (LO (Int×LL×List (ByteArray×Int)×LI) (LL×LI×Int)):=(fun(u:(Int×LL×(List (ByteArray×Int))×LI))=>bif decide (u.1<x.1.2.2.2.2.2.2.length)then if 0<=u.1/\u.1<x.1.2.2.2.2.2.2.length then(A4 (fun(B:(Int×LL×(List (ByteArray×Int))×LI))=>bif decide (B.1<(x.1.2.2.2.2.2.2.getD u.1.toNat []).length)then if 0<=B.1/\B.1<(x.1.2.2.2.2.2.2.getD u.1.toNat []).length then if 0<=u.1/\u.1<x.1.2.2.1.length then(G45 ((x.1.1,x.1.2.1,x.1.2.2.1,x.1.2.2.2.1,x.1.2.2.2.2.1),x.1.2.2.1.getD u.1.toNat 0,x.2)).bind λE=>(A4 (fun(A:(Int×LL×(List (ByteArray×Int))×LI))=>bif decide (A.1<E.length)then if 0<=A.1/\A.1<E.length then if 0<=u.1/\u.1<x.1.2.1.length then(G82 ((x.1.1,x.1.2.1,x.1.2.2.1,x.1.2.2.2.1,x.1.2.2.2.2.1),u.1,E.getD A.1.toNat 0)).bind λW=>(G81 (((x.1.2.1.getD u.1.toNat 0)::(B.1::(W::[])))::[])).bind λU=>if 0<=u.1/\u.1<x.1.2.2.1.length then(G81 (((x.1.2.2.1.getD u.1.toNat 0)::(((x.1.2.2.2.2.2.2.getD u.1.toNat []).getD B.1.toNat 0)::((E.getD A.1.toNat 0)::[])))::[])).bind λO=>Option.bind (bif decide (0<(A.2.2.2.length:Int))then G80 (Ov .str (.int .i64) U A.2.2.1,Ov .str (.int .i64) O A.2.2.1) A.2.2.2 else none) (fun(J:Bool×LI)=>some (LO.next (i64.wrap (A.1+1),A.2.1,A.2.2.1,J.2)))else none else none else none else some (LO.brk 4 A)) (0,B.2)).bind (LO.fin λY A=>if Y=4 then some (LO.next (i64.wrap (B.1+1),A.2))else none)else none else none else some (LO.brk 2 B)) (0,u.2)).bind (LO.fin λZ B=>if Z=2 then some (LO.next (i64.wrap (u.1+1),B.2))else none)else none else some (LO.brk 0 u))
def XT(x:Sf×Int):G30028 x=(G75 x.1).bind λv0=>bif !v0 then some ([],[],1)else(G76 (x.2,0,i64.wrap (x.1.1-1))).bind λO=>bif !O then some ([],[],2)else(G77 x).bind λu=>bif decide (256<(u.length:Int))then some ([],[],3)else(G78 u).bind λJ=>(G79 (u.length:Int)).bind λE=>(A4 (F28 x) (0,u,J,E)).bind (LO.fin λU A=>if U=0 then Option.bind (bif decide (0<(A.2.2.2.length:Int))then G83 () A.2.2.2 else none) (fun(B:LI×LI)=>some (A.2.1,B.1,0))else none):=rfl
def XU(x:Sf×Int):G20028 x=(G75 x.1).bind λv0=>bif !v0 then some ([],[],1)else(G76 (x.2,0,i64.wrap (x.1.1-1))).bind λO=>bif !O then some ([],[],2)else(G77 x).bind λu=>bif decide (256<(u.length:Int))then some ([],[],3)else(G78 u).bind λJ=>(G79 (u.length:Int)).bind λE=>(A4 (F28 x) (0,u,J,E)).bind (LO.fin λU A=>if U=0 then(G10083 A.2.2.2).bind λB=>some (A.2.1,B,0)else none):=rfl
structure JI(n:Nat)(R:Nat->Nat->Prop)(j:List Int)(dn:Nat->Nat->Prop):Prop where
 ok:okJ j
 len:j.length=n
 hit:∀i k,dn i k->root j i=root j k
 gen:∀x y,x<n->y<n->root j x=root j y->Gen R x y
def JI.mono{d u:Nat->Nat->Prop}(h:JI n R j d)(hd:∀i k,u i k->d i k):JI n R j u:=⟨h.ok,h.len,λi k A=>h.hit i k (hd i k A),h.gen⟩
theorem JI.join{dn:Nat->Nat->Prop}(h:JI n R j dn)(Y:∀i k,dn i k->i<n/\k<n)(W:i<n)(U:k<n)(hr:R i k):
  ∃c E,G80 ((i:Int),(k:Int)) j=some (c,E)/\JI n R E (λa b=>dn a b\/(a=i/\b=k)):=by
 obtain⟨c,E,q1,q2,q3,q4⟩:=p80 h.ok (a:=i) (b:=k) (by rw[h.len];exact W) (by rw[h.len];exact U)
 have u:∀y,y<n->root E y=if root j y=max (root j i) (root j k)then min (root j i) (root j k)else root j y:=λy A=>q4 y (by rw[h.len];exact A)
 refine⟨c,E,q1,q2,by rw[q3,h.len],?_,?_⟩
 .rintro a b (hd|⟨rfl,rfl⟩)
  .obtain⟨ha,hb⟩:=Y a b hd
   rw[u a ha,u b hb,h.hit a b hd]
  .rw[u a W,u b U]
   split<;>split<;>omega
 .intro x y J A e
  rw[u x J,u y A]at e;have gk:Gen R i k:=.rel hr
  have g:∀z,z<n->root j z=max (root j i) (root j k)\/root j z=min (root j i) (root j k)->Gen R z i:=λz Z hc=>by
   have:root j z=root j i\/root j z=root j k:=by omega
   rcases this with e|e
   .exact h.gen z i Z W e
   .exact(h.gen z k Z U e).trans gk.symm
  by_cases O:root j x=max (root j i) (root j k)
  .by_cases B:root j y=max (root j i) (root j k)
   .exact h.gen x y J A (by rw[O,B])
   .rw[if_pos O,if_neg B]at e
    exact(g x J (.inl O)).trans (g y A (.inr e.symm)).symm
  .by_cases B:root j y=max (root j i) (root j k)
   .rw[if_neg O,if_pos B]at e
    exact(g x J (.inr e)).trans (g y A (.inl B)).symm
   .rw[if_neg O,if_neg B]at e
    exact h.gen x y J A e
def gluH(f:SF)(y:Int)(a e h i k:Nat):Prop:=a<ar (shS f)/\h<ar (shS f)/\∃x z d:Nat,fT (shS f) a=(x:Int)/\tT (shS f) a=(z:Int)/\fT (shS f) h=(z:Int)/\tT (shS f) h=y/\e<szN f x/\(act f a).getD e 0=(d:Int)/\
 i=(trp f y).idxOf (x,e,(T (shS f) a h).toNat)/\k=(trp f y).idxOf (z,d,h)
def QA{a e h:Nat}(A:gluH f y a e h i k):glu f y i k:=by
 obtain⟨B,u,x,z,d,E⟩:=A;exact⟨a,e,h,x,z,d,B,u,E⟩
def ZA(u:FS f):∀t∈trp f y,smT t:=λt A=>by
 have J:f.1<=8:=u.sh.hd.1.2;have B:ar (shS f)<=40:=u.sh.hd.2.1;obtain⟨E,U,O,_⟩:=B7.1 A;have:=(Hp u E).2;exact⟨by omega,by omega,by omega⟩
def dA(f:SF)(y:Int)(a i k:Nat):Prop:=∃u e h,u<a/\gluH f y u e h i k
def dE(f:SF)(y:Int)(a e i k:Nat):Prop:=dA f y a i k\/∃u h,u<e/\gluH f y a u h i k
def dH(f:SF)(y:Int)(a e m i k:Nat):Prop:=dE f y a e i k\/∃u,u<m/\gluH f y a e ((N3 (shS f) (tT (shS f) a) y).getD u 0) i k
abbrev V4:=Int×LL×List (ByteArray×Int)×LI
section
variable {f:SF} (hs:Km f=true) {y:Nat} (hb:(trp f y).length<=256)
include hs hb
theorem pF28:∃j,A4 (F28 (f,(y:Int))) (0,(trp f y).map Bs,mpS (trp f y) 0,IS (trp f y).length)=some (.brk 0 ((ar (shS f):Int),(trp f y).map Bs,mpS (trp f y) 0,j))/\JI (trp f y).length (glu f y) j (glu f y):=by
 have O:=C8 hs;have h40:ar (shS f)<=40:=O.sh.hd.2.1;have hm2:(shS f).2.1.length<=1048576:=by show ar (shS f)<=_;omega
 have a3:(shS f).2.2.1.length=(shS f).2.1.length:=O.sh.hd.2.2.1;have hA:f.2.2.2.2.2.2.length=ar (shS f):=O.l2;have hsm:=ZA O (y:=(y:Int));have hlt:∀i k,glu f y i k->i<(trp f y).length/\k<(trp f y).length:=λi k A=>⟨(HP hs A).1,(HP hs A).2.1⟩
 have dlt:∀a e m i k,dH f y a e m i k->i<(trp f y).length/\k<(trp f y).length:=λa e m i k hd=>by
  rcases hd with(⟨_,_,_,_,A⟩|⟨_,_,_,A⟩)|⟨_,_,A⟩<;>exact hlt i k (QA A)
 suffices key:∃o,A4 (F28 (f,(y:Int))) (0,(trp f y).map Bs,mpS (trp f y) 0,IS (trp f y).length)=some o/\∃j,o=LO.brk 0 ((ar (shS f):Int),(trp f y).map Bs,mpS (trp f y) 0,j)/\JI (trp f y).length (glu f y) j (dA f y (ar (shS f))) by
  obtain⟨o,ho,j,rfl,E⟩:=key;refine⟨j,ho,E.mono λi k A=>?_⟩
  obtain⟨a,e,h,x,z,d,J,hh,h1⟩:=A;exact⟨a,e,h,J,J,hh,x,z,d,h1⟩
 refine Jb (n:=ar (shS f)) (I:=λa v=>∃j,v=((a:Int),(trp f y).map Bs,mpS (trp f y) 0,j)/\JI (trp f y).length (glu f y) j (dA f y a))
  ⟨_,rfl,WG,Cm,(λi k hd=>by obtain⟨_,_,_,h0,_⟩:=hd;omega),λx z hx hz e=>by
   rw[Ni hx,Ni hz]at e;rw[e];exact .refl z⟩ (λa J v hv=>?_) λv hv=>?_
 rotate_left
 .obtain⟨j,rfl,E⟩:=hv
  refine⟨_,?_,(λy=>by simp),j,rfl,E⟩
  unfold F28;simp only[hA,Af,lt_irrefl,decide_false,cond_false]
 left;obtain⟨j0,rfl,hj0⟩:=hv;have haA:a<f.2.2.2.2.2.2.length:=by rw[hA];exact J
 have ha1:a<f.2.1.length:=J;have ha2:a<f.2.2.1.length:=by show a<(shS f).2.2.1.length;rw[a3];exact J
 obtain⟨x,ex,hx⟩:=K4 O J;obtain⟨z,W,hz⟩:=Vy O J;have exG:f.2.1.getD a 0=(x:Int):=ex;have ezG:f.2.2.1.getD a 0=(z:Int):=W;have eact:f.2.2.2.2.2.2.getD a []=act f a:=rfl;have hal:(act f a).length=szN f x:=by have:=(PX O J).1;rw[ex,tNC]at this;exact this
 have hsx:szN f x<=16:=(Hp O hx).2;have ec:((f.1,(f.2.1,(f.2.2.1,(f.2.2.2.1,f.2.2.2.2.1)))):Cat)=shS f:=rfl;unfold F28;simp only[Af,haA,decide_true,cond_true,Ac haA,and_self,if_true,tNC,eact]
 refine Mn (n:=szN f x) (I:=λe (u:V4)=>∃j,u=((e:Int),(trp f y).map Bs,mpS (trp f y) 0,j)/\JI (trp f y).length (glu f y) j (dE f y a e))
  (Q:=λo=>∃j,o=LO.brk 2 ((szN f x:Int),(trp f y).map Bs,mpS (trp f y) 0,j)/\JI (trp f y).length (glu f y) j (dE f y a (szN f x)))
  (Post:=λo:Option (LO V4 (LL×LI×Int))=>∃v,o=some (.next v)/\∃j,v=(((a+1:Nat):Int),(trp f y).map Bs,mpS (trp f y) 0,j)/\JI (trp f y).length (glu f y) j (dA f y (a+1)))
  ⟨_,rfl,hj0.mono λi k hd=>?_⟩ (λe Z u Y=>?_) (λu Y=>?_) λo ho=>?_
 .rcases hd with hd|⟨_,_,h0,_⟩
  .exact hd
  .omega
 rotate_left
 .obtain⟨j,rfl,E⟩:=Y
  refine⟨_,?_,(λy=>by simp),j,rfl,E⟩
  simp only[hal,Af,lt_irrefl,decide_false,cond_false]
 .obtain⟨j,rfl,E⟩:=ho
  refine⟨_,?_,j,rfl,E.mono λi k hd=>?_⟩
  .show(if 2=2 then _ else none)=_
   rw[if_pos rfl,Ah (by omega) (by omega)];rfl
  .obtain⟨a',e,h,hl,A⟩:=hd
   by_cases e1:a'=a
   .subst e1
    refine .inr ⟨e,h,?_,A⟩;obtain⟨_,_,x',_,_,ex',_,_,_,Z,_⟩:=A;have:x'=x:=by omega
    subst this;exact Z
   .exact .inl ⟨a',e,h,by omega,A⟩
 left;obtain⟨j1,rfl,hj1⟩:=Y;have hel:e<(act f a).length:=by omega
 obtain⟨_,d,ed,hd⟩:=Ka O J ex W Z;simp only[hal,Af,Z,decide_true,cond_true,Ac Z,and_self,if_true,Ac ha2,ec,ezG,p45 hm2 a3,bind_some,ed,tNC];have hhl:(JM (shS f) (z:Int) (y:Int)).length=(N3 (shS f) (tT (shS f) a) (y:Int)).length:=by rw[Xc,length_map,W]
 have hnl:(N3 (shS f) (tT (shS f) a) (y:Int)).length<=40:=le_trans I1 h40;rw[hhl]
 refine Mn (n:=(N3 (shS f) (tT (shS f) a) (y:Int)).length) (I:=λm (u:V4)=>∃j,u=((m:Int),(trp f y).map Bs,mpS (trp f y) 0,j)/\JI (trp f y).length (glu f y) j (dH f y a e m))
  (Q:=λo=>∃j,o=LO.brk 4 (((N3 (shS f) (tT (shS f) a) (y:Int)).length:Int),(trp f y).map Bs,mpS (trp f y) 0,j)/\JI (trp f y).length (glu f y) j (dH f y a e (N3 (shS f) (tT (shS f) a) (y:Int)).length))
  (Post:=λo:Option (LO V4 (LO V4 (LL×LI×Int)))=>∃v,o=some (.next v)/\∃j,v=(((e+1:Nat):Int),(trp f y).map Bs,mpS (trp f y) 0,j)/\JI (trp f y).length (glu f y) j (dE f y a (e+1)))
  ⟨_,rfl,hj1.mono λi k hd=>?_⟩ (λm U u Y=>?_) (λu Y=>?_) λo ho=>?_
 .rcases hd with hd|⟨_,h0,_⟩
  .exact hd
  .omega
 rotate_left
 .obtain⟨j,rfl,E⟩:=Y
  refine⟨_,?_,(λy=>by simp),j,rfl,E⟩
  simp only[Af,lt_irrefl,decide_false,cond_false]
 .obtain⟨j,rfl,E⟩:=ho
  refine⟨_,?_,j,rfl,E.mono λi k hd=>?_⟩
  .show(if 4=4 then _ else none)=_
   rw[if_pos rfl,Ah (by omega) (by omega)];rfl
  .rcases hd with hd|⟨e',h,hl,A⟩
   .exact .inl (.inl hd)
   .by_cases e1:e'=e
    .subst e1
     have B:h∈N3 (shS f) (tT (shS f) a) (y:Int):=by
      obtain⟨_,hh,x',z',_,_,ez',fh,th,_⟩:=A;exact Mp.2 ⟨hh,by rw[fh,ez'],th⟩
     obtain⟨m,U,em⟩:=List.getElem_of_mem B;refine .inr ⟨m,U,?_⟩;rw[gDE,gEE U,em];exact A
    .exact .inl (.inr ⟨e',h,by omega,A⟩)
 left;obtain⟨j,rfl,E⟩:=Y
 have B:(N3 (shS f) (tT (shS f) a) (y:Int)).getD m 0∈N3 (shS f) (tT (shS f) a) (y:Int):=by
  rw[gDE,gEE U];exact List.getElem_mem U
 have eh:(JM (shS f) (z:Int) (y:Int)).getD m 0=(((N3 (shS f) (tT (shS f) a) (y:Int)).getD m 0:Nat):Int):=by
  rw[Xc,<-W];simp[U]
 obtain⟨h,hh⟩:∃h,h=(N3 (shS f) (tT (shS f) a) (y:Int)).getD m 0:=⟨_,rfl⟩;rw[<-hh]at B eh;obtain⟨c1,c2,c3⟩:=Mp.1 B;have m2:((z,d,h):Trp)∈trp f y:=B7.2 ⟨hz,hd,c1,by rw[c2,W],c3⟩
 obtain⟨m1,t0⟩:=OE O m2 (a:=a) (e:=e) J W (by rw[ex,tNC];exact Z)
 rw[ex,tNC]at m1;have m1:((x,e,(T (shS f) a h).toNat):Trp)∈trp f y:=m1;have t0:0<=T (shS f) a h:=t0;obtain⟨q,hq⟩:∃q:Nat,T (shS f) a h=(q:Int):=⟨(T (shS f) a h).toNat,by omega⟩
 have hgl:gluH f y a e h ((trp f y).idxOf (x,e,(T (shS f) a h).toNat)) ((trp f y).idxOf (z,d,h)):=⟨J,c1,x,z,d,ex,W,by rw[c2,W],c3,Z,ed,rfl,rfl⟩
 obtain⟨cc,j',g1,g2⟩:=E.join (dlt a e m) (List.idxOf_lt_length_of_mem m1) (List.idxOf_lt_length_of_mem m2) (QA hgl)
 have n0:(0:Int)<(j.length:Int):=by
  have h1:=E.len;have h2:=List.idxOf_lt_length_of_mem m1;omega
 have er1:([(x:Int),((e:Int)),T (shS f) a h]:List Int)=Bs (x,e,(T (shS f) a h).toNat):=by unfold Bs;rw[hq,tNC]
 have er2:([(z:Int),((d:Int)),((h:Int))]:List Int)=Bs (z,d,h):=rfl
 have p82':G82 (shS f,((a:Int),(h:Int)))=some (T (shS f) a h):=by
  have:=p82 O.sh (f:=(a:Int)) (g:=(h:Int)) (Ac J) (Ac c1);rwa [tNC,tNC]at this
 simp only[Af,U,decide_true,cond_true,Ac U,and_self,if_true,tNC,eh,Ac ha1,Ac ha2,p82',bind_some,exG,ezG,er1,er2,p81,n0,Xj hsm m1,Xj hsm m2,g1];rw[Ah (by omega) (by omega)]
 refine⟨_,rfl,j',rfl,g2.mono λi k hd=>?_⟩
 rcases hd with hd|⟨m',hm',A⟩
 .exact .inl (.inl hd)
 .by_cases e1:m'=m
  .subst e1
   rw[<-hh]at A;right;obtain⟨_,_,x',z',d',e1,e2,_,_,_,e3,r1,r2⟩:=A;have:x'=x:=by omega
   subst this;have:z'=z:=by omega
   subst this;have:d'=d:=by omega
   subst this;exact⟨r1,r2⟩
  .exact .inl (.inr ⟨m',by omega,A⟩)
end
end
end Go.Ve.D

