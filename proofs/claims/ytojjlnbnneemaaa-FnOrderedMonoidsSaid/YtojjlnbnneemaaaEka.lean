/- The category of a preorder, told in full: the related pairs in order, their places. -/
import Derived.Test.YtojjlnbnneemaaaEja
import Derived.Test.YtojjlnbnneemaaaEda
set_option linter.all false
namespace Go.Ve.D
open Go Go.Ve
noncomputable section
variable{a b f k:Nat}
def VH(r:List (List Int))(i j:Nat):List (Int×Int):=((List.range j).filter λb=>decide (cell r i b=1)).map fun(b:Nat)=>((i:Int),(b:Int))
def BG(r:List (List Int))(n i j:Nat):List (Int×Int):=((List.range i).flatMap λa=>VH r a n)++VH r i j
variable {r:List (List Int)}{n i j:Nat}
def NN:VH r i (j+1)=VH r i j++(if cell r i j=1 then [((i:Int),(j:Int))]else []):=by
 unfold VH;rw[List.range_succ,List.filter_append,List.map_append]
 congr 1
 by_cases h:cell r i j=1<;>simp[h]
def CF(h:cell r i j=1):BG r n i (j+1)=BG r n i j++[((i:Int),(j:Int))]:=by
 unfold BG;rw[NN,if_pos h,List.append_assoc]
def BX(h:¬cell r i j=1):BG r n i (j+1)=BG r n i j:=by
 unfold BG;rw[NN,if_neg h,List.append_nil]
def CE:BG r n (i+1) 0=BG r n i n:=by
 unfold BG;rw[List.range_succ,List.flatMap_append];simp[VH]
theorem QD:(BG r n i j).length<=i*n+j:=by
 unfold BG
 have A:∀a m,(VH r a m).length<=m:=λa m=>by
  unfold VH;rw[List.length_map];exact Nat.le_trans (List.length_filter_le ..) (by simp)
 have B:∀i:Nat,((List.range i).flatMap λa=>VH r a n).length<=i*n:=λi=>by
  induction i with
  |zero=>simp
  |succ i E=>
   rw[List.range_succ,List.flatMap_append,List.length_append,Nat.add_mul];have:=A i n;have e:(List.flatMap (λa=>VH r a n) [i]).length=(VH r i n).length:=by simp
   omega
 rw[List.length_append];have:=A i j;have:=B i;omega
def ix(r:List (List Int))(n a b:Nat):Nat:=(BG r n a b).length
def lexB(n i j a b:Nat):Prop:=(a<i/\b<n)\/(a=i/\b<j)
def PAt(r:List (List Int))(n i j:Nat):Prop:=∀k,k<(BG r n i j).length->∃a b:Nat,cell r a b=1/\lexB n i j a b/\(BG r n i j).getD k (0,0)=((a:Int),(b:Int))/\k=ix r n a b
theorem Abq(h:PAt r n i 0):∀j,PAt r n i j:=by
 intro j
 induction j with
 |zero=>exact h
 |succ j O=>
  intro k E;by_cases F:cell r i j=1
  .rw[CF F]at E⊢
   by_cases B:k<(BG r n i j).length
   .obtain⟨a,b,M,A,L,J⟩:=O k B
    refine⟨a,b,M,?_,?_,J⟩
    .rcases A with A|A
     .exact .inl A
     .exact .inr ⟨A.1,by omega⟩
    .rw[gDE,gAL B,<-gDE]
     exact L
   .have e:k=(BG r n i j).length:=by simp at E;omega
    refine⟨i,j,F,.inr ⟨rfl,Nat.lt_succ_self j⟩,?_,e⟩;rw[gDE,gAR (by omega),e]
    simp
  .rw[BX F]at E⊢
   obtain⟨a,b,M,A,L,J⟩:=O k E;refine⟨a,b,M,?_,L,J⟩;rcases A with A|A
   .exact .inl A
   .exact .inr ⟨A.1,by omega⟩
theorem Abp:∀i,PAt r n i 0:=by
 intro i
 induction i with
 |zero=>intro k e;simp[BG,VH]at e
 |succ i B=>
  have h:=Abq B n;intro k e;rw[CE]at e⊢;obtain⟨a,b,J,A,F,E⟩:=h k e;refine⟨a,b,J,.inl ?_,F,E⟩;rcases A with A|A<;>omega
def ZX(h:j<=k):BG r n i j<+:BG r n i k:=by
 induction k with
 |zero=>rw[Nat.le_zero.1 h];exact List.prefix_rfl
 |succ k B=>
  by_cases e:j=k+1
  .rw[e];exact List.prefix_rfl
  .refine(B (by omega)).trans ?_
   by_cases A:cell r i k=1
   .rw[CF A];exact List.prefix_append ..
   .rw[BX A];exact List.prefix_rfl
def YM(h:i<=k):BG r n i 0<+:BG r n k 0:=by
 induction k with
 |zero=>rw[Nat.le_zero.1 h];exact List.prefix_rfl
 |succ k A=>
  by_cases e:i=k+1
  .rw[e];exact List.prefix_rfl
  .refine(A (by omega)).trans ?_
   rw[CE];exact ZX (Nat.zero_le _)
abbrev BB(r:List (List Int))(n:Nat):List (Int×Int):=BG r n n 0
def Abo(ha:a<n)(e:b<n):BG r n a (b+1)<+:BB r n:=by
 refine(ZX (by omega:b+1<=n)).trans ?_
 rw[<-CE];exact YM ha
def nP(r:List (List Int))(n:Nat):Nat:=(BB r n).length
def atP(r:List (List Int))(n k:Nat):Int×Int:=(BB r n).getD k (0,0)
theorem IV(ha:a<n)(B:b<n)(A:cell r a b=1):ix r n a b<nP r n/\atP r n (ix r n a b)=((a:Int),(b:Int)):=by
 obtain⟨t,e⟩:=Abo (r:=r) ha B;rw[CF A]at e;unfold nP atP;rw[<-e];unfold ix;refine⟨by simp,?_⟩
 rw[gDE,List.append_assoc,gAR (Nat.le_refl _)];simp
def CB(e:k<nP r n):∃a b:Nat,a<n/\b<n/\cell r a b=1/\atP r n k=((a:Int),(b:Int))/\k=ix r n a b:=by
 obtain⟨a,b,F,E,B,A⟩:=Abp n k e;unfold lexB at E;exact⟨a,b,by omega,by omega,F,B,A⟩
def pCo(r:List (List Int))(n f g:Nat):Int:=if(atP r n f).2=(atP r n g).1 then(ix r n (atP r n f).1.toNat (atP r n g).2.toNat:Int)else-1
def Cs(r:List (List Int))(n:Nat):Cat:=((n:Int),((BB r n).map (·.1),((BB r n).map (·.2),((List.range n).map fun(x:Nat)=>(ix r n x x:Int),(List.range (nP r n)).map λf=>(List.range (nP r n)).map λg=>pCo r n f g))))
def IE:ar (Cs r n)=nP r n:=by
 show((BB r n).map (·.1)).length=_
 rw[List.length_map];rfl
def DL:(Cs r n).2.1.getD k 0=(atP r n k).1:=by
 show((BB r n).map (·.1)).getD k 0=((BB r n).getD k (0,0)).1
 simp only[gDE,List.getElem?_map];cases (BB r n)[k]? <;>rfl
def DK:(Cs r n).2.2.1.getD k 0=(atP r n k).2:=by
 show((BB r n).map (·.2)).getD k 0=((BB r n).getD k (0,0)).2
 simp only[gDE,List.getElem?_map];cases (BB r n)[k]? <;>rfl
def JZ{x:Nat}(e:x<n):(Cs r n).2.2.2.1.getD x 0=(ix r n x x:Int):=by
 show((List.range n).map fun(x:Nat)=>(ix r n x x:Int)).getD x 0=_
 simp[e]
def ZY{g:Nat}(A:f<nP r n)(e:g<nP r n):T (Cs r n) f g=pCo r n f g:=by
 show(((List.range (nP r n)).map λf=>(List.range (nP r n)).map λg=>pCo r n f g).getD f []).getD g 0=_
 simp[A,e]
def YN(e:f<nP r n):((Cs r n).2.2.2.2.getD f []).length=nP r n:=by
 show(((List.range (nP r n)).map λf=>(List.range (nP r n)).map λg=>pCo r n f g).getD f []).length=_
 simp[e]
end
end Go.Ve.D


namespace Go.Ve.D
open Go Go.Ve
noncomputable section
variable{a b c d i j n:Nat}
theorem Np{n:Int}{x:List Int}(h:∀i,i<x.length->0<=x.getD i 0/\x.getD i 0<n):wi n x=true:=by
 unfold wi;refine aET.2 λa ha=>?_
 obtain⟨i,e,rfl⟩:=List.getElem_of_mem ha;have:=h i e;rw[gDE,gEE e]at this;exact DE.2 this
def Bq{p:Nat->Bool}(h:∀i,i<n->p i=true):(List.range n).all p=true:=aET.2 λi e=>h i (List.mem_range.1 e)
variable {r t:List (List Int)}{n:Nat}
def co(h:HB r n)(ha:a<n)(e:b<n)(hd:d<n)(B:cell r a b=1)(A:cell r b d=1):T (Cs r n) (ix r n a b) (ix r n b d)=(ix r n a d:Int):=by
 obtain⟨k1,F⟩:=IV ha e B;obtain⟨k2,E⟩:=IV e hd A;rw[ZY k1 k2];unfold pCo;rw[F,E,if_pos rfl];simp
theorem U1(h:HB r n)(hn:n<=8)(hm:nP r n<=40):HJ (Cs r n)=true:=by
 have U:∀k,k<nP r n->∃a b:Nat,a<n/\b<n/\cell r a b=1/\(Cs r n).2.1.getD k 0=(a:Int)/\(Cs r n).2.2.1.getD k 0=(b:Int)/\k=ix r n a b:=λk hk=>by
  obtain⟨a,b,h1,h2,h3,M,W⟩:=CB hk;exact⟨a,b,h1,h2,h3,by rw[DL,M],by rw[DK,M],W⟩
 have E:(Cs r n).2.1.length=nP r n:=IE
 have l2:(Cs r n).2.2.1.length=nP r n:=by
  show((BB r n).map (·.2)).length=_
  rw[List.length_map];rfl
 have Y:(Cs r n).2.2.2.1.length=n:=by
  show((List.range n).map _).length=_;simp
 have l4:(Cs r n).2.2.2.2.length=nP r n:=by
  show((List.range (nP r n)).map _).length=_;simp
 have O:(Cs r n).1=(n:Int):=rfl;unfold HJ;rw[bAE,bAE];refine⟨dT ⟨by rw[O];omega,by rw[E];exact hm,by rw[E,l2],Np λi A=>?_,Np λi A=>?_,by rw[l4,E],by rw[Y,O],Np λi A=>?_⟩,Bq λi A=>?_,Bq λf B=>?_⟩
 .obtain⟨a,b,h1,h2,h3,M,W,_⟩:=U i (E▸A)
  rw[M,O];omega
 .obtain⟨a,b,h1,h2,h3,M,W,_⟩:=U i (l2▸A)
  rw[W,O];omega
 .have A:i<n:=Y▸A
  rw[JZ A,E];have:=(IV A A (h.refl i A)).1;omega
 .have A:i<n:=Y▸A
  have e:=(IV A A (h.refl i A)).2;unfold Xo;rw[JZ A,tNC,DL,DK,e];simp
 .have B:f<nP r n:=E▸B
  unfold Iw;rw[YN B,E,dT rfl,Bool.true_and];refine Bq λg hg=>?_
  obtain⟨a,b,ha,hb,L,e1,e2,e3⟩:=U f B;obtain⟨a',b',Z,J,F,e1',e2',e3'⟩:=U g hg;have eT:((Cs r n).2.2.2.2.getD f []).getD g 0=pCo r n f g:=ZY B hg;unfold Cw;rw[eT,e2,e1'];unfold pCo;have q1:atP r n f=((a:Int),(b:Int)):=by rw[e3];exact(IV ha hb L).2
  have q2:atP r n g=((a':Int),(b':Int)):=by rw[e3'];exact(IV Z J F).2
  rw[q1,q2];by_cases e:(b:Int)=(a':Int)
  .have e0:b=a':=by omega
   subst e0;have hc:=h.tr a b b' ha hb J L F;obtain⟨k1,k2⟩:=IV ha J hc;simp only[if_true,decide_true,Bool.not_true,cond_false,tNC,e1,e2'];rw[DL,DK,k2,E];simp only[decide_true,Bool.and_true];exact DE.2 (by omega)
  .simp[e]
theorem YO(h:HB r n)(hn:n<=8)(hm:nP r n<=40):H5 (Cs r n)=true:=by
 have hl:(Cs r n).2.1.length=nP r n:=IE;unfold H5;rw[U1 h hn hm,Bool.true_and];unfold MM;rw[hl,bAE]
 have B:∀a:Nat,a<n->idn (Cs r n) (a:Int)=ix r n a a:=λa ha=>by
  unfold idn;rw[tNC,JZ ha,tNC]
 refine⟨Bq λf W=>?_,Bq λf W=>Bq λg hg=>?_⟩
 .obtain⟨a,b,ha,J,A,e1,e2⟩:=CB W
  unfold K2;rw[DL,DK,e1];simp only;rw[B a ha,B b J,e2,co h ha ha J (h.refl a ha) A,co h ha J J A (h.refl b J)];simp
 .obtain⟨a,b,ha,J,A,e1,e2⟩:=CB W
  obtain⟨a',b',ha',F,e,U,Z⟩:=CB hg;cases O:mt (Cs r n) f g with
  |false=>rfl
  |true=>
  have e0:b=a':=by
   unfold mt at O;rw[DL,DK,e1,U]at O;have:=of_decide_eq_true O;simp only at this;omega
  subst e0;simp only[cond_true];refine Bq λk hk=>?_
  obtain⟨a2,b2,ha2,M,L,e12,Y⟩:=CB hk;unfold Kz;cases E:mt (Cs r n) g k with
  |false=>rfl
  |true=>
  have e0:b'=a2:=by
   unfold mt at E;rw[DL,DK,U,e12]at E;have:=of_decide_eq_true E;simp only at this;omega
  subst e0;have c1:=h.tr a b b' ha J F A e;have c2:=h.tr b b' b2 J F M e L;simp only[cond_true];rw[e2,Z,Y,co h ha J F A e,co h J F M e L,tNC,tNC,co h ha F M c1 L,co h ha J M A c2];simp
def tt(t:List (List Int))(i j:Nat):Nat:=(cell t i j).toNat
structure Cn(t:List (List Int))(n:Nat):Prop where
 tb:TB t n
 pos:0<n
 wh:BU t 0=true
theorem B2(h:TB t n)(E:i<n)(B:j<n):tt t i j<n/\cell t i j=(tt t i j:Int):=by
 obtain⟨k,A,e⟩:=h.val i j E B;unfold tt;rw[e];simp[A]
def Cn.un(h:Cn t n)(A:i<n):tt t 0 i=i/\tt t i 0=i:=by
 have e:=aET.1 h.wh i (by rw[h.tb.len];exact List.mem_range.2 A)
 unfold whC unC at e;simp only[bAE,decide_eq_true_eq]at e;unfold tt;rw[e.1.1,e.1.2];simp
def Cn.as(h:Cn t n){k:Nat}(F:i<n)(E:j<n)(B:k<n):tt t (tt t i j) k=tt t i (tt t j k):=by
 have e:=aET.1 h.wh i (by rw[h.tb.len];exact List.mem_range.2 F)
 unfold whC at e;rw[bAE]at e;have L:=aET.1 e.2 j (by rw[h.tb.len];exact List.mem_range.2 E)
 have A:=aET.1 L k (by rw[h.tb.len];exact List.mem_range.2 B)
 unfold asC at A;have J:=of_decide_eq_true A;unfold tt;rw[J]
def Cmp(r t:List (List Int))(n:Nat):Prop:=∀a b c,a<n->b<n->c<n->cell r a b=1->cell r (tt t a c) (tt t b c)=1/\cell r (tt t c a) (tt t c b)=1
def Aap(h:HB r n)(B:Cn t n)(E:Cmp r t n)(ha:a<n)(A:b<n)(e:c<n)(hd:d<n)(J:cell r a b=1)(F:cell r c d=1):cell r (tt t a c) (tt t b d)=1:=
 h.tr _ _ _ (B2 B.tb ha e).1 (B2 B.tb A e).1 (B2 B.tb A hd).1 (E a b c ha A e J).1 (E c d b e hd A F).2
def nF(r:List (List Int))(n k:Nat):Nat:=(atP r n k).1.toNat
def nT(r:List (List Int))(n k:Nat):Nat:=(atP r n k).2.toNat
def amC(r t:List (List Int))(n f g:Nat):Int:=(ix r n (tt t (nF r n f) (nF r n g)) (tt t (nT r n f) (nT r n g)):Int)
def amP(r t:List (List Int))(n:Nat):List (List Int):=(List.range (nP r n)).map λf=>(List.range (nP r n)).map λg=>amC r t n f g
def amP_c{f g:Nat}(A:f<nP r n)(e:g<nP r n):cell (amP r t n) f g=amC r t n f g:=by
 unfold cell amP;simp[A,e]
def DN(h:HB r n)(L:Cn t n)(M:Cmp r t n)(ha:a<n)(A:b<n)(e:c<n)(hd:d<n)(E:cell r a b=1)(B:cell r c d=1):cell (amP r t n) (ix r n a b) (ix r n c d)=(ix r n (tt t a c) (tt t b d):Int):=by
 obtain⟨k1,J⟩:=IV ha A E;obtain⟨k2,F⟩:=IV e hd B;rw[amP_c k1 k2];unfold amC nF nT;rw[J,F];simp
theorem amP_tb(h:HB r n)(E:Cn t n)(M:Cmp r t n):TB (amP r t n) (nP r n):=by
 refine⟨by simp[amP],λi F=>by simp[amP,F],λi j F O=>?_⟩
 obtain⟨a,b,ha,J,B,Y,U⟩:=CB F;obtain⟨c,d,e,hd,A,W,L⟩:=CB O;refine⟨_,?_,by rw[U,L];exact DN h E M ha J e hd B A⟩
 exact(IV (B2 E.tb ha e).1 (B2 E.tb J hd).1 (Aap h E M ha J e hd B A)).1
theorem ZM{t:List (List Int)}(h:TB t n):tbl t (n:Int)=true:=by
 unfold tbl sqB;rw[h.len,dT rfl,Bool.true_and];refine Bq λi e=>?_
 unfold rowB;rw[h.row i e,h.len,dT rfl,Bool.true_and];refine Np λj B=>?_
 obtain⟨k,E,A⟩:=h.val i j e (h.row i e▸B);unfold cell at A;rw[A];omega
theorem QE(h:HB r n)(B:Cn t n)(O:Cmp r t n)(hn:n<=8)(hm40:nP r n<=40):OG (Cs r n) 0 t (amP r t n)=true:=by
 have hcat:=YO h hn hm40;have har:ar (Cs r n)=nP r n:=IE;have L:=B.pos;have ham:=amP_tb h B O
 have ida:∀x,x<n->idA (Cs r n) x=ix r n x x:=λx J=>by
  unfold idA;rw[JZ J,tNC]
 have fte:∀{a b:Nat},a<n->b<n->cell r a b=1->fT (Cs r n) (ix r n a b)=(a:Int)/\tT (Cs r n) (ix r n a b)=(b:Int):=λha F E=>by
  unfold fT tT;rw[DL,DK,(IV ha F E).2];exact⟨rfl,rfl⟩
 have o1:(Cs r n).1=(n:Int):=rfl;unfold OG KU;simp only[bAE];refine⟨⟨⟨hcat,DE.2 (by rw[o1];omega)⟩,by rw[o1];exact ZM B.tb,by rw[har];exact ZM ham⟩,⟨⟨?_,B.wh⟩,?_⟩,?_,?_⟩
 .unfold P3
  rw[har];refine Bq λf hf=>Bq λg hg=>?_
  obtain⟨a,b,ha,F,E,e1,e2⟩:=CB hf;obtain⟨c,d,A,hd,M,e1',Y⟩:=CB hg;have hr:=Aap h B O ha F A hd E M;obtain⟨q1,q2⟩:=fte ha F E;obtain⟨q3,q4⟩:=fte A hd M;obtain⟨q5,q6⟩:=fte (B2 B.tb ha A).1 (B2 B.tb F hd).1 hr;unfold enC;rw[e2,Y,DN h B O ha F A hd E M,tNC,q1,q2,q3,q4,q5,q6];simp only[tNC];rw[bAE];exact⟨dT (B2 B.tb ha A).2.symm,dT (B2 B.tb F hd).2.symm⟩
 .rw[show((0:Int)).toNat=0 from rfl,ida 0 L]
  unfold BU;rw[ham.len];have r0:=h.refl 0 L;refine Bq λi hi=>?_
  obtain⟨a,b,ha,F,E,e1,e2⟩:=CB hi;unfold whC unC;rw[ham.len,e2,DN h B O L L ha F r0 E,DN h B O ha F L L E r0,(B.un ha).1,(B.un ha).2,(B.un F).1,(B.un F).2];simp only[decide_true,Bool.true_and];refine Bq λj hj=>Bq λk hk=>?_
  obtain⟨c,d,A,hd,M,e1',Y⟩:=CB hj;obtain⟨x,y,J,U,hxy,e1'',e2''⟩:=CB hk;have hr:=Aap h B O ha F A hd E M;have hr2:=Aap h B O A hd J U M hxy;unfold asC;rw[Y,e2'',DN h B O ha F A hd E M,DN h B O A hd J U M hxy,tNC,tNC,DN h B O (B2 B.tb ha A).1 (B2 B.tb F hd).1 J U hr hxy,DN h B O ha F (B2 B.tb A J).1 (B2 B.tb hd U).1 E hr2,B.as ha A J,B.as F hd U];simp
 .unfold Q3
  rw[o1,tNC];refine Bq λx J=>Bq λy U=>?_
  obtain⟨k1,k2⟩:=B2 B.tb J U;unfold idM;rw[ida x J,ida y U,DN h B O J J U U (h.refl x J) (h.refl y U),k2,tNC,JZ k1];simp
 .unfold Aah
  rw[har];refine Bq λf hf=>Bq λk hk=>?_
  obtain⟨a,b,ha,F,E,e1,e2⟩:=CB hf;obtain⟨b',c,hb',A,hbc,e1',Y⟩:=CB hk;unfold exF;cases hmt:mt (Cs r n) f k with
  |false=>rfl
  |true=>
  have e0:b=b':=by
   unfold mt at hmt;rw[DL,DK,e1,e1']at hmt;have:=of_decide_eq_true hmt;simp only at this;omega
  subst e0;rw[Bool.not_true,Bool.false_or,har];refine Bq λg hg=>Bq λl hl=>?_
  obtain⟨d,e,hd,he,hde,f1,f2⟩:=CB hg;obtain⟨e',x,he',J,Z,f1',f2'⟩:=CB hl;unfold exC;cases W:mt (Cs r n) g l with
  |false=>rfl
  |true=>
  have e0:e=e':=by
   unfold mt at W;rw[DL,DK,f1,f1']at W;have:=of_decide_eq_true W;simp only at this;omega
  subst e0;have c1:=h.tr a b c ha F A E hbc;have c2:=h.tr d e x hd he J hde Z;have c3:=Aap h B O ha F hd he E hde;have c4:=Aap h B O F A he J hbc Z;rw[Bool.not_true,Bool.false_or,e2,Y,f2,f2',co h ha F A E hbc,co h hd he J hde Z,tNC,tNC,DN h B O ha A hd J c1 c2,DN h B O ha F hd he E hde,DN h B O F A he J hbc Z,tNC,tNC,co h (B2 B.tb ha hd).1 (B2 B.tb F he).1 (B2 B.tb A J).1 c3 c4];simp
end
end Go.Ve.D


namespace Go.Ve.D
open Go Go.Ve
noncomputable section
variable{i k:Nat}{α:Type}
def UN(t:List (List Int))(n i j:Nat):List Int:=(List.range j).map fun(b:Nat)=>(ix t n i b:Int)
def NU(t:List (List Int))(n i:Nat):List (List Int):=(List.range i).map λa=>UN t n a n
def idN(t:List (List Int))(n i:Nat):List Int:=(List.range i).map fun(x:Nat)=>(ix t n x x:Int)
def Wu(t:List (List Int))(n f j:Nat):List Int:=(List.range j).map λg=>pCo t n f g
def CO(t:List (List Int))(n i:Nat):List (List Int):=(List.range i).map λf=>Wu t n f (nP t n)
variable {t:List (List Int)}{n:Nat}
def HI{f:Nat->α}:(List.range i).map f++[f i]=(List.range (i+1)).map f:=by
 rw[List.range_succ,List.map_append];rfl
def getR{f:Nat->α}{d:α}(h:k<i):((List.range i).map f).getD k d=f k:=by simp[h]
theorem atF:((BB t n).map (λp:Int×Int=>p.1)).getD k 0=(atP t n k).1:=DL (r:=t)
theorem atT:((BB t n).map (λp:Int×Int=>p.2)).getD k 0=(atP t n k).2:=DK (r:=t)
def ix_le{a b:Nat}(ha:a<n)(A:b<=n)(hn:n<=1000):ix t n a b<=1000000:=by
 have B:ix t n a b<=a*n+b:=QD;have e:(a+1)*n<=1000*1000:=Nat.mul_le_mul (by omega) hn
 rw[Nat.add_mul]at e;omega
def YU(hn:n<=1000):nP t n<=1000000:=by
 have A:nP t n<=n*n+0:=QD;have e:n*n<=1000*1000:=Nat.mul_le_mul hn hn;omega
theorem p48x(hsq:Sq n t)(hn:n<=1000):Tot (λc=>c=Cs t n) (G48 t):=by
 unfold G48;have htl:t.length=n:=hsq.1
 have hr:∀x y:Nat,x<n->y<n->((0:Int)<=(y:Int))/\((y:Int)<(((t.getD ((x:Int)).toNat []).length:Nat):Int)):=λx y hx hy=>by
  rw[tNC,hsq.2 x hx];omega
 have hc:∀x y:Nat,(t.getD ((x:Int)).toNat []).getD ((y:Int)).toNat 0=cell t x y:=λx y=>by
  rw[tNC,tNC];rfl
 refine Ao (n:=n) (λi v=>v.1=(i:Int)/\v.2.2.2.2.2.2.1=NU t n i/\v.2.2.2.2.2.2.2.2.1=(BG t n i 0).map (λp:Int×Int=>p.1)/\v.2.2.2.2.2.2.2.2.2.1=(BG t n i 0).map (λp:Int×Int=>p.2)/\v.2.2.2.2.2.2.2.1=(n:Int)/\v.2.2.2.2.2.2.2.2.2.2.1=[]/\v.2.2.2.2.2.2.2.2.2.2.2=[]) ⟨rfl,rfl,rfl,rfl,by show((t.length:Nat):Int)=_;omega,rfl,rfl⟩ (λi hi v M=>?_) λv M=>?_
 .obtain⟨k,r0,r1,r2,r3,r4,nu,co,F,T,Id,Co⟩:=v
  obtain⟨(O:k=(i:Int)),Z,hF,hT,hco,hId,hCo⟩:=M;subst O;refine AY (by show decide ((i:Int)<((t.length:Nat):Int))=true;exact dT (by omega)) (Ao (n:=n) (λj v=>v.1=(j:Int)/\v.2.2.2.2.2.2.1=nu/\v.2.2.2.2.2.2.2.2.1=(BG t n i j).map (λp:Int×Int=>p.1)/\v.2.2.2.2.2.2.2.2.2.1=(BG t n i j).map (λp:Int×Int=>p.2)/\v.2.2.2.2.2.2.2.1=(n:Int)/\v.2.2.2.2.2.2.2.2.2.2.1=[]/\v.2.2.2.2.2.2.2.2.2.2.2.1=[]/\v.2.2.2.2.2.2.2.2.2.2.2.2=UN t n i j) ⟨rfl,rfl,hF,hT,hco,hId,hCo,rfl⟩ (λj hj v M=>?_) λv M=>?_)
  .obtain⟨k,q0,q1,q2,q3,q4,U,co2,F2,T2,Id2,Co2,row⟩:=v
   obtain⟨(O:k=(j:Int)),B,(Y:F2=_),(W:T2=_),E,J,L,(A:row=_)⟩:=M;subst O Y W A;have hb:(BG t n i j).length<=1000000:=ix_le hi (by omega) hn
   have hl1:((BG t n i j).map (λp:Int×Int=>p.1)).length=ix t n i j:=List.length_map ..
   have hl2:((BG t n i j).map (λp:Int×Int=>p.2)).length=ix t n i j:=List.length_map ..
   have hl3:(UN t n i j).length=j:=by simp[UN]
   have hb:ix t n i j<=1000000:=hb
   have A:UN t n i j++[((((BG t n i j).map (λp:Int×Int=>p.1)).length:Nat):Int)]=UN t n i (j+1):=by
    rw[hl1];exact HI
   refine AY (by show decide ((j:Int)<((t.length:Nat):Int))=true;exact dT (by omega)) (Ab (by show(UN t n i j).length+1<=_;omega) (Ab (by show(0:Int)<=(i:Int)/\(i:Int)<((t.length:Nat):Int);omega) (Ab (hr i j hi hj) (Ak (λe=>?_) λe=>?_))))
   .have e:decide ((t.getD ((i:Int)).toNat []).getD ((j:Int)).toNat 0=1)=true:=e
    rw[hc]at e;have e:=Bz e;refine Ab (by show((BG t n i j).map (λp:Int×Int=>p.1)).length+1<=_;omega) (Ab (by show((BG t n i j).map (λp:Int×Int=>p.2)).length+1<=_;omega) (Aa ⟨wr1 hj (by omega),B,?_,?_,E,J,L,A⟩))
    .show(BG t n i j).map (λp:Int×Int=>p.1)++[(i:Int)]=_
     rw[CF e,List.map_append];rfl
    .show(BG t n i j).map (λp:Int×Int=>p.2)++[(j:Int)]=_
     rw[CF e,List.map_append];rfl
   .have e:decide ((t.getD ((i:Int)).toNat []).getD ((j:Int)).toNat 0=1)=false:=e
    rw[hc]at e;have e:=DF e;refine Aa ⟨wr1 hj (by omega),B,?_,?_,E,J,L,A⟩
    .show(BG t n i j).map (λp:Int×Int=>p.1)=_
     rw[BX e]
    .show(BG t n i j).map (λp:Int×Int=>p.2)=_
     rw[BX e]
  .obtain⟨k,q0,q1,q2,q3,q4,U,co2,F2,T2,Id2,Co2,row⟩:=v
   obtain⟨(O:k=(n:Int)),(B:U=nu),Y,W,E,J,L,(A:row=_)⟩:=M;subst O B A;have Z:U=NU t n i:=Z;subst Z;have hl:(NU t n i).length=i:=by simp[NU]
   refine AH (by show decide ((n:Int)<((t.length:Nat):Int))=false;exact dF (by omega)) (Aa (Ab rfl (Ab trivial (Ab (by show(NU t n i).length+1<=_;omega) (Aa ⟨wr1 hi (by omega),HI,?_,?_,E,J,L⟩)))))
   .rw[CE];exact Y
   .rw[CE];exact W
 .obtain⟨k,r0,r1,r2,r3,r4,nu,co,F,T,Id,Co⟩:=v
  obtain⟨(O:k=(n:Int)),(Z:nu=NU t n n),(hF:F=(BB t n).map (λp:Int×Int=>p.1)),(hT:T=(BB t n).map (λp:Int×Int=>p.2)),(hco:co=(n:Int)),(hId:Id=[]),(hCo:Co=[])⟩:=M
  subst O hco hId hCo Z hF hT;have hb:=YU (t:=t) hn;have lF:((BB t n).map (λp:Int×Int=>p.1)).length=nP t n:=List.length_map ..
  have lT:((BB t n).map (λp:Int×Int=>p.2)).length=nP t n:=List.length_map ..
  have lN:(NU t n n).length=n:=by simp[NU]
  have gN:∀a,a<n->(NU t n n).getD a []=UN t n a n:=λa ha=>getR ha
  have gR:∀a b,b<n->(UN t n a n).getD b 0=(ix t n a b:Int):=λa b hb=>getR hb
  have lR:∀a,(UN t n a n).length=n:=λa=>by simp[UN]
  refine AH (by show decide ((n:Int)<((t.length:Nat):Int))=false;exact dF (by omega)) (Aa (Ab rfl ?_))
  refine Ao (n:=n) (λi v=>v.1=(i:Int)/\v.2.2.2.2.2.2.1=NU t n n/\v.2.2.2.2.2.2.2.2.1=(BB t n).map (λp:Int×Int=>p.1)/\v.2.2.2.2.2.2.2.2.2.1=(BB t n).map (λp:Int×Int=>p.2)/\v.2.2.2.2.2.2.2.1=(n:Int)/\v.2.2.2.2.2.2.2.2.2.2.1=idN t n i/\v.2.2.2.2.2.2.2.2.2.2.2=[]) ⟨rfl,rfl,rfl,rfl,rfl,rfl,rfl⟩ (λi hi v M=>?_) λv M=>?_
  .obtain⟨k,q0,q1,q2,q3,q4,U,co2,F2,T2,Id2,Co2⟩:=v
   obtain⟨(O:k=(i:Int)),(B:U=_),Y,W,E,(J:Id2=_),L⟩:=M;subst O B J;have lI:(idN t n i).length=i:=by simp[idN]
   have e1:((NU t n n).getD ((i:Int)).toNat [])=UN t n i n:=by rw[tNC,gN i hi]
   refine AY (by show decide ((i:Int)<((t.length:Nat):Int))=true;exact dT (by omega)) (Ab (by show(0:Int)<=(i:Int)/\(i:Int)<(((NU t n n).length:Nat):Int);omega) (Ab ?_ (Ab (by show(idN t n i).length+1<=_;omega) (Aa ⟨wr1 hi (by omega),rfl,Y,W,E,?_,L⟩))))
   .show(0:Int)<=(i:Int)/\(i:Int)<((((NU t n n).getD ((i:Int)).toNat []).length:Nat):Int)
    rw[e1,lR];omega
   .show idN t n i++[((NU t n n).getD ((i:Int)).toNat []).getD ((i:Int)).toNat 0]=idN t n (i+1)
    rw[e1,tNC,gR i i hi];exact HI
  .obtain⟨k,q0,q1,q2,q3,q4,U,co2,F2,T2,Id2,Co2⟩:=v
   obtain⟨(O:k=(n:Int)),(B:U=_),(Y:F2=_),(W:T2=_),(E:co2=(n:Int)),(J:Id2=_),(L:Co2=[])⟩:=M;subst O B Y W E L J;refine AH (by show decide ((n:Int)<((t.length:Nat):Int))=false;exact dF (by omega)) (Aa (Ab rfl ?_))
   refine Ao (n:=nP t n) (λi v=>v.1=(i:Int)/\v.2.2.2.2.2.2.1=NU t n n/\v.2.2.2.2.2.2.2.2.1=(BB t n).map (λp:Int×Int=>p.1)/\v.2.2.2.2.2.2.2.2.2.1=(BB t n).map (λp:Int×Int=>p.2)/\v.2.2.2.2.2.2.2.1=(n:Int)/\v.2.2.2.2.2.2.2.2.2.2.1=idN t n n/\v.2.2.2.2.2.2.2.2.2.2.2=CO t n i) ⟨rfl,rfl,rfl,rfl,rfl,rfl,rfl⟩ (λf hf v M=>?_) λv M=>?_
   .obtain⟨k,q0,q1,q2,q3,q4,nu3,co3,F3,T3,Id3,Co3⟩:=v
    obtain⟨(O:k=(f:Int)),(hnu3:nu3=_),(hF3:F3=_),(hT3:T3=_),hco3,hId3,(hCo3:Co3=_)⟩:=M;subst O hnu3 hF3 hT3 hCo3;have lC:(CO t n f).length=f:=by simp[CO]
    refine AY (by show decide ((f:Int)<((((BB t n).map (λp:Int×Int=>p.1)).length:Nat):Int))=true;exact dT (by omega)) (Ao (n:=nP t n) (λg v=>v.1=(g:Int)/\v.2=Wu t n f g) ⟨rfl,rfl⟩ (λg hg v M=>?_) λv M=>?_)
    .obtain⟨k,row⟩:=v
     obtain⟨(O:k=(g:Int)),(A:row=_)⟩:=M;subst O A;obtain⟨a,b,ha,hb',hab,e1,e2⟩:=CB hf;obtain⟨a',b',ha',hb'',hab',e1',e2'⟩:=CB hg;have lW:(Wu t n f g).length=g:=by simp[Wu]
     have y1:((BB t n).map (λp:Int×Int=>p.1)).getD ((f:Int)).toNat 0=(a:Int):=by rw[tNC,atF,e1]
     have y2:((BB t n).map (λp:Int×Int=>p.2)).getD ((f:Int)).toNat 0=(b:Int):=by rw[tNC,atT,e1]
     have y3:((BB t n).map (λp:Int×Int=>p.1)).getD ((g:Int)).toNat 0=(a':Int):=by rw[tNC,atF,e1']
     have y4:((BB t n).map (λp:Int×Int=>p.2)).getD ((g:Int)).toNat 0=(b':Int):=by rw[tNC,atT,e1']
     have i1:(0:Int)<=(f:Int)/\(f:Int)<((((BB t n).map (λp:Int×Int=>p.2)).length:Nat):Int):=by omega
     have i2:(0:Int)<=(g:Int)/\(g:Int)<((((BB t n).map (λp:Int×Int=>p.1)).length:Nat):Int):=by omega
     have i3:(0:Int)<=(f:Int)/\(f:Int)<((((BB t n).map (λp:Int×Int=>p.1)).length:Nat):Int):=by omega
     have i4:(0:Int)<=(g:Int)/\(g:Int)<((((BB t n).map (λp:Int×Int=>p.2)).length:Nat):Int):=by omega
     refine AY (by show decide ((g:Int)<((((BB t n).map (λp:Int×Int=>p.1)).length:Nat):Int))=true;exact dT (by omega)) (Ab i1 (Ab i2 (Ak (λe=>?_) λe=>?_)))
     .have e:decide (((BB t n).map (λp:Int×Int=>p.2)).getD ((f:Int)).toNat 0=((BB t n).map (λp:Int×Int=>p.1)).getD ((g:Int)).toNat 0)=true:=e
      rw[y2,y3]at e;have e:=Bz e;have hN:(NU t n n).getD (((BB t n).map (λp:Int×Int=>p.1)).getD ((f:Int)).toNat 0).toNat []=UN t n a n:=by rw[y1,tNC,gN a ha]
      refine Ab i3 (Ab ?_ (Ab i4 (Ab ?_ (Ab (by show(Wu t n f g).length+1<=_;omega) (Aa ⟨wr1 hg (by omega),?_⟩)))))
      .show 0<=((BB t n).map (λp:Int×Int=>p.1)).getD ((f:Int)).toNat 0/\((BB t n).map (λp:Int×Int=>p.1)).getD ((f:Int)).toNat 0<(((NU t n n).length:Nat):Int)
       rw[y1,lN];omega
      .show 0<=((BB t n).map (λp:Int×Int=>p.2)).getD ((g:Int)).toNat 0/\((BB t n).map (λp:Int×Int=>p.2)).getD ((g:Int)).toNat 0<((((NU t n n).getD (((BB t n).map (λp:Int×Int=>p.1)).getD ((f:Int)).toNat 0).toNat []).length:Nat):Int)
       rw[hN,lR,y4];omega
      .show Wu t n f g++[((NU t n n).getD (((BB t n).map (λp:Int×Int=>p.1)).getD ((f:Int)).toNat 0).toNat []).getD (((BB t n).map (λp:Int×Int=>p.2)).getD ((g:Int)).toNat 0).toNat 0]=Wu t n f (g+1)
       rw[hN,y4,tNC,gR a b' hb'']
       have:(ix t n a b':Int)=pCo t n f g:=by
        unfold pCo;rw[e1,e1',if_pos e];simp
       rw[this];exact HI
     .have e:decide (((BB t n).map (λp:Int×Int=>p.2)).getD ((f:Int)).toNat 0=((BB t n).map (λp:Int×Int=>p.1)).getD ((g:Int)).toNat 0)=false:=e
      rw[y2,y3]at e;have e:=DF e;refine Ab (by show(Wu t n f g).length+1<=_;omega) (Aa ⟨wr1 hg (by omega),?_⟩)
      show Wu t n f g++[(-1:Int)]=Wu t n f (g+1);have:(-1:Int)=pCo t n f g:=by
       unfold pCo;rw[e1,e1',if_neg e]
      rw[this];exact HI
    .obtain⟨k,row⟩:=v
     obtain⟨(O:k=(nP t n:Int)),(A:row=_)⟩:=M;subst O A;refine AH (by show decide ((nP t n:Int)<((((BB t n).map (λp:Int×Int=>p.1)).length:Nat):Int))=false;exact dF (by omega)) (Aa (Ab rfl (Ab trivial (Ab (by show(CO t n f).length+1<=_;omega) (Aa ⟨wr1 hf (by omega),rfl,rfl,rfl,hco3,hId3,HI⟩)))))
   .obtain⟨k,q0,q1,q2,q3,q4,nu3,co3,F3,T3,Id3,Co3⟩:=v
    obtain⟨(O:k=(nP t n:Int)),hnu3,(hF3:F3=_),(hT3:T3=_),(hco3:co3=(n:Int)),(hId3:Id3=_),(hCo3:Co3=_)⟩:=M;subst O hF3 hT3 hco3 hId3 hCo3;exact AH (by show decide ((nP t n:Int)<((((BB t n).map (λp:Int×Int=>p.1)).length:Nat):Int))=false;exact dF (by omega)) (Aa (Ab rfl (Aa rfl)))
end
end Go.Ve.D


namespace Go.Ve.D
open Go Go.Ve
noncomputable section
variable {t:List (List Int)}{n:Nat}
def H01(t:List (List Int))(n:Nat):Prop:=Sq n t/\∀i j,i<n->j<n->cell t i j=0\/cell t i j=1
def bnc0:AcH .i64 0 1=0:=by decide
def bnc1:AcH .i64 1 1=0:=by decide
theorem H01.sqB(h:H01 t n):sqB t 2=true:=by
 unfold Go.Ve.D.sqB;rw[h.1.1];refine Bq λi e=>?_
 unfold rowB;rw[h.1.2 i e,h.1.1,dT rfl,Bool.true_and];refine Np λj A=>?_
 have:=h.2 i j e (h.1.2 i e▸A);unfold cell at this;omega
theorem p46x(h:H01 t n)(hn:n<=1000):Tot (λb=>b=true↔HB t n) (G46 t):=by
 obtain⟨b,E,h1⟩:=p46 (t:=t) (h.1.okN hn);refine⟨b,E,λe=>by rw[<-h.1.1];exact h1 e,λW=>?_⟩
 have key:Tot (λb=>b=true) (G46 t):=by
  unfold G46;have Z:t.length=n:=h.1.1
  have U:∀x y:Nat,x<n->y<n->((0:Int)<=(y:Int))/\((y:Int)<(((t.getD ((x:Int)).toNat []).length:Nat):Int)):=λx y F hy=>by
   rw[tNC,h.1.2 x F];omega
  have B:∀x:Nat,x<n->((0:Int)<=(x:Int))/\((x:Int)<((t.length:Nat):Int)):=λx F=>by omega
  have J:∀x:Nat,x<n->decide ((x:Int)<((t.length:Nat):Int))=true:=λx F=>dT (by omega)
  have L:decide ((n:Int)<((t.length:Nat):Int))=false:=dF (by omega)
  have M:∀x y:Nat,(t.getD ((x:Int)).toNat []).getD ((y:Int)).toNat 0=cell t x y:=λx y=>by
   rw[tNC,tNC];rfl
  have Y:=h.1.okN (m:=1048576) (by omega)
  refine AI (p98 Y.1 Y.2) ?_;rw[h.sqB];refine AH rfl (Ao (n:=n) (λi v=>v=(i:Int)) rfl (λa ha v A=>?_) λv A=>?_)
  .subst A
   refine AY (J a ha) (Ab (B a ha) (Ab (U a a ha ha) (AH (by rw[M,W.refl a ha];rfl) (Ao (n:=n) (λi v=>v=(i:Int)) rfl (λb E v A=>?_) λv A=>?_))))
   .subst A
    refine AY (J b E) (Ao (n:=n) (λi v=>v=(i:Int)) rfl (λd hd v A=>?_) λv A=>?_)
    .subst A
     refine AY (J d hd) (Ab (B a ha) (Ab (U a b ha E) (Ah (P:=λx=>x=(decide (cell t a b=1)&&decide (cell t b d=1))) (Ak (λe=>Ab (B b E) (Ab (U b d E hd) (Aa ?_))) λe=>Aa ?_) λx F=>?_)))
     .rw[M]at e
      rw[M,e];rfl
     .rw[M]at e
      rw[e];rfl
     subst F;refine Ah (P:=λx=>x=false) (Ak (λe=>Ab (B a ha) (Ab (U a d ha hd) (Aa ?_))) λe=>Aa rfl) λx F=>?_
     .rw[bAE]at e
      rw[M,W.tr a b d ha E hd (Bz e.1) (Bz e.2)];rfl
     subst F;exact AH rfl (Aa (wr1 hd (by omega)))
    .subst A
     exact AH L (Aa (Ab rfl (Aa (wr1 E (by omega)))))
   .subst A
    exact AH L (Aa (Ab rfl (Aa (wr1 ha (by omega)))))
  .subst A
   exact AH L (Aa (Ab rfl (Aa rfl)))
 obtain⟨b',O,h2⟩:=key;rw[E]at O;rw[Option.some.inj O];exact h2
theorem p41x(h:H01 t n)(hn:n<=1000):Tot (λb=>b=true↔HB t n) (G41 t):=by
 unfold G41;have htl:t.length=n:=h.1.1
 have Z:∀x y:Nat,x<n->y<n->((0:Int)<=(y:Int))/\((y:Int)<(((t.getD ((x:Int)).toNat []).length:Nat):Int)):=λx y O hy=>by
  rw[tNC,h.1.2 x O];omega
 have J:∀x:Nat,x<n->((0:Int)<=(x:Int))/\((x:Int)<((t.length:Nat):Int)):=λx O=>by omega
 have F:∀x:Nat,x<n->decide ((x:Int)<((t.length:Nat):Int))=true:=λx O=>dT (by omega)
 have L:decide ((n:Int)<((t.length:Nat):Int))=false:=dF (by omega)
 have E:∀x:Nat,x<n->(((t.getD ((x:Int)).toNat []).length:Nat):Int)=(n:Int):=λx O=>by rw[tNC,h.1.2 x O]
 have M:∀x y:Nat,(t.getD ((x:Int)).toNat []).getD ((y:Int)).toNat 0=cell t x y:=λx y=>by
  rw[tNC,tNC];rfl
 have no:∀{x:Prop},¬x->(false=true↔x):=λh=>⟨λe=>(by cases e),λO=>absurd O h⟩
 refine Ao (n:=n) (λi v=>v=(i:Int)/\∀a,a<i->cell t a a=1) ⟨rfl,λa ha=>by omega⟩ (λa ha v A=>?_) λv A=>?_
 .obtain⟨rfl,hI⟩:=A
  refine AY (F a ha) (Ab (J a ha) (AH (by rw[E a ha,htl];simp) (Ao (n:=n) (λi v=>v=(i:Int)) rfl (λb B v A=>?_) λv A=>?_)))
  .subst A
   refine AY (by rw[E a ha];exact ltt B) (Ab (Z a b ha B) (AH ?_ (Aa (wr1 B (by omega)))))
   rw[M];rcases h.2 a b ha B with e|e<;>rw[e]
   .rw[bnc0];rfl
   .rw[bnc1];rfl
  .subst A
   refine AH (by rw[E a ha];exact ltf) (Aa (Ab rfl (Ab (Z a a ha ha) (Ak (λe=>A4 (Aa (no λhp=>?_))) λe=>Aa ⟨wr1 ha (by omega),λb B=>?_⟩))))
   .rw[M,hp.refl a ha]at e
    cases e
   .rw[M]at e
    by_cases hba:b<a
    .exact hI b hba
    .obtain rfl:b=a:=by omega
     simpa using e
 .obtain⟨rfl,U⟩:=A
  refine AH L (Aa (Ab rfl ?_));refine Ao (n:=n) (λi v=>v=(i:Int)/\∀a,a<i->∀b c,b<n->c<n->cell t a b=1->cell t b c=1->cell t a c=1) ⟨rfl,λa ha=>by omega⟩ (λa ha v A=>?_) λv A=>?_
  .obtain⟨rfl,hI⟩:=A
   refine AY (F a ha) (Ao (n:=n) (λi v=>v=(i:Int)/\∀b,b<i->∀c,c<n->cell t a b=1->cell t b c=1->cell t a c=1) ⟨rfl,λa ha=>by omega⟩ (λb B v A=>?_) λv A=>?_)
   .obtain⟨rfl,hJ⟩:=A
    refine AY (F b B) (Ab (J a ha) (Ab (Z a b ha B) (Ak (λe=>Aa ⟨wr1 B (by omega),λd hd=>?_⟩) λe=>?_)))
    .rw[M]at e
     have e:=Bz e;by_cases W:d<b
     .exact hJ d W
     .obtain rfl:d=b:=by omega
      intro c _ h1;rw[e]at h1;cases h1
    .rw[M]at e
     have e1:cell t a b=1:=(h.2 a b ha B).resolve_left (DF e);refine Ao (n:=n) (λi v=>v=(i:Int)/\∀c,c<i->cell t b c=1->cell t a c=1) ⟨rfl,λa ha=>by omega⟩ (λd hd v A=>?_) λv A=>?_
     .obtain⟨rfl,hK⟩:=A
      refine AY (F d hd) (Ab (J b B) (Ab (Z b d B hd) (Ab (J a ha) (Ab (Z a d ha hd) (Ak (λe=>A4 (A4 (A4 (Aa (no λhp=>?_))))) λe=>Aa ⟨wr1 hd (by omega),λc hcd h2=>?_⟩)))))
      .rw[M,M]at e
       have e:=Bz e;rcases h.2 b d B hd with e2|e2
       .rcases h.2 a d ha hd with e3|e3<;>omega
       .have:=hp.tr a b d ha B hd e1 e2
        omega
      .rw[M,M]at e
       have e:=DF e;by_cases hcd':c<d
       .exact hK c hcd' h2
       .obtain rfl:c=d:=by omega
        rcases h.2 a c ha hd with e3|e3
        .omega
        .exact e3
     .obtain⟨rfl,hK⟩:=A
      refine AH L (Aa (Ab rfl (Aa ⟨wr1 B (by omega),λd hd=>?_⟩)))
      by_cases W:d<b
      .exact hJ d W
      .obtain rfl:d=b:=by omega
       intro c Y _ h2;exact hK c Y h2
   .obtain⟨rfl,hJ⟩:=A
    refine AH L (Aa (Ab rfl (Aa ⟨wr1 ha (by omega),λd hd=>?_⟩)))
    by_cases hda:d<a
    .exact hI d hda
    .obtain rfl:d=a:=by omega
     exact λb c B Y=>hJ b B c Y
  .obtain⟨rfl,hI⟩:=A
   exact AH L (Aa (Ab rfl (Aa ⟨λ_=>⟨h.1,U,λi j k hi hj hk=>hI i hi j k hj hk⟩,λ_=>rfl⟩)))
end
end Go.Ve.D

