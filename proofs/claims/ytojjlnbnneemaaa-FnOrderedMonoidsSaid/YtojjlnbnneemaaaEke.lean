/- Monoids' tables, on both sides: exactly those that are; copies of tables. -/
import Derived.Test.YtojjlnbnneemaaaEka
set_option linter.all false
namespace Go.Ve.D
open Go Go.Ve
noncomputable section
variable {t:List (List Int)}{n:Nat}
def Ct{P:Nat->Prop}{a:Nat}(h:∀b,b<a->P b)(ha:P a):∀b,b<a+1->P b:=λb A=>if e:b=a then e▸ha else h b (by omega)
def no_b{x:Prop}(h:¬x):(false=true↔x):=⟨λe=>(by cases e),λA=>absurd A h⟩
theorem TB.rowB(h:TB t n){i:Nat}(A:i<n):rowB t (n:Int) i=true:=by
 unfold Go.Ve.D.rowB;rw[h.len,h.row i A,dT rfl,Bool.true_and];refine Np λj B=>?_
 obtain⟨k,E,e⟩:=h.val i j A (h.row i A▸B);unfold cell at e;rw[e];omega
theorem TB.tbl(h:TB t n):tbl t n=true:=by
 unfold Go.Ve.D.tbl sqB;rw[h.len,dT rfl,Bool.true_and];exact Bq λi e=>h.rowB e
def p47x(h:okN 1000 t):Tot (λb=>b=true↔Cn t t.length) (G47 t):=by
 unfold G47;obtain⟨F,L⟩:=h.big (by decide)
 refine Ah (P:=λb=>b=true↔MonT t) (Ak (λB=>?_) λB=>Aa (no_b λA=>?_)) λb E=>?_
 .have B:(0:Int)<((t.length:Nat):Int):=Bz B
  refine AI (p98 F L) (Aa ⟨λJ=>⟨by omega,V2 ?_⟩,λA=>?_⟩)
  .unfold tbl
   rw[J,dT rfl];rfl
  .have:=A.2.tbl
   unfold tbl at this;rw[dT rfl,Bool.true_and]at this;exact this
 .have B:¬ (0:Int)<((t.length:Nat):Int):=DF B
  have:=A.1;omega
 .refine Ah (P:=λb=>b=true↔Cn t t.length) (Ak (λB=>?_) λB=>Aa (no_b λA=>?_)) λb E=>Aa E
  .have A:=E.1 B
   exact AI (show G99 (t,((0:Nat):Int))=_ from p99 A.2 A.1 F) (Aa ⟨λe=>⟨A.2,A.1,e⟩,λe=>e.wh⟩)
  .rw[E.2 ⟨A.pos,A.tb⟩]at B
   cases B
theorem p42x(h:okN 1000 t):Tot (λb=>b=true↔Cn t t.length) (G42 t):=by
 unfold G42;obtain⟨E,Z⟩:=h.big (by decide)
 have hn:t.length<=1000:=h.1;have L:∀x:Nat,x<t.length->((0:Int)<=(x:Int))/\((x:Int)<((t.length:Nat):Int)):=λx F=>by omega
 refine Ao (n:=t.length) (λi v=>v=(i:Int)/\∀a,a<i->rowB t t.length a=true) ⟨rfl,λa ha=>by omega⟩ (λa ha v A=>?_) λv A=>?_
 .obtain⟨rfl,O⟩:=A
  refine AY (ltt ha) (Ab (L a ha) (Ah (P:=λx=>x= !rowB t t.length a) ?_ λx F=>?_))
  .unfold rowB
   rw[tNC];cases decide (((t.getD a []).length:Int)=(t.length:Int))with
   |false=>exact Aa rfl
   |true=>exact AI (p93 ⟨by omega,by omega⟩ (Z _ (Dp [] ha))) (Aa rfl)
  .subst F
   refine Ak (λe=>A4 (Aa (no_b λJ=>?_))) λe=>Aa ⟨wr1 ha (by omega),Ct O (by simpa using e)⟩
   rw[J.tb.rowB ha]at e;cases e
 .obtain⟨rfl,O⟩:=A
  have tb:TB t t.length:=V2 (by unfold tbl sqB;rw[dT rfl,Bool.true_and];exact Bq O)
  refine AH ltf (Aa (Ab rfl ?_));refine Ao (n:=t.length) (λi v=>v=(i:Int)/\∀a,a<i->unC t 0 a=true) ⟨rfl,λa ha=>by omega⟩ (λa ha v A=>?_) λv A=>?_
  .obtain⟨rfl,M⟩:=A
   have r1:0<(t.getD a []).length:=by rw[tb.row a ha];omega
   have r2:a<(t.getD 0 []).length:=by rw[tb.row 0 (by omega)];exact ha
   refine AY (ltt ha) (Ab (L a ha) (Ab (by rw[tNC];omega) (Ah (P:=λx=>x= !unC t 0 a) ?_ λx F=>?_)))
   .unfold unC cell
    rw[tNC];cases decide ((t.getD a []).getD 0 0=(a:Int))with
    |false=>exact Aa (by simp)
    |true=>exact Ab ⟨by omega,by omega⟩ (Ab ⟨by omega,by omega⟩ (Aa (by simp)))
   .subst F
    refine Ak (λe=>A4 (Aa (no_b λJ=>?_))) λe=>Aa ⟨wr1 ha (by omega),Ct M (by simpa using e)⟩
    have E:=aET.1 J.wh a (List.mem_range.2 ha);unfold whC at E;rw[bAE]at E;rw[E.1]at e;cases e
  .obtain⟨rfl,M⟩:=A
   refine AH ltf (Aa (Ab rfl ?_));refine Ao (n:=t.length) (λi v=>v=(i:Int)/\∀a,a<i->∀b,b<t.length->∀d,d<t.length->asC t a b d=true) ⟨rfl,λa ha=>by omega⟩ (λa ha v A=>?_) λv A=>?_
   .obtain⟨rfl,Y⟩:=A
    refine AY (ltt ha) (Ao (n:=t.length) (λi v=>v=(i:Int)/\∀b,b<i->∀d,d<t.length->asC t a b d=true) ⟨rfl,λa ha=>by omega⟩ (λb B v A=>?_) λv A=>?_)
    .obtain⟨rfl,W⟩:=A
     refine AY (ltt B) (Ao (n:=t.length) (λi v=>v=(i:Int)/\∀d,d<i->asC t a b d=true) ⟨rfl,λa ha=>by omega⟩ (λd hd v A=>?_) λv A=>?_)
     .obtain⟨rfl,U⟩:=A
      obtain⟨x,F,ex⟩:=tb.val a b ha B;obtain⟨y,hy,ey⟩:=tb.val b d B hd;have ex':(t.getD a []).getD b 0=(x:Int):=ex;have ey':(t.getD b []).getD d 0=(y:Int):=ey;have q1:b<(t.getD a []).length:=by rw[tb.row a ha];exact B
      have q3:d<(t.getD x []).length:=by rw[tb.row x F];exact hd
      have q4:d<(t.getD b []).length:=by rw[tb.row b B];exact hd
      have q5:y<(t.getD a []).length:=by rw[tb.row a ha];exact hy
      have eA:asC t a b d=decide ((t.getD x []).getD d 0=(t.getD a []).getD y 0):=by
       unfold asC;rw[ex,ey,tNC,tNC];rfl
      simp only[A3,hd,decide_true,cond_true,An ha,An B,An q1,ex',An F,An q3,An q4,ey',An q5,and_self,if_true,tNC];rw[<-eA];refine Ak (λe=>A4 (A4 (A4 (Aa (no_b λJ=>?_))))) λe=>Aa ⟨wr1 hd (by omega),Ct U (by simpa using e)⟩
      have E:=aET.1 J.wh a (List.mem_range.2 ha);unfold whC at E;rw[bAE]at E;have Z:=aET.1 E.2 b (List.mem_range.2 B);have h3:=aET.1 Z d (List.mem_range.2 hd);rw[h3]at e;cases e
     .obtain⟨rfl,U⟩:=A
      exact AH ltf (Aa (Ab rfl (Aa ⟨wr1 B (by omega),Ct W U⟩)))
    .obtain⟨rfl,W⟩:=A
     exact AH ltf (Aa (Ab rfl (Aa ⟨wr1 ha (by omega),Ct Y W⟩)))
   .obtain⟨rfl,Y⟩:=A
    refine AH ltf (Aa (Ab rfl (Aa ⟨λe=>⟨tb,by have:=Bz e;omega,?_⟩,λJ=>dT (by have:=J.pos;omega)⟩)))
    unfold BU;refine Bq λi hi=>?_
    unfold whC;rw[M i hi,Bool.true_and];exact Bq λj hj=>Bq λk hk=>Y i hi j hj k hk
def p97{x:List Int}(h:x.length<=1048576):G97 x=some x:=by
 unfold G97;rw[if_pos (by simp;omega)];rfl
theorem p44(h:okN 1048576 t):G44 t=some t:=by
 have key:Tot (λr=>r=t) (G44 t):=by
  unfold G44;have J:=h.1;refine Ab ⟨by omega,by omega,by omega,by omega⟩ (Ao (n:=t.length) (λi v=>v.1=(i:Int)/\v.2=t.take i) ⟨rfl,rfl⟩ (λa ha v A=>?_) λv A=>?_)
  .obtain⟨k,u⟩:=v
   obtain⟨(E:k=_),(B:u=_)⟩:=A;subst E B;have F:(t.take a).length=a:=by rw[List.length_take];omega
   refine AY (ltt ha) (Ab (by show(0:Int)<=(a:Int)/\(a:Int)<((t.length:Nat):Int);omega) (AI (p97 (h.2 _ (Dp [] ha))) (Ab trivial (Ab (by show(t.take a).length+1<=_;omega) (Aa ⟨wr1 ha (by omega),?_⟩)))))
   exact Nu [] ha
  .obtain⟨k,u⟩:=v
   obtain⟨(E:k=_),(B:u=_)⟩:=A;subst E B;exact AH ltf (Aa (Ab rfl (Aa (Yp t))))
 obtain⟨v,A,e⟩:=key;rw[A,e]
end
end Go.Ve.D


namespace Go.Ve.D
open Go Go.Ve
noncomputable section
variable{I:List Int}{a b k:Nat}{α:Type}
variable {t:List (List Int)}{n:Nat}
def X8{l:List α}{i:Nat}{y d:α}(h:i<l.length):(l.set i y).getD k d=if k=i then y else l.getD k d:=by
 rw[gDE,gDE,List.getElem?_set];by_cases e:i=k
 .subst e
  simp[h]
 .rw[if_neg e,if_neg (Ne.symm e)]
theorem AcC{l:List α}{m:Nat}{f:Nat->α}{d:α}(h:l.length=m)(A:∀a,a<m->l.getD a d=f a):l=(List.range m).map f:=by
 refine List.ext_getElem (by simp[h]) λi e B=>?_
 have:=A i (h▸e);rw[gDE,gEE e]at this;simpa using this
def at_ne(E:k<nP t n)(h:k≠ix t n a b):atP t n k≠((a:Int),(b:Int)):=by
 obtain⟨x,y,O,M,L,J,F⟩:=CB E;intro e;rw[J]at e;have B:(x:Int)=a:=congrArg Prod.fst e;have A:(y:Int)=b:=congrArg Prod.snd e;have B:x=a:=by omega
 have A:y=b:=by omega
 subst B A;exact h F
theorem p139(ha:a<n)(O:b<n)(L:cell t a b=1)(hn:n<=1000):G96 (BB t n,((a:Int),(b:Int)))=some (ix t n a b:Int):=by
 have key:Tot (λv=>v=(ix t n a b:Int)) (G139 (BB t n,((a:Int),(b:Int)))):=by
  unfold G139;have M:=YU (t:=t) hn;obtain⟨U,F⟩:=IV ha O L;have W:(BB t n).length=nP t n:=rfl;refine Ao (n:=nP t n) (λi v=>v=(i:Int)/\i<=ix t n a b) ⟨rfl,Nat.zero_le _⟩ (λi E v A=>?_) λv A=>?_
  .obtain⟨rfl,B⟩:=A
   have J:(BB t n).getD ((i:Int)).toNat (0,0)=atP t n i:=by rw[tNC];rfl
   refine AY (ltt E) (Ab (by show(0:Int)<=(i:Int)/\(i:Int)<(((BB t n).length:Nat):Int);omega) (Ak (λe=>A4 (Aa ?_)) λe=>Aa ⟨wr1 E (by omega),?_⟩))
   .have e:(decide ((a:Int)=((BB t n).getD ((i:Int)).toNat (0,0)).1)&&(decide ((b:Int)=((BB t n).getD ((i:Int)).toNat (0,0)).2)&&true))=true:=e
    rw[J,Bool.and_true,bAE]at e;by_cases h:i=ix t n a b
    .rw[h]
    .exact absurd (Prod.ext (Bz e.1).symm (Bz e.2).symm) (at_ne E h)
   .have e:(decide ((a:Int)=((BB t n).getD ((i:Int)).toNat (0,0)).1)&&(decide ((b:Int)=((BB t n).getD ((i:Int)).toNat (0,0)).2)&&true))=false:=e
    rw[J,Bool.and_true]at e;by_cases h:i=ix t n a b
    .rw[h,F]at e
     simp at e
    .omega
  .obtain⟨rfl,B⟩:=A
   omega
 obtain⟨v,A,e⟩:=key;unfold G96;rw[A,e];rfl
abbrev Fs(t:List (List Int))(n:Nat):List Int:=(BB t n).map λp=>p.1
abbrev Ts(t:List (List Int))(n:Nat):List Int:=(BB t n).map λp=>p.2
theorem p95(h:HB t n){f g:Nat}(Y:f<nP t n)(W:g<nP t n)(E:(atP t n f).2=(atP t n g).1)(hn:n<=1000){Co:List (List Int)}:G95 ((f:Int),((g:Int),(BB t n,((n:Int),(Fs t n,(Ts t n,(I,Co)))))))=some (pCo t n f g):=by
 unfold G95;have lF:(Fs t n).length=nP t n:=List.length_map ..;have lT:(Ts t n).length=nP t n:=List.length_map ..;obtain⟨a,b,ha,Z,F,J,e2⟩:=CB Y;obtain⟨M,L,ha',A,B,e,e2'⟩:=CB W;have U:(Fs t n).getD ((f:Int)).toNat 0=(a:Int):=by rw[tNC,atF,J]
 have O:(Ts t n).getD ((g:Int)).toNat 0=(L:Int):=by rw[tNC,atT,e]
 have e0:b=M:=by
  rw[J,e]at E;have E:(b:Int)=(M:Int):=E;omega
 subst e0;show(if(0:Int)<=(f:Int)/\(f:Int)<(((Fs t n).length:Nat):Int)then if(0:Int)<=(g:Int)/\(g:Int)<(((Ts t n).length:Nat):Int)then Option.bind (G96 (BB t n,((Fs t n).getD ((f:Int)).toNat 0,(Ts t n).getD ((g:Int)).toNat 0))) (λv=>some v)else none else none)=_
 rw[if_pos (by omega),if_pos (by omega),U,O,p139 ha A (h.tr a b L ha Z A F B) hn]
 unfold pCo;rw[if_pos E,J,e];simp
structure CI(c:Nat->Nat->Int)(m i j:Nat)(Co:List (List Int)):Prop where
 len:Co.length=m
 done:∀a,a<i->Co.getD a []=(List.range m).map (c a)
 rl:(Co.getD i []).length=m
 cel:∀g,g<j->(Co.getD i []).getD g 0=c i g
variable {c:Nat->Nat->Int}{m i j:Nat}{Co:List (List Int)}
theorem CI.one(h:CI c m i j Co)(F:i<m)(E:j<m)(v:Int):CI c m i j (Co.set i ((Co.getD i []).set j v))/\((Co.set i ((Co.getD i []).set j v)).getD i []).getD j 0=v:=by
 have B:i<Co.length:=by rw[h.len];exact F
 have A:j<(Co.getD i []).length:=by rw[h.rl];exact E
 have e:(Co.set i ((Co.getD i []).set j v)).getD i []=(Co.getD i []).set j v:=by rw[X8 B,if_pos rfl]
 refine⟨⟨by rw[List.length_set];exact h.len,λa ha=>?_,?_,λg J=>?_⟩,?_⟩
 .rw[X8 B,if_neg (by omega)];exact h.done a ha
 .rw[e,List.length_set];exact h.rl
 .rw[e,X8 A,if_neg (by omega)];exact h.cel g J
 .rw[e,X8 A,if_pos rfl]
def CI.set(h:CI c m i j Co)(E:i<m)(B:j<m){v:Int}(A:v=c i j):CI c m i (j+1) (Co.set i ((Co.getD i []).set j v)):=by
 obtain⟨e,F⟩:=h.one E B v;exact⟨e.len,e.done,e.rl,Ct e.cel (F.trans A)⟩
def CI.zero(A:Co.length=m)(hd:∀a,a<i->Co.getD a []=(List.range m).map (c a))(B:i<m):CI c m i 0 (Co.set i (List.replicate m (0:Int))):=by
 have e:i<Co.length:=by omega
 refine⟨by rw[List.length_set];exact A,λa ha=>?_,?_,λg E=>by omega⟩
 .rw[X8 e,if_neg (by omega)];exact hd a ha
 .rw[X8 e,if_pos rfl];simp
def CI.row(h:CI c m i m Co):Co.length=m/\∀a,a<i+1->Co.getD a []=(List.range m).map (c a):=⟨h.len,Ct h.done (AcC h.rl h.cel)⟩
theorem p10094(h:HB t n)(hn:n<=1000):Tot (λr=>r=((),(BB t n,(((n:Int),(Fs t n,(Ts t n,(I,CO t n (nP t n))))),())))) (G10094 ((),()) (BB t n,(((n:Int),(Fs t n,(Ts t n,(I,[])))),()))):=by
 unfold G10094;have lF:(Fs t n).length=nP t n:=List.length_map ..;have lT:(Ts t n).length=nP t n:=List.length_map ..;have hb:=YU (t:=t) hn;refine AI (v:=(nP t n:Int)) (by show some ((((Fs t n).length:Nat)):Int)=_;rw[lF]) ?_
 refine Ab ⟨by omega,by omega,by omega,by omega⟩ ?_
 refine Ao (n:=nP t n) (λi v=>v.1=(i:Int)/\v.2.1=(n:Int)/\v.2.2.1=Fs t n/\v.2.2.2.1=Ts t n/\v.2.2.2.2.1=I/\v.2.2.2.2.2.2=BB t n/\v.2.2.2.2.2.1.length=nP t n/\∀a,a<i->v.2.2.2.2.2.1.getD a []=(List.range (nP t n)).map (pCo t n a)) ⟨rfl,rfl,rfl,rfl,rfl,rfl,by simp,λa ha=>by omega⟩ (λi J v B=>?_) λv B=>?_
 .obtain⟨k,o,F,T,I',Co,L⟩:=v
  obtain⟨(Z:k=_),(Y:o=_),(W:F=_),(U:T=_),(O:I'=_),(M:L=_),(hl:Co.length=_),hd⟩:=B;subst Z Y W U O M;have hd:∀a,a<i->Co.getD a []=(List.range (nP t n)).map (pCo t n a):=hd;have ez:List.replicate ((nP t n:Int)).toNat (0:Int)=List.replicate (nP t n) 0:=by rw[tNC]
  have A:((i:Int)).toNat=i:=tNC i;refine AY (by show decide ((i:Int)<(((List.replicate ((nP t n:Int)).toNat ([]:List Int)).length:Nat):Int))=true;rw[List.length_replicate,tNC];exact ltt J) (Ab ⟨by omega,by omega,by omega,by omega⟩ (Ab (by show(0:Int)<=(i:Int)/\(i:Int)<((Co.length:Nat):Int);omega) (Ab (by show(0:Int)<=(i:Int)/\(i:Int)<(((Co.set ((i:Int)).toNat (List.replicate ((nP t n:Int)).toNat (0:Int))).length:Nat):Int);rw[List.length_set];omega) ?_)))
  have h0:=CI.zero (c:=pCo t n) hl hd J;rw[<-ez,<-A]at h0;have hz:((Co.set ((i:Int)).toNat (List.replicate ((nP t n:Int)).toNat (0:Int))).getD ((i:Int)).toNat []).length=nP t n:=h0.rl;refine Ao (n:=nP t n) (λj v=>v.1=(j:Int)/\v.2.1=(n:Int)/\v.2.2.1=Fs t n/\v.2.2.2.1=Ts t n/\v.2.2.2.2.1=I'/\v.2.2.2.2.2.2=BB t n/\CI (pCo t n) (nP t n) i j v.2.2.2.2.2.1) ⟨rfl,rfl,rfl,rfl,rfl,rfl,by rw[<-A];exact h0⟩ (λj E v B=>?_) λv B=>?_
  .obtain⟨k,o,F,T,I2,Co2,L⟩:=v
   obtain⟨(Z:k=_),(Y:o=_),(W:F=_),(U:T=_),(O:I2=_),(M:L=_),(hc:CI _ _ _ _ Co2)⟩:=B;subst Z Y W U O M;obtain⟨ho,_⟩:=hc.one J E (-1);have hl2:=hc.len;have hr2:=hc.rl;have ej:((j:Int)).toNat=j:=tNC j;refine AY (by show decide ((j:Int)<((((Co.set ((i:Int)).toNat (List.replicate ((nP t n:Int)).toNat (0:Int))).getD ((i:Int)).toNat []).length:Nat):Int))=true;rw[hz];exact ltt E) (Ab (by show(0:Int)<=(i:Int)/\(i:Int)<((Co2.length:Nat):Int);omega) (Ab (by show(0:Int)<=(j:Int)/\(j:Int)<(((Co2.getD ((i:Int)).toNat []).length:Nat):Int);rw[A];omega) (Ab (by show(0:Int)<=(i:Int)/\(i:Int)<(((Ts t n).length:Nat):Int);omega) (Ab (by show(0:Int)<=(j:Int)/\(j:Int)<(((Fs t n).length:Nat):Int);omega) (Ak (λe=>?_) λe=>?_)))))
   .have e:decide ((Ts t n).getD ((i:Int)).toNat 0=(Fs t n).getD ((j:Int)).toNat 0)=true:=e
    rw[A,ej,atT,atF]at e;have e:=Bz e;have hs:=ho.set J E (v:=pCo t n i j) rfl;refine Ab (by show(0:Int)<=(i:Int)/\(i:Int)<(((Co2.set ((i:Int)).toNat ((Co2.getD ((i:Int)).toNat []).set ((j:Int)).toNat (-1))).length:Nat):Int);rw[List.length_set];omega) (AI (p95 h J E e hn) (Ab ?_ (Aa ⟨wr1 E (by omega),rfl,rfl,rfl,rfl,rfl,?_⟩)))
    .show(0:Int)<=(j:Int)/\(j:Int)<((((Co2.set ((i:Int)).toNat ((Co2.getD ((i:Int)).toNat []).set ((j:Int)).toNat (-1))).getD ((i:Int)).toNat []).length:Nat):Int)
     rw[A,ej,ho.rl];omega
    .show CI _ _ _ _ ((Co2.set ((i:Int)).toNat ((Co2.getD ((i:Int)).toNat []).set ((j:Int)).toNat (-1))).set ((i:Int)).toNat (((Co2.set ((i:Int)).toNat ((Co2.getD ((i:Int)).toNat []).set ((j:Int)).toNat (-1))).getD ((i:Int)).toNat []).set ((j:Int)).toNat (pCo t n i j)))
     rw[A,ej];exact hs
   .have e:decide ((Ts t n).getD ((i:Int)).toNat 0=(Fs t n).getD ((j:Int)).toNat 0)=false:=e
    rw[A,ej,atT,atF]at e;have e:=DF e;have hs:=hc.set J E (v:=-1) (by unfold pCo;rw[if_neg e])
    refine Aa ⟨wr1 E (by omega),rfl,rfl,rfl,rfl,rfl,?_⟩
    show CI _ _ _ _ (Co2.set ((i:Int)).toNat ((Co2.getD ((i:Int)).toNat []).set ((j:Int)).toNat (-1)));rw[A,ej];exact hs
  .obtain⟨k,o,F,T,I2,Co2,L⟩:=v
   obtain⟨(Z:k=_),Y,W,U,O,M,(hc:CI _ _ _ _ Co2)⟩:=B;subst Z;obtain⟨g1,g2⟩:=hc.row;refine AH (by show decide ((nP t n:Int)<((((Co.set ((i:Int)).toNat (List.replicate ((nP t n:Int)).toNat (0:Int))).getD ((i:Int)).toNat []).length:Nat):Int))=false;rw[hz];exact ltf) (Aa (Ab rfl (Aa ⟨wr1 J (by omega),Y,W,U,O,M,g1,g2⟩)))
 .obtain⟨k,o,F,T,I',Co,L⟩:=v
  obtain⟨(Z:k=_),(Y:o=_),(W:F=_),(U:T=_),(O:I'=_),(M:L=_),(hl:Co.length=_),hd⟩:=B;subst Z Y W U O M;have eC:Co=CO t n (nP t n):=AcC hl hd;subst eC;exact AH (by show decide ((nP t n:Int)<(((List.replicate ((nP t n:Int)).toNat ([]:List Int)).length:Nat):Int))=false;rw[List.length_replicate,tNC];exact ltf) (Aa (Ab rfl (Aa rfl)))
end
end Go.Ve.D


namespace Go.Ve.D
open Go Go.Ve
noncomputable section
variable {t:List (List Int)}{n:Nat}
def idK(t:List (List Int))(n i j:Nat):List Int:=if j<=i then idN t n i else idN t n (i+1)
theorem p43x(h:H01 t n)(hp:HB t n)(hn:n<=1000):Tot (λr=>(n<=8/\nP t n<=40->r=(Cs t n,(0:Int)))/\(¬ (n<=8/\nP t n<=40)->r.2≠0)) (G43 t):=by
 unfold G43;have htl:t.length=n:=h.1.1
 have hr:∀x y:Nat,x<n->y<n->((0:Int)<=(y:Int))/\((y:Int)<(((t.getD ((x:Int)).toNat []).length:Nat):Int)):=λx y hx hy=>by
  rw[tNC,h.1.2 x hx];omega
 have hi':∀x:Nat,x<n->((0:Int)<=(x:Int))/\((x:Int)<((t.length:Nat):Int)):=λx hx=>by omega
 have hlt:∀x:Nat,x<n->decide ((x:Int)<((t.length:Nat):Int))=true:=λx hx=>dT (by omega)
 have hge:decide ((n:Int)<((t.length:Nat):Int))=false:=dF (by omega)
 have hc:∀x y:Nat,(t.getD ((x:Int)).toNat []).getD ((y:Int)).toNat 0=cell t x y:=λx y=>by
  rw[tNC,tNC];rfl
 have hb:=YU (t:=t) hn;obtain⟨b,hb1,hb2⟩:=p41x h hn;refine AI hb1 ?_;rw[hb2.2 hp];refine AH rfl (Ak (λe=>?_) λe=>?_)
 .have e:=Bz e
  exact Aa ⟨λhq=>by omega,λ_=>by show(2:Int)≠0;omega⟩
 have e8:=DF e;refine Ao (n:=n) (λi v=>v.1=(i:Int)/\v.2.2.2.2.2.2.1=(n:Int)/\v.2.2.2.2.2.2.2.1=(BG t n i 0).map (λp:Int×Int=>p.1)/\v.2.2.2.2.2.2.2.2.1=(BG t n i 0).map (λp:Int×Int=>p.2)/\v.2.2.2.2.2.2.2.2.2.1=idN t n i/\v.2.2.2.2.2.2.2.2.2.2.1=[]/\v.2.2.2.2.2.2.2.2.2.2.2=BG t n i 0) ⟨rfl,by show((t.length:Nat):Int)=_;omega,rfl,rfl,rfl,rfl,rfl⟩ (λi J v B=>?_) λv B=>?_
 .obtain⟨k,r0,r1,r2,r3,r4,o,F,T,I,Co,L⟩:=v
  obtain⟨(Z:k=_),(A:o=_),(Y:F=_),(W:T=_),(U:I=_),(O:Co=_),(M:L=_)⟩:=B;subst Z A Y W U O M;refine AY (hlt i J) (Ao (n:=n) (λj v=>v.1=(j:Int)/\v.2.2.2.2.2.2.1=(n:Int)/\v.2.2.2.2.2.2.2.1=(BG t n i j).map (λp:Int×Int=>p.1)/\v.2.2.2.2.2.2.2.2.1=(BG t n i j).map (λp:Int×Int=>p.2)/\v.2.2.2.2.2.2.2.2.2.1=idK t n i j/\v.2.2.2.2.2.2.2.2.2.2.1=[]/\v.2.2.2.2.2.2.2.2.2.2.2=BG t n i j) ⟨rfl,rfl,rfl,rfl,by unfold idK;rw[if_pos (Nat.zero_le _)],rfl,rfl⟩ (λj hj v B=>?_) λv B=>?_)
  .obtain⟨k,r0,r1,r2,r3,r4,o,F,T,I,Co,L⟩:=v
   obtain⟨(Z:k=_),(A:o=_),(Y:F=_),(W:T=_),(U:I=_),(O:Co=_),(M:L=_)⟩:=B;subst Z A Y W U O M;have hq:ix t n i j<=1000000:=ix_le J (by omega) hn
   have l1:((BG t n i j).map (λp:Int×Int=>p.1)).length=ix t n i j:=List.length_map ..
   have l2:((BG t n i j).map (λp:Int×Int=>p.2)).length=ix t n i j:=List.length_map ..
   have l3:(BG t n i j).length=ix t n i j:=rfl;have l4:(idK t n i j).length<=1001:=by unfold idK;split<;>simp[idN]<;>omega
   have wj:=wr1 (n:=n) hj (by omega)
   refine AY (hlt j hj) (Ab (hi' i J) (Ab (hr i j J hj) (Ak (λe=>?_) λe=>?_)))
   .have e:decide ((t.getD ((i:Int)).toNat []).getD ((j:Int)).toNat 0=0)=true:=e
    rw[hc]at e;have e:=Bz e;have E:¬cell t i j=1:=by omega
    have hij:i≠j:=λe'=>by
     subst e';exact E (hp.refl i J)
    refine Aa ⟨wj,rfl,?_,?_,?_,rfl,?_⟩
    .show _=(BG t n i (j+1)).map (λp:Int×Int=>p.1)
     rw[BX E]
    .show _=(BG t n i (j+1)).map (λp:Int×Int=>p.2)
     rw[BX E]
    .show idK t n i j=idK t n i (j+1)
     unfold idK;by_cases A:j<=i
     .rw[if_pos A,if_pos (by omega)]
     .rw[if_neg A,if_neg (by omega)]
    .exact(BX E).symm
   .have e:decide ((t.getD ((i:Int)).toNat []).getD ((j:Int)).toNat 0=0)=false:=e
    rw[hc]at e;have e:=DF e;have he:cell t i j=1:=by
     rcases h.2 i j J hj with e'|e'
     .exact absurd e' e
     .exact e'
    have g1:(BG t n i j).map (λp:Int×Int=>p.1)++[(i:Int)]=(BG t n i (j+1)).map (λp:Int×Int=>p.1):=by
     rw[CF he,List.map_append];rfl
    have g2:(BG t n i j).map (λp:Int×Int=>p.2)++[(j:Int)]=(BG t n i (j+1)).map (λp:Int×Int=>p.2):=by
     rw[CF he,List.map_append];rfl
    have g3:BG t n i j++[((i:Int),(j:Int))]=BG t n i (j+1):=(CF he).symm;refine Ak (λe=>?_) λe=>?_
    .have e:=Bz e
     have e:(i:Int)=(j:Int):=e;have e:i=j:=by omega
     refine Ab (by show(idK t n i j).length+1<=_;omega) (Ab (by show(BG t n i j).length+1<=_;omega) (Ab (by show((BG t n i j).map (λp:Int×Int=>p.1)).length+1<=_;omega) (Ab (by show((BG t n i j).map (λp:Int×Int=>p.2)).length+1<=_;omega) (Aa ⟨wj,rfl,g1,g2,?_,rfl,g3⟩))))
     show idK t n i j++[(((BG t n i j).length:Nat):Int)]=idK t n i (j+1);unfold idK;rw[if_pos (by omega),if_neg (by omega)]
     subst e;exact HI
    .have e:=DF e
     have e:¬ (i:Int)=(j:Int):=e;refine Ab (by show(BG t n i j).length+1<=_;omega) (Ab (by show((BG t n i j).map (λp:Int×Int=>p.1)).length+1<=_;omega) (Ab (by show((BG t n i j).map (λp:Int×Int=>p.2)).length+1<=_;omega) (Aa ⟨wj,rfl,g1,g2,?_,rfl,g3⟩)))
     show idK t n i j=idK t n i (j+1);unfold idK;by_cases A:j<=i
     .rw[if_pos A,if_pos (by omega)]
     .rw[if_neg A,if_neg (by omega)]
  .obtain⟨k,r0,r1,r2,r3,r4,o,F,T,I,Co,L⟩:=v
   obtain⟨(Z:k=_),A,Y,W,(U:I=_),O,M⟩:=B;subst Z;have e5':I=idN t n (i+1):=by rw[U];unfold idK;rw[if_neg (by omega)]
   refine AH hge (Aa (Ab rfl (Aa ⟨wr1 J (by omega),A,?_,?_,e5',O,?_⟩)))
   .rw[CE];exact Y
   .rw[CE];exact W
   .rw[CE];exact M
 .obtain⟨k,r0,r1,r2,r3,r4,o,F,T,I,Co,L⟩:=v
  obtain⟨(Z:k=_),(A:o=_),(Y:F=_),(W:T=_),(U:I=_),(O:Co=_),(M:L=_)⟩:=B;subst Z A Y W U O M;refine AH hge (Aa (Ab rfl (Ak (λe=>?_) λe=>?_)))
  .have e:=Bz e
   have e:(40:Int)<(((BB t n).length:Nat):Int):=e;have e0:(BB t n).length=nP t n:=rfl;exact Aa ⟨λhq=>by omega,λ_=>by show(3:Int)≠0;omega⟩
  .have e:=DF e
   have e:¬ (40:Int)<(((BB t n).length:Nat):Int):=e;have e0:(BB t n).length=nP t n:=rfl;refine Ah (p10094 hp hn) λv B=>Aa ⟨λ_=>?_,λhq=>absurd ⟨by omega,by omega⟩ hq⟩
   rw[B];rfl
end
end Go.Ve.D

