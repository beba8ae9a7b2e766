/- The ordered monoid's category, on both sides, to the number. -/
import Derived.Test.YtojjlnbnneemaaaEke
import Derived.Test.YtojjlnbnneemaaaEja
set_option linter.all false
namespace Go.Ve.D
open Go Go.Ve
noncomputable section
variable {r t:List (List Int)}{n:Nat}
def zM:MC:=(0,([],([],([],([],(0,([],[])))))))
open Classical in
def omR(r t:List (List Int))(n:Nat):MC×Int:=if HB r n/\Cn t t.length/\n=t.length then(if Cmp r t n then(if n<=8/\nP r n<=40 then(mkM (Cs r n) 0 t (amP r t n),0)else(zM,3))else(zM,5))else(zM,1)
def Cm(r t:List (List Int))(a b d:Nat):Prop:=cell r a b=1->cell r (tt t a d) (tt t b d)=1/\cell r (tt t d a) (tt t d b)=1
def amR(r t:List (List Int))(n i:Nat):List (List Int):=(List.range i).map λf=>(List.range (nP r n)).map λg=>amC r t n f g
def hom0{x y:Nat}(M:x<n)(L:y<n)(h:cell r x y=1):0<(KT (Cs r n) (x:Int) (y:Int)).length/\(KT (Cs r n) (x:Int) (y:Int)).getD 0 0=(ix r n x y:Int):=by
 obtain⟨O,A⟩:=IV M L h;have F:=Y8 (c:=Cs r n) (x:=(x:Int)) (y:=(y:Int)) (k:=ix r n x y) (IE▸O) (by unfold fT;rw[DL,A]) (by unfold tT;rw[DK,A])
 obtain⟨f,J,e,E,B⟩:=AbX F;refine⟨F,e.trans ?_⟩;rw[IE]at J;unfold fT at E;unfold tT at B;rw[DL]at E;rw[DK]at B;by_cases h:f=ix r n x y
 .rw[h]
 .exact absurd (Prod.ext E B) (at_ne J h)
theorem p8x(h:H01 r n)(ht:okN 1000 t)(hn:n<=1000):Tot (λz=>z=omR r t n) (G8 (r,t)):=by
 unfold G8;obtain⟨b1,e1,h1⟩:=p41x h hn;obtain⟨b2,e2,h2⟩:=p42x ht;have hrl:r.length=n:=h.1.1;have fail1:¬ (HB r n/\Cn t t.length/\n=t.length)->omR r t n=(zM,1):=λA=>if_neg A
 refine AI e1 (Ah (P:=λv=>v=true↔ ¬ (HB r n/\Cn t t.length)) (Ak (λe=>Aa ?_) λe=>AI e2 (Aa ?_)) λv1 hv1=>?_)
 .have:¬HB r n:=λhp=>by rw[h1.2 hp]at e;cases e
  exact⟨λ_ A=>this A.1,λ_=>rfl⟩
 .have hb1:b1=true:=by simpa using e
  refine⟨λhb2 A=>?_,λA=>?_⟩
  .rw[h2.2 A.2]at hb2;cases hb2
  .cases B:b2 with
   |false=>rfl
   |true=>exact absurd ⟨h1.1 hb1,h2.1 B⟩ A
 refine Ah (P:=λv=>v=true↔ ¬ (HB r n/\Cn t t.length/\n=t.length)) (Ak (λe=>Aa ⟨λ_ A=>hv1.1 e ⟨A.1,A.2.1⟩,λ_=>rfl⟩) λe=>Aa ?_) λv2 hv2=>Ak (λe=>Aa (by rw[fail1 (hv2.1 e)];rfl)) λe=>?_
 .have A:HB r n/\Cn t t.length:=Classical.not_not.1 λA=>by rw[hv1.2 A]at e;cases e
  show(!decide (((r.length:Nat):Int)=((t.length:Nat):Int)))=true↔_;rw[hrl,Bool.not_eq_true',decide_eq_false_iff_not];exact⟨λh1 h2=>h1 (by have:=h2.2.2;omega),λh1 h2=>h1 ⟨A.1,A.2,by omega⟩⟩
 have A:HB r n/\Cn t t.length/\n=t.length:=Classical.not_not.1 λA=>by rw[hv2.2 A]at e;cases e
 obtain⟨hP,hM0,O⟩:=A;have hM:Cn t n:=by rw[O];exact hM0
 have hTB:=hM.tb;have hm1:=hM.pos;have om5:¬Cmp r t n->omR r t n=(zM,5):=λhc=>by unfold omR;rw[if_pos ⟨hP,hM0,O⟩,if_neg hc]
 have hri:∀x:Nat,x<n->((0:Int)<=(x:Int))/\((x:Int)<((r.length:Nat):Int)):=λx A=>by omega
 have L:∀x:Nat,x<n->((0:Int)<=(x:Int))/\((x:Int)<((t.length:Nat):Int)):=λx A=>by omega
 have W:∀x y:Nat,x<n->y<n->((0:Int)<=(y:Int))/\((y:Int)<(((r.getD ((x:Int)).toNat []).length:Nat):Int)):=λx y A hy=>by
  rw[tNC,hP.sq.2 x A];omega
 have J:∀x y:Nat,x<n->y<n->((0:Int)<=(y:Int))/\((y:Int)<(((t.getD ((x:Int)).toNat []).length:Nat):Int)):=λx y A hy=>by
  rw[tNC,hTB.row x A];omega
 have hc:∀(x:List (List Int)) (a b:Nat),(x.getD ((a:Int)).toNat []).getD ((b:Int)).toNat 0=cell x a b:=λx a b=>by
  rw[tNC,tNC];rfl
 have hT:∀a b,a<n->b<n->tt t a b<n/\(t.getD ((a:Int)).toNat []).getD ((b:Int)).toNat 0=(tt t a b:Int):=λa b ha B=>by
  obtain⟨h1,h2⟩:=B2 hTB ha B;exact⟨h1,(hc t a b).trans h2⟩
 have hz:∀a b,a<n->b<n->(cell r a b=0↔ ¬cell r a b=1):=λa b ha B=>by
  rcases h.2 a b ha B with e|e<;>rw[e]<;>omega
 have hlt:∀x:Nat,x<n->decide ((x:Int)<((r.length:Nat):Int))=true:=λx A=>dT (by omega)
 have hge:decide ((n:Int)<((r.length:Nat):Int))=false:=dF (by omega)
 have hltR:∀a x:Nat,a<n->x<n->decide ((x:Int)<(((r.getD ((a:Int)).toNat []).length:Nat):Int))=true:=λa x ha A=>dT (W a x ha A).2
 have hgeR:∀a:Nat,a<n->decide ((n:Int)<(((r.getD ((a:Int)).toNat []).length:Nat):Int))=false:=λa ha=>dF (by rw[tNC,hP.sq.2 a ha];omega)
 refine Ao (n:=n) (λi v=>v.1=(i:Int)/\∀a,a<i->∀b,b<n->∀d,d<n->Cm r t a b d) ⟨rfl,λa ha=>by omega⟩ (λa ha v E=>?_) λv E=>?_
 .obtain⟨k,m⟩:=v
  obtain⟨(U:k=(a:Int)),hI⟩:=E;subst U;refine AY (hlt a ha) (Ab (hri a ha) (Ao (n:=n) (λi v=>v.1=(i:Int)/\∀b,b<i->∀d,d<n->Cm r t a b d) ⟨rfl,λa ha=>by omega⟩ (λb B v E=>?_) λv E=>?_))
  .obtain⟨k,m⟩:=v
   obtain⟨(U:k=(b:Int)),hJ⟩:=E;subst U;refine AY (hltR a b ha B) (Ab (W a b ha B) (Ao (n:=n) (λi v=>v.1=(i:Int)/\∀d,d<i->Cm r t a b d) ⟨rfl,λa ha=>by omega⟩ (λd hd v E=>?_) λv E=>?_))
   .obtain⟨k,m⟩:=v
    obtain⟨(U:k=(d:Int)),hK⟩:=E;subst U;obtain⟨g1,f1⟩:=hT a d ha hd;obtain⟨g2,f2⟩:=hT b d B hd;obtain⟨g3,f3⟩:=hT d a hd ha;obtain⟨g4,f4⟩:=hT d b hd B;refine AY (hlt d hd) (Ah (P:=λv=>v=false↔Cm r t a b d) (Ak (λe=>?_) λe=>Aa ⟨λ_ e2=>?_,λ_=>rfl⟩) λv6 hv6=>?_)
    .have e:decide ((r.getD ((a:Int)).toNat []).getD ((b:Int)).toNat 0=1)=true:=e
     rw[hc]at e;have e:=Bz e;have i1:(0:Int)<=(t.getD ((a:Int)).toNat []).getD ((d:Int)).toNat 0/\(t.getD ((a:Int)).toNat []).getD ((d:Int)).toNat 0<((r.length:Nat):Int):=by rw[f1];omega
     have i2:(0:Int)<=(t.getD ((b:Int)).toNat []).getD ((d:Int)).toNat 0/\(t.getD ((b:Int)).toNat []).getD ((d:Int)).toNat 0<(((r.getD ((t.getD ((a:Int)).toNat []).getD ((d:Int)).toNat 0).toNat []).length:Nat):Int):=by rw[f1,f2];exact W _ _ g1 g2
     have i3:(0:Int)<=(t.getD ((d:Int)).toNat []).getD ((a:Int)).toNat 0/\(t.getD ((d:Int)).toNat []).getD ((a:Int)).toNat 0<((r.length:Nat):Int):=by rw[f3];omega
     have i4:(0:Int)<=(t.getD ((d:Int)).toNat []).getD ((b:Int)).toNat 0/\(t.getD ((d:Int)).toNat []).getD ((b:Int)).toNat 0<(((r.getD ((t.getD ((d:Int)).toNat []).getD ((a:Int)).toNat 0).toNat []).length:Nat):Int):=by rw[f3,f4];exact W _ _ g3 g4
     refine Ab (L a ha) (Ab (J a d ha hd) (Ab i1 (Ab (L b B) (Ab (J b d B hd) (Ab i2 (Ak (λM=>Aa ⟨λh=>(by cases h),λhC=>?_⟩) λM=>Ab (L d hd) (Ab (J d a hd ha) (Ab i3 (Ab (L d hd) (Ab (J d b hd B) (Ab i4 (Aa ?_))))))))))))
     .have M:decide ((r.getD ((t.getD ((a:Int)).toNat []).getD ((d:Int)).toNat 0).toNat []).getD ((t.getD ((b:Int)).toNat []).getD ((d:Int)).toNat 0).toNat 0=0)=true:=M
      rw[f1,f2,hc]at M;exact absurd (hC e).1 ((hz _ _ g1 g2).1 (Bz M))
     .have M:decide ((r.getD ((t.getD ((a:Int)).toNat []).getD ((d:Int)).toNat 0).toNat []).getD ((t.getD ((b:Int)).toNat []).getD ((d:Int)).toNat 0).toNat 0=0)=false:=M
      rw[f1,f2,hc]at M;have M:cell r (tt t a d) (tt t b d)=1:=Classical.not_not.1 λA=>DF M ((hz _ _ g1 g2).2 A)
      show decide ((r.getD ((t.getD ((d:Int)).toNat []).getD ((a:Int)).toNat 0).toNat []).getD ((t.getD ((d:Int)).toNat []).getD ((b:Int)).toNat 0).toNat 0=0)=false↔_;rw[f3,f4,hc,decide_eq_false_iff_not,hz _ _ g3 g4,Classical.not_not];exact⟨λq2 _=>⟨M,q2⟩,λhC=>(hC e).2⟩
    .have e:decide ((r.getD ((a:Int)).toNat []).getD ((b:Int)).toNat 0=1)=false:=e
     rw[hc]at e;exact absurd e2 (DF e)
    .refine Ak (λe=>A4 (A4 (A4 (Aa ?_)))) λe=>Aa ⟨wr1 hd (by omega),Ct hK (hv6.1 e)⟩
     rw[om5 λhC=>?_]
     .rfl
     .rw[hv6.2 (hC a b d ha B hd)]at e
      cases e
   .obtain⟨k,m⟩:=v
    obtain⟨(U:k=(n:Int)),hK⟩:=E;subst U;exact AH hge (Aa (Ab rfl (Aa ⟨wr1 B (by omega),Ct hJ hK⟩)))
  .obtain⟨k,m⟩:=v
   obtain⟨(U:k=(n:Int)),hJ⟩:=E;subst U;exact AH (hgeR a ha) (Aa (Ab rfl (Aa ⟨wr1 ha (by omega),Ct hI hJ⟩)))
 obtain⟨k,m⟩:=v;obtain⟨(U:k=(n:Int)),hI⟩:=E;subst U;have hC:Cmp r t n:=λa b d ha B hd=>hI a ha b B d hd
 refine AH hge (Aa (Ab rfl ?_));obtain⟨w,hw,w1,w2⟩:=p43x h hP hn;refine AI hw ?_;by_cases hq:n<=8/\nP r n<=40
 .have om0:omR r t n=(mkM (Cs r n) 0 t (amP r t n),0):=by unfold omR;rw[if_pos ⟨hP,hM0,O⟩,if_pos hC,if_pos hq]
  rw[om0,w1 hq];obtain⟨I0,C0,hp0⟩:∃I0 C0,Cs r n=((n:Int),(Fs r n,(Ts r n,(I0,C0)))):=⟨_,_,rfl⟩;have lF:(Fs r n).length=nP r n:=List.length_map ..;have lT:(Ts r n).length=nP r n:=List.length_map ..
  have hG:∀x y,G45 (((n:Int),(Fs r n,(Ts r n,(I0,C0)))),(x,y))=some (KT (Cs r n) x y):=λx y=>by
   rw[<-hp0];exact p45 (by show(Fs r n).length<=_;omega) (by show(Ts r n).length=(Fs r n).length;omega) x y
  rw[hp0];have htl:t.length=n:=O.symm;refine AH rfl (AI (p44 (t:=t) ⟨by omega,λy hy=>Nat.le_trans (ht.2 y hy) (by omega)⟩) ?_)
  refine Ao (n:=nP r n) (λi v=>v.1=(i:Int)/\v.2.2.2.2.2.2.2.2.2=((n:Int),(Fs r n,(Ts r n,(I0,(C0,((n:Int),(Fs r n,(Ts r n,(I0,(C0,((0:Int),(t,amR r t n i))))))))))))) ⟨rfl,rfl⟩ (λi hi v E=>?_) λv E=>?_
  .obtain⟨k,m1,m2,m3,m4,m5,m6,m7,m8,rest⟩:=v
   obtain⟨(e1:k=_),(e2:rest=_)⟩:=E;subst e1 e2;obtain⟨a,b,ha,B,hab,e1,e2⟩:=CB hi;have y1:(Fs r n).getD ((i:Int)).toNat 0=(a:Int):=by rw[tNC,atF,e1]
   have y2:(Ts r n).getD ((i:Int)).toNat 0=(b:Int):=by rw[tNC,atT,e1]
   have lR:(amR r t n i).length=i:=by simp[amR]
   refine AY (by show decide ((i:Int)<(((Fs r n).length:Nat):Int))=true;rw[lF];exact ltt hi) (Ao (n:=nP r n) (λj v=>v.1=(j:Int)/\v.2=(List.range j).map λg=>amC r t n i g) ⟨rfl,rfl⟩ (λj hj v E=>?_) λv E=>?_)
   .obtain⟨k,row⟩:=v
    obtain⟨(F:k=_),(e2':row=_)⟩:=E;subst F e2';obtain⟨a',b',Z,Y,hab',F,e2'⟩:=CB hj;have y3:(Fs r n).getD ((j:Int)).toNat 0=(a':Int):=by rw[tNC,atF,F]
    have y4:(Ts r n).getD ((j:Int)).toNat 0=(b':Int):=by rw[tNC,atT,F]
    have e5:(t.getD ((Fs r n).getD ((i:Int)).toNat 0).toNat []).getD ((Fs r n).getD ((j:Int)).toNat 0).toNat 0=(tt t a a':Int):=by rw[y1,y3];exact(hT a a' ha Z).2
    have e6:(t.getD ((Ts r n).getD ((i:Int)).toNat 0).toNat []).getD ((Ts r n).getD ((j:Int)).toNat 0).toNat 0=(tt t b b':Int):=by rw[y2,y4];exact(hT b b' B Y).2
    have hh:=hom0 (hT a a' ha Z).1 (hT b b' B Y).1 (Aap hP hM hC ha B Z Y hab hab');have hi1:(0:Int)<=(i:Int)/\(i:Int)<(((Fs r n).length:Nat):Int):=by omega
    have hj1:(0:Int)<=(j:Int)/\(j:Int)<(((Fs r n).length:Nat):Int):=by omega
    have hi2:(0:Int)<=(i:Int)/\(i:Int)<(((Ts r n).length:Nat):Int):=by omega
    have hj2:(0:Int)<=(j:Int)/\(j:Int)<(((Ts r n).length:Nat):Int):=by omega
    have z1:(0:Int)<=(Fs r n).getD ((i:Int)).toNat 0/\(Fs r n).getD ((i:Int)).toNat 0<((t.length:Nat):Int):=by rw[y1];exact L a ha
    have z2:(0:Int)<=(Ts r n).getD ((i:Int)).toNat 0/\(Ts r n).getD ((i:Int)).toNat 0<((t.length:Nat):Int):=by rw[y2];exact L b B
    have z3:(0:Int)<=(Fs r n).getD ((j:Int)).toNat 0/\(Fs r n).getD ((j:Int)).toNat 0<(((t.getD ((Fs r n).getD ((i:Int)).toNat 0).toNat []).length:Nat):Int):=by rw[y1,y3];exact J a a' ha Z
    have z4:(0:Int)<=(Ts r n).getD ((j:Int)).toNat 0/\(Ts r n).getD ((j:Int)).toNat 0<(((t.getD ((Ts r n).getD ((i:Int)).toNat 0).toNat []).length:Nat):Int):=by rw[y2,y4];exact J b b' B Y
    refine AY (by show decide ((j:Int)<(((Fs r n).length:Nat):Int))=true;rw[lF];exact ltt hj) (Ab hi1 (Ab z1 (Ab hj1 (Ab z3 (Ab hi2 (Ab z2 (Ab hj2 (Ab z4 (AI (v:=KT (Cs r n) (tt t a a':Int) (tt t b b':Int)) ?_ (Ab ?_ (Ab ?_ (Aa ⟨wr1 hj (by omega),?_⟩))))))))))))
    .show G45 (((n:Int),(Fs r n,(Ts r n,(I0,C0)))),((t.getD ((Fs r n).getD ((i:Int)).toNat 0).toNat []).getD ((Fs r n).getD ((j:Int)).toNat 0).toNat 0,(t.getD ((Ts r n).getD ((i:Int)).toNat 0).toNat []).getD ((Ts r n).getD ((j:Int)).toNat 0).toNat 0))=_
     rw[e5,e6];exact hG _ _
    .exact⟨by omega,by have:=hh.1;omega⟩
    .show((List.range j).map λg=>amC r t n i g).length+1<=_
     rw[List.length_map,List.length_range];omega
    .show((List.range j).map λg=>amC r t n i g)++[(KT (Cs r n) (tt t a a':Int) (tt t b b':Int)).getD 0 0]=_
     have:(ix r n (tt t a a') (tt t b b'):Int)=amC r t n i j:=by
      unfold amC nF nT;rw[e1,F];simp
     rw[hh.2,this];exact HI
   .obtain⟨k,row⟩:=v
    obtain⟨(F:k=_),(e2':row=_)⟩:=E;subst F e2';refine AH (by show decide ((nP r n:Int)<(((Fs r n).length:Nat):Int))=false;rw[lF];exact ltf) (Aa (Ab rfl (Ab trivial (Ab (by show(amR r t n i).length+1<=_;omega) (Aa ⟨wr1 hi (by omega),?_⟩)))))
    show(_,(_,(_,(_,(_,(_,(_,(_,(_,(_,((0:Int),(t,amR r t n i++[(List.range (nP r n)).map λg=>amC r t n i g]))))))))))))=_
    have:amR r t n i++[(List.range (nP r n)).map λg=>amC r t n i g]=amR r t n (i+1):=HI
    rw[this]
  .obtain⟨k,m1,m2,m3,m4,m5,m6,m7,m8,rest⟩:=v
   obtain⟨(e1:k=_),(e2:rest=_)⟩:=E;subst e1 e2;exact AH (by show decide ((nP r n:Int)<(((Fs r n).length:Nat):Int))=false;rw[lF];exact ltf) (Aa (Ab rfl (Aa rfl)))
 .have om3:omR r t n=(zM,3):=by unfold omR;rw[if_pos ⟨hP,hM0,O⟩,if_pos hC,if_neg hq]
  rw[om3];exact AY (by simp[w2 hq]) (Aa rfl)
end
end Go.Ve.D


namespace Go.Ve.D
open Go Go.Ve
noncomputable section
variable {r t:List (List Int)}{n:Nat}
theorem p9x(h:H01 r n)(ht:okN 1000 t)(hn:n<=1000):Tot (λz=>z=omR r t n) (G9 (r,t)):=by
 unfold G9;obtain⟨b1,e1,h1⟩:=p46x h hn;obtain⟨b2,e2,h2⟩:=p47x ht;have hrl:r.length=n:=h.1.1;have fail1:¬ (HB r n/\Cn t t.length/\n=t.length)->omR r t n=(zM,1):=λA=>if_neg A
 refine AI e1 (Ah (P:=λv=>v=true↔ ¬ (HB r n/\Cn t t.length)) (Ak (λe=>Aa ?_) λe=>AI e2 (Aa ?_)) λv1 hv1=>?_)
 .have:¬HB r n:=λhp=>by rw[h1.2 hp]at e;cases e
  exact⟨λ_ A=>this A.1,λ_=>rfl⟩
 .have hb1:b1=true:=by simpa using e
  refine⟨λhb2 A=>?_,λA=>?_⟩
  .rw[h2.2 A.2]at hb2;cases hb2
  .cases B:b2 with
   |false=>rfl
   |true=>exact absurd ⟨h1.1 hb1,h2.1 B⟩ A
 refine Ah (P:=λv=>v=true↔ ¬ (HB r n/\Cn t t.length/\n=t.length)) (Ak (λe=>Aa ⟨λ_ A=>hv1.1 e ⟨A.1,A.2.1⟩,λ_=>rfl⟩) λe=>Aa ?_) λv2 hv2=>Ak (λe=>Aa (by rw[fail1 (hv2.1 e)];rfl)) λe=>?_
 .have A:HB r n/\Cn t t.length:=Classical.not_not.1 λA=>by rw[hv1.2 A]at e;cases e
  show(!decide (((r.length:Nat):Int)=((t.length:Nat):Int)))=true↔_;rw[hrl,Bool.not_eq_true',decide_eq_false_iff_not];exact⟨λh1 h2=>h1 (by have:=h2.2.2;omega),λh1 h2=>h1 ⟨A.1,A.2,by omega⟩⟩
 have A:HB r n/\Cn t t.length/\n=t.length:=Classical.not_not.1 λA=>by rw[hv2.2 A]at e;cases e
 obtain⟨hP,Z,O⟩:=A;have hM:Cn t n:=by rw[O];exact Z
 have hTB:=hM.tb;have hm1:=hM.pos;have om5:¬Cmp r t n->omR r t n=(zM,5):=λhc=>by unfold omR;rw[if_pos ⟨hP,Z,O⟩,if_neg hc]
 have hri:∀x:Nat,x<n->((0:Int)<=(x:Int))/\((x:Int)<((r.length:Nat):Int)):=λx A=>by omega
 have L:∀x:Nat,x<n->((0:Int)<=(x:Int))/\((x:Int)<((t.length:Nat):Int)):=λx A=>by omega
 have hrr:∀x y:Nat,x<n->y<n->((0:Int)<=(y:Int))/\((y:Int)<(((r.getD ((x:Int)).toNat []).length:Nat):Int)):=λx y A hy=>by
  rw[tNC,hP.sq.2 x A];omega
 have J:∀x y:Nat,x<n->y<n->((0:Int)<=(y:Int))/\((y:Int)<(((t.getD ((x:Int)).toNat []).length:Nat):Int)):=λx y A hy=>by
  rw[tNC,hTB.row x A];omega
 have hc:∀(x:List (List Int)) (a b:Nat),(x.getD ((a:Int)).toNat []).getD ((b:Int)).toNat 0=cell x a b:=λx a b=>by
  rw[tNC,tNC];rfl
 have hT:∀a b,a<n->b<n->tt t a b<n/\(t.getD ((a:Int)).toNat []).getD ((b:Int)).toNat 0=(tt t a b:Int):=λa b ha B=>by
  obtain⟨h1,h2⟩:=B2 hTB ha B;exact⟨h1,(hc t a b).trans h2⟩
 have hz:∀a b,a<n->b<n->(cell r a b=0↔ ¬cell r a b=1):=λa b ha B=>by
  rcases h.2 a b ha B with e|e<;>rw[e]<;>omega
 have hlt:∀x:Nat,x<n->decide ((x:Int)<((t.length:Nat):Int))=true:=λx A=>dT (by omega)
 have hge:decide ((n:Int)<((t.length:Nat):Int))=false:=dF (by omega)
 refine Ao (n:=n) (λi v=>v.1=(i:Int)/\∀a,a<i->∀b,b<n->∀d,d<n->Cm r t a b d) ⟨rfl,λa ha=>by omega⟩ (λa ha v E=>?_) λv E=>?_
 .obtain⟨k,m⟩:=v
  obtain⟨(U:k=(a:Int)),hI⟩:=E;subst U;refine AY (hlt a ha) (Ao (n:=n) (λi v=>v.1=(i:Int)/\∀b,b<i->∀d,d<n->Cm r t a b d) ⟨rfl,λa ha=>by omega⟩ (λb B v E=>?_) λv E=>?_)
  .obtain⟨k,m⟩:=v
   obtain⟨(U:k=(b:Int)),hJ⟩:=E;subst U;refine AY (hlt b B) (Ao (n:=n) (λi v=>v.1=(i:Int)/\∀d,d<i->Cm r t a b d) ⟨rfl,λa ha=>by omega⟩ (λd hd v E=>?_) λv E=>?_)
   .obtain⟨k,m⟩:=v
    obtain⟨(U:k=(d:Int)),hK⟩:=E;subst U;obtain⟨g1,f1⟩:=hT a d ha hd;obtain⟨g2,f2⟩:=hT b d B hd;obtain⟨g3,f3⟩:=hT d a hd ha;obtain⟨g4,f4⟩:=hT d b hd B;refine AY (hlt d hd) (Ab (hri a ha) (Ab (hrr a b ha B) (Ah (P:=λv=>v=false↔Cm r t a b d) (Ak (λe=>?_) λe=>Aa ⟨λ_ e2=>?_,λ_=>rfl⟩) λv6 hv6=>?_)))
    .have e:decide ((r.getD ((a:Int)).toNat []).getD ((b:Int)).toNat 0=1)=true:=e
     rw[hc]at e;have e:=Bz e;have i1:(0:Int)<=(t.getD ((a:Int)).toNat []).getD ((d:Int)).toNat 0/\(t.getD ((a:Int)).toNat []).getD ((d:Int)).toNat 0<((r.length:Nat):Int):=by rw[f1];omega
     have i2:(0:Int)<=(t.getD ((b:Int)).toNat []).getD ((d:Int)).toNat 0/\(t.getD ((b:Int)).toNat []).getD ((d:Int)).toNat 0<(((r.getD ((t.getD ((a:Int)).toNat []).getD ((d:Int)).toNat 0).toNat []).length:Nat):Int):=by rw[f1,f2];exact hrr _ _ g1 g2
     have i3:(0:Int)<=(t.getD ((d:Int)).toNat []).getD ((a:Int)).toNat 0/\(t.getD ((d:Int)).toNat []).getD ((a:Int)).toNat 0<((r.length:Nat):Int):=by rw[f3];omega
     have i4:(0:Int)<=(t.getD ((d:Int)).toNat []).getD ((b:Int)).toNat 0/\(t.getD ((d:Int)).toNat []).getD ((b:Int)).toNat 0<(((r.getD ((t.getD ((d:Int)).toNat []).getD ((a:Int)).toNat 0).toNat []).length:Nat):Int):=by rw[f3,f4];exact hrr _ _ g3 g4
     refine Ab (L a ha) (Ab (J a d ha hd) (Ab i1 (Ab (L b B) (Ab (J b d B hd) (Ab i2 (Ak (λM=>Aa ⟨λh=>(by cases h),λhC=>?_⟩) λM=>Ab (L d hd) (Ab (J d a hd ha) (Ab i3 (Ab (L d hd) (Ab (J d b hd B) (Ab i4 (Aa ?_))))))))))))
     .have M:(!decide ((r.getD ((t.getD ((a:Int)).toNat []).getD ((d:Int)).toNat 0).toNat []).getD ((t.getD ((b:Int)).toNat []).getD ((d:Int)).toNat 0).toNat 0=1))=true:=M
      rw[f1,f2,hc]at M;rw[(hC e).1]at M;cases M
     .have M:(!decide ((r.getD ((t.getD ((a:Int)).toNat []).getD ((d:Int)).toNat 0).toNat []).getD ((t.getD ((b:Int)).toNat []).getD ((d:Int)).toNat 0).toNat 0=1))=false:=M
      rw[f1,f2,hc]at M;have M:cell r (tt t a d) (tt t b d)=1:=by simpa using M
      show(!decide ((r.getD ((t.getD ((d:Int)).toNat []).getD ((a:Int)).toNat 0).toNat []).getD ((t.getD ((d:Int)).toNat []).getD ((b:Int)).toNat 0).toNat 0=1))=false↔_;rw[f3,f4,hc,Bool.not_eq_false',decide_eq_true_iff];exact⟨λq2 _=>⟨M,q2⟩,λhC=>(hC e).2⟩
    .have e:decide ((r.getD ((a:Int)).toNat []).getD ((b:Int)).toNat 0=1)=false:=e
     rw[hc]at e;exact absurd e2 (DF e)
    .refine Ak (λe=>A4 (A4 (A4 (Aa ?_)))) λe=>Aa ⟨wr1 hd (by omega),Ct hK (hv6.1 e)⟩
     rw[om5 λhC=>?_]
     .rfl
     .rw[hv6.2 (hC a b d ha B hd)]at e
      cases e
   .obtain⟨k,m⟩:=v
    obtain⟨(U:k=(n:Int)),hK⟩:=E;subst U;exact AH hge (Aa (Ab rfl (Aa ⟨wr1 B (by omega),Ct hJ hK⟩)))
  .obtain⟨k,m⟩:=v
   obtain⟨(U:k=(n:Int)),hJ⟩:=E;subst U;exact AH hge (Aa (Ab rfl (Aa ⟨wr1 ha (by omega),Ct hI hJ⟩)))
 obtain⟨k,m⟩:=v;obtain⟨(U:k=(n:Int)),hI⟩:=E;subst U;have hC:Cmp r t n:=λa b d ha B hd=>hI a ha b B d hd
 refine AH hge (Aa (Ab rfl ?_));refine Ah (p48x hP.sq hn) λw hw=>AI (p49 w) ?_
 subst hw
 have hbo:(decide ((Cs r n).1<=8)&&decide ((((Cs r n).2.1.length:Nat):Int)<=40))=decide (n<=8/\nP r n<=40):=by
  have l1:(Cs r n).2.1.length=nP r n:=IE;have o1:(Cs r n).1=(n:Int):=rfl;rw[l1,o1];by_cases hq:n<=8/\nP r n<=40
  .rw[dT hq,dT (by omega),dT (by omega)];rfl
  .rw[dF hq,Bool.and_eq_false_iff]
   by_cases h8:n<=8
   .exact .inr (dF (by omega))
   .exact .inl (dF (by omega))
 rw[hbo];by_cases hq:n<=8/\nP r n<=40
 .have om0:omR r t n=(mkM (Cs r n) 0 t (amP r t n),0):=by unfold omR;rw[if_pos ⟨hP,Z,O⟩,if_pos hC,if_pos hq]
  rw[om0];obtain⟨I0,C0,hp0⟩:∃I0 C0,Cs r n=((n:Int),(Fs r n,(Ts r n,(I0,C0)))):=⟨_,_,rfl⟩;have lF:(Fs r n).length=nP r n:=List.length_map ..;have lT:(Ts r n).length=nP r n:=List.length_map ..
  have hG:∀x y,G40 (((n:Int),(Fs r n,(Ts r n,(I0,C0)))),(x,y))=some (KT (Cs r n) x y):=λx y=>by
   rw[<-hp0];exact p40 (by show(Fs r n).length<=_;omega) (by show(Ts r n).length=(Fs r n).length;omega) x y
  rw[hp0];have htl:t.length=n:=O.symm;refine AH (by rw[dT hq];rfl) ?_
  refine Ao (n:=nP r n) (λi v=>v.1=(i:Int)/\v.2=amR r t n i) ⟨rfl,rfl⟩ (λi hi v E=>?_) λv E=>?_
  .obtain⟨k,rest⟩:=v
   obtain⟨(e1:k=_),(e2:rest=_)⟩:=E;subst e1 e2;obtain⟨a,b,ha,B,hab,e1,e2⟩:=CB hi;have y1:(Fs r n).getD ((i:Int)).toNat 0=(a:Int):=by rw[tNC,atF,e1]
   have y2:(Ts r n).getD ((i:Int)).toNat 0=(b:Int):=by rw[tNC,atT,e1]
   have lR:(amR r t n i).length=i:=by simp[amR]
   refine AY (by show decide ((i:Int)<(((Fs r n).length:Nat):Int))=true;rw[lF];exact ltt hi) (Ao (n:=nP r n) (λj v=>v.1=(j:Int)/\v.2=(List.range j).map λg=>amC r t n i g) ⟨rfl,rfl⟩ (λj hj v E=>?_) λv E=>?_)
   .obtain⟨k,row⟩:=v
    obtain⟨(F:k=_),(e2':row=_)⟩:=E;subst F e2';obtain⟨a',b',Y,W,hab',F,e2'⟩:=CB hj;have y3:(Fs r n).getD ((j:Int)).toNat 0=(a':Int):=by rw[tNC,atF,F]
    have y4:(Ts r n).getD ((j:Int)).toNat 0=(b':Int):=by rw[tNC,atT,F]
    have e5:(t.getD ((Fs r n).getD ((i:Int)).toNat 0).toNat []).getD ((Fs r n).getD ((j:Int)).toNat 0).toNat 0=(tt t a a':Int):=by rw[y1,y3];exact(hT a a' ha Y).2
    have e6:(t.getD ((Ts r n).getD ((i:Int)).toNat 0).toNat []).getD ((Ts r n).getD ((j:Int)).toNat 0).toNat 0=(tt t b b':Int):=by rw[y2,y4];exact(hT b b' B W).2
    have hh:=hom0 (hT a a' ha Y).1 (hT b b' B W).1 (Aap hP hM hC ha B Y W hab hab');have hi1:(0:Int)<=(i:Int)/\(i:Int)<(((Fs r n).length:Nat):Int):=by omega
    have hj1:(0:Int)<=(j:Int)/\(j:Int)<(((Fs r n).length:Nat):Int):=by omega
    have hi2:(0:Int)<=(i:Int)/\(i:Int)<(((Ts r n).length:Nat):Int):=by omega
    have hj2:(0:Int)<=(j:Int)/\(j:Int)<(((Ts r n).length:Nat):Int):=by omega
    have z1:(0:Int)<=(Fs r n).getD ((i:Int)).toNat 0/\(Fs r n).getD ((i:Int)).toNat 0<((t.length:Nat):Int):=by rw[y1];exact L a ha
    have z2:(0:Int)<=(Ts r n).getD ((i:Int)).toNat 0/\(Ts r n).getD ((i:Int)).toNat 0<((t.length:Nat):Int):=by rw[y2];exact L b B
    have z3:(0:Int)<=(Fs r n).getD ((j:Int)).toNat 0/\(Fs r n).getD ((j:Int)).toNat 0<(((t.getD ((Fs r n).getD ((i:Int)).toNat 0).toNat []).length:Nat):Int):=by rw[y1,y3];exact J a a' ha Y
    have z4:(0:Int)<=(Ts r n).getD ((j:Int)).toNat 0/\(Ts r n).getD ((j:Int)).toNat 0<(((t.getD ((Ts r n).getD ((i:Int)).toNat 0).toNat []).length:Nat):Int):=by rw[y2,y4];exact J b b' B W
    refine AY (by show decide ((j:Int)<(((Fs r n).length:Nat):Int))=true;rw[lF];exact ltt hj) (Ab hi1 (Ab z1 (Ab hj1 (Ab z3 (Ab hi2 (Ab z2 (Ab hj2 (Ab z4 (AI (v:=KT (Cs r n) (tt t a a':Int) (tt t b b':Int)) ?_ (Ab ?_ (Ab ?_ (Aa ⟨wr1 hj (by omega),?_⟩))))))))))))
    .show G40 (((n:Int),(Fs r n,(Ts r n,(I0,C0)))),((t.getD ((Fs r n).getD ((i:Int)).toNat 0).toNat []).getD ((Fs r n).getD ((j:Int)).toNat 0).toNat 0,(t.getD ((Ts r n).getD ((i:Int)).toNat 0).toNat []).getD ((Ts r n).getD ((j:Int)).toNat 0).toNat 0))=_
     rw[e5,e6];exact hG _ _
    .exact⟨by omega,by have:=hh.1;omega⟩
    .show((List.range j).map λg=>amC r t n i g).length+1<=_
     rw[List.length_map,List.length_range];omega
    .show((List.range j).map λg=>amC r t n i g)++[(KT (Cs r n) (tt t a a':Int) (tt t b b':Int)).getD 0 0]=_
     have:(ix r n (tt t a a') (tt t b b'):Int)=amC r t n i j:=by
      unfold amC nF nT;rw[e1,F];simp
     rw[hh.2,this];exact HI
   .obtain⟨k,row⟩:=v
    obtain⟨(F:k=_),(e2':row=_)⟩:=E;subst F e2';refine AH (by show decide ((nP r n:Int)<(((Fs r n).length:Nat):Int))=false;rw[lF];exact ltf) (Aa (Ab rfl (Ab trivial (Ab (by show(amR r t n i).length+1<=_;omega) (Aa ⟨wr1 hi (by omega),?_⟩)))))
    exact HI
  .obtain⟨k,rest⟩:=v
   obtain⟨(e1:k=_),(e2:rest=_)⟩:=E;subst e1 e2;refine AH (by show decide ((nP r n:Int)<(((Fs r n).length:Nat):Int))=false;rw[lF];exact ltf) (Aa (Ab rfl (AI (p50 (t:=t) ⟨by omega,λy hy=>Nat.le_trans (ht.2 y hy) (by omega)⟩) (Aa rfl))))
 .have om3:omR r t n=(zM,3):=by unfold omR;rw[if_pos ⟨hP,Z,O⟩,if_pos hC,if_neg hq]
  rw[om3];exact AY (by rw[dF hq];rfl) (Aa rfl)
end
end Go.Ve.D


namespace Go.Ve.D
open Go Go.Ve
noncomputable section
variable{i j:Nat}
variable {r t:List (List Int)}{n:Nat}
def dI(n:Nat):List (List Int):=(List.range n).map λi=>(List.replicate n (0:Int)).set i 1
def XE(A:i<n)(B:j<n):cell (dI n) i j=if j=i then 1 else 0:=by
 unfold cell dI;rw[getR A,X8 (by simp;exact A)]
 by_cases e:j=i
 .rw[if_pos e,if_pos e]
 .rw[if_neg e,if_neg e];simp[B]
theorem Ace:Sq n (dI n):=⟨by simp[dI],λi e=>by unfold dI;rw[getR e];simp⟩
theorem dI_01:H01 (dI n) n:=⟨Ace,λi j A e=>by
 rw[XE A e];split
 .exact .inr rfl
 .exact .inl rfl⟩
theorem KX(A:i<n)(e:j<n):cell (dI n) i j=1↔j=i:=by
 rw[XE A e];split<;>simp_all
theorem Aal:HB (dI n) n:=⟨Ace,λi e=>(KX e e).2 rfl,λa b d ha A hd E B=>by
 have J:=(KX ha A).1 E;have F:=(KX A hd).1 B;exact(KX ha hd).2 (by omega)⟩
def preD1(A:i<n):∀j,j<=i->BG (dI n) n i j=BG (dI n) n i 0:=by
 intro j
 induction j with
 |zero=>intro _;rfl
 |succ j e=>
  intro B;rw[BX (λh=>by have:=(KX A (by omega)).1 h;omega)]
  exact e (by omega)
def preD2(A:i<n):∀j,i<j->j<=n->BG (dI n) n i j=BG (dI n) n i 0++[((i:Int),(i:Int))]:=by
 intro j
 induction j with
 |zero=>intro h _;omega
 |succ j B=>
  intro F E;by_cases e:i=j
  .subst e
   rw[CF ((KX A A).2 rfl),preD1 A i (Nat.le_refl _)]
  .rw[BX (λh=>e ((KX A (by omega)).1 h).symm)]
   exact B (by omega) (by omega)
def preD:∀i,i<=n->BG (dI n) n i 0=(List.range i).map fun(k:Nat)=>((k:Int),(k:Int)):=by
 intro i
 induction i with
 |zero=>intro _;rfl
 |succ i e=>
  intro A;rw[CE,preD2 (by omega) n (by omega) (Nat.le_refl _),e (by omega)]
  exact HI
def allD:BB (dI n) n=(List.range n).map fun(k:Nat)=>((k:Int),(k:Int)):=preD n (Nat.le_refl _)
def Acf(e:i<n):ix (dI n) n i i=i:=by
 unfold ix;rw[preD1 e i (Nat.le_refl _),preD i (by omega)]
 simp
def Zn:nP (dI n) n=n:=by
 unfold nP;rw[allD];simp
def Zo{k:Nat}(e:k<n):atP (dI n) n k=((k:Int),(k:Int)):=by
 unfold atP;rw[allD,getR e]
def dc(f g:Nat):Int:=if f=g then(f:Int)else-1
def dI_co{f g:Nat}(A:f<n)(B:g<n):pCo (dI n) n f g=dc f g:=by
 unfold pCo dc;rw[Zo A,Zo B];by_cases e:f=g
 .subst e
  rw[if_pos rfl,if_pos rfl];show((ix (dI n) n ((f:Int)).toNat ((f:Int)).toNat:Nat):Int)=f;rw[tNC,Acf A]
 .rw[if_neg e,if_neg (by show ¬ (f:Int)=(g:Int);omega)]
def dC(n:Nat):Cat:=((n:Int),(IJ n,(IJ n,(IJ n,(List.range n).map λf=>(List.range n).map λg=>dc f g))))
def M0:Cs (dI n) n=dC n:=by
 unfold Cs dC IJ;rw[Zn,allD,List.map_map,List.map_map];refine Prod.ext rfl (Prod.ext rfl (Prod.ext rfl (Prod.ext ?_ ?_)))
 .exact List.map_congr_left λx e=>by rw[Acf (List.mem_range.1 e)]
 .exact List.map_congr_left λf B=>List.map_congr_left λg A=>dI_co (List.mem_range.1 B) (List.mem_range.1 A)
def Aam(e:Cn t n):Cmp (dI n) t n:=λa b c ha B A h=>by
 have:=(KX ha B).1 h;subst this;exact⟨(KX (B2 e.tb ha A).1 (B2 e.tb ha A).1).2 rfl,(KX (B2 e.tb A ha).1 (B2 e.tb A ha).1).2 rfl⟩
def dI_am(e:Cn t n):amP (dI n) t n=t:=by
 unfold amP;rw[Zn];refine(AcC (d:=([]:List Int)) e.tb.len λa ha=>?_).symm
 refine AcC (d:=(0:Int)) (e.tb.row a ha) λb A=>?_
 unfold amC nF nT;rw[Zo ha,Zo A];obtain⟨E,B⟩:=B2 e.tb ha A;show cell t a b=((ix (dI n) n (tt t ((a:Int)).toNat ((b:Int)).toNat) (tt t ((a:Int)).toNat ((b:Int)).toNat):Nat):Int);rw[tNC,tNC,Acf E,B]
theorem p105(hn:n<=1000):G105 (n:Int)=some (IJ n):=by
 have key:Tot (λv=>v=IJ n) (G105 (n:Int)):=by
  unfold G105;have B:(List.replicate ((n:Int)).toNat (0:Int)).length=n:=by simp
  refine Ab ⟨by omega,by omega,by omega,by omega⟩ (Ao (n:=n) (λi v=>v.1=(i:Int)/\v.2.length=n/\∀a,a<i->v.2.getD a 0=(a:Int)) ⟨rfl,B,λa ha=>by omega⟩ (λi L v A=>?_) λv A=>?_)
  .obtain⟨k,l⟩:=v
   obtain⟨(J:k=_),(F:l.length=n),(E:∀a,a<i->l.getD a 0=(a:Int))⟩:=A;subst J;refine AY (by rw[B];exact ltt L) (Ab (by show(0:Int)<=(i:Int)/\(i:Int)<((l.length:Nat):Int);omega) (Aa ⟨wr1 L (by omega),?_,?_⟩))
   .show(l.set _ _).length=n
    rw[List.length_set];exact F
   .show ∀a,a<i+1->(l.set ((i:Int)).toNat (i:Int)).getD a 0=(a:Int)
    intro a ha;rw[tNC,X8 (by omega)]
    by_cases e:a=i
    .rw[if_pos e,e]
    .rw[if_neg e];exact E a (by omega)
  .obtain⟨k,l⟩:=v
   obtain⟨(J:k=_),(F:l.length=n),E⟩:=A;subst J;exact AH (by rw[B];exact ltf) (Aa (Ab rfl (Aa (AcC F E))))
 obtain⟨v,A,e⟩:=key;rw[A,e]
theorem p20094(hn:n<=1000):Tot (λr=>r=((),dC n)) (G20094 () ((n:Int),(IJ n,(IJ n,(IJ n,[]))))):=by
 unfold G20094;have lF:(IJ n).length=n:=YT;refine AI (v:=(n:Int)) (by show some ((((IJ n).length:Nat)):Int)=_;rw[lF]) ?_
 refine Ab ⟨by omega,by omega,by omega,by omega⟩ ?_
 refine Ao (n:=n) (λi v=>v.1=(i:Int)/\v.2.1=(n:Int)/\v.2.2.1=IJ n/\v.2.2.2.1=IJ n/\v.2.2.2.2.1=IJ n/\v.2.2.2.2.2.length=n/\∀a,a<i->v.2.2.2.2.2.getD a []=(List.range n).map (dc a)) ⟨rfl,rfl,rfl,rfl,rfl,by simp,λa ha=>by omega⟩ (λi B v J=>?_) λv J=>?_
 .obtain⟨k,o,F,T,I',Co⟩:=v
  obtain⟨(W:k=_),(U:o=_),(O:F=_),(M:T=_),(L:I'=_),(hl:Co.length=_),hd⟩:=J;subst W U O M L;have hd:∀a,a<i->Co.getD a []=(List.range n).map (dc a):=hd;have ez:List.replicate ((n:Int)).toNat (0:Int)=List.replicate n 0:=by rw[tNC]
  have E:((i:Int)).toNat=i:=tNC i;refine AY (by show decide ((i:Int)<(((List.replicate ((n:Int)).toNat ([]:List Int)).length:Nat):Int))=true;rw[List.length_replicate,tNC];exact ltt B) (Ab ⟨by omega,by omega,by omega,by omega⟩ (Ab (by show(0:Int)<=(i:Int)/\(i:Int)<((Co.length:Nat):Int);omega) (Ab (by show(0:Int)<=(i:Int)/\(i:Int)<(((Co.set ((i:Int)).toNat (List.replicate ((n:Int)).toNat (0:Int))).length:Nat):Int);rw[List.length_set];omega) ?_)))
  have h0:=CI.zero (c:=dc) hl hd B;rw[<-ez,<-E]at h0;have hz:((Co.set ((i:Int)).toNat (List.replicate ((n:Int)).toNat (0:Int))).getD ((i:Int)).toNat []).length=n:=h0.rl;refine Ao (n:=n) (λj v=>v.1=(j:Int)/\v.2.1=(n:Int)/\v.2.2.1=IJ n/\v.2.2.2.1=IJ n/\v.2.2.2.2.1=IJ n/\CI dc n i j v.2.2.2.2.2) ⟨rfl,rfl,rfl,rfl,rfl,by rw[<-E];exact h0⟩ (λj A v J=>?_) λv J=>?_
  .obtain⟨k,o,F,T,I2,Co2⟩:=v
   obtain⟨(W:k=_),(U:o=_),(O:F=_),(M:T=_),(L:I2=_),(Y:CI _ _ _ _ Co2)⟩:=J;subst W U O M L;obtain⟨ho,_⟩:=Y.one B A (-1);have hl2:=Y.len;have hr2:=Y.rl;have Z:((j:Int)).toNat=j:=tNC j;refine AY (by show decide ((j:Int)<((((Co.set ((i:Int)).toNat (List.replicate ((n:Int)).toNat (0:Int))).getD ((i:Int)).toNat []).length:Nat):Int))=true;rw[hz];exact ltt A) (Ab (by show(0:Int)<=(i:Int)/\(i:Int)<((Co2.length:Nat):Int);omega) (Ab (by show(0:Int)<=(j:Int)/\(j:Int)<(((Co2.getD ((i:Int)).toNat []).length:Nat):Int);rw[E];omega) (Ab (by show(0:Int)<=(i:Int)/\(i:Int)<(((IJ n).length:Nat):Int);omega) (Ab (by show(0:Int)<=(j:Int)/\(j:Int)<(((IJ n).length:Nat):Int);omega) (Ak (λe=>?_) λe=>?_)))))
   .have e:decide ((IJ n).getD ((i:Int)).toNat 0=(IJ n).getD ((j:Int)).toNat 0)=true:=e
    rw[E,Z,Jr B,Jr A]at e;have e:=Bz e;have hs:=ho.set B A (v:=(i:Int)) (by unfold dc;rw[if_pos (by omega)])
    refine Ab (by show(0:Int)<=(i:Int)/\(i:Int)<(((Co2.set ((i:Int)).toNat ((Co2.getD ((i:Int)).toNat []).set ((j:Int)).toNat (-1))).length:Nat):Int);rw[List.length_set];omega) (AI (v:=(i:Int)) rfl (Ab ?_ (Aa ⟨wr1 A (by omega),rfl,rfl,rfl,rfl,?_⟩)))
    .show(0:Int)<=(j:Int)/\(j:Int)<((((Co2.set ((i:Int)).toNat ((Co2.getD ((i:Int)).toNat []).set ((j:Int)).toNat (-1))).getD ((i:Int)).toNat []).length:Nat):Int)
     rw[E,Z,ho.rl];omega
    .show CI _ _ _ _ ((Co2.set ((i:Int)).toNat ((Co2.getD ((i:Int)).toNat []).set ((j:Int)).toNat (-1))).set ((i:Int)).toNat (((Co2.set ((i:Int)).toNat ((Co2.getD ((i:Int)).toNat []).set ((j:Int)).toNat (-1))).getD ((i:Int)).toNat []).set ((j:Int)).toNat (i:Int)))
     rw[E,Z];exact hs
   .have e:decide ((IJ n).getD ((i:Int)).toNat 0=(IJ n).getD ((j:Int)).toNat 0)=false:=e
    rw[E,Z,Jr B,Jr A]at e;have e:=DF e;have hs:=Y.set B A (v:=-1) (by unfold dc;rw[if_neg (by omega)])
    refine Aa ⟨wr1 A (by omega),rfl,rfl,rfl,rfl,?_⟩
    show CI _ _ _ _ (Co2.set ((i:Int)).toNat ((Co2.getD ((i:Int)).toNat []).set ((j:Int)).toNat (-1)));rw[E,Z];exact hs
  .obtain⟨k,o,F,T,I2,Co2⟩:=v
   obtain⟨(W:k=_),U,O,M,L,(Y:CI _ _ _ _ Co2)⟩:=J;subst W;obtain⟨g1,g2⟩:=Y.row;refine AH (by show decide ((n:Int)<((((Co.set ((i:Int)).toNat (List.replicate ((n:Int)).toNat (0:Int))).getD ((i:Int)).toNat []).length:Nat):Int))=false;rw[hz];exact ltf) (Aa (Ab rfl (Aa ⟨wr1 B (by omega),U,O,M,L,g1,g2⟩)))
 .obtain⟨k,o,F,T,I',Co⟩:=v
  obtain⟨(W:k=_),(U:o=_),(O:F=_),(M:T=_),(L:I'=_),(hl:Co.length=_),hd⟩:=J;subst W U O M L;have eC:Co=(List.range n).map λf=>(List.range n).map λg=>dc f g:=AcC hl hd
  subst eC;exact AH (by show decide ((n:Int)<(((List.replicate ((n:Int)).toNat ([]:List Int)).length:Nat):Int))=false;rw[List.length_replicate,tNC];exact ltf) (Aa (Ab rfl (Aa rfl)))
def p55(hn:n<=1000):G55 (n:Int)=some (dC n):=by
 have key:Tot (λv=>v=dC n) (G55 (n:Int)):=by
  unfold G55;refine AI (p105 hn) (AI (p105 hn) (AI (p105 hn) (Ah (p20094 hn) λv A=>Aa (by rw[A]))))
 obtain⟨v,A,e⟩:=key;rw[A,e]
open Classical in
def dsR(t:List (List Int)):MC×Int:=if Cn t t.length then(if t.length<=8 then(mkM (dC t.length) 0 t t,0)else(zM,3))else(zM,1)
def p15x(A:okN 1000 t):Tot (λz=>z=dsR t) (G15 t):=by
 unfold G15;obtain⟨b,L,F⟩:=p42x A;refine AI L (Ak (λe=>Aa ?_) λe=>?_)
 .have:¬Cn t t.length:=λB=>by rw[F.2 B]at e;cases e
  unfold dsR;rw[if_neg this];rfl
 have B:Cn t t.length:=F.1 (by simpa using e)
 have M:=A.1;have E:okN 1048576 t:=⟨by omega,λy J=>Nat.le_trans (A.2 y J) (by omega)⟩
 unfold dsR;rw[if_pos B];refine Ak (λe=>?_) λe=>?_
 .have e:=Bz e
  rw[if_neg (by omega)]
  exact Aa rfl
 .have e:=DF e
  rw[if_pos (by omega)]
  exact AI (p55 (by omega)) (AI (p44 E) (AI (p44 E) (Aa rfl)))
theorem p16x(B:okN 1000 t):Tot (λz=>z=dsR t) (G16 t):=by
 unfold G16;obtain⟨b,hb,O⟩:=p47x B;refine AI hb (Ak (λe=>Aa ?_) λe=>?_)
 .have:¬Cn t t.length:=λF=>by rw[O.2 F]at e;cases e
  unfold dsR;rw[if_neg this];rfl
 have F:Cn t t.length:=O.1 (by simpa using e)
 have hl:=B.1;have M:okN 1048576 t:=⟨by omega,λy hy=>Nat.le_trans (B.2 y hy) (by omega)⟩
 unfold dsR;rw[if_pos F];refine Ak (λe=>?_) λe=>?_
 .have e:=Bz e
  rw[if_neg (by omega)]
  exact Aa rfl
 have e:=DF e;rw[if_pos (by omega)]
 refine Ao (n:=t.length) (λi v=>v.1=(i:Int)/\v.2.2.2.2.2.2.2.2.2=(List.range i).map λi=>(List.replicate t.length (0:Int)).set i 1) ⟨rfl,rfl⟩ (λi L v A=>?_) λv A=>?_
 .obtain⟨k,r0,r1,r2,r3,Z,Y,W,U,rel⟩:=v
  obtain⟨(J:k=(i:Int)),(E:rel=_)⟩:=A;subst J E;refine AY (ltt L) (Ab (by omega) (Ab ?_ (Ab trivial (Ab ?_ (Aa ⟨wr1 L (by omega),?_⟩)))))
  .show(0:Int)<=(i:Int)/\(i:Int)<(((List.replicate (((t.length:Nat):Int)).toNat (0:Int)).length:Nat):Int)
   rw[List.length_replicate,tNC];omega
  .show((List.range i).map λi=>(List.replicate t.length (0:Int)).set i 1).length+1<=_
   rw[List.length_map,List.length_range];omega
  .show((List.range i).map λi=>(List.replicate t.length (0:Int)).set i 1)++[(List.replicate (((t.length:Nat):Int)).toNat (0:Int)).set ((i:Int)).toNat 1]=_
   rw[tNC,tNC];exact HI
 .obtain⟨k,r0,r1,r2,r3,Z,Y,W,U,rel⟩:=v
  obtain⟨(J:k=_),(E:rel=dI t.length)⟩:=A;subst J E;refine AH ltf (Aa (Ab rfl (Ah (p48x Ace (by omega)) λc hc=>AI (p50 M) (AI (p50 M) (Aa ?_)))))
  rw[hc,M0];rfl
end
end Go.Ve.D

