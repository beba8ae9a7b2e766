/- Monoid objects. -/
import Derived.Test.YtpaekmpjbalnfabJae
namespace Go.Ve.D
open Go Go.Ve
noncomputable section
theorem UE{α:Type}{b:Bool}{x y r:α}(h:b=true)(hx:x=r):(bif b then x else y)=r:=by subst h;exact hx
theorem JS{α:Type}{b:Bool}{x y r:α}(h:b=false)(hx:y=r):(bif b then x else y)=r:=by subst h;exact hx
theorem MA{α:Type}{p:Prop} [Decidable p]{x y r:α}(h:p)(hx:x=r):(if p then x else y)=r:=by rw [if_pos h];exact hx
def moB(c:Cat)(am:List (List Int))(a m e:Nat):Bool:=
 (decide (T c (cell am m a).toNat m=T c (cell am a m).toNat m)&&decide (T c (cell am e a).toNat m=(a:Int)))&&decide (T c (cell am a e).toNat m=(a:Int))
section
variable {c:Cat} {u:Int} {ob am:List (List Int)} {n:Nat}
structure MO(c:Cat)(u:Int)(ob am:List (List Int))(n x m e a:Nat):Prop where
 hx:x<n
 hm:m<ar c
 he:e<ar c
 ha:a<ar c
 fa:c.2.2.2.1.getD x 0=(a:Int)
 fm:fT c m=cell ob x x
 tm:tT c m=(x:Int)
 fe:fT c e=u
 te:tT c e=(x:Int)
theorem P4(h:MH c u ob am n){x m e a:Nat}(o:MO c u ob am n x m e a): ∃k1 k2 k3 k4:Nat,k1<ar c/\k2<ar c/\k3<ar c/\k4<ar c/\
  (am.getD ((m:Int)).toNat []).getD (c.2.2.2.1.getD ((x:Int)).toNat 0).toNat 0=(k1:Int)/\(am.getD (c.2.2.2.1.getD ((x:Int)).toNat 0).toNat []).getD ((m:Int)).toNat 0=(k2:Int)/\
  (am.getD ((e:Int)).toNat []).getD (c.2.2.2.1.getD ((x:Int)).toNat 0).toNat 0=(k3:Int)/\(am.getD (c.2.2.2.1.getD ((x:Int)).toNat 0).toNat []).getD ((e:Int)).toNat 0=(k4:Int)/\
  moB c am a m e=((decide (T c k1 m=T c k2 m)&&decide (T c k3 m=(a:Int)))&&decide (T c k4 m=(a:Int))):=by
 obtain⟨k1,g1,e1⟩:=h.ha.val m a o.hm o.ha;obtain⟨k2,g2,e2⟩:=h.ha.val a m o.ha o.hm;obtain⟨k3,g3,e3⟩:=h.ha.val e a o.he o.ha;obtain⟨k4,g4,e4⟩:=h.ha.val a e o.ha o.he;have fa:c.2.2.2.1.getD ((x:Int)).toNat 0=(a:Int):=by rw [tNC];exact o.fa
 refine⟨k1,k2,k3,k4,g1,g2,g3,g4,?_,?_,?_,?_,?_⟩
 ·rw [fa,tNC,tNC];exact e1
 ·rw [fa,tNC,tNC];exact e2
 ·rw [fa,tNC,tNC];exact e3
 ·rw [fa,tNC,tNC];exact e4
 ·unfold moB
  rw [e1,e2,e3,e4,tNC,tNC,tNC,tNC]
theorem p71(h:MH c u ob am n){x m e a:Nat}(o:MO c u ob am n x m e a):G71 (mkM c u ob am,((x:Int),((m:Int),(e:Int))))=some (moB c am a m e):=by
 obtain⟨k1,k2,k3,k4,g1,g2,g3,g4,e1,e2,e3,e4,em⟩:=P4 h o;obtain⟨a1,a2,a3,a4,a5,a6,a7,a8⟩:=h.sh.hd;have hn:=h.hn;have hx:=o.hx;have hm:=o.hm;have he:=o.he;have hac:ar c=c.2.1.length:=rfl;have lo:=h.ho.len;have la:=h.ha.len;have rx:=h.ho.row x hx;have fa:c.2.2.2.1.getD ((x:Int)).toNat 0=(a:Int):=by rw [tNC];exact o.fa
 have hA:=o.ha;have ra:=h.ha.row a hA;have rm:=h.ha.row m hm;have re:=h.ha.row e he;have g104m:=AaM (c:=c) (a:=(m:Int)) (by omega) (by omega)
 have g104e:=AaM (c:=c) (a:=(e:Int)) (by omega) (by omega)
 have fx:(ob.getD ((x:Int)).toNat []).getD ((x:Int)).toNat 0=cell ob x x:=by rw [tNC];rfl
 have q1:c.2.1.getD ((m:Int)).toNat 0=cell ob x x:=by rw [tNC];exact o.fm
 have q2:c.2.2.1.getD ((m:Int)).toNat 0=(x:Int):=by rw [tNC];exact o.tm
 have q3:c.2.1.getD ((e:Int)).toNat 0=u:=by rw [tNC];exact o.fe
 have q4:c.2.2.1.getD ((e:Int)).toNat 0=(x:Int):=by rw [tNC];exact o.te
 rw [q1,q2]at g104m;rw [q3,q4]at g104e;have iA:(0:Int)<=c.2.2.2.1.getD ((x:Int)).toNat 0/\c.2.2.2.1.getD ((x:Int)).toNat 0<((am.length:Nat):Int):=by rw [fa];omega
 have iAr: ∀r:Nat,r<ar c->(0:Int)<=c.2.2.2.1.getD ((x:Int)).toNat 0/\c.2.2.2.1.getD ((x:Int)).toNat 0<(((am.getD ((r:Int)).toNat []).length:Nat):Int):=fun r hr=>by rw [fa,tNC,h.ha.row r hr];omega
 have ir: ∀r:Nat,r<ar c->(0:Int)<=(r:Int)/\(r:Int)<((am.length:Nat):Int):=fun r hr=>by omega
 have iaR: ∀r:Nat,r<ar c->(0:Int)<=(r:Int)/\(r:Int)<(((am.getD (c.2.2.2.1.getD ((x:Int)).toNat 0).toNat []).length:Nat):Int):=fun r hr=>by rw [fa,tNC,ra];omega
 suffices hT:Tot (fun r=>r=moB c am a m e) (G71 (mkM c u ob am,((x:Int),((m:Int),(e:Int))))) by
  obtain⟨v,h1,h2⟩:=hT;rw [h1,h2]
 unfold G71 mkM;refine Ac (by show(0:Int)<=(x:Int)/\(x:Int)<((c.2.2.2.1.length:Nat):Int);omega) (AL g104m (Ac (by show(0:Int)<=(x:Int)/\(x:Int)<((ob.length:Nat):Int);omega) (Ac (by show(0:Int)<=(x:Int)/\(x:Int)<(((ob.getD ((x:Int)).toNat []).length:Nat):Int);rw [tNC];omega) (Ap (P:=fun v=>v=false) (AW ?_ (AL g104e (Aa ?_))) fun v hv=>?_))))
 ·show(!(decide (cell ob x x=(ob.getD ((x:Int)).toNat []).getD ((x:Int)).toNat 0)&&(decide ((x:Int)=(x:Int))&&true)))=false
  rw [fx,dT rfl,dT rfl];rfl
 ·show(!(decide (u=u)&&(decide ((x:Int)=(x:Int))&&true)))=false
  rw [dT rfl,dT rfl];rfl
 subst hv;have t1:G67 (c,((am.getD ((m:Int)).toNat []).getD (c.2.2.2.1.getD ((x:Int)).toNat 0).toNat 0,(m:Int)))=some (T c k1 m):=by rw [e1];exact Xs h.sh g1 hm
 have t2:G67 (c,((am.getD (c.2.2.2.1.getD ((x:Int)).toNat 0).toNat []).getD ((m:Int)).toNat 0,(m:Int)))=some (T c k2 m):=by rw [e2];exact Xs h.sh g2 hm
 have t3:G67 (c,((am.getD ((e:Int)).toNat []).getD (c.2.2.2.1.getD ((x:Int)).toNat 0).toNat 0,(m:Int)))=some (T c k3 m):=by rw [e3];exact Xs h.sh g3 hm
 have t4:G67 (c,((am.getD (c.2.2.2.1.getD ((x:Int)).toNat 0).toNat []).getD ((e:Int)).toNat 0,(m:Int)))=some (T c k4 m):=by rw [e4];exact Xs h.sh g4 hm
 refine AW rfl (Ac (ir m hm) (Ac (iAr m hm) (AL t1 (Ac iA (Ac (iaR m hm) (AL t2 (Ap (P:=fun v=>v=(decide (T c k1 m=T c k2 m)&&decide (T c k3 m=(a:Int)))) (Av (fun q=>Ac (ir e he) (Ac (iAr e he) (AL t3 (Aa ?_)))) fun q=>Aa ?_) fun v hv=>Ap (P:=fun v=>v=moB c am a m e) (Av (fun q=>Ac iA (Ac (iaR e he) (AL t4 (Aa ?_)))) fun q=>Aa ?_) fun v hv=>Aa hv)))))))
 ·show decide (T c k3 m=c.2.2.2.1.getD ((x:Int)).toNat 0)=_
  rw [fa,show decide (T c k1 m=T c k2 m)=true from q];rfl
 ·rw [show decide (T c k1 m=T c k2 m)=false from q];rfl
 ·show decide (T c k4 m=c.2.2.2.1.getD ((x:Int)).toNat 0)=_
  rw [fa,em,<-hv,q];rfl
 ·rw [em,<-hv,q];rfl
theorem p72(h:MH c u ob am n){x m e a:Nat}(o:MO c u ob am n x m e a):G72 (mkM c u ob am,((x:Int),((m:Int),(e:Int))))=some (moB c am a m e):=by
 obtain⟨k1,k2,k3,k4,g1,g2,g3,g4,e1,e2,e3,e4,em⟩:=P4 h o;obtain⟨a1,a2,a3,a4,a5,a6,a7,a8⟩:=h.sh.hd;have hn:=h.hn;have hx:=o.hx;have hm:=o.hm;have he:=o.he;have hac:ar c=c.2.1.length:=rfl;have lo:=h.ho.len;have la:=h.ha.len;have rx:=h.ho.row x hx;have fa:c.2.2.2.1.getD ((x:Int)).toNat 0=(a:Int):=by rw [tNC];exact o.fa
 have hA:=o.ha;have ra:=h.ha.row a hA;have fx:(ob.getD ((x:Int)).toNat []).getD ((x:Int)).toNat 0=cell ob x x:=by rw [tNC];rfl
 have q1:c.2.1.getD ((m:Int)).toNat 0=cell ob x x:=by rw [tNC];exact o.fm
 have q2:c.2.2.1.getD ((m:Int)).toNat 0=(x:Int):=by rw [tNC];exact o.tm
 have q3:c.2.1.getD ((e:Int)).toNat 0=u:=by rw [tNC];exact o.fe
 have q4:c.2.2.1.getD ((e:Int)).toNat 0=(x:Int):=by rw [tNC];exact o.te
 have iA:(0:Int)<=c.2.2.2.1.getD ((x:Int)).toNat 0/\c.2.2.2.1.getD ((x:Int)).toNat 0<((am.length:Nat):Int):=by rw [fa];omega
 have iAr: ∀r:Nat,r<ar c->(0:Int)<=c.2.2.2.1.getD ((x:Int)).toNat 0/\c.2.2.2.1.getD ((x:Int)).toNat 0<(((am.getD ((r:Int)).toNat []).length:Nat):Int):=fun r hr=>by rw [fa,tNC,h.ha.row r hr];omega
 have ir: ∀r:Nat,r<ar c->(0:Int)<=(r:Int)/\(r:Int)<((am.length:Nat):Int):=fun r hr=>by omega
 have iF: ∀r:Nat,r<ar c->(0:Int)<=(r:Int)/\(r:Int)<((c.2.1.length:Nat):Int):=fun r hr=>by omega
 have iT: ∀r:Nat,r<ar c->(0:Int)<=(r:Int)/\(r:Int)<((c.2.2.1.length:Nat):Int):=fun r hr=>by omega
 have iaR: ∀r:Nat,r<ar c->(0:Int)<=(r:Int)/\(r:Int)<(((am.getD (c.2.2.2.1.getD ((x:Int)).toNat 0).toNat []).length:Nat):Int):=fun r hr=>by rw [fa,tNC,ra];omega
 suffices hT:Tot (fun r=>r=moB c am a m e) (G72 (mkM c u ob am,((x:Int),((m:Int),(e:Int))))) by
  obtain⟨v,h1,h2⟩:=hT;rw [h1,h2]
 unfold G72 mkM;refine Ac (by show(0:Int)<=(x:Int)/\(x:Int)<((ob.length:Nat):Int);omega) (Ac (by show(0:Int)<=(x:Int)/\(x:Int)<(((ob.getD ((x:Int)).toNat []).length:Nat):Int);rw [tNC];omega) (Ac (iF m hm) (Ap (P:=fun v=>v=false) (AW ?_ (Ac (iT m hm) (Aa ?_))) fun v hv=>?_)))
 ·show(!decide (c.2.1.getD ((m:Int)).toNat 0=(ob.getD ((x:Int)).toNat []).getD ((x:Int)).toNat 0))=false
  rw [fx,q1,dT rfl];rfl
 ·show(!decide (c.2.2.1.getD ((m:Int)).toNat 0=(x:Int)))=false
  rw [q2,dT rfl];rfl
 subst hv;refine Ap (P:=fun v=>v=false) (AW rfl (Ac (iF e he) (Aa ?_))) fun v hv=>?_
 ·show(!decide (c.2.1.getD ((e:Int)).toNat 0=u))=false
  rw [q3,dT rfl];rfl
 subst hv;refine Ap (P:=fun v=>v=false) (AW rfl (Ac (iT e he) (Aa ?_))) fun v hv=>?_
 ·show(!decide (c.2.2.1.getD ((e:Int)).toNat 0=(x:Int)))=false
  rw [q4,dT rfl];rfl
 subst hv;have t1:G70 (c,((am.getD ((m:Int)).toNat []).getD (c.2.2.2.1.getD ((x:Int)).toNat 0).toNat 0,(m:Int)))=some (T c k1 m):=by rw [e1];exact Xb h.sh g1 hm
 have t2:G70 (c,((am.getD (c.2.2.2.1.getD ((x:Int)).toNat 0).toNat []).getD ((m:Int)).toNat 0,(m:Int)))=some (T c k2 m):=by rw [e2];exact Xb h.sh g2 hm
 have t3:G70 (c,((am.getD ((e:Int)).toNat []).getD (c.2.2.2.1.getD ((x:Int)).toNat 0).toNat 0,(m:Int)))=some (T c k3 m):=by rw [e3];exact Xb h.sh g3 hm
 have t4:G70 (c,((am.getD (c.2.2.2.1.getD ((x:Int)).toNat 0).toNat []).getD ((e:Int)).toNat 0,(m:Int)))=some (T c k4 m):=by rw [e4];exact Xb h.sh g4 hm
 refine AW rfl (Ac (by show(0:Int)<=(x:Int)/\(x:Int)<((c.2.2.2.1.length:Nat):Int);omega) (Ac (ir m hm) (Ac (iAr m hm) (AL t1 (Ac iA (Ac (iaR m hm) (AL t2 (Av (fun q=>Aa ?_) fun q=>Ac (ir e he) (Ac (iAr e he) (AL t3 (Ap (P:=fun v=>v=moB c am a m e) (Av (fun q2=>Ac iA (Ac (iaR e he) (AL t4 (Aa ?_)))) fun q2=>Aa ?_) fun v hv=>Aa hv)))))))))))
 ·have q:(!decide (T c k1 m=T c k2 m))=true:=q
  rw [em,show decide (T c k1 m=T c k2 m)=false from by simpa using q];rfl
 ·have q:(!decide (T c k1 m=T c k2 m))=false:=q
  have q2:decide (T c k3 m=c.2.2.2.1.getD ((x:Int)).toNat 0)=true:=q2;rw [fa]at q2;show decide (T c k4 m=c.2.2.2.1.getD ((x:Int)).toNat 0)=_;rw [fa,em,show decide (T c k1 m=T c k2 m)=true from by simpa using q,q2];rfl
 ·have q:(!decide (T c k1 m=T c k2 m))=false:=q
  have q2:decide (T c k3 m=c.2.2.2.1.getD ((x:Int)).toNat 0)=false:=q2;rw [fa]at q2;rw [em,show decide (T c k1 m=T c k2 m)=true from by simpa using q,q2];rfl
end
end
end Go.Ve.D


namespace Go.Ve.D
open Go Go.Ve
noncomputable section
section
variable (c:Cat) (u:Int) (ob am:List (List Int))
def muL(x:Nat):List Int:=I5 c (cell ob x x) (x:Int)
def unL(x:Nat):List Int:=I5 c u (x:Int)
def moE(x i j:Nat):List (List Int):=bif moB c am (idA c x) ((muL c ob x).getD i 0).toNat ((unL c u x).getD j 0).toNat then [[(x:Int),(muL c ob x).getD i 0,(unL c u x).getD j 0]]else []
def moI(x i:Nat):List (List Int):=(List.range (unL c u x).length).flatMap (moE c u ob am x i)
def moX(x:Nat):List (List Int):=(List.range (muL c ob x).length).flatMap (moI c u ob am x)
def moL(n:Nat):List (List Int):=(List.range n).flatMap (moX c u ob am)
end
section
variable {c:Cat} {u:Int} {ob am:List (List Int)} {n:Nat}
theorem OX(x i j:Nat):(moE c u ob am x i j).length<=1:=by
 unfold moE;cases moB c am (idA c x) ((muL c ob x).getD i 0).toNat ((unL c u x).getD j 0).toNat<;>simp
theorem OW(hm:ar c<=40)(x i:Nat):(moI c u ob am x i).length<=40:=by
 have h1:=HW (g:=moE c u ob am x i) (K:=1) (unL c u x).length fun j _=>OX x i j
 have h2:(unL c u x).length<=ar c:=DY;unfold moI;omega
theorem OV(hm:ar c<=40)(x:Nat):(moX c u ob am x).length<=1600:=by
 have h1:=HW (g:=moI c u ob am x) (K:=40) (muL c ob x).length fun j _=>OW hm x j
 have h2:(muL c ob x).length<=ar c:=DY;unfold moX;omega
theorem Z7(h:MH c u ob am n){x i j:Nat}(hx:x<n)(hi:i<(muL c ob x).length)(hj:j<(unL c u x).length): ∃m e:Nat,(muL c ob x).getD i 0=(m:Int)/\(unL c u x).getD j 0=(e:Int)/\MO c u ob am n x m e (idA c x):=by
 obtain⟨m,hm,em,m1,m2⟩:=Wt hi;obtain⟨e,he,ee,e1,e2⟩:=Wt hj;obtain⟨a,ha,ea,_⟩:=idX h.sh h.cat (x:=x) (by have:=h.hn;omega)
 have ida:idA c x=a:=by unfold idA;rw [ea,tNC]
 exact⟨m,e,em,ee,⟨hx,hm,he,by rw [ida];exact ha,by rw [ida];exact ea,m1,m2,e1,e2⟩⟩
theorem p26(h:MH c u ob am n)(ok:OR c ob am)(hmon:CK c u ob am=true):G26 (mkM c u ob am)=some (moL c u ob am n,(0:Int)):=by
 have e:=p54 (u:=u) ok;rw [hmon]at e;have e71:=fun{x m e a:Nat} (o:MO c u ob am n x m e a)=>p71 h o
 unfold mkM at e e71;obtain⟨a1,a2,a3,a4,a5,a6,a7,a8⟩:=h.sh.hd;have hm:ar c<=40:=a2;have hac:ar c=c.2.1.length:=rfl;have hn:=h.hn;have lo:=h.ho.len;unfold G26 mkM;refine As e (JS rfl (As (Oc (n:=n) (K:=1600) (L:=0) (g:=moX c u ob am) (id:=0) (fun x _=>OV hm x) (fun x hx acc hacc=>?_) (fun acc=>?_) [] (by simp)) ?_))
 ·have rx:=h.ho.row x hx
  have fx:(ob.getD ((x:Int)).toNat []).getD ((x:Int)).toNat 0=cell ob x x:=by rw [tNC];rfl
  have hom1:G48 (c,((ob.getD ((x:Int)).toNat []).getD ((x:Int)).toNat 0,(x:Int)))=some (muL c ob x):=by rw [fx];exact p48 (by omega) (by omega) _ _
  have hom2:G48 (c,(u,(x:Int)))=some (unL c u x):=p48 (by omega) (by omega) _ _
  have lmu:(muL c ob x).length<=ar c:=DY;have lun:(unL c u x).length<=ar c:=DY;refine UE (by show decide ((x:Int)<c.1)=true;exact dT (by omega)) (MA (by show(0:Int)<=(x:Int)/\(x:Int)<((ob.length:Nat):Int);omega) (MA (by show(0:Int)<=(x:Int)/\(x:Int)<(((ob.getD ((x:Int)).toNat []).length:Nat):Int);rw [tNC];omega) (As hom1 (As (Oc (n:=(muL c ob x).length) (K:=40) (L:=12800) (g:=moI c u ob am x) (id:=2) (fun i _=>OW hm x i) (fun i hi acc2 hacc2=>?_) (fun acc2=>?_) acc (by have:x*1600<=8*1600:=Nat.mul_le_mul_right _ (by omega);omega)) ?_))))
  ·refine UE (ltt hi) (MA (Ad hi) (As hom2 (As (Oc (n:=(unL c u x).length) (K:=1) (L:=14400) (g:=moE c u ob am x i) (id:=4) (fun j _=>OX x i j) (fun j hj acc3 hacc3=>?_) (fun acc3=>?_) acc2 (by have:i*40<=40*40:=Nat.mul_le_mul_right _ (by omega);omega)) ?_)))
   ·obtain⟨m,e',em,ee,o⟩:=Z7 h hx hi hj
    have q:G71 ((c.1,(c.2.1,(c.2.2.1,(c.2.2.2.1,(c.2.2.2.2,(u,(ob,am))))))),((x:Int),((muL c ob x).getD ((i:Int)).toNat 0,(unL c u x).getD ((j:Int)).toNat 0)))=some (moB c am (idA c x) ((muL c ob x).getD i 0).toNat ((unL c u x).getD j 0).toNat):=by
     rw [tNC,tNC,em,ee,tNC,tNC];exact e71 o
    refine UE (ltt hj) (MA (Ad hj) (As q ?_));cases hb:moB c am (idA c x) ((muL c ob x).getD i 0).toNat ((unL c u x).getD j 0).toNat with
    |true=>
     refine MA (by show acc3.length+1<=_;omega) ?_
     unfold moE;rw [hb,wr1 hj (by omega),tNC,tNC];rfl
    |false=>
     unfold moE;rw [hb,cond_false,cond_false,wr1 hj (by omega),List.append_nil]
   ·exact JS ltf rfl
   ·refine MA rfl ?_
    rw [wr1 hi (by omega)];rfl
  ·exact JS ltf rfl
  ·refine MA rfl ?_
   rw [wr1 hx (by omega)];rfl
 ·exact JS (by show decide ((n:Int)<c.1)=false;exact dF (by omega)) rfl
 ·exact MA rfl rfl
theorem p27(h:MH c u ob am n)(ok:OR c ob am)(hmon:CK c u ob am=true):G27 (mkM c u ob am)=some (moL c u ob am n,(0:Int)):=by
 have e:=p62 (u:=u) ok;rw [hmon]at e;have e72:=fun{x m e a:Nat} (o:MO c u ob am n x m e a)=>p72 h o
 unfold mkM at e e72;obtain⟨a1,a2,a3,a4,a5,a6,a7,a8⟩:=h.sh.hd;have hm:ar c<=40:=a2;have hac:ar c=c.2.1.length:=rfl;have hn:=h.hn;have lo:=h.ho.len;unfold G27 mkM;refine As e (JS rfl (As (Oc (n:=n) (K:=1600) (L:=0) (g:=moX c u ob am) (id:=0) (fun x _=>OV hm x) (fun x hx acc hacc=>?_) (fun acc=>?_) [] (by simp)) ?_))
 ·have rx:=h.ho.row x hx
  have fx:(ob.getD ((x:Int)).toNat []).getD ((x:Int)).toNat 0=cell ob x x:=by rw [tNC];rfl
  have hom1:G43 (c,((ob.getD ((x:Int)).toNat []).getD ((x:Int)).toNat 0,(x:Int)))=some (muL c ob x):=by rw [fx];exact p43 (by omega) (by omega) _ _
  have hom2:G43 (c,(u,(x:Int)))=some (unL c u x):=p43 (by omega) (by omega) _ _
  have lmu:(muL c ob x).length<=ar c:=DY;have lun:(unL c u x).length<=ar c:=DY;refine UE (by show decide ((x:Int)<c.1)=true;exact dT (by omega)) (MA (by show(0:Int)<=(x:Int)/\(x:Int)<((ob.length:Nat):Int);omega) (MA (by show(0:Int)<=(x:Int)/\(x:Int)<(((ob.getD ((x:Int)).toNat []).length:Nat):Int);rw [tNC];omega) (As hom1 (As hom2 (As (Oc (n:=(muL c ob x).length) (K:=40) (L:=12800) (g:=moI c u ob am x) (id:=2) (fun i _=>OW hm x i) (fun i hi acc2 hacc2=>?_) (fun acc2=>?_) acc (by have:x*1600<=8*1600:=Nat.mul_le_mul_right _ (by omega);omega)) ?_)))))
  ·refine UE (ltt hi) (As (Oc (n:=(unL c u x).length) (K:=1) (L:=14400) (g:=moE c u ob am x i) (id:=4) (fun j _=>OX x i j) (fun j hj acc3 hacc3=>?_) (fun acc3=>?_) acc2 (by have:i*40<=40*40:=Nat.mul_le_mul_right _ (by omega);omega)) ?_)
   ·obtain⟨m,e',em,ee,o⟩:=Z7 h hx hi hj
    have q:G72 ((c.1,(c.2.1,(c.2.2.1,(c.2.2.2.1,(c.2.2.2.2,(u,(ob,am))))))),((x:Int),((muL c ob x).getD ((i:Int)).toNat 0,(unL c u x).getD ((j:Int)).toNat 0)))=some (moB c am (idA c x) ((muL c ob x).getD i 0).toNat ((unL c u x).getD j 0).toNat):=by
     rw [tNC,tNC,em,ee,tNC,tNC];exact e72 o
    refine UE (ltt hj) (MA (Ad hi) (MA (Ad hj) (As q ?_)));cases hb:moB c am (idA c x) ((muL c ob x).getD i 0).toNat ((unL c u x).getD j 0).toNat with
    |true=>
     refine MA (Ad hi) (MA (Ad hj) (MA (by show acc3.length+1<=_;omega) ?_))
     unfold moE;rw [hb,wr1 hj (by omega),tNC,tNC];rfl
    |false=>
     unfold moE;rw [hb,cond_false,cond_false,wr1 hj (by omega),List.append_nil]
   ·exact JS ltf rfl
   ·refine MA rfl ?_
    rw [wr1 hi (by omega)];rfl
  ·exact JS ltf rfl
  ·refine MA rfl ?_
   rw [wr1 hx (by omega)];rfl
 ·exact JS (by show decide ((n:Int)<c.1)=false;exact dF (by omega)) rfl
 ·exact MA rfl rfl
theorem YX(h:MH c u ob am n){r:List Int}(hr:r∈moL c u ob am n): ∃x m e:Nat,r= [(x:Int),(m:Int),(e:Int)]/\MO c u ob am n x m e (idA c x)/\moB c am (idA c x) m e=true:=by
 obtain⟨x,hx,h1⟩:=List.mem_flatMap.1 hr;obtain⟨i,hi,h2⟩:=List.mem_flatMap.1 h1;obtain⟨j,hj,h3⟩:=List.mem_flatMap.1 h2;obtain⟨m,e,em,ee,o⟩:=Z7 h (List.mem_range.1 hx) (List.mem_range.1 hi) (List.mem_range.1 hj);unfold moE at h3;rw [em,ee,tNC,tNC]at h3;cases hb:moB c am (idA c x) m e with
 |false=>rw [hb]at h3;cases h3
 |true=>
  rw [hb]at h3;exact⟨x,m,e,List.mem_singleton.1 h3,o,hb⟩
theorem p29(h:MH c u ob am n)(ok:OR c ob am)(hmon:CK c u ob am=true){x m e:Nat}(o:MO c u ob am n x m e (idA c x)):G29 (mkM c u ob am,((x:Int),((m:Int),(e:Int))))=some (moB c am (idA c x) m e,(0:Int)):=by
 have e54:=p54 (u:=u) ok;rw [hmon]at e54;have e71:=p71 h o;have hn:=h.hn;have hx:=o.hx;have hm:=o.hm;have he:=o.he;have hac:ar c=c.2.1.length:=rfl;obtain⟨a1,a2,_⟩:=h.sh.hd
 have e73:G73 (mkM c u ob am,[(x:Int)])=some (0:Int):=by
  unfold G73;refine As e54 (JS rfl (As (p74 (n:=c.1) (x:=[(x:Int)]) (by omega) (by simp)) ?_))
  have:wi c.1 [(x:Int)]=true:=by
   show(inn c.1 (x:Int)&&true)=true;rw [Wr (by omega) (by omega)];rfl
  rw [this];rfl
 unfold mkM at e73 e71;unfold G29 mkM;refine As e73 (JS (by show(!decide ((0:Int)=0))=false;rfl) (As (p75 c) (As (p74 (n:=((c.2.1.length:Nat):Int)) (x:=[(m:Int),(e:Int)]) (by omega) (by simp)) ?_)))
 have:wi ((c.2.1.length:Nat):Int) [(m:Int),(e:Int)]=true:=by
  show(inn _ (m:Int)&&(inn _ (e:Int)&&true))=true;rw [Wr (by omega) (by omega),Wr (by omega) (by omega)];rfl
 rw [this];exact JS rfl (As e71 rfl)
theorem Z6(h:MH c u ob am n)(hmon:CK c u ob am=true): [u,((idA c u.toNat:Nat):Int),((idA c u.toNat:Nat):Int)]∈moL c u ob am n:=by
 unfold CK at hmon;simp only [bAE]at hmon;obtain⟨_,⟨⟨_,hob⟩,ham⟩,_⟩:=hmon;have hn:=h.hn;obtain⟨u1,u2⟩:=h.uin;obtain⟨k,hk,hkn⟩: ∃k:Nat,u=(k:Int)/\k<n:=⟨u.toNat,by omega,by omega⟩
 obtain⟨a,ha,ea,fa,ta⟩:=idX h.sh h.cat (x:=k) (by omega)
 have ida:idA c u.toNat=a:=by rw [hk,tNC];unfold idA;rw [ea,tNC]
 have hk2:idA c k=a:=by unfold idA;rw [ea,tNC]
 have huu:cell ob k k=(k:Int):=by
  have:=aET.1 hob k (List.mem_range.2 (by rw [h.ho.len];exact hkn))
  unfold whC unC at this;simp only [bAE]at this;have:=Ho this.1.1;rwa [hk,tNC]at this
 have haa:cell am a a=(a:Int):=by
  have:=aET.1 ham a (List.mem_range.2 (by rw [h.ha.len];exact ha))
  unfold whC unC at this;simp only [bAE]at this;have:=Ho this.1.1;rwa [ida]at this
 have hTa:T c a a=(a:Int):=by
  have hc:=h.cat;unfold HT HQ at hc;simp only [bAE]at hc;have:=aET.1 hc.2.1 a (List.mem_range.2 ha);unfold IE at this;simp only [bAE]at this;have:=Ho this.1
  have e:idn c (c.2.1.getD a 0)=a:=by
   have:c.2.1.getD a 0=(k:Int):=fa;rw [this];unfold idn;rw [tNC,ea,tNC]
  rwa [e]at this
 rw [ida,show [u,(a:Int),(a:Int)]= [(k:Int),(a:Int),(a:Int)]from by rw [hk]]
 have memH: ∀ {x y:Int},fT c a=x->tT c a=y->∃i,i<(I5 c x y).length/\(I5 c x y).getD i 0=(a:Int):=by
  intro x y h1 h2
  have hm:(a:Int)∈I5 c x y:=by
   unfold I5;exact List.mem_map.2 ⟨a,List.mem_filter.2 ⟨List.mem_range.2 ha,by rw [h1,h2];simp⟩,rfl⟩
  obtain⟨i,hi,e⟩:=List.getElem_of_mem hm;exact⟨i,hi,by rw [gDE,gEE hi];exact e⟩
 obtain⟨i,hi,ei⟩:=memH (x:=cell ob k k) (y:=(k:Int)) (by rw [huu];exact fa) ta
 obtain⟨j,hj,ej⟩:=memH (x:=u) (y:=(k:Int)) (by rw [hk];exact fa) ta
 refine List.mem_flatMap.2 ⟨k,List.mem_range.2 hkn,List.mem_flatMap.2 ⟨i,List.mem_range.2 hi,List.mem_flatMap.2 ⟨j,List.mem_range.2 hj,?_⟩⟩⟩;have ei':(muL c ob k).getD i 0=(a:Int):=ei;have ej':(unL c u k).getD j 0=(a:Int):=ej;unfold moE;rw [ei',ej',tNC,hk2];have:moB c am a a a=true:=by
  unfold moB;rw [haa,tNC,hTa];simp
 rw [this];exact List.mem_singleton.2 rfl
end
end
end Go.Ve.D


namespace Go.Ve.D
open Go Go.Ve
noncomputable section
theorem moL_ok{c:Cat}{u:Int}{ob am:List (List Int)}{n:Nat}(h:MH c u ob am n):okN 1048576 (moL c u ob am n):=by
 obtain⟨a1,a2,_⟩:=h.sh.hd;have hn:=h.hn;refine⟨?_,fun y hy=>?_⟩
 ·have h1:=HW (g:=moX c u ob am) (K:=1600) n fun x _=>OV a2 x
  have:n*1600<=8*1600:=Nat.mul_le_mul_right _ (by omega)
  unfold moL;omega
 ·obtain⟨x,m,e,rfl,_⟩:=YX h hy
  simp
theorem law4{x:List Int}(hx:x.length<=9223372036854775807)(hb: ∀b∈x,0<=b/\b<=255):G4 x=some true:=by
 suffices hT:Tot (fun r=>r=true) (G4 x) by
  obtain⟨v,h1,h2⟩:=hT;rw [h1,h2]
 unfold G4;refine AL (show G6 x=some (decide ((4096:Int)<((x.length:Nat):Int)))from rfl) (Av (fun _=>Aa rfl) fun hbig=>?_)
 have hbig:=WJ hbig;refine Ap (p19 ⟨by omega,hb⟩) fun m ok=>?_
 obtain⟨c,u,ob,am,rfl⟩: ∃c u ob am,m=mkM c u ob am:=⟨catM m,unM m,obM m,amM m,rfl⟩;have ok:OR c ob am:=ok;have e20:=p20 (u:=u) ok;have e21:=p21 (u:=u) ok;have e11:=p11 (u:=u) ok;refine AL e20 (AL e21 ?_);cases hmon:CK c u ob am with
 |false=>
  have hr:Ij c u ob am=([],1):=by unfold Ij;rw [hmon];rfl
  rw [hmon]at e11;rw [hr];refine Ap (P:=fun v=>v=false) (AW (by show(!decide ((1:Int)=1))=false;decide) (AL (p22 (x:=[]) (by decide) (fun i=>⟨by simp,fun y hy=>by simp at hy⟩)) (Aa rfl))) fun v hv=>?_
  subst hv;exact AW rfl (Bu (by show decide ((1:Int)=1)=true;decide) (AL e11 (Aa rfl)))
 |true=>
  have hh:HU c u ob am=true:=by
   have:=hmon;unfold CK at this;rw [bAE]at this;exact this.1
  obtain⟨n,h⟩:=V9 hh;have hn:=h.hn;obtain⟨a1,_⟩:=h.sh.hd;have hl:=XT (c:=c) (u:=u) (ob:=ob) (am:=am)
  have hcode:(Ij c u ob am).2≠1:=by
   unfold Ij;rw [hmon];cases Xo (AE c ob c.1.toNat)<;>cases decide (200<D4 (AE c ob c.1.toNat))<;>(intro h;cases h)
  have e26:=p26 h ok hmon;have e27:=p27 h ok hmon;have hmo:=moL_ok h;refine Ap (P:=fun v=>v=false) (AW (by show(!decide ((Ij c u ob am).2=(Ij c u ob am).2))=false;rw [dT rfl];rfl) (AL (p22 (x:=(Ij c u ob am).1) (by omega) (fun i=>XR i (by omega))) (Aa rfl))) fun v hv=>?_
  subst hv;refine AW rfl (AW (by show decide ((Ij c u ob am).2=1)=false;exact dF hcode) ?_)
  refine AF (n:=(Ij c u ob am).1.length) (fun i v=>v=(i:Int)) rfl (fun i hi v hv=>?_) fun v hv=>?_
  ·subst hv
   obtain⟨hbt,hg⟩:=XS hn hmon hi;have e23:=p23 h ok hmon hbt;have e24:=p24 h ok hmon hbt hg;have e25:=p25 h ok hmon hbt hg;rw [hg]at e23;have fi:(Ij c u ob am).1.getD ((i:Int)).toNat []=(Ij c u ob am).1.getD i []:=by rw [tNC]
   rw [<-fi]at e23 e24 e25;refine Bu (ltt hi) (Ac (Ad hi) (AL e23 (Ac (Ad hi) (AL e24 (Ac (Ad hi) (AL e25 ?_))))));refine Ap (P:=fun v=>v=false) (AW (by show(!decide ((0:Int)=0))=false;decide) (Aa rfl)) fun v hv=>?_
   subst hv;refine Ap (P:=fun v=>v=false) (AW rfl (Aa (by show(!decide ((0:Int)=0))=false;decide))) fun v hv=>?_
   subst hv;refine Ap (P:=fun v=>v=false) (AW rfl (Aa (by simp))) fun v hv=>?_
   subst hv;exact AW rfl (Aa (wr1 hi (by omega)))
  ·subst hv
   obtain⟨L,hL⟩: ∃L,L=moL c u ob am n:=⟨_,rfl⟩;have hunit:=Z6 h hmon;rw [<-hL]at e26 e27 hmo hunit;have hLl:=hmo.1;have hL0:0<L.length:=List.length_pos_of_mem hunit;refine AW ltf (Aa (Ac rfl (AL e26 (AL e27 ?_))));refine Ap (P:=fun v=>v=false) (AW (by show(!decide ((0:Int)=0))=false;decide) (AL (p28 hmo) (Aa rfl))) fun v hv=>?_
   subst hv;refine Ap (P:=fun v=>v=false) (AW rfl (Aa (dF (by show ¬ ((L.length:Nat):Int)=0;omega)))) fun v hv=>?_
   subst hv;refine AW rfl ?_;refine AF (n:=L.length) (fun i v=>v.2=(i:Int)/\((∃k,k<i/\(L.getD k []).getD 0 0=u)->v.1=true)) ⟨rfl,fun⟨k,hk,_⟩=>by omega⟩ (fun i hi v hv=>?_) fun v hv=>?_
   ·obtain⟨fo,k⟩:=v
    obtain⟨(hk:k=(i:Int)),(hf:(∃k,k<i/\(L.getD k []).getD 0 0=u)->fo=true)⟩:=hv;subst hk;have hmem:L.getD i []∈moL c u ob am n:=by rw [<-hL];exact BI [] hi
    obtain⟨x',m,e,er,o,hm⟩:=YX h hmem;have e29:=p29 h ok hmon o;rw [hm]at e29;have fr:L.getD ((i:Int)).toNat []= [(x':Int),(m:Int),(e:Int)]:=by rw [tNC];exact er
    have i3: ∀k:Int,0<=k->k<3->(0:Int)<=k/\k<(((L.getD ((i:Int)).toNat []).length:Nat):Int):=fun k h1 h2=>by rw [fr];exact⟨h1,h2⟩
    have q:G29 (mkM c u ob am,((L.getD ((i:Int)).toNat []).getD ((0:Int)).toNat 0,((L.getD ((i:Int)).toNat []).getD ((1:Int)).toNat 0,(L.getD ((i:Int)).toNat []).getD ((2:Int)).toNat 0)))=some (true,(0:Int)):=by rw [fr];exact e29
    refine Bu (ltt hi) (Ac (Ad hi) (Ac (i3 0 (by decide) (by decide)) (Ac (Ad hi) (Ac (i3 1 (by decide) (by decide)) (Ac (Ad hi) (Ac (i3 2 (by decide) (by decide)) (AL q ?_)))))))
    refine Ap (P:=fun v=>v=false) (AW (by show(!decide ((0:Int)=0))=false;decide) (Aa rfl)) fun v hv=>?_
    subst hv;refine AW rfl (Ap (P:=fun v=>v=(fo||decide ((L.getD i []).getD 0 0=u))) (Av (fun e=>Aa ?_) fun e=>Ac (Ad hi) (Ac (i3 0 (by decide) (by decide)) (Aa ?_))) fun v hv=>Aa ⟨wr1 hi (by omega),fun⟨k,hk,hku⟩=>?_⟩)
    ·have e:fo=true:=e
     rw [e];rfl
    ·have e:fo=false:=e
     rw [e,tNC];rfl
    ·subst hv
     show(fo||decide ((L.getD i []).getD 0 0=u))=true;by_cases hki:k<i
     ·rw [hf ⟨k,hki,hku⟩];rfl
     ·obtain rfl:k=i:=by omega
      rw [dT hku,Bool.or_true]
   ·obtain⟨fo,k⟩:=v
    obtain⟨(hk:k=(L.length:Int)),(hf:(∃k,k<L.length/\(L.getD k []).getD 0 0=u)->fo=true)⟩:=hv;subst hk;refine AW ltf (Aa (Ac rfl (Aa (hf ?_))));obtain⟨k,hk,e⟩:=List.getElem_of_mem hunit;refine⟨k,hk,?_⟩;have e2:L.getD k []=L[k]:=by rw [gDE,gEE hk];rfl
    rw [e2,e];rfl
end
end Go.Ve.D


namespace Go.Ve.D
open Go Go.Ve
theorem u8_in{n:Int}(h:(Lit.int .u8 n).wf=true):0<=n/\n<=255:=by
 have h:(decide (IntKind.u8.min<=n)&&decide (n<=IntKind.u8.max))=true:=h;rw [bAE,decide_eq_true_eq,decide_eq_true_eq]at h;have e1:IntKind.u8.min=0:=by decide
 have e2:IntKind.u8.max=255:=by decide
 omega
theorem p4(x:List Int)(h:okT (PT S4.ps) x):G4 x=some true:=by
 have h:x.length<=maxLen/\∀n∈x,(Lit.int .u8 n).wf=true:=h;have hm:maxLen=9223372036854775807:=by decide
 exact law4 (by have:=h.1;omega) fun b hb=>u8_in (h.2 b hb)
end Go.Ve.D

