/- Strict monoidal categories that are drawn. -/
import Derived.Test.YtpaekmpjbalnfabJaa
import Derived.Test.YtpaekmpjbalnfabBda
import Derived.Test.YtpaekmpjbalnfabBdf
namespace Go.Ve.D
open Go Go.Ve
noncomputable section
def catM(m:MC):Cat:=(m.1,(m.2.1,(m.2.2.1,(m.2.2.2.1,m.2.2.2.2.1))))
def unM(m:MC):Int:=m.2.2.2.2.2.1
def obM(m:MC):List (List Int):=m.2.2.2.2.2.2.1
def amM(m:MC):List (List Int):=m.2.2.2.2.2.2.2
structure OKM(m:MC):Prop where
 ok:OR (catM m) (obM m) (amM m)
 am:0<(amM m).length
 am0:0<((amM m).getD 0 []).length
 ob:0<(obM m).length
theorem p52(c:Cat):G52 c=some (decide (c.1<=8)&&decide (((c.2.1.length:Nat):Int)<=40)):=by
 unfold G52;cases decide (c.1<=8)<;>rfl
theorem sq_all{n:Nat}{t:List (List Int)}(h:Sq n t)(hn:n<=1048576):t.length<=1048576/\∀y∈t,y.length<=1048576:=h.okN hn
theorem PosC.okC{t:List (List Int)}{n:Nat}{c:Cat}(h:PosC t n c)(hn:n<=1000):okC c:=by
 have hb:=h.pos.bound (by omega) hn
 have hl:=h.pos.len;have hs:=sq_all h.co (by omega)
 exact⟨by omega,by omega,by have:=h.ids;omega,hs.1,hs.2⟩
theorem OQ{c:Cat}{u:Int}{ob am:List (List Int)}(h1:okC c)(h2:okN 1048576 ob)(h3:okN 1048576 am)(a:0<am.length)(b:0<(am.getD 0 []).length)(d:0<ob.length):OKM (mkM c u ob am):=⟨⟨h1,h2,h3⟩,a,b,d⟩
theorem p16{t:List (List Int)}(h:okN 1000 t):Tot (fun r=>(r.2=0->OKM r.1)/\(t.length<=8->G50 t=some true->r.2=0)) (G16 t):=by
 unfold G16;obtain⟨n,hn⟩: ∃n,n=t.length:=⟨_,rfl⟩;have hn1:n<=1000:=by rw [hn];exact h.1
 obtain⟨b,hg,hb⟩:=p50 h;refine AL hg (Av (fun e=>Aa ⟨(fun h=>by cases h),fun _ h=>?_⟩) fun e=>?_)
 ·rw [hg]at h
  have:b=true:=Option.some.inj h;rw [this]at e;cases e
 have hb:=hb (by simpa using e)
 refine Av (fun h8=>Aa ⟨(fun h=>by cases h),fun h _=>by have:=Ho h8;omega⟩) fun _=>?_
 refine AF (n:=n) (fun i v=>v.1=(i:Int)/\(v.2.2.2.2.2.2.2.2.2.length=i/\∀j,j<i->(v.2.2.2.2.2.2.2.2.2.getD j []).length=n)) ⟨rfl,rfl,fun j hj=>by omega⟩ (fun i hi v hv=>?_) fun v hv=>?_
 ·obtain⟨k,r0,r1,r2,r3,r4,r5,r6,r7,rel⟩:=v
  obtain⟨(hk:k=(i:Int)),(hr:rel.length=i/\∀j,j<i->(rel.getD j []).length=n)⟩:=hv;subst hk;have hl:=hr.1;refine Bu (by show decide ((i:Int)<((t.length:Nat):Int))=true;exact dT (by omega)) (Ac (by omega) (Ac ?_ (Ac trivial (Ac ?_ (Aa ⟨wr1 hi (by omega),Sq.snoc hr ?_⟩)))))
  ·show(0:Int)<=(i:Int)/\(i:Int)<(((List.replicate (((t.length:Nat):Int)).toNat (0:Int)).length:Nat):Int)
   rw [List.length_replicate,tNC];omega
  ·show rel.length+1<=_
   omega
  ·rw [List.length_set,List.length_replicate,tNC];exact hn.symm
 ·obtain⟨k,r0,r1,r2,r3,r4,r5,r6,r7,rel⟩:=v
  obtain⟨(hk:k=(n:Int)),(hr:Sq n rel)⟩:=hv;subst hk;have hN:okN 1048576 t:=⟨by have:=h.1;omega,fun y hy=>by have:=h.2 y hy;omega⟩
  refine AW (by show decide ((n:Int)<((t.length:Nat):Int))=false;exact dF (by omega)) (Aa (Ac rfl (Ap (p51 hr hn1) fun c hc=>AL (p53 hN) (AL (p53 hN) (Aa ⟨fun _=>?_,fun _ _=>rfl⟩)))))
  exact OQ (c:=c) (u:=0) (hc.okC hn1) hN hN hb.1 (by rw [hb.2.row 0 hb.1];exact hb.1) hb.1
theorem p14{t:List (List Int)}(h:okN 1000 t):Tot (fun r=>r.2=0->OKM r.1) (G14 t):=by
 unfold G14;obtain⟨n,hn⟩: ∃n,n=t.length:=⟨_,rfl⟩;have hn1:n<=1000:=by rw [hn];exact h.1
 refine Ap (p50 h) fun b hb=>Av (fun _=>Aa (fun h=>by cases h)) fun e=>?_
 have hb:=hb (by simpa using e)
 have hrow: ∀x y:Nat,x<n->y<n->((0:Int)<=(y:Int))/\((y:Int)<(((t.getD ((x:Int)).toNat []).length:Nat):Int)):=fun x y hx hy=>by
  rw [tNC,hb.2.row x (by omega)];omega
 have hin: ∀x:Nat,x<n->((0:Int)<=(x:Int))/\((x:Int)<((t.length:Nat):Int)):=fun x hx=>by omega
 refine AF (n:=n) (fun i v=>v.1=(i:Int)) rfl (fun i hi v hv=>?_) fun v hv=>?_
 ·obtain⟨k,r⟩:=v
  have hv:k=(i:Int):=hv;subst hv;refine Bu (by show decide ((i:Int)<((t.length:Nat):Int))=true;exact dT (by omega)) (AF (n:=i) (fun i v=>v.1=(i:Int)) rfl (fun j hj v hv=>?_) fun v hv=>?_)
  ·obtain⟨k,r⟩:=v
   have hv:k=(j:Int):=hv;subst hv;refine Bu (ltt hj) (Ac (hin i hi) (Ac (hrow i j hi (by omega)) (Ac (hin j (by omega)) (Ac (hrow j i (by omega) hi) (Av (fun _=>Bs (Bs (Aa (fun h=>by cases h)))) fun _=>Aa (wr1 hj (by omega)))))))
  ·obtain⟨k,r⟩:=v
   have hv:k=(i:Int):=hv;subst hv;exact AW ltf (Aa (Ac rfl (Aa (wr1 hi (by omega)))))
 ·obtain⟨k,r⟩:=v
  have hv:k=(n:Int):=hv;subst hv;have hN:okN 1048576 t:=⟨by have:=h.1;omega,fun y hy=>by have:=h.2 y hy;omega⟩
  refine AW (by show decide ((n:Int)<((t.length:Nat):Int))=false;exact dF (by omega)) (Aa (Ac rfl (Av (fun _=>Aa (fun h=>by cases h)) fun _=>AL (p56 hN) (Ac trivial (AL (p53 hN) (Aa fun _=>?_))))))
  refine OQ (c:=((1:Int),(List.replicate t.length (0:Int),(List.replicate t.length (0:Int),([(0:Int)],t))))) (u:=0) ?_ (ob:=[[0]]) ⟨by decide,by decide⟩ hN hb.1 (by rw [hb.2.row 0 hb.1];exact hb.1) (by decide)
  refine⟨?_,?_,(by decide:([(0:Int)]:List Int).length<=1048576),hN.1,hN.2⟩
  ·show(List.replicate t.length (0:Int)).length<=_
   rw [List.length_replicate];exact hN.1
  ·show(List.replicate t.length (0:Int)).length<=_
   rw [List.length_replicate];exact hN.1
end
end Go.Ve.D


namespace Go.Ve.D
open Go Go.Ve
noncomputable section
theorem Yh{c:Cat}{x y:Int}{k:Nat}(hk:k<ar c)(h1:fT c k=x)(h2:tT c k=y):0<(I5 c x y).length:=by
 have:(k:Int)∈I5 c x y:=by
  unfold I5;refine List.mem_map.2 ⟨k,List.mem_filter.2 ⟨List.mem_range.2 hk,?_⟩,rfl⟩;rw [h1,h2];simp
 exact List.length_pos_of_mem this
theorem p9{r t:List (List Int)}(hr:okN 1000 r)(ht:okN 1000 t):Tot (fun z=>z.2=0->OKM z.1) (G9 (r,t)):=by
 unfold G9;obtain⟨b1,e1,h1⟩:=p49 hr;refine AL e1 ?_;refine Ap (P:=fun v=>v=false->b1=true/\MonT t) (Av (fun _=>Aa (fun h=>by cases h)) fun e=>?_) fun v1 hv1=>?_
 ·obtain⟨b2,e2,h2⟩:=p50 ht
  exact AL e2 (Aa fun h=>⟨by simpa using e,h2 (by simpa using h)⟩)
 refine Ap (P:=fun v=>v=false->(b1=true/\MonT t)/\r.length=t.length) (Av (fun _=>Aa (fun h=>by cases h)) fun e=>Aa fun h=>⟨hv1 e,?_⟩) fun v2 hv2=>?_
 ·have h:(!decide (((r.length:Nat):Int)=((t.length:Nat):Int)))=false:=h
  have:=Ho (by simpa using h:decide (((r.length:Nat):Int)=((t.length:Nat):Int))=true)
  omega
 refine Av (fun _=>Aa (fun h=>by cases h)) fun e=>?_
 obtain⟨⟨hb,hm⟩,hl⟩:=hv2 e;have hP:=h1 hb;obtain⟨n,hn⟩: ∃n,n=t.length:=⟨_,rfl⟩;rw [hl,<-hn]at hP;have hm1:0<n:=by rw [hn];exact hm.1
 have hTB:TB t n:=by rw [hn];exact hm.2
 have hrl:r.length=n:=by omega
 have hn1:n<=1000:=by rw [hn];exact ht.1
 have hri: ∀x:Nat,x<n->((0:Int)<=(x:Int))/\((x:Int)<((r.length:Nat):Int)):=fun x hx=>by omega
 have hti: ∀x:Nat,x<n->((0:Int)<=(x:Int))/\((x:Int)<((t.length:Nat):Int)):=fun x hx=>by omega
 have hrr: ∀x y:Nat,x<n->y<n->((0:Int)<=(y:Int))/\((y:Int)<(((r.getD ((x:Int)).toNat []).length:Nat):Int)):=fun x y hx hy=>by
  rw [tNC,hP.sq.2 x hx];omega
 have htr: ∀x y:Nat,x<n->y<n->((0:Int)<=(y:Int))/\((y:Int)<(((t.getD ((x:Int)).toNat []).length:Nat):Int)):=fun x y hx hy=>by
  rw [tNC,hTB.row x hx];omega
 have hc: ∀ (x:List (List Int)) (a b:Nat),(x.getD ((a:Int)).toNat []).getD ((b:Int)).toNat 0=cell x a b:=fun x a b=>by
  rw [tNC,tNC];rfl
 have hT: ∀a b,a<n->b<n->∃k:Nat,k<n/\(t.getD ((a:Int)).toNat []).getD ((b:Int)).toNat 0=(k:Int)/\cell t a b=(k:Int):=fun a b ha hb=>by
  obtain⟨k,h1,h2⟩:=hTB.val a b ha hb;exact⟨k,h1,(hc t a b).trans h2,h2⟩
 refine AF (n:=n) (fun i v=>v.1=(i:Int)/\∀a,a<i->∀b,b<n->∀d,d<n->cell r a b=1->cell r (cell t a d).toNat (cell t b d).toNat=1/\cell r (cell t d a).toNat (cell t d b).toNat=1) ⟨rfl,fun a ha=>by omega⟩ (fun a ha v hv=>?_) fun v hv=>?_
 ·obtain⟨k,m⟩:=v
  obtain⟨(hk:k=(a:Int)),hI⟩:=hv;subst hk;refine Bu (by show decide ((a:Int)<((t.length:Nat):Int))=true;exact dT (by omega)) (AF (n:=n) (fun i v=>v.1=(i:Int)/\∀b,b<i->∀d,d<n->cell r a b=1->cell r (cell t a d).toNat (cell t b d).toNat=1/\cell r (cell t d a).toNat (cell t d b).toNat=1) ⟨rfl,fun a ha=>by omega⟩ (fun b hb v hv=>?_) fun v hv=>?_)
  ·obtain⟨k,m⟩:=v
   obtain⟨(hk:k=(b:Int)),hJ⟩:=hv;subst hk;refine Bu (by show decide ((b:Int)<((t.length:Nat):Int))=true;exact dT (by omega)) (AF (n:=n) (fun i v=>v.1=(i:Int)/\∀d,d<i->cell r a b=1->cell r (cell t a d).toNat (cell t b d).toNat=1/\cell r (cell t d a).toNat (cell t d b).toNat=1) ⟨rfl,fun a ha=>by omega⟩ (fun d hd v hv=>?_) fun v hv=>?_)
   ·obtain⟨k,m⟩:=v
    obtain⟨(hk:k=(d:Int)),hK⟩:=hv;subst hk;obtain⟨k1,g1,f1,c1⟩:=hT a d ha hd;obtain⟨k2,g2,f2,c2⟩:=hT b d hb hd;obtain⟨k3,g3,f3,c3⟩:=hT d a hd ha;obtain⟨k4,g4,f4,c4⟩:=hT d b hd hb;refine Bu (by show decide ((d:Int)<((t.length:Nat):Int))=true;exact dT (by omega)) (Ac (hri a ha) (Ac (hrr a b ha hb) (Ap (P:=fun v=>v=false->(cell r a b=1->cell r (cell t a d).toNat (cell t b d).toNat=1/\cell r (cell t d a).toNat (cell t d b).toNat=1)) (Av (fun e=>?_) fun e=>Aa fun _ e2=>?_) fun v6 hv6=>?_)))
    ·have i1:(0:Int)<=(t.getD ((a:Int)).toNat []).getD ((d:Int)).toNat 0/\(t.getD ((a:Int)).toNat []).getD ((d:Int)).toNat 0<((r.length:Nat):Int):=by rw [f1];omega
     have i2:(0:Int)<=(t.getD ((b:Int)).toNat []).getD ((d:Int)).toNat 0/\(t.getD ((b:Int)).toNat []).getD ((d:Int)).toNat 0<(((r.getD ((t.getD ((a:Int)).toNat []).getD ((d:Int)).toNat 0).toNat []).length:Nat):Int):=by rw [f1,f2];exact hrr k1 k2 g1 g2
     have i3:(0:Int)<=(t.getD ((d:Int)).toNat []).getD ((a:Int)).toNat 0/\(t.getD ((d:Int)).toNat []).getD ((a:Int)).toNat 0<((r.length:Nat):Int):=by rw [f3];omega
     have i4:(0:Int)<=(t.getD ((d:Int)).toNat []).getD ((b:Int)).toNat 0/\(t.getD ((d:Int)).toNat []).getD ((b:Int)).toNat 0<(((r.getD ((t.getD ((d:Int)).toNat []).getD ((a:Int)).toNat 0).toNat []).length:Nat):Int):=by rw [f3,f4];exact hrr k3 k4 g3 g4
     refine Ac (hti a ha) (Ac (htr a d ha hd) (Ac i1 (Ac (hti b hb) (Ac (htr b d hb hd) (Ac i2 (Av (fun _=>Aa (fun h=>by cases h)) fun q1=>Ac (hti d hd) (Ac (htr d a hd ha) (Ac i3 (Ac (hti d hd) (Ac (htr d b hd hb) (Ac i4 (Aa fun q2 _=>?_))))))))))))
     have q1:(!decide ((r.getD ((t.getD ((a:Int)).toNat []).getD ((d:Int)).toNat 0).toNat []).getD ((t.getD ((b:Int)).toNat []).getD ((d:Int)).toNat 0).toNat 0=1))=false:=q1;have q2:(!decide ((r.getD ((t.getD ((d:Int)).toNat []).getD ((a:Int)).toNat 0).toNat []).getD ((t.getD ((d:Int)).toNat []).getD ((b:Int)).toNat 0).toNat 0=1))=false:=q2;rw [f1,f2,hc]at q1;rw [f3,f4,hc]at q2;rw [c1,c2,c3,c4];simp only [tNC];exact⟨by simpa using q1,by simpa using q2⟩
    ·have e:decide ((r.getD ((a:Int)).toNat []).getD ((b:Int)).toNat 0=1)=false:=e
     rw [hc]at e;exact absurd e2 (WJ e)
    ·refine Av (fun _=>Bs (Bs (Bs (Aa (fun h=>by cases h))))) fun e=>Aa ⟨wr1 hd (by omega),fun d' hd'=>?_⟩
     by_cases hdd:d'<d
     ·exact hK d' hdd
     ·obtain rfl:d'=d:=by omega
      exact hv6 e
   ·obtain⟨k,m⟩:=v
    obtain⟨(hk:k=(n:Int)),hK⟩:=hv;subst hk;refine AW (by show decide ((n:Int)<((t.length:Nat):Int))=false;exact dF (by omega)) (Aa (Ac rfl (Aa ⟨wr1 hb (by omega),fun b' hb'=>?_⟩)))
    by_cases hbb:b'<b
    ·exact hJ b' hbb
    ·obtain rfl:b'=b:=by omega
     exact hK
  ·obtain⟨k,m⟩:=v
   obtain⟨(hk:k=(n:Int)),hJ⟩:=hv;subst hk;refine AW (by show decide ((n:Int)<((t.length:Nat):Int))=false;exact dF (by omega)) (Aa (Ac rfl (Aa ⟨wr1 ha (by omega),fun a' ha'=>?_⟩)))
   by_cases haa:a'<a
   ·exact hI a' haa
   ·obtain rfl:a'=a:=by omega
    exact hJ
 ·obtain⟨k,m⟩:=v
  obtain⟨(hk:k=(n:Int)),hI⟩:=hv;subst hk;refine AW (by show decide ((n:Int)<((t.length:Nat):Int))=false;exact dF (by omega)) (Aa (Ac rfl (Ap (p51 hP.sq hn1) fun c hc2=>AL (show G52 c=_ from p52 c) (Av (fun _=>Aa (fun h=>by cases h)) fun _=>?_))))
  obtain⟨ob,F,T,Id,Co⟩:=c;have hpos:Ki r n n 0 F T:=hc2.pos;have hbd:=hpos.bound (by omega) hn1
  have hlen:=hpos.len;refine AF (n:=F.length) (fun i v=>v.1=(i:Int)/\(v.2.length=i/\∀j,j<i->(v.2.getD j []).length=F.length)) ⟨rfl,rfl,fun j hj=>by omega⟩ (fun f hf v hv=>?_) fun v hv=>?_
  ·obtain⟨k,am⟩:=v
   obtain⟨(hk:k=(f:Int)),(ham:am.length=f/\∀j,j<f->(am.getD j []).length=F.length)⟩:=hv;subst hk;have haml:=ham.1;refine Bu (ltt hf) (AF (n:=F.length) (fun i v=>v.1=(i:Int)/\v.2.length=i) ⟨rfl,rfl⟩ (fun g hg v hv=>?_) fun v hv=>?_)
   ·obtain⟨k,row⟩:=v
    obtain⟨(hk:k=(g:Int)),(hrow:row.length=g)⟩:=hv;subst hk;obtain⟨⟨u1,u2⟩,u3,u4⟩:=hpos.inn f hf;obtain⟨⟨w1,w2⟩,w3,w4⟩:=hpos.inn g hg;obtain⟨a,ea⟩:=Int.eq_ofNat_of_zero_le u1;obtain⟨b,eb⟩:=Int.eq_ofNat_of_zero_le u3;obtain⟨c',ec⟩:=Int.eq_ofNat_of_zero_le w1;obtain⟨d,ed⟩:=Int.eq_ofNat_of_zero_le w3;have r1:=hpos.rel f hf;have r2:=hpos.rel g hg;rw [ea,eb,tNC,tNC]at r1;rw [ec,ed,tNC,tNC]at r2;rw [ea]at u2;rw [eb]at u4;rw [ec]at w2;rw [ed]at w4;have ha:a<n:=by omega
    have hb:b<n:=by omega
    have hc':c'<n:=by omega
    have hd:d<n:=by omega
    have fa:F.getD ((f:Int)).toNat 0=(a:Int):=by rw [tNC];exact ea
    have fb:T.getD ((f:Int)).toNat 0=(b:Int):=by rw [tNC];exact eb
    have fc:F.getD ((g:Int)).toNat 0=(c':Int):=by rw [tNC];exact ec
    have fd:T.getD ((g:Int)).toNat 0=(d:Int):=by rw [tNC];exact ed
    obtain⟨k1,g1,f1,c1⟩:=hT a c' ha hc';obtain⟨k2,g2,f2,c2⟩:=hT b d hb hd;obtain⟨k3,g3,f3,c3⟩:=hT b c' hb hc';have s1:=(hI a ha b hb c' hc' r1).1;have s2:=(hI c' hc' d hd b hb r2).2;rw [c1,c3,tNC,tNC]at s1;rw [c3,c2,tNC,tNC]at s2;obtain⟨j,j1,j2,j3⟩:=hpos.mem k1 k2 (.inl g1) g2 (hP.tr k1 k3 k2 g1 g3 g2 s1 s2);have hh:0<(I5 ((ob,(F,(T,(Id,Co)))):Cat) (k1:Int) (k2:Int)).length:=Yh (c:=(ob,(F,(T,(Id,Co))))) j1 j2 j3;have i1:(0:Int)<=F.getD ((f:Int)).toNat 0/\F.getD ((f:Int)).toNat 0<((t.length:Nat):Int):=by rw [fa];omega
    have i2:(0:Int)<=F.getD ((g:Int)).toNat 0/\F.getD ((g:Int)).toNat 0<(((t.getD (F.getD ((f:Int)).toNat 0).toNat []).length:Nat):Int):=by rw [fa,fc];exact htr a c' ha hc'
    have i3:(0:Int)<=T.getD ((f:Int)).toNat 0/\T.getD ((f:Int)).toNat 0<((t.length:Nat):Int):=by rw [fb];omega
    have i4:(0:Int)<=T.getD ((g:Int)).toNat 0/\T.getD ((g:Int)).toNat 0<(((t.getD (T.getD ((f:Int)).toNat 0).toNat []).length:Nat):Int):=by rw [fb,fd];exact htr b d hb hd
    have hq:G43 ((ob,(F,(T,(Id,Co)))),(((t.getD (F.getD ((f:Int)).toNat 0).toNat []).getD (F.getD ((g:Int)).toNat 0).toNat 0),((t.getD (T.getD ((f:Int)).toNat 0).toNat []).getD (T.getD ((g:Int)).toNat 0).toNat 0)))=some (I5 (ob,(F,(T,(Id,Co)))) (k1:Int) (k2:Int)):=by
     rw [fa,fb,fc,fd,f1,f2];exact p43 (c:=(ob,(F,(T,(Id,Co))))) (by show F.length<=_;omega) hlen _ _
    refine Bu (ltt hg) (Ac (Ad hf) (Ac i1 (Ac (Ad hg) (Ac i2 (Ac (by show(0:Int)<=(f:Int)/\(f:Int)<((T.length:Nat):Int);omega) (Ac i3 (Ac (by show(0:Int)<=(g:Int)/\(g:Int)<((T.length:Nat):Int);omega) (Ac i4 (AL hq (Ac ?_ (Ac ?_ (Aa ⟨wr1 hg (by omega),?_⟩))))))))))))
    ·omega
    ·show row.length+1<=_
     omega
    ·show(row++_).length=g+1
     rw [List.length_append,hrow];rfl
   ·obtain⟨k,row⟩:=v
    obtain⟨(hk:k=(F.length:Int)),(hrow:row.length=F.length)⟩:=hv;subst hk;exact AW ltf (Aa (Ac rfl (Ac trivial (Ac (by show am.length+1<=_;omega) (Aa ⟨wr1 hf (by omega),Sq.snoc ham hrow⟩)))))
  ·obtain⟨k,am⟩:=v
   obtain⟨(hk:k=(F.length:Int)),(ham:Sq F.length am)⟩:=hv;subst hk;have hN:okN 1048576 t:=⟨by have:=ht.1;omega,fun y hy=>by have:=ht.2 y hy;omega⟩
   obtain⟨j,j1,_⟩:=hpos.mem 0 0 (.inl hm1) hm1 (hP.refl 0 hm1);have hpF:0<F.length:=by omega
   refine AW ltf (Aa (Ac rfl (AL (p53 hN) (Aa fun _=>?_))))
   exact OQ (c:=(ob,(F,(T,(Id,Co))))) (u:=0) (hc2.okC hn1) hN (ham.okN (by omega)) (by rw [ham.1];exact hpF) (by rw [ham.2 0 hpF];exact hpF) hm.1
end
end Go.Ve.D


namespace Go.Ve.D
open Go Go.Ve
noncomputable section
def z2:List (List Int):=[[0,1],[1,0]]
theorem z2_ok:okN 1000 z2:=⟨by decide,by decide⟩
theorem z2_mon:G50 z2=some true:=by
 unfold G50;refine As (v:=true) (show(bif true then _ else _)=_ from As (p99 (t:=z2) (b:=((z2.length:Nat):Int)) (by decide) (by decide)) ?_) (As (v:=true) (show(bif true then _ else _)=_ from As (show G100 (z2,((0:Nat):Int))=_ from p100 (n:=2) (XB ?_) (by decide) (by decide)) ?_) rfl)
 ·exact congrArg some (by decide:sqB z2 ((z2.length:Nat):Int)=true)
 ·decide
 ·exact congrArg some (by decide:B8 z2 0=true)
def Good(r:MC×Src):Prop:=OKM r.1/\OkS r.2
theorem p42{s:Src}(h:OkS s):Tot Good (G42 () s):=by
 unfold G42;refine AF (n:=10) (fun i v=>v.1=(i:Int)/\OkS (v.2.1,(v.2.2.1,v.2.2.2.1))) ⟨rfl,h⟩ (fun i hi v hv=>?_) fun v hv=>?_
 ·obtain⟨k,s1,s2,s3,m⟩:=v
  obtain⟨(hk:k=(i:Int)),(hs:OkS (s1,(s2,s3)))⟩:=hv;subst hk;have w1:=wr1 (n:=10) hi (by decide)
  refine Bu (by show decide ((i:Int)<10)=true;exact dT (by omega)) (Ap (p41 hs) fun v1 hv1=>?_)
  have hs1:=hv1.2;refine Av (fun _=>?_) fun _=>Av (fun _=>?_) fun _=>Av (fun _=>?_) fun _=>?_
  ·refine Ap (p39 hs1) fun v2 hv2=>Ap (p16 ⟨by have:=hv2.1.1;omega,fun y hy=>by have:=hv2.1.2 y hy;omega⟩) fun v3 hv3=>Av (fun e=>?_) fun _=>Aa ⟨w1,hv2.2⟩
   exact Bs (Aa ⟨hv3.1 (Ho e),hv2.2⟩)
  ·refine Ap (p39 hs1) fun v2 hv2=>Ap (p14 ⟨by have:=hv2.1.1;omega,fun y hy=>by have:=hv2.1.2 y hy;omega⟩) fun v3 hv3=>Av (fun e=>?_) fun _=>Aa ⟨w1,hv2.2⟩
   exact Bs (Aa ⟨hv3 (Ho e),hv2.2⟩)
  ·refine Ap (p41 hs1) fun v2 hv2=>?_
   obtain⟨d,src2⟩:=v2;obtain⟨⟨(g1:0<=d),(g2:(0:Int)<2->d<2),_⟩,(hs2:OkS src2)⟩:=hv2;have g2:=g2 (by decide)
   obtain⟨n,hn,hn1⟩: ∃n:Nat,IntKind.wrap .i64 (2+d)=(n:Int)/\n<=3:=⟨(2+d).toNat,by rw [Az (by omega) (by omega)];omega,by omega⟩
   rw [show IntKind.wrap .i64 (2+(d,src2).1)=(n:Int)from hn]
   refine AF (n:=n) (fun i v=>v.1=(i:Int)/\(v.2.1.length=i/\∀j,j<i->(v.2.1.getD j []).length=n)/\(v.2.2.length=i/\∀j,j<i->(v.2.2.getD j []).length=n)) ⟨rfl,⟨rfl,fun j hj=>by omega⟩,rfl,fun j hj=>by omega⟩ (fun a ha v hv=>?_) fun v hv=>?_
   ·obtain⟨k,rel,tab⟩:=v
    obtain⟨(hk:k=(a:Int)),(hrel:rel.length=a/\∀j,j<a->(rel.getD j []).length=n),(htab:tab.length=a/\∀j,j<a->(tab.getD j []).length=n)⟩:=hv;subst hk;have l1:=hrel.1;have l2:=htab.1;refine Bu (ltt ha) (AF (n:=n) (fun i v=>v.1=(i:Int)/\v.2.1.length=i/\v.2.2.length=i) ⟨rfl,rfl,rfl⟩ (fun b hb v hv=>?_) fun v hv=>?_)
    ·obtain⟨k,row,line⟩:=v
     obtain⟨(hk:k=(b:Int)),(h1:row.length=b),(h2:line.length=b)⟩:=hv;subst hk;refine Bu (ltt hb) (Av (fun _=>?_) fun _=>?_)
     ·refine Ac (by show row.length+1<=_;omega) (Ac (by show line.length+1<=_;omega) (Aa ⟨wr1 hb (by omega),?_,?_⟩))
      ·show(row++_).length=b+1
       rw [List.length_append,h1];rfl
      ·show(line++_).length=b+1
       rw [List.length_append,h2];rfl
     ·refine Ac (by show row.length+1<=_;omega) (Ac (by show line.length+1<=_;omega) (Aa ⟨wr1 hb (by omega),?_,?_⟩))
      ·show(row++_).length=b+1
       rw [List.length_append,h1];rfl
      ·show(line++_).length=b+1
       rw [List.length_append,h2];rfl
    ·obtain⟨k,row,line⟩:=v
     obtain⟨(hk:k=(n:Int)),(h1:row.length=n),(h2:line.length=n)⟩:=hv;subst hk;exact AW ltf (Aa (Ac rfl (Ac trivial (Ac (by show rel.length+1<=_;omega) (Ac trivial (Ac (by show tab.length+1<=_;omega) (Aa ⟨wr1 ha (by omega),Sq.snoc hrel h1,Sq.snoc htab h2⟩)))))))
   ·obtain⟨k,rel,tab⟩:=v
    obtain⟨(hk:k=(n:Int)),(hrel:Sq n rel),(htab:Sq n tab)⟩:=hv;subst hk;refine AW ltf (Aa (Ac rfl (Ap (p41 hs2) fun v4 hv4=>?_)))
    have hs4:=hv4.2;refine Av (fun _=>?_) fun _=>?_
    ·refine AF (n:=n) (fun i v=>v.1=(i:Int)/\OkS (v.2.1,(v.2.2.1,v.2.2.2.1))/\Sq n v.2.2.2.2.2.2.2.2.2.2.2.2.2.2.2.2.2.2.2.2.1/\Sq n v.2.2.2.2.2.2.2.2.2.2.2.2.2.2.2.2.2.2.2.2.2) ⟨rfl,hs4,hrel,htab⟩ (fun a ha v hv=>?_) fun v hv=>?_
     ·obtain⟨k,r⟩:=v
      obtain⟨(hk:k=(a:Int)),ha1,ha2,ha3⟩:=hv;subst hk;have hl:=ha2.1;refine Bu (by show decide ((a:Int)<(((r.2.2.2.2.2.2.2.2.2.2.2.2.2.2.2.2.2.2.2.1).length:Nat):Int))=true;exact dT (by have:(r.2.2.2.2.2.2.2.2.2.2.2.2.2.2.2.2.2.2.2.1).length=n:=hl;omega)) (AF (n:=a) (fun i v=>v.1=(i:Int)/\OkS (v.2.1,(v.2.2.1,v.2.2.2.1))/\Sq n v.2.2.2.2.2.2.2.2.2.2.2.2.2.2.2.2.2.2.2.2.1/\Sq n v.2.2.2.2.2.2.2.2.2.2.2.2.2.2.2.2.2.2.2.2.2) ⟨rfl,ha1,ha2,ha3⟩ (fun b hb v hv=>?_) fun v hv=>?_)
      ·obtain⟨k,r⟩:=v
       obtain⟨(hk:k=(b:Int)),hb1,hb2,hb3⟩:=hv;subst hk;obtain⟨R,hR⟩: ∃R,R=r.2.2.2.2.2.2.2.2.2.2.2.2.2.2.2.2.2.2.2.1:=⟨_,rfl⟩;have hSq:Sq n R:=by rw [hR];exact hb2
       have hbn:b<n:=by omega
       have hin: ∀x:Nat,x<n->((0:Int)<=(x:Int))/\((x:Int)<((R.length:Nat):Int)):=fun x hx=>by rw [hSq.1];omega
       have hrow: ∀x y:Nat,x<n->y<n->((0:Int)<=(y:Int))/\((y:Int)<(((R.getD ((x:Int)).toNat []).length:Nat):Int)):=fun x y hx hy=>by
        rw [tNC,hSq.2 x hx];omega
       obtain⟨R2,hR2⟩: ∃R2,R2=R.set ((a:Int)).toNat ((R.getD ((a:Int)).toNat []).set ((b:Int)).toNat ((R.getD ((b:Int)).toNat []).getD ((a:Int)).toNat 0)):=⟨_,rfl⟩;have hSq2:Sq n R2:=by
        rw [hR2];exact hSq.set (by rw [List.length_set,tNC];exact hSq.2 a ha)
       have i7:((0:Int)<=(b:Int))/\((b:Int)<((R2.length:Nat):Int)):=by rw [hSq2.1];omega
       have i8:((0:Int)<=(a:Int))/\((a:Int)<(((R2.getD ((b:Int)).toNat []).length:Nat):Int)):=by rw [tNC,hSq2.2 b hbn];omega
       rw [hR2,hR]at i7 i8;have i1:=hin a ha;have i2:=hrow a b ha hbn;have i4:=hin b hbn;have i5:=hrow b a hbn ha;rw [hR]at i1 i2 i4 i5;refine Bu (ltt hb) (Ac i1 (Ac i2 (Ac i1 (Ac i4 (Ac i5 (Ac i2 (Ac i7 (Ac i8 (Aa ⟨wr1 hb (by omega),hb1,?_,hb3⟩)))))))))
       have hS2:=hSq2;rw [hR2,hR]at hS2;refine Sq.set hS2 ?_;rw [List.length_set,tNC];exact hS2.2 b hbn
      ·obtain⟨k,r⟩:=v
       obtain⟨(hk:k=(a:Int)),hb1,hb2,hb3⟩:=hv;subst hk;exact AW ltf (Aa (Ac rfl (Aa ⟨wr1 ha (by omega),hb1,hb2,hb3⟩)))
     ·obtain⟨k,r⟩:=v
      obtain⟨(hk:k=(n:Int)),ha1,ha2,ha3⟩:=hv;subst hk;have hl:(r.2.2.2.2.2.2.2.2.2.2.2.2.2.2.2.2.2.2.2.1).length=n:=ha2.1;refine AW (by show decide ((n:Int)<(((r.2.2.2.2.2.2.2.2.2.2.2.2.2.2.2.2.2.2.2.1).length:Nat):Int))=false;exact dF (by omega)) (Aa (Ac rfl (Ap (p9 (ha2.okN (by omega)) (ha3.okN (by omega))) fun v6 hv6=>Av (fun e=>Bs (Aa ⟨hv6 (Ho e),ha1⟩)) fun _=>Aa ⟨w1,ha1⟩)))
    ·exact Ap (p9 (hrel.okN (by omega)) (htab.okN (by omega))) fun v5 hv5=>Av (fun e=>Bs (Aa ⟨hv5 (Ho e),hs4⟩)) fun _=>Aa ⟨w1,hs4⟩
  ·refine Ap (p39 hs1) fun v2 hv2=>Ap (p40 (n:=v2.1.length) (by have:=hv2.1.1;omega) hv2.2) fun v3 hv3=>Ap (p9 (hv3.1.okN (by have:=hv2.1.1;omega)) ⟨by have:=hv2.1.1;omega,fun y hy=>by have:=hv2.1.2 y hy;omega⟩) fun v4 hv4=>Av (fun e=>Bs (Aa ⟨hv4 (Ho e),hv3.2⟩)) fun _=>Aa ⟨w1,hv3.2⟩
 ·obtain⟨k,s1,s2,s3,m⟩:=v
  obtain⟨(hk:k=10),(hs:OkS (s1,(s2,s3)))⟩:=hv;subst hk;exact AW (by show decide ((10:Int)<10)=false;decide) (Aa (Ac rfl (Ac trivial (Ap (p16 z2_ok) fun v hv=>Aa ⟨hv.1 (hv.2 (by decide) z2_mon),hs⟩))))
theorem p58{s:Src}(h:OkS s):Tot (fun r=>OR (catM r.1) (obM r.1) (amM r.1)) (G58 () s):=by
 unfold G58;refine Ap (p42 h) fun v hv=>Ap (p41 hv.2) fun v1 hv1=>?_
 obtain⟨⟨⟨o1,o2,o3⟩,a1,a2,a3⟩,hs⟩:=hv;refine Av (fun _=>?_) fun _=>Av (fun _=>?_) fun _=>Av (fun _=>?_) fun _=>?_
 ·refine Ac (by have:0<(v.1.2.2.2.2.2.2.2).length:=a1;omega) (Ap (p79 hv1.2) fun v2 hv2=>Ac (by have:0<((v.1.2.2.2.2.2.2.2).getD ((0:Int)).toNat []).length:=a2;omega) (Aa ⟨o1,o2,?_,?_⟩))
  ·show(List.set _ _ _).length<=_
   rw [List.length_set];exact o3.1
  ·intro y hy
   rcases List.mem_or_eq_of_mem_set hy with h1|h1
   ·exact o3.2 y h1
   ·rw [h1,List.length_set]
    exact o3.2 _ (BI [] (by show(0:Int).toNat<_;exact a1))
 ·exact Ap (p79 hv1.2) fun v2 hv2=>Aa ⟨o1,o2,o3⟩
 ·refine Ac (by have:0<(v.1.2.2.2.2.2.2.1).length:=a3;omega) (Ac ⟨by decide,trivial⟩ (Aa ⟨o1,⟨?_,?_⟩,o3⟩))
  ·show(Ly _ _ _ _).length<=_
   unfold Ly;rw [List.length_map,List.length_range];have:(v.1.2.2.2.2.2.2.1).length<=1048576:=o2.1;omega
  ·intro y hy
   obtain⟨i,_,e⟩:=List.mem_map.1 hy;rw [<-e,gDE];by_cases hi:(1:Int).toNat+i<(v.1.2.2.2.2.2.2.1).length
   ·rw [gEE hi]
    exact o2.2 _ (List.getElem_mem hi)
   ·rw [List.getElem?_eq_none (by omega)];exact Nat.zero_le _
 ·exact Aa ⟨o1,o2,o3⟩
theorem p19{x:List Int}(h:YT x):Tot (fun m=>OR (catM m) (obM m) (amM m)) (G19 x):=by
 unfold G19;exact Ap (p38 h) fun v hv=>Ap (p58 hv) fun w hw=>Aa hw
end
end Go.Ve.D


namespace Go.Ve.D
open Go Go.Ve
noncomputable section
theorem p34{x:List Int}(h:x.length<=1048576):G34 (x,x)=some true:=by
 unfold G34;simp only [decide_true,Bool.not_true,cond_false];refine As (v:=.brk 0 (x.length:Int)) (A8 (st:=fun i=>(i:Int)) (n:=x.length) (fun i hi=>?_) (by simp) (fun y=>by simp)) rfl
 simp only [Aw,hi,decide_true,cond_true,Ad hi,if_true,tNC,and_self,Bool.not_true,cond_false];rw [Az (by omega) (by omega)]
 rfl
theorem p28{x:List (List Int)}(h:okN 1048576 x):G28 (x,x)=some true:=by
 unfold G28;have hl:=h.1;simp only [decide_true,Bool.not_true,cond_false];refine As (v:=.brk 0 (x.length:Int)) (A8 (st:=fun i=>(i:Int)) (n:=x.length) (fun i hi=>?_) (by simp) (fun y=>by simp)) rfl
 simp only [Aw,hi,decide_true,cond_true,Ad hi,if_true,tNC,and_self,Bool.not_true,cond_false,p34 (getN h i),Option.bind_some];rw [Az (by omega) (by omega)]
 rfl
theorem p22{x:List (List (List Int))}(h:x.length<=1048576)(hx: ∀i,okN 1048576 (x.getD i [])):G22 (x,x)=some true:=by
 unfold G22;simp only [decide_true,Bool.not_true,cond_false];refine As (v:=.brk 0 (x.length:Int)) (A8 (st:=fun i=>(i:Int)) (n:=x.length) (fun i hi=>?_) (by simp) (fun y=>by simp)) rfl
 simp only [Aw,hi,decide_true,cond_true,Ad hi,if_true,tNC,and_self,Bool.not_true,cond_false,p28 (hx i),Option.bind_some];rw [Az (by omega) (by omega)]
 rfl
theorem p11{c:Cat}{u:Int}{ob am:List (List Int)}(ok:OR c ob am):G11 (mkM c u ob am)=some (CK c u ob am):=by
 have e:=p54 (u:=u) ok;unfold mkM at e;unfold G11 mkM;exact As e rfl
theorem XS{c:Cat}{u:Int}{ob am:List (List Int)}{n:Nat}(hn:c.1=(n:Int))(hm:CK c u ob am=true){i:Nat}(hi:i<(Ij c u ob am).1.length):BT c ob ((Ij c u ob am).1.getD i []) n/\(ND c am ((Ij c u ob am).1.getD i [])&&NP c ob am ((Ij c u ob am).1.getD i []) n)=true:=by
 have hmem:=BI ([]:List (List Int)) hi;generalize (Ij c u ob am).1.getD i []=b at hmem⊢;have hnn:c.1.toNat=n:=by omega
 unfold Ij at hmem;rw [hm,hnn]at hmem;simp only [Bool.not_true,cond_false]at hmem;obtain⟨c1,c2⟩:=JR (AE c ob n);cases he:Xo (AE c ob n)with
 |true=>rw [he]at hmem;cases hmem
 |false=>
 rw [he]at hmem;simp only [cond_false]at hmem;cases h2:decide (200<D4 (AE c ob n))with
 |true=>rw [h2]at hmem;cases hmem
 |false=>
 rw [h2]at hmem;obtain⟨k,hk,rfl⟩:=List.mem_map.1 hmem;obtain⟨hk1,hk2⟩:=List.mem_filter.1 hk;have hk1:=List.mem_range.1 hk1;have h2:=WJ h2;exact⟨AaB (O7 he) ⟨by omega,by omega⟩,hk2⟩
theorem XT{c:Cat}{u:Int}{ob am:List (List Int)}:(Ij c u ob am).1.length<=201:=by
 unfold Ij;obtain⟨c1,c2⟩:=JR (AE c ob c.1.toNat);cases CK c u ob am<;>cases Xo (AE c ob c.1.toNat)<;>cases decide (200<D4 (AE c ob c.1.toNat))<;>first|exact Nat.zero_le _|exact Nat.le_trans AaC (by omega)
theorem XR{c:Cat}{u:Int}{ob am:List (List Int)}(i:Nat)(hc:c.1<=1000):okN 1048576 ((Ij c u ob am).1.getD i []):=by
 by_cases hi:i<(Ij c u ob am).1.length
 ·have hmem:=BI ([]:List (List Int)) hi
  generalize (Ij c u ob am).1.getD i []=b at hmem⊢;unfold Ij at hmem
  have key: ∀ {N:Nat},b∈brs c ob am c.1.toNat N (AE c ob c.1.toNat)->okN 1048576 b:=by
   intro N h;obtain⟨k,hk,rfl⟩:=List.mem_map.1 h;refine⟨by simp [Le];omega,fun y hy=>?_⟩
   obtain⟨x,_,rfl⟩:=List.mem_map.1 hy;simp;omega
  revert hmem
  cases CK c u ob am<;>cases Xo (AE c ob c.1.toNat)<;>cases decide (200<D4 (AE c ob c.1.toNat))<;>intro hmem<;>first|(cases hmem;done)|exact key hmem
 ·rw [gDE,List.getElem?_eq_none (by omega)]
  exact⟨Nat.zero_le _,fun y hy=>by cases hy⟩
def XK(c:Cat)(b:List (List Int))(x y:Nat):Bool:=Ha c (T c (cell b x y).toNat (cell b y x).toNat).toNat
def ZG(c:Cat)(b:List (List Int))(n:Nat):Bool:=(List.range n).all fun x=>(List.range n).all (XK c b x)
theorem sym_t{c:Cat}{b:List (List Int)}{n:Nat}(h: ∀x,x<n->∀y,y<n->XK c b x y=true):ZG c b n=true:=
 aET.2 fun x hx=>aET.2 fun y hy=>h x (List.mem_range.1 hx) y (List.mem_range.1 hy)
theorem sym_f{c:Cat}{b:List (List Int)}{n x y:Nat}(hx:x<n)(hy:y<n)(h:XK c b x y=false):ZG c b n=false:=by
 cases hs:ZG c b n with
 |false=>rfl
 |true=>
  have:=aET.1 (aET.1 hs x (List.mem_range.2 hx)) y (List.mem_range.2 hy);rw [h]at this;cases this
section
variable {c:Cat} {u:Int} {ob am b:List (List Int)} {n:Nat}
theorem p23(h:MH c u ob am n)(ok:OR c ob am)(hm:CK c u ob am=true)(hb:BT c ob b n):G23 (mkM c u ob am,b)=some (ND c am b&&NP c ob am b n,(0:Int)):=by
 have e:=p54 (u:=u) ok;have e2:=p61 h hb;rw [hm]at e;unfold mkM at e e2;unfold G23 mkM;exact As e (As e2 rfl)
theorem WX(h:MH c u ob am n)(hb:BT c ob b n){x y:Nat}(hx:x<n)(hy:y<n): ∃k l t:Nat,k<ar c/\l<ar c/\t<ar c/\(b.getD x []).getD y 0=(k:Int)/\(b.getD y []).getD x 0=(l:Int)/\T c k l=(t:Int)/\XK c b x y=Ha c t:=by
 obtain⟨k,hk,ek,ef,et,_⟩:=hb.val x y hx hy;obtain⟨l,hl,el,lf,lt,_⟩:=hb.val y x hy hx;obtain⟨t,et2,ht,_⟩:=Xa h.sh hk hl (by unfold mt;rw [show c.2.2.1.getD k 0=tT c k from rfl,show c.2.1.getD l 0=fT c l from rfl,et,lf];exact dT rfl)
 refine⟨k,l,t,hk,hl,ht,ek,el,et2,?_⟩;unfold XK;rw [ek,el,tNC,tNC,et2,tNC]
theorem p24(h:MH c u ob am n)(ok:OR c ob am)(hm:CK c u ob am=true)(hb:BT c ob b n)(hg:(ND c am b&&NP c ob am b n)=true):G24 (mkM c u ob am,b)=some (ZG c b n,(0:Int)):=by
 have e:=p54 (u:=u) ok;have e2:=p61 h hb;rw [hm]at e;rw [hg]at e2;unfold mkM at e e2;have hl:=hb.len;obtain⟨a1,a2,a3,_⟩:=h.sh.hd;have hn:=h.hn
 suffices hT:Tot (fun r=>r=(ZG c b n,(0:Int))) (G24 (mkM c u ob am,b)) by
  obtain⟨v,h1,h2⟩:=hT;rw [h1,h2]
 unfold G24 mkM;refine AL e (AW rfl (AL e2 (AW rfl ?_)));refine AF (n:=n) (fun i v=>v=(i:Int)/\∀x,x<i->∀y,y<n->XK c b x y=true) ⟨rfl,fun x hx=>by omega⟩ (fun x hx v hv=>?_) fun v hv=>?_
 ·obtain⟨rfl,hI⟩:=hv
  have hrx:=hb.row x hx;refine Bu (by show decide ((x:Int)<((b.length:Nat):Int))=true;exact dT (by omega)) (Ac (by show(0:Int)<=(x:Int)/\(x:Int)<((b.length:Nat):Int);omega) (AF (n:=n) (fun i v=>v=(i:Int)/\∀y,y<i->XK c b x y=true) ⟨rfl,fun x hx=>by omega⟩ (fun y hy v hv=>?_) fun v hv=>?_))
  ·obtain⟨rfl,hJ⟩:=hv
   obtain⟨k,l,t,hk,hl2,ht,ek,el,et,es⟩:=WX h hb hx hy;have hry:=hb.row y hy;have fx:(b.getD ((x:Int)).toNat []).getD ((y:Int)).toNat 0=(k:Int):=by rw [tNC,tNC];exact ek
   have fy:(b.getD ((y:Int)).toNat []).getD ((x:Int)).toNat 0=(l:Int):=by rw [tNC,tNC];exact el
   have g67:G67 (c,((b.getD ((x:Int)).toNat []).getD ((y:Int)).toNat 0,(b.getD ((y:Int)).toNat []).getD ((x:Int)).toNat 0))=some ((t:Nat):Int):=by
    rw [fx,fy,p67 h.sh (show 0<=(k:Int)/\(k:Int)<((c.2.1.length:Nat):Int)from⟨by omega,by exact_mod_cast hk⟩) (show 0<=(l:Int)/\(l:Int)<((c.2.1.length:Nat):Int)from⟨by omega,by exact_mod_cast hl2⟩),tNC,tNC,et]
   refine Bu (by show decide ((y:Int)<(((b.getD ((x:Int)).toNat []).length:Nat):Int))=true;rw [tNC];exact dT (by omega)) (Ac (by show(0:Int)<=(y:Int)/\(y:Int)<(((b.getD ((x:Int)).toNat []).length:Nat):Int);rw [tNC];omega) (Ac (by show(0:Int)<=(y:Int)/\(y:Int)<((b.length:Nat):Int);omega) (Ac (by show(0:Int)<=(x:Int)/\(x:Int)<(((b.getD ((y:Int)).toNat []).length:Nat):Int);rw [tNC];omega) (AL g67 (AL (p66 h.sh ht) (Av (fun e=>?_) fun e=>?_))))))
   ·refine Bs (Bs (Aa ?_))
    rw [sym_f hx hy (by rw [es];simpa using e)]
   ·refine Aa ⟨wr1 hy (by omega),fun y' hy'=>?_⟩
    by_cases e2:y'<y
    ·exact hJ y' e2
    ·obtain rfl:y'=y:=by omega
     rw [es];simpa using e
  ·obtain⟨rfl,hJ⟩:=hv
   refine AW (by show decide ((n:Int)<(((b.getD ((x:Int)).toNat []).length:Nat):Int))=false;rw [tNC];exact dF (by omega)) (Aa (Ac rfl (Aa ⟨wr1 hx (by omega),fun x' hx'=>?_⟩)))
   by_cases e2:x'<x
   ·exact hI x' e2
   ·obtain rfl:x'=x:=by omega
    exact hJ
 ·obtain⟨rfl,hI⟩:=hv
  refine AW (by show decide ((n:Int)<((b.length:Nat):Int))=false;exact dF (by omega)) (Aa (Ac rfl (Aa ?_)))
  rw [sym_t hI]
theorem p68(h:MH c u ob am n)(hb:BT c ob b n):G68 (mkM c u ob am,b)=some (ND c am b&&NP c ob am b n):=by
 have hl:=hb.len;have e65:=p65 h hb;unfold mkM at e65;obtain⟨a1,a2,a3,_⟩:=h.sh.hd;have hm:ar c<=40:=a2;have hn:=h.hn;have hob:=h.ho.len
 have hsq:sqB b ((c.2.1.length:Nat):Int)=true:=by
  refine aET.2 fun x hx=>?_
  have hx:x<n:=by have:=List.mem_range.1 hx;omega
  have hr:=hb.row x hx;unfold Xk;rw [bAE];refine⟨dT (by omega),?_⟩
  unfold wi;rw [<-IC (0:Int) (inn ((c.2.1.length:Nat):Int)) (b.getD x [])];refine aET.2 fun y hy=>?_
  have hy:=List.mem_range.1 hy;obtain⟨k,hk,ek,_⟩:=hb.val x y hx (by omega)
  have ek':(b.getD x []).getD y 0=(k:Int):=ek;have hk':k<c.2.1.length:=hk;rw [ek'];exact Hk.2 (by omega)
 have hbl:b.length<=1048576:=by omega
 have hbr: ∀y∈b,y.length<=1048576:=fun y hy=>by
  obtain⟨i,hi,e⟩:=List.getElem_of_mem hy;have:=hb.row i (by omega)
  rw [gDE,gEE hi]at this;have e2:y.length=n:=by rw [<-e];exact this
  omega
 suffices hT:Tot (fun r=>r=(ND c am b&&NP c ob am b n)) (G68 (mkM c u ob am,b)) by
  obtain⟨v,h1,h2⟩:=hT;rw [h1,h2]
 unfold G68 mkM;refine Ap (P:=fun v=>v=false) (AW (by show(!decide (((b.length:Nat):Int)=c.1))=false;rw [dT (by omega)];rfl) (AL (p99 (t:=b) hbl hbr) (Aa (by rw [hsq];rfl)))) fun v hv=>?_
 subst hv;refine AW rfl (AF (n:=n) (fun i v=>v=(i:Int)) rfl (fun x hx v hv=>?_) fun v hv=>?_)
 ·subst hv
  refine Bu (by show decide ((x:Int)<((b.length:Nat):Int))=true;exact dT (by omega)) (AF (n:=n) (fun i v=>v=(i:Int)) rfl (fun y hy v hv=>?_) fun v hv=>?_)
  ·subst hv
   obtain⟨k,hk,ek,ef,et,ei⟩:=hb.val x y hx hy;have hrx:=hb.row x hx;have hox:=h.ho.row x hx;have hoy:=h.ho.row y hy;have hk':k<c.2.1.length:=hk;have fx:(b.getD ((x:Int)).toNat []).getD ((y:Int)).toNat 0=(k:Int):=by rw [tNC,tNC];exact ek
   have i3:(0:Int)<=(b.getD ((x:Int)).toNat []).getD ((y:Int)).toNat 0/\(b.getD ((x:Int)).toNat []).getD ((y:Int)).toNat 0<((c.2.1.length:Nat):Int):=by rw [fx];omega
   have i6:(0:Int)<=(b.getD ((x:Int)).toNat []).getD ((y:Int)).toNat 0/\(b.getD ((x:Int)).toNat []).getD ((y:Int)).toNat 0<((c.2.2.1.length:Nat):Int):=by rw [fx];omega
   have f1:c.2.1.getD ((b.getD ((x:Int)).toNat []).getD ((y:Int)).toNat 0).toNat 0=(ob.getD ((x:Int)).toNat []).getD ((y:Int)).toNat 0:=by
    rw [fx,tNC,tNC,tNC];exact ef
   have f2:c.2.2.1.getD ((b.getD ((x:Int)).toNat []).getD ((y:Int)).toNat 0).toNat 0=(ob.getD ((y:Int)).toNat []).getD ((x:Int)).toNat 0:=by
    rw [fx,tNC,tNC,tNC];exact et
   refine Bu (by show decide ((y:Int)<((b.length:Nat):Int))=true;exact dT (by omega)) (Ac (by show(0:Int)<=(x:Int)/\(x:Int)<((b.length:Nat):Int);omega) (Ac (by show(0:Int)<=(y:Int)/\(y:Int)<(((b.getD ((x:Int)).toNat []).length:Nat):Int);rw [tNC];omega) (Ac i3 (Ac (by show(0:Int)<=(x:Int)/\(x:Int)<((ob.length:Nat):Int);omega) (Ac (by show(0:Int)<=(y:Int)/\(y:Int)<(((ob.getD ((x:Int)).toNat []).length:Nat):Int);rw [tNC];omega) (Ap (P:=fun v=>v=false) (AW ?_ (Ac i6 (Ac (by show(0:Int)<=(y:Int)/\(y:Int)<((ob.length:Nat):Int);omega) (Ac (by show(0:Int)<=(x:Int)/\(x:Int)<(((ob.getD ((y:Int)).toNat []).length:Nat):Int);rw [tNC];omega) (Aa ?_))))) fun v hv=>?_))))))
   ·show(!decide (c.2.1.getD ((b.getD ((x:Int)).toNat []).getD ((y:Int)).toNat 0).toNat 0=(ob.getD ((x:Int)).toNat []).getD ((y:Int)).toNat 0))=false
    rw [f1,dT rfl];rfl
   ·show(!decide (c.2.2.1.getD ((b.getD ((x:Int)).toNat []).getD ((y:Int)).toNat 0).toNat 0=(ob.getD ((y:Int)).toNat []).getD ((x:Int)).toNat 0))=false
    rw [f2,dT rfl];rfl
   ·subst hv
    have g114:G114 (c,(b.getD ((x:Int)).toNat []).getD ((y:Int)).toNat 0)=some (inv c k):=by rw [fx];exact p114 h.sh hk
    exact Ap (P:=fun v=>v=false) (AW rfl (AL g114 (Aa (dF (by omega))))) fun v hv=>by
     subst hv;exact AW rfl (Aa (wr1 hy (by omega)))
  ·subst hv
   exact AW (by show decide ((n:Int)<((b.length:Nat):Int))=false;exact dF (by omega)) (Aa (Ac rfl (Aa (wr1 hx (by omega)))))
 ·subst hv
  exact AW (by show decide ((n:Int)<((b.length:Nat):Int))=false;exact dF (by omega)) (Aa (Ac rfl (AL e65 (Aa rfl))))
theorem p25(h:MH c u ob am n)(ok:OR c ob am)(hm:CK c u ob am=true)(hb:BT c ob b n)(hg:(ND c am b&&NP c ob am b n)=true):G25 (mkM c u ob am,b)=some (ZG c b n,(0:Int)):=by
 have e:=p62 (u:=u) ok;have e2:=p68 h hb;rw [hm]at e;rw [hg]at e2;unfold mkM at e e2;have hl:=hb.len;obtain⟨a1,a2,a3,_⟩:=h.sh.hd;have hn:=h.hn
 suffices hT:Tot (fun r=>r=(ZG c b n,(0:Int))) (G25 (mkM c u ob am,b)) by
  obtain⟨v,h1,h2⟩:=hT;rw [h1,h2]
 unfold G25 mkM;refine AL e (AW rfl (AL e2 (AW rfl ?_)));refine AF (n:=n) (fun i v=>v=(i:Int)/\∀x,x<i->∀y,y<n->XK c b x y=true) ⟨rfl,fun x hx=>by omega⟩ (fun x hx v hv=>?_) fun v hv=>?_
 ·obtain⟨rfl,hI⟩:=hv
  have hrx:=hb.row x hx;refine Bu (by show decide ((x:Int)<((b.length:Nat):Int))=true;exact dT (by omega)) (AF (n:=n) (fun i v=>v=(i:Int)/\∀y,y<i->XK c b x y=true) ⟨rfl,fun x hx=>by omega⟩ (fun y hy v hv=>?_) fun v hv=>?_)
  ·obtain⟨rfl,hJ⟩:=hv
   obtain⟨k,l,t,hk,hl2,ht,ek,el,et,es⟩:=WX h hb hx hy;have hry:=hb.row y hy;have fx:(b.getD ((x:Int)).toNat []).getD ((y:Int)).toNat 0=(k:Int):=by rw [tNC,tNC];exact ek
   have fy:(b.getD ((y:Int)).toNat []).getD ((x:Int)).toNat 0=(l:Int):=by rw [tNC,tNC];exact el
   have g70:G70 (c,((b.getD ((x:Int)).toNat []).getD ((y:Int)).toNat 0,(b.getD ((y:Int)).toNat []).getD ((x:Int)).toNat 0))=some ((t:Nat):Int):=by
    rw [fx,fy,p70 h.sh (show 0<=(k:Int)/\(k:Int)<((c.2.1.length:Nat):Int)from⟨by omega,by exact_mod_cast hk⟩) (show 0<=(l:Int)/\(l:Int)<((c.2.1.length:Nat):Int)from⟨by omega,by exact_mod_cast hl2⟩),tNC,tNC,et]
   refine Bu (by show decide ((y:Int)<((b.length:Nat):Int))=true;exact dT (by omega)) (Ac (by show(0:Int)<=(x:Int)/\(x:Int)<((b.length:Nat):Int);omega) (Ac (by show(0:Int)<=(y:Int)/\(y:Int)<(((b.getD ((x:Int)).toNat []).length:Nat):Int);rw [tNC];omega) (Ac (by show(0:Int)<=(y:Int)/\(y:Int)<((b.length:Nat):Int);omega) (Ac (by show(0:Int)<=(x:Int)/\(x:Int)<(((b.getD ((y:Int)).toNat []).length:Nat):Int);rw [tNC];omega) (AL g70 (AL (p69 h.sh ht) (Av (fun e=>?_) fun e=>?_)))))))
   ·refine Bs (Bs (Aa ?_))
    rw [sym_f hx hy (by rw [es];simpa using e)]
   ·refine Aa ⟨wr1 hy (by omega),fun y' hy'=>?_⟩
    by_cases e2:y'<y
    ·exact hJ y' e2
    ·obtain rfl:y'=y:=by omega
     rw [es];simpa using e
  ·obtain⟨rfl,hJ⟩:=hv
   refine AW (by show decide ((n:Int)<((b.length:Nat):Int))=false;exact dF (by omega)) (Aa (Ac rfl (Aa ⟨wr1 hx (by omega),fun x' hx'=>?_⟩)))
   by_cases e2:x'<x
   ·exact hI x' e2
   ·obtain rfl:x'=x:=by omega
    exact hJ
 ·obtain⟨rfl,hI⟩:=hv
  refine AW (by show decide ((n:Int)<((b.length:Nat):Int))=false;exact dF (by omega)) (Aa (Ac rfl (Aa ?_)))
  rw [sym_t hI]
end
end
end Go.Ve.D

