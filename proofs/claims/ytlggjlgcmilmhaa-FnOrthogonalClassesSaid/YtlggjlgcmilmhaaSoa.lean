/- Classes of arrows are adjoint; isomorphisms are orthogonal to all. -/
import Derived.Test.YtlggjlgcmilmhaaSyj
import Derived.Test.YtlggjlgcmilmhaaUos
import Derived.Test.YtlggjlgcmilmhaaDri
namespace Go.Ve.D
open Go Go.Ve
noncomputable section
variable{c:Cat}{a:Int}{w:List Int}{b e f g m:Nat}
theorem VY:(b:Int)∈rt c w↔b<ar c/\rq c w b=true:=by
 constructor
 ·intro h
  obtain⟨f,h1,h2,h3⟩:=JY.1 h;have:b=f:=by omega
  subst this;exact⟨h1,h2⟩
 ·intro h;exact JY.2 ⟨b,h.1,h.2,rfl⟩
theorem PM:(b:Int)∈lf c w↔b<ar c/\lq c w b=true:=by
 constructor
 ·intro h
  obtain⟨f,h1,h2,h3⟩:=JY.1 h;have:b=f:=by omega
  subst this;exact⟨h1,h2⟩
 ·intro h;exact JY.2 ⟨b,h.1,h.2,rfl⟩
theorem NI{n:Nat}(hw:wi n w=true)(ha:a∈w): ∃k:Nat,a=(k:Int)/\k<n:=by
 obtain⟨h1,h2⟩:=Ir.1 (aET.1 hw a ha);exact⟨a.toNat,by omega,by omega⟩
theorem YA(hw:wi (ar c) w=true)(ha:a∈w):a∈lf c (rt c w):=by
 obtain⟨k,rfl,hk⟩:=NI hw ha;refine PM.2 ⟨hk,aET.2 λb hb=>?_⟩
 obtain⟨j,rfl,hj⟩:=NI (n:=ar c) Qb hb;exact aET.1 (VY.1 hb).2 _ ha
theorem rt_lf(hw:wi (ar c) w=true):rt c (lf c (rt c w))=rt c w:=by
 unfold rt
 congr 1
 apply List.filter_congr;intro m hm;have hm:=List.mem_range.1 hm;rw [Bool.eq_iff_iff];constructor
 ·intro h
  exact aET.2 λa ha=>aET.1 h a (YA hw ha)
 ·intro h
  refine aET.2 λa ha=>?_
  obtain⟨k,rfl,hk⟩:=NI (n:=ar c) Qb ha;exact aET.1 (PM.1 ha).2 _ (VY.2 ⟨hm,h⟩)
structure Iso(c:Cat)(f g:Nat):Prop where
 lt:g<ar c
 fr:fT c g=tT c f
 to:tT c g=fT c f
 l:T c f g=idv c (fT c f)
 r:T c g f=idv c (tT c f)
theorem og_of(h: ∀u v,u<ar c->v<ar c->fT c u=fT c e->tT c u=fT c m->fT c v=tT c e->tT c v=tT c m->T c e v=T c u m->∃d,d<ar c/\dg c e m u v= [(d:Int)]):og c e m=true:=by
 unfold og;refine aET.2 λu' hu'=>aET.2 λv' hv'=>?_
 obtain⟨u,hu,rfl,u1,u2⟩:=BR.1 hu';obtain⟨v,hv,rfl,v1,v2⟩:=BR.1 hv';unfold ogV;rw [show((u:Int)).toNat=u from rfl,show((v:Int)).toNat=v from rfl]
 cases he:decide (T c e v=T c u m)
 ·rfl
 ·obtain⟨d,_,hd⟩:=h u v hu hv u1 u2 v1 v2 (of_decide_eq_true he)
  rw [hd];rfl
theorem Y3{u v:Int}{d:Nat}(hd:d<ar c)(h1:fT c d=tT c e)(h2:tT c d=fT c m)(h3:T c e d=u)(h4:T c d m=v)(hu: ∀k,k<ar c->fT c k=tT c e->tT c k=fT c m->T c e k=u->T c k m=v->k=d):dg c e m u v= [(d:Int)]:=by
 have hm:(d:Int)∈dg c e m u v:=Wz.2 ⟨d,hd,rfl,h1,h2,h3,h4⟩
 have hall: ∀x∈dg c e m u v,x=(d:Int):=λx hx=>by
  obtain⟨k,hk,rfl,k1,k2,k3,k4⟩:=Wz.1 hx;rw [hu k hk k1 k2 k3 k4]
 have hnd:(dg c e m u v).Nodup:=by
  unfold dg Ba List.Nodup;refine List.Pairwise.filter _ (List.pairwise_map.2 ((List.Pairwise.filter _ List.nodup_range).imp ?_));intro a b h e;exact h (by omega)
 match hx:dg c e m u v,hm,hall,hnd with
 | [],hm,_,_=>cases hm
 | [a],_,hall,_=>rw [hall a (by simp)]
 |a::b::l,_,hall,hnd=>
  have e1:=hall a (by simp)
  have e2:=hall b (by simp)
  rw [e1,e2]at hnd;simp at hnd
theorem XF(hc:BM c=true){a:Nat}(ha:a<ar c)(hf:f<ar c)(h:Iso c f g):og c a f=true:=by
 have hs:=Bj hc;refine og_of λu v hu hv u1 u2 v1 v2 he=>?_
 obtain⟨i,i1,i2,i3,i4,i5⟩:=Ha hc (x:=fT c f) (hs.fr f hf);obtain⟨j,j1,j2,j3,j4,j5⟩:=Ha hc (x:=tT c f) (hs.to f hf);obtain⟨d,hd,hd1,hd2,hd3⟩:=Uu hc hv h.lt (v2.trans h.fr.symm);obtain⟨w,hw,hw1,hw2,hw3⟩:=Uu hc ha hv v1.symm;refine⟨d,hd1,Y3 hd1 (hd2.trans v1) (hd3.trans h.to) ?_ ?_ λk hk k1 k2 k3 k4=>?_⟩
 ·-- a;(v;g) = (a;v);g = (u;f);g = u;(f;g) = u
  rw [<-Cy hc ha hv h.lt v1.symm (v2.trans h.fr.symm) hw hd,Cy hc hu hf h.lt u2 h.fr.symm (by rw [<-he,hw]) (h.l.trans i1)]
  exact Lb hc hu (by rw [u2];exact i2)
 ·rw [Cy hc hv h.lt hf (v2.trans h.fr.symm) h.to hd (h.r.trans j1)]
  exact Lb hc hv (by rw [v2];exact j2)
 ·-- k = k;(f;g) = (k;f);g = v;g
  have:=Cy hc hk hf h.lt k2 h.fr.symm k4 (h.l.trans i1);rw [hd,Lb hc hk (by rw [k2];exact i2)]at this
  omega
theorem XG(hc:BM c=true)(hb:b<ar c)(hf:f<ar c)(h:Iso c f g):og c f b=true:=by
 have hs:=Bj hc;refine og_of λu v hu hv u1 u2 v1 v2 he=>?_
 obtain⟨i,i1,i2,i3,i4,i5⟩:=Ha hc (x:=fT c f) (hs.fr f hf);obtain⟨j,j1,j2,j3,j4,j5⟩:=Ha hc (x:=tT c f) (hs.to f hf);obtain⟨d,hd,hd1,hd2,hd3⟩:=Uu hc h.lt hu (h.to.trans u1.symm);obtain⟨w,hw,hw1,hw2,hw3⟩:=Uu hc hu hb u2;refine⟨d,hd1,Y3 hd1 (hd2.trans h.fr) (hd3.trans u2) ?_ ?_ λk hk k1 k2 k3 k4=>?_⟩
 ·-- f;(g;u) = (f;g);u = u
  rw [<-Cy hc hf h.lt hu h.fr.symm (h.to.trans u1.symm) (h.l.trans i1) hd];exact Lc hc hu (by rw [u1];exact i2)
 ·-- (g;u);b = g;(u;b) = g;(f;v) = (g;f);v = v
  rw [Cy hc h.lt hu hb (h.to.trans u1.symm) u2 hd hw,<-Cy hc h.lt hf hv h.to v1.symm (h.r.trans j1) (he.trans hw)];exact Lc hc hv (by rw [v1];exact j2)
 ·-- k = (g;f);k = g;(f;k) = g;u
  have:=Cy hc h.lt hf hk h.to k1.symm (h.r.trans j1) k3;rw [hd,Lc hc hk (by rw [k1];exact j2)]at this
  omega
theorem iso_og(hc:BM c=true)(hf:f<ar c)(h:og c f f=true): ∃g,Iso c f g:=by
 have hs:=Bj hc;obtain⟨i,i1,i2,i3,i4,i5⟩:=Ha hc (x:=fT c f) (hs.fr f hf);obtain⟨j,j1,j2,j3,j4,j5⟩:=Ha hc (x:=tT c f) (hs.to f hf);obtain⟨d,hd,_,d1,d2,d3,d4⟩:=og_get h i3 j3 i4 i5 j4 j5 (by rw [Lb hc hf j2,Lc hc hf i2])
 exact⟨d,hd,d1,d2,by rw [d3,i1],by rw [d4,j1]⟩
theorem Yf(hc:BM c=true)(hw:wi (ar c) w=true)(hf:f<ar c):((f:Int)∈lf c (rt c w)/\(f:Int)∈rt c w)↔ ∃g,Iso c f g:=by
 constructor
 ·rintro ⟨h1,h2⟩
  exact iso_og hc hf (aET.1 (PM.1 h1).2 _ h2)
 ·rintro ⟨g,h⟩
  refine⟨PM.2 ⟨hf,aET.2 λb hb=>?_⟩,VY.2 ⟨hf,aET.2 λa ha=>?_⟩⟩
  ·obtain⟨k,rfl,hk⟩:=NI (n:=ar c) Qb hb
   exact XG hc hk hf h
  ·obtain⟨k,rfl,hk⟩:=NI hw ha
   exact XF hc hk hf h
end
end Go.Ve.D


namespace Go.Ve.D
open Go Go.Ve
noncomputable section
variable{c:Cat}{a b f:Nat}
theorem p38t(hc:BM c=true)(hf:f<ar c):Tot (λr:Int=>0<=r↔ ∃g,Iso c f g) (G38 (c,(f:Int))):=by
 have h:=Bj hc;have hl:=CA h;have ht:=Kg h;have hL:=CS (c:=c) (x:=tT c f) (y:=fT c f);have hi0:(c.2.2.2.1.length:Int)=c.1:=h.hd.2.2.2.2.2.2.1;have idi: ∀ {x:Int},0<=x/\x<c.1->(0:Int)<=x/\x<(c.2.2.2.1.length:Int):=λhx=>by rw [hi0];exact hx
 unfold G38;refine Ad (Ab hf) (Ad (by show(0:Int)<=(f:Int)/\(f:Int)<(c.2.2.1.length:Int);rw [ht];exact Ab hf) (AP (show _=some (Ba c (tT c f) (fT c f))from p64 (by show ar c<=_;omega) ht _ _) ?_))
 refine CF (Q:=λr:Int=>0<=r/\∃g,Iso c f g) (st:=λi:Nat=>(i:Int)) (n:=(Ba c (tT c f) (fT c f)).length) (p:=λi=>!(decide (T c f ((Ba c (tT c f) (fT c f)).getD i 0).toNat=idv c (fT c f))&&decide (T c ((Ba c (tT c f) (fT c f)).getD i 0).toNat f=idv c (tT c f)))) (o:=.brk 0 ((Ba c (tT c f) (fT c f)).length:Int)) (Post:=λo=>Tot (λr:Int=>0<=r↔ ∃g,Iso c f g) o) (λi hi=>?_) (BC ltn rfl) (λy=>by simp) (λhA=>?_) (λ_ r hr=>⟨r,rfl,iff_of_true hr.1 hr.2⟩)
 ·obtain⟨k,hk,ek,k1,k2⟩:=BR.1 (CO (0:Int) hi)
  have hd:=JP hi
  have go: ∀ {X:Bool->Option (LO Int Int)} {o},X (decide (T c f ((Ba c (tT c f) (fT c f)).getD i 0).toNat=idv c (fT c f))&&decide (T c ((Ba c (tT c f) (fT c f)).getD i 0).toNat f=idv c (tT c f)))=o->(∀Y:Option (LO Int Int),Y=(bif decide ((i:Int)<((Ba c (tT c f) (fT c f)).length:Int))then if 0<=(i:Int)/\(i:Int)<((Ba c (tT c f) (fT c f)).length:Int)then(G43 (c,(f:Int),(Ba c (tT c f) (fT c f)).getD ((i:Int)).toNat 0)).bind λv2=>if 0<=fT c f/\fT c f<(c.2.2.2.1.length:Int)then Option.bind (bif decide (v2=idv c (fT c f))then(G43 (c,(Ba c (tT c f) (fT c f)).getD ((i:Int)).toNat 0,(f:Int))).bind λv3=>if 0<=tT c f/\tT c f<(c.2.2.2.1.length:Int)then some (decide (v3=idv c (tT c f)))else none else some false) X else none else none else some (LO.brk 0 (i:Int)))->Y=o):=by
   intro X o hX Y hY;rw [hY];exact BV (ltd hi) (BU (Ab hi) (Ag (p43 h (Ab hf) hd) (BU (idi (h.fr f hf)) (Ag (Yi λ_=>Ag (p43 h hd (Ab hf)) (BU (idi (h.to f hf)) rfl)) hX))))
  refine⟨λhp=>?_,λhp=>⟨_,?_,hd.1,?_⟩⟩
  ·refine go (X:=λv3=>bif v3 then BO (some ((Ba c (tT c f) (fT c f)).getD i 0))else some (LO.next (IntKind.i64.wrap ((i:Int)+1)))) ?_ _ rfl
   rw [wr hi (by omega)]
   exact BC (by rwa [Bool.not_eq_true']at hp) rfl
  ·refine go (X:=λv3=>bif v3 then BO (some ((Ba c (tT c f) (fT c f)).getD i 0))else some (LO.next (IntKind.i64.wrap ((i:Int)+1)))) ?_ _ rfl
   exact BV (by rwa [Bool.not_eq_false']at hp) rfl
  ·rw [Bool.not_eq_false',bAE,decide_eq_true_eq,decide_eq_true_eq,ek]at hp
   exact⟨k,hk,k1,k2,hp.1,hp.2⟩
 ·refine⟨-1,rfl,(λh=>absurd h (by decide)),?_⟩
  rintro ⟨g,hg⟩
  exfalso;obtain⟨i,hi,e⟩:=List.getElem_of_mem (BR.2 ⟨g,hg.lt,rfl,hg.fr,hg.to⟩);have:=aET.1 hA i (List.mem_range.2 hi);rw [gDE,gEE hi,Option.getD_some,e]at this;rw [show((g:Int)).toNat=g from rfl,dT hg.l,dT hg.r]at this
  cases this
theorem p62(h:Sh c)(ha:a<ar c)(hb:b<ar c):G62 (c,((a:Int),(b:Int)))=some ((Ba c (tT c b) (tT c a)).filter λd=>decide (T c b d.toNat=(a:Int))):=by
 have hl:=CA h;have ht:=Kg h;have hh:(Ba c (tT c b) (tT c a)).length<=1048576:=by have:=CS (c:=c) (x:=tT c b) (y:=tT c a);omega
 unfold G62;refine BU (by show(0:Int)<=(b:Int)/\(b:Int)<(c.2.2.1.length:Int);omega) (BU (by show(0:Int)<=(a:Int)/\(a:Int)<(c.2.2.1.length:Int);omega) (Ag (show _=some (Ba c (tT c b) (tT c a))from p64 (by show ar c<=_;omega) ht _ _) ?_))
 refine gatF (p:=λd=>decide (T c b d.toNat=(a:Int))) (id:=0) hh (λi hi acc ha=>?_) (λacc=>BC ltn rfl) rfl
 exact BV (ltd hi) (BU (Ab hi) (Ag (p43 h (Ab hb) (JP hi)) (Q1 ha (wr hi hh))))
theorem p63(h:Sh c)(ha:a<ar c)(hb:b<ar c):G63 (c,((a:Int),(b:Int)))=some ((Ba c (fT c a) (fT c b)).filter λd=>decide (T c d.toNat b=(a:Int))):=by
 have hl:=CA h;have ht:=Kg h;have hh:(Ba c (fT c a) (fT c b)).length<=1048576:=by have:=CS (c:=c) (x:=fT c a) (y:=fT c b);omega
 unfold G63;refine BU (Ab ha) (BU (Ab hb) (Ag (show _=some (Ba c (fT c a) (fT c b))from p64 (by show ar c<=_;omega) ht _ _) ?_))
 refine gatF (p:=λd=>decide (T c d.toNat b=(a:Int))) (id:=0) hh (λi hi acc ha=>?_) (λacc=>BC ltn rfl) rfl
 exact BV (ltd hi) (BU (Ab hi) (Ag (p43 h (JP hi) (Ab hb)) (Q1 ha (wr hi hh))))
theorem YK{L:LI}{d:Int}(h:d∈L):decide (0<(L.length:Int))=true:=by
 have:=List.length_pos_of_mem h;exact dT (by omega)
theorem p36(hc:BM c=true)(hf:f<ar c):Tot (λL:LI=>(∃g,Iso c f g)->decide (0<(L.length:Int))=true) (G36 (c,(f:Int))):=by
 have hs:=Bj hc;have hi0:(c.2.2.2.1.length:Int)=c.1:=hs.hd.2.2.2.2.2.2.1;obtain⟨i,i1,i2,i3,i4,i5⟩:=Ha hc (x:=fT c f) (hs.fr f hf);unfold G36;refine Ad (Ab hf) (Ad (by show 0<=fT c f/\fT c f<(c.2.2.2.1.length:Int);rw [hi0];exact hs.fr f hf) (AP ((congrArg (λz=>G62 (c,(z,(f:Int)))) i1).trans (p62 hs i3 hf)) (Aa ?_)))
 rintro ⟨g,h⟩
 exact YK (List.mem_filter.2 ⟨BR.2 ⟨g,h.lt,rfl,h.fr,h.to.trans i5.symm⟩,dT (h.l.trans i1)⟩)
theorem p37(hc:BM c=true)(hf:f<ar c):Tot (λL:LI=>(∃g,Iso c f g)->decide (0<(L.length:Int))=true) (G37 (c,(f:Int))):=by
 have hs:=Bj hc;have ht:=Kg hs;have hi0:(c.2.2.2.1.length:Int)=c.1:=hs.hd.2.2.2.2.2.2.1;obtain⟨i,i1,i2,i3,i4,i5⟩:=Ha hc (x:=tT c f) (hs.to f hf);unfold G37;refine Ad (by show(0:Int)<=(f:Int)/\(f:Int)<(c.2.2.1.length:Int);rw [ht];exact Ab hf) (Ad (by show 0<=tT c f/\tT c f<(c.2.2.2.1.length:Int);rw [hi0];exact hs.to f hf) (AP ((congrArg (λz=>G63 (c,(z,(f:Int)))) i1).trans (p63 hs i3 hf)) (Aa ?_)))
 rintro ⟨g,h⟩
 exact YK (List.mem_filter.2 ⟨BR.2 ⟨g,h.lt,rfl,h.fr.trans i4.symm,h.to⟩,dT (h.r.trans i1)⟩)
end
end Go.Ve.D


namespace Go.Ve.D
open Go Go.Ve
noncomputable section
variable{c:Cat}{X:LI}{f j:Nat}{κ:Nat->Int}
theorem Wy{x:LI}{k:Nat}:(x.drop k).getD j 0=x.getD (k+j) 0:=by
 rw [gDE,gDE,List.getElem?_drop]
theorem p10081{f:Int}(hX:X.length<=1048576)(hκ: ∀i,i<X.length->G82 (X.getD i 0,((0:Int),(c,[f])))=some (κ i)):Tot (λb:Bool=>(∀i j,i<j->j<X.length->κ i≠κ j)->b=true) (G10081 (X,((1:Int),(c,[f])))):=by
 unfold G10081;refine AC (n:=X.length) (λi v=>v=(i:Int)) rfl (λi hi v hv=>?_) λv hv=>?_
 ·obtain rfl:=hv
  refine Bs (ltd hi) (Ad (Ab hi) ?_);rw [wr hi hX];refine Ad ⟨by omega,by show((i+1:Nat):Int)<=(X.length:Int);omega,Int.le_refl _⟩ ?_
  have hYl:(X.drop (((i+1:Nat):Int)).toNat).length=X.length-(i+1):=List.length_drop;have hYg: ∀j,(X.drop (((i+1:Nat):Int)).toNat).getD j 0=X.getD (i+1+j) 0:=λj=>Wy
  refine AC (n:=(X.drop (((i+1:Nat):Int)).toNat).length) (λj v=>v=(j:Int)) rfl (λj hj v hv=>?_) λv hv=>?_
  ·obtain rfl:=hv
   refine Bs (ltd hj) (Ad (Ab hj) ?_);refine AC (n:=1) (λk v=>v.2=(k:Int)/\(k=0->v.1=true)/\(k=1->v.1=true->κ i=κ (i+1+j))) ⟨rfl,λ_=>rfl,λh=>by cases h⟩ (λk hk v hv=>?_) λv hv=>?_
   ·obtain⟨v1,v2⟩:=v
    have k0:k=0:=by omega
    subst k0;obtain⟨(h2:v2=((0:Nat):Int)),h3,_⟩:=hv;subst h2;have h5:v1=true:=h3 rfl;subst h5;refine AP (v:=true) rfl (Bs rfl (AP (hκ i hi) (AP (v:=κ (i+1+j)) ?_ (Aa ⟨wr (by omega:0<1) (by omega),(λh=>by cases h),λ_ h=>of_decide_eq_true h⟩))))
    show G82 ((X.drop (((i+1:Nat):Int)).toNat).getD j 0,((0:Int),(c,[f])))=_;rw [hYg];exact hκ _ (by omega)
   ·obtain⟨v1,v2⟩:=v
    obtain⟨(rfl:v2=((1:Nat):Int)),_,h4⟩:=hv;refine AP (v:=false) rfl (Bd rfl (Aa (Ad rfl (Au (λe=>?_) λe=>Aa (wr hj (by omega))))))
    exact C4 (C4 (Aa λhne=>absurd (h4 rfl e) (hne _ _ (by omega) (by omega))))
  ·obtain rfl:=hv
   exact Bd ltn (Aa (Ad rfl (Aa rfl)))
 ·obtain rfl:=hv
  exact Bd ltn (Aa (Ad rfl (Aa λ_=>rfl)))
theorem p20081{f:Int}(hX:X.length<=1048576)(hκ: ∀i,i<X.length->G83 (X.getD i 0,((0:Int),(c,[f])))=some (κ i)):Tot (λb:Bool=>(∀i j,i<j->j<X.length->κ i≠κ j)->b=true) (G20081 (X,((1:Int),(c,[f])))):=by
 unfold G20081;refine AC (n:=X.length) (λi v=>v=(i:Int)) rfl (λi hi v hv=>?_) λv hv=>?_
 ·obtain rfl:=hv
  refine Bs (ltd hi) (Ad (Ab hi) ?_);rw [wr hi hX];refine Ad ⟨by omega,by show((i+1:Nat):Int)<=(X.length:Int);omega,Int.le_refl _⟩ ?_
  have hYl:(X.drop (((i+1:Nat):Int)).toNat).length=X.length-(i+1):=List.length_drop;have hYg: ∀j,(X.drop (((i+1:Nat):Int)).toNat).getD j 0=X.getD (i+1+j) 0:=λj=>Wy
  refine AC (n:=(X.drop (((i+1:Nat):Int)).toNat).length) (λj v=>v=(j:Int)) rfl (λj hj v hv=>?_) λv hv=>?_
  ·obtain rfl:=hv
   refine Bs (ltd hj) (Ad (Ab hj) ?_);refine AC (n:=1) (λk v=>v.2=(k:Int)/\(k=0->v.1=true)/\(k=1->v.1=true->κ i=κ (i+1+j))) ⟨rfl,λ_=>rfl,λh=>by cases h⟩ (λk hk v hv=>?_) λv hv=>?_
   ·obtain⟨v1,v2⟩:=v
    have k0:k=0:=by omega
    subst k0;obtain⟨(h2:v2=((0:Nat):Int)),h3,_⟩:=hv;subst h2;have h5:v1=true:=h3 rfl;subst h5;refine AP (v:=true) rfl (Bs rfl (AP (hκ i hi) (AP (v:=κ (i+1+j)) ?_ (Aa ⟨wr (by omega:0<1) (by omega),(λh=>by cases h),λ_ h=>of_decide_eq_true h⟩))))
    show G83 ((X.drop (((i+1:Nat):Int)).toNat).getD j 0,((0:Int),(c,[f])))=_;rw [hYg];exact hκ _ (by omega)
   ·obtain⟨v1,v2⟩:=v
    obtain⟨(rfl:v2=((1:Nat):Int)),_,h4⟩:=hv;refine AP (v:=false) rfl (Bd rfl (Aa (Ad rfl (Au (λe=>?_) λe=>Aa (wr hj (by omega))))))
    exact C4 (C4 (Aa λhne=>absurd (h4 rfl e) (hne _ _ (by omega) (by omega))))
  ·obtain rfl:=hv
   exact Bd ltn (Aa (Ad rfl (Aa rfl)))
 ·obtain rfl:=hv
  exact Bd ltn (Aa (Ad rfl (Aa λ_=>rfl)))
theorem YW{x y:Int}{i:Nat}(hij:i<j)(hj:j<(Ba c x y).length):(Ba c x y).getD i 0≠(Ba c x y).getD j 0:=by
 have hnd:(Ba c x y).Pairwise (·≠·):=by
  unfold Ba;refine List.pairwise_map.2 ((List.Pairwise.filter _ List.nodup_range).imp ?_);intro a b h e;exact h (by omega)
 have:=List.pairwise_iff_getElem.1 hnd i j (by omega) hj hij
 rwa [gDE,gEE (by omega),gDE,gEE hj]
theorem p34(hc:BM c=true)(hf:f<ar c):Tot (λb:Bool=>(∃g,Iso c f g)->b=true) (G34 (c,(f:Int))):=by
 have hs:=Bj hc;have hl:=CA hs;have ht:=Kg hs;have h0:=hs.hd.1;obtain⟨n,hn⟩: ∃n:Nat,c.1=(n:Int):=⟨c.1.toNat,by omega⟩
 obtain⟨z,z1,z2,z3,z4,z5⟩:=Ha hc (x:=fT c f) (hs.fr f hf);unfold G34;refine Ad (Ab hf) (Ai (P:=λb:Bool=>(∃g,Iso c f g)->b=true) ?_ λv hv=>Aa hv)
 show Tot _ (G60 (c,(fT c f,[(f:Int)])));unfold G60;refine AC (n:=n) (λi v=>v=(i:Int)) rfl (λi hi v hv=>?_) λv hv=>?_
 ·obtain rfl:=hv
  refine Bs (by show decide ((i:Int)<c.1)=true;rw [hn];exact ltd hi) (AP (p64 (by show ar c<=_;omega) ht _ _) (Ai (p10081 (X:=Ba c (i:Int) (fT c f)) (c:=c) (f:=(f:Int)) (κ:=λk=>T c ((Ba c (i:Int) (fT c f)).getD k 0).toNat f) (by have:=CS (c:=c) (x:=(i:Int)) (y:=fT c f);omega) ?_) λb hb=>Au (λe=>C4 (Aa λhI=>?_)) λe=>Aa (wr hi (by omega))))
  ·intro k hk
   unfold G82;exact BU ⟨Int.le_refl _,Int.zero_lt_one⟩ (Ag (p43 hs (JP hk) (Ab hf)) rfl)
  ·have hb':b=true:=by
    refine hb λi' j' hij hj he=>YW hij hj ?_
    obtain⟨g,h⟩:=hI;obtain⟨a,ha,ea,a1,a2⟩:=BR.1 (CO (0:Int) (show i'<(Ba c (i:Int) (fT c f)).length by omega))
    obtain⟨d,hd,ed,d1,d2⟩:=BR.1 (CO (0:Int) hj);have he:T c ((Ba c (i:Int) (fT c f)).getD i' 0).toNat f=T c ((Ba c (i:Int) (fT c f)).getD j' 0).toNat f:=he;rw [ea,ed]at he⊢;have he:T c a f=T c d f:=he;obtain⟨m,hm,_⟩:=Uu hc ha hf a2;have e1:=Cy hc ha hf h.lt a2 h.fr.symm hm (h.l.trans z1);have e2:=Cy hc hd hf h.lt d2 h.fr.symm (he.symm.trans hm) (h.l.trans z1);rw [Lb hc ha (by rw [a2];exact z2)]at e1
    rw [Lb hc hd (by rw [d2];exact z2)]at e2
    exact e1.symm.trans e2
   rw [hb']at e;cases e
 ·obtain rfl:=hv
  exact Bd (by show decide ((n:Int)<c.1)=false;rw [hn];exact ltn) (Aa (Ad rfl (Aa λ_=>rfl)))
theorem p35(hc:BM c=true)(hf:f<ar c):Tot (λb:Bool=>(∃g,Iso c f g)->b=true) (G35 (c,(f:Int))):=by
 have hs:=Bj hc;have hl:=CA hs;have ht:=Kg hs;have h0:=hs.hd.1;obtain⟨n,hn⟩: ∃n:Nat,c.1=(n:Int):=⟨c.1.toNat,by omega⟩
 obtain⟨z,z1,z2,z3,z4,z5⟩:=Ha hc (x:=tT c f) (hs.to f hf);unfold G35;refine Ad (by show(0:Int)<=(f:Int)/\(f:Int)<(c.2.2.1.length:Int);rw [ht];exact Ab hf) (Ai (P:=λb:Bool=>(∃g,Iso c f g)->b=true) ?_ λv hv=>Aa hv)
 show Tot _ (G61 (c,(tT c f,[(f:Int)])));unfold G61;refine AC (n:=n) (λi v=>v=(i:Int)) rfl (λi hi v hv=>?_) λv hv=>?_
 ·obtain rfl:=hv
  refine Bs (by show decide ((i:Int)<c.1)=true;rw [hn];exact ltd hi) (AP (p64 (by show ar c<=_;omega) ht _ _) (Ai (p20081 (X:=Ba c (tT c f) (i:Int)) (c:=c) (f:=(f:Int)) (κ:=λk=>T c f ((Ba c (tT c f) (i:Int)).getD k 0).toNat) (by have:=CS (c:=c) (x:=tT c f) (y:=(i:Int));omega) ?_) λb hb=>Au (λe=>C4 (Aa λhI=>?_)) λe=>Aa (wr hi (by omega))))
  ·intro k hk
   unfold G83;exact BU ⟨Int.le_refl _,Int.zero_lt_one⟩ (Ag (p43 hs (Ab hf) (JP hk)) rfl)
  ·have hb':b=true:=by
    refine hb λi' j' hij hj he=>YW hij hj ?_
    obtain⟨g,h⟩:=hI;obtain⟨a,ha,ea,a1,a2⟩:=BR.1 (CO (0:Int) (show i'<(Ba c (tT c f) (i:Int)).length by omega))
    obtain⟨d,hd,ed,d1,d2⟩:=BR.1 (CO (0:Int) hj);have he:T c f ((Ba c (tT c f) (i:Int)).getD i' 0).toNat=T c f ((Ba c (tT c f) (i:Int)).getD j' 0).toNat:=he;rw [ea,ed]at he⊢;have he:T c f a=T c f d:=he;obtain⟨m,hm,_⟩:=Uu hc hf ha a1.symm;have e1:=Cy hc h.lt hf ha h.to a1.symm (h.r.trans z1) hm;have e2:=Cy hc h.lt hf hd h.to d1.symm (h.r.trans z1) (he.symm.trans hm);rw [Lc hc ha (by rw [a1];exact z2)]at e1
    rw [Lc hc hd (by rw [d1];exact z2)]at e2
    exact e1.trans e2.symm
   rw [hb']at e;cases e
 ·obtain rfl:=hv
  exact Bd (by show decide ((n:Int)<c.1)=false;rw [hn];exact ltn) (Aa (Ad rfl (Aa λ_=>rfl)))
end
end Go.Ve.D


namespace Go.Ve.D
open Go Go.Ve
noncomputable section
variable{c:Cat}{v:Int}{x:LI}{w:List Int}{i:Nat}
theorem p11{a:Int}(hx:x.length<=1048576):G11 (x,a)=some (decide (a∈x)):=by
 have h:Tot (λb:Bool=>b=true↔a∈x) (G11 (x,a)):=by
  unfold G11;refine AC (n:=x.length) (λi v=>v=(i:Int)/\∀k,k<i->x.getD k 0≠a) ⟨rfl,λk hk=>absurd hk (Nat.not_lt_zero _)⟩ (λi hi v hv=>?_) λv hv=>?_
  ·obtain⟨rfl,hk⟩:=hv
   refine Bs (ltd hi) (Ad (Ab hi) (Au (λe=>C4 (Aa (iff_of_true rfl ?_))) λe=>Aa ⟨wr hi hx,λk hk'=>?_⟩))
   ·have e:x.getD i 0=a:=of_decide_eq_true e
    rw [<-e];exact CO 0 hi
   ·have e: ¬x.getD i 0=a:=of_decide_eq_false e
    by_cases h:k=i
    ·rw [h];exact e
    ·exact hk k (by omega)
  ·obtain⟨rfl,hk⟩:=hv
   refine Bd ltn (Aa (Ad rfl (Aa ⟨(λh=>by cases h),λh=>?_⟩)))
   obtain⟨i,hi,e⟩:=List.getElem_of_mem h;have:=hk i hi;rw [gDE,gEE hi]at this;exact absurd e this
 obtain⟨b,hb,h⟩:=h;rw [hb,Bool.eq_iff_iff.2 (h.trans decide_eq_true_iff.symm)]
def rtR(c:Cat)(w:List Int):List Int×Int:=bif decide (clC c [w]=0)then(rt c w,0)else([],clC c [w])
theorem p7(h:okC c)(hw:w.length<=1048576):G7 (c,w)=some (rtR c w):=by
 unfold G7 rtR;refine Ag (p26 h (by show 1<=1048576;omega) (λx hx=>by rw [List.mem_singleton.1 hx];exact hw)) ?_
 cases hc:decide (clC c [w]=0)
 ·rfl
 obtain⟨h1,h2,_⟩:=Ye hc;have hs:=Bj h1;exact BC rfl (Ag (p27 hs) (Ag (p28 (CA hs) hw (h2 w (by simp))) rfl))
theorem p8(h:okC c)(hw:w.length<=1048576):G8 (c,w)=some (rtR c w):=by
 unfold G8 rtR;refine Ag (p29 h hw (by show 0<=1048576;omega)) ?_
 rw [clC1];cases hc:decide (clC c [w]=0)
 ·rfl
 obtain⟨h1,h2,_⟩:=Ye hc;exact BC rfl (Ag (p30 (Bj h1) hw (h2 w (by simp))) rfl)
theorem p10(h:okC c)(hw:w.length<=1048576)(h0:clC c [w]=0):G10 (c,w)=some (lf c w,0):=by
 obtain⟨h1,h2,_⟩:=Ye (dT h0);have hs:=Bj h1;unfold G10;refine Ag (p26 h (by show 1<=1048576;omega) (λx hx=>by rw [List.mem_singleton.1 hx];exact hw)) ?_
 rw [h0];exact BC rfl (Ag (p27 hs) (Ag (p31 (CA hs) hw (h2 w (by simp))) rfl))
def sm(B:List Bool):Nat->Int
 |0=>0
 |k+1=>sm B k+bif B.getD k false then((2 ^ k:Nat):Int)else 0
theorem sm_le{B:List Bool}: ∀k,0<=sm B k/\sm B k<((2 ^ k:Nat):Int)
 |0=>⟨Int.le_refl _,Int.zero_lt_one⟩
 |k+1=>by
  have h:=sm_le (B:=B) k;have e:sm B (k+1)=sm B k+bif B.getD k false then((2 ^ k:Nat):Int)else 0:=rfl;rw [e,Nat.pow_succ];cases B.getD k false
  ·rw [cond_false];omega
  ·rw [cond_true];omega
theorem sm31: ∀a b c d e:Bool,sm [a,b,c,d,e] 5=31↔(a=true/\b=true/\c=true/\d=true/\e=true):=by decide
theorem shl_k{k:Nat}(hk:k<5):AaI .i64 1 (k:Int)=((2 ^ k:Nat):Int):=by
 match k,hk with
 |0,_=>decide
 |1,_=>decide
 |2,_=>decide
 |3,_=>decide
 |4,_=>decide
theorem set_at(h:i<x.length):(x.set i v).getD i 0=v:=by
 rw [gDE,List.getElem?_set_self h];rfl
theorem set_ne{m:Nat}(h:m≠i):(x.set i v).getD m 0=x.getD m 0:=by
 rw [gDE,gDE,List.getElem?_set_ne (Ne.symm h)]
theorem p12(h:okC c)(hc:BM c=true):Tot (λr:LI×Int=>r.2=0/\r.1.length=ar c/\∀f,f<ar c->(r.1.getD f 0=31↔ ∃g,Iso c f g)) (G12 c):=by
 have hs:=Bj hc;have hl:c.2.1.length<=40:=CA hs;have hrep:(List.replicate ((c.2.1.length:Int)).toNat (0:Int)).length=c.2.1.length:=List.length_replicate
 have hz: ∀k:Nat,(List.replicate ((c.2.1.length:Int)).toNat (0:Int)).getD k 0=0:=λk=>by
  rw [gDE,List.getElem?_replicate];split<;>rfl
 unfold G12;refine AP (p32 h) ?_;rw [hc];refine Bd rfl (AP (p33 c) (Ad ⟨by omega,Int.le_refl _,by omega,by omega⟩ ?_))
 refine AC (n:=c.2.1.length) (λi v=>v.1=(i:Int)/\v.2.length=c.2.1.length/\(∀k,k<i->(v.2.getD k 0=31↔ ∃g,Iso c k g))/\∀k,i<=k->v.2.getD k 0=0) ⟨rfl,hrep,(λk hk=>absurd hk (Nat.not_lt_zero _)),λk _=>hz k⟩ (λi hi v hv=>?_) λv hv=>?_
 ·obtain⟨v1,out⟩:=v
  obtain⟨(rfl:v1=(i:Int)),(ho:out.length=c.2.1.length),(hd: ∀k,k<i->(out.getD k 0=31↔ ∃g,Iso c k g)),(hn: ∀k,i<=k->out.getD k 0=0)⟩:=hv;refine Bs (by rw [hrep];exact ltd hi) (Ai (p34 hc hi) λv3 h3=>Ai (p35 hc hi) λv4 h4=>Ai (p36 hc hi) λv5 h5=>Ai (p37 hc hi) λv6 h6=>Ai (p38t hc hi) λv7 h7=>?_)
  have hin: ∀ {w:LI},w.length=c.2.1.length->(0:Int)<=(i:Int)/\(i:Int)<(w.length:Int):=λhw=>by omega
  generalize hB:v3::(v4::(decide (0<(v5.length:Int))::(decide (0<(v6.length:Int))::(decide (0<=v7):: []))))=B;have hs5:sm B 5=31↔ ∃g,Iso c i g:=by
   rw [<-hB,sm31];constructor
   ·rintro ⟨_,_,_,_,e⟩
    exact h7.1 (of_decide_eq_true e)
   ·intro hI
    exact⟨h3 hI,h4 hI,h5 hI,h6 hI,dT (h7.2 hI)⟩
  refine AC (n:=5) (λk w=>w.1=(k:Int)/\w.2.length=c.2.1.length/\(∀m,m≠i->w.2.getD m 0=out.getD m 0)/\w.2.getD i 0=sm B k) ⟨rfl,ho,(λm _=>rfl),hn i (Nat.le_refl _)⟩ (λk hk w hw=>?_) λw hw=>?_
  ·obtain⟨w1,w⟩:=w
   obtain⟨(rfl:w1=(k:Int)),(g1:w.length=c.2.1.length),(g2: ∀m,m≠i->w.getD m 0=out.getD m 0),(g3:w.getD i 0=sm B k)⟩:=hw;refine Bs (dT (by show(k:Int)<5;omega)) (Ad (by show(0:Int)<=(k:Int)/\(k:Int)<5;omega) (Au (λe=>?_) λe=>Aa ⟨wr hk (by omega),g1,g2,?_⟩))
   ·have e:B.getD k false=true:=e
    refine Ad (hin g1) (Ad (by show(0:Int)<=(k:Int);omega) (Ad (hin g1) (Aa ⟨wr hk (by omega),by show(w.set _ _).length=_;rw [List.length_set];exact g1,λm hm=>(set_ne hm).trans (g2 m hm),?_⟩)))
    have hb:=sm_le (B:=B) (k+1);have h32:(2 ^ (k+1):Nat)<=2 ^ 5:=Nat.pow_le_pow_right (by omega) (by omega)
    have h32':(2 ^ 5:Nat)=32:=rfl;have es:sm B (k+1)=sm B k+bif B.getD k false then((2 ^ k:Nat):Int)else 0:=rfl;rw [e,cond_true]at es;refine(set_at (x:=w) (i:=i) (by omega)).trans ?_
    show IntKind.wrap .i64 (w.getD i 0+AaI .i64 1 (k:Int))=_;rw [g3,shl_k hk,<-es];exact Ay (by omega) (by omega)
   ·have e:B.getD k false=false:=e
    show w.getD i 0=sm B k+bif B.getD k false then((2 ^ k:Nat):Int)else 0;rw [e,g3];exact(Int.add_zero _).symm
  ·obtain⟨w1,w⟩:=w
   obtain⟨(rfl:w1=((5:Nat):Int)),(g1:w.length=c.2.1.length),(g2: ∀m,m≠i->w.getD m 0=out.getD m 0),(g3:w.getD i 0=sm B 5)⟩:=hw;refine Bd rfl (Aa (Ad rfl (Aa ⟨wr hi (by omega),g1,λk hk=>?_,λk hk=>?_⟩)))
   ·by_cases hki:k=i
    ·rw [hki]
     show w.getD i 0=31↔_;rw [g3];exact hs5
    ·show w.getD k 0=31↔_
     rw [g2 k hki];exact hd k (by omega)
   ·show w.getD k 0=0
    rw [g2 k (by omega)];exact hn k (by omega)
 ·obtain⟨v1,out⟩:=v
  obtain⟨(rfl:v1=(c.2.1.length:Int)),(ho:out.length=c.2.1.length),(hd: ∀k,k<c.2.1.length->(out.getD k 0=31↔ ∃g,Iso c k g)),_⟩:=hv;exact Bd (by rw [hrep];exact ltn) (Aa (Ad rfl (Aa ⟨rfl,ho,hd⟩)))
theorem p25{c:Ca}(hc:okD c){s:Src}(h:OkS s):Tot (λr=>r.1.length<=2001/\OkS r.2) (G25 c s):=by
 have hl0:=hc.1;have hl:c.2.1.length<=1048576:=by omega
 unfold G25;refine AC (n:=c.2.1.length) (λi v=>v.1=(i:Int)/\OkS (v.2.1,(v.2.2.1,v.2.2.2.1))/\v.2.2.2.2.length<=i) ⟨rfl,h,Nat.le_refl _⟩ (λi hi v hv=>?_) λv hv=>?_
 ·obtain⟨_,s1,s2,s3,w⟩:=v
  obtain⟨(rfl:_=(i:Int)),(hs:OkS (s1,(s2,s3))),(hw:w.length<=i)⟩:=hv;refine Bs (ltD hi) (Ai (p48 hs) λv1 hv1=>Au (λ_=>Ad (by show w.length+1<=_;omega) (Aa ⟨wrD hi hl,hv1.2,?_⟩)) λ_=>Aa ⟨wrD hi hl,hv1.2,by show w.length<=i+1;omega⟩)
  show(w++ [_]).length<=i+1;rw [List.length_append];show w.length+1<=_;omega
 ·obtain⟨_,s1,s2,s3,w⟩:=v
  obtain⟨(rfl:_=(c.2.1.length:Int)),(hs:OkS (s1,(s2,s3))),(hw:w.length<=c.2.1.length)⟩:=hv;refine Bd ltf (Aa (Ad rfl (Ai (p48 hs) λv1 hv1=>Au (λ_=>Ai (p50 hv1.2) λv2 hv2=>Ad (by show w.length+1<=_;omega) (Aa ⟨?_,hv2⟩)) λ_=>Au (λ_=>Ad (by show w.length+1<=_;omega) (Aa ⟨?_,hv1.2⟩)) λ_=>Aa ⟨by show w.length<=_;omega,hv1.2⟩)))
  ·show(w++ [_]).length<=_
   rw [List.length_append];show w.length+1<=_;omega
  ·show(w++ [_]).length<=_
   rw [List.length_append];show w.length+1<=_;omega
theorem okD_C{c:Ca}(h:okD c):okC c:=by
 obtain⟨a,b,d,e,f⟩:=h;exact⟨by omega,by omega,by omega,by omega,λy hy=>by have:=f y hy;omega⟩
theorem p6(h:VU x):Tot (λr:Cat×List Int=>okC r.1/\r.2.length<=1048576) (G6 x):=by
 unfold G6;exact Ai (p23 h) λv0 hs=>Ai (p24 (by decide) (by decide) hs) λv1 hv1=>Ai (p25 hv1.1 hv1.2) λv2 hv2=>Aa ⟨okD_C hv1.1,by have:=hv2.1;show v2.1.length<=_;omega⟩
theorem law3{x:List Int}(hx:VU x):Tot (λb:Bool=>b=true) (G3 x):=by
 unfold G3;refine AP (v:=false) (congrArg some (dF (by have:=hx.1;omega))) (Bd rfl (Ai (p6 hx) λv1 hv1=>?_))
 obtain⟨c,w⟩:=v1;obtain⟨(hok:okC c),(hw:w.length<=1048576)⟩:=hv1;refine AP (p7 hok hw) (AP (p8 hok hw) ?_);have hR: ∀ {q:Nat->Bool},(((List.range (ar c)).filter q).map fun(i:Nat)=>(i:Int)).length<=ar c:=Aay
 cases hc0:decide (clC c [w]=0)
 ·have e:rtR c w=([],clC c [w]):=by unfold rtR;rw [hc0];rfl
  rw [e];exact AP (v:=false) (BC (by show(!decide (clC c [w]=clC c [w]))=false;simp) (Ag (p9 (by show 0<=_;omega)) rfl)) (Bd rfl (Bs (by show(!decide (clC c [w]=0))=true;rw [hc0];rfl) (Aa rfl)))
 obtain⟨hc,hwi,_⟩:=Ye hc0;have hwi:=hwi w (by simp)
 have hs:=Bj hc;have hl:=CA hs;have hl':c.2.1.length<=40:=hl;have e:rtR c w=(rt c w,0):=by unfold rtR;rw [hc0];rfl
 have h1: ∀ {q:Nat->Bool},clC c [((List.range (ar c)).filter q).map fun(i:Nat)=>(i:Int)]=0:=clC_of hc (λv hv=>by rw [List.mem_singleton.1 hv];exact Qb) (λv hv=>by rw [List.mem_singleton.1 hv];exact Aax)
 have e2:rtR c (lf c (rt c w))=(rt c w,0):=by
  have h2:clC c [lf c (rt c w)]=0:=h1;unfold rtR;rw [h2,rt_lf hwi];rfl
 rw [e];refine AP (v:=false) (BC rfl (Ag (p9 (Nat.le_trans hR (le6 hl))) (by simp))) (Bd rfl (Bd rfl ?_))
 refine AP (p10 hok (Nat.le_trans hR (le6 hl)) h1) (AP ((p7 hok (w:=lf c (rt c w)) (Nat.le_trans hR (le6 hl))).trans (congrArg some e2)) ?_);refine AP (v:=false) (BC (show(!decide (IntKind.wrap .i64 ((0:Int)+0)=0))=false by decide) (Ag (p9 (Nat.le_trans hR (le6 hl))) (by simp))) (Bd rfl ?_)
 refine AC (n:=w.length) (λi v=>v=(i:Int)) rfl (λi hi v hv=>?_) λv hv=>?_
 ·obtain rfl:=hv
  exact Bs (ltd hi) (Ad (Ab hi) (AP ((p11 (Nat.le_trans hR (le6 hl))).trans (congrArg some (dT (YA hwi (CO 0 hi))))) (Bd rfl (Aa (wr hi hw)))))
 ·obtain rfl:=hv
  refine Bd ltn (Aa (Ad rfl (Ai (p12 hok hc) λv9 h9=>?_)))
  obtain⟨K,v92⟩:=v9;obtain⟨(rfl:v92=0),(hK:K.length=ar c),(hk: ∀f,f<ar c->(K.getD f 0=31↔ ∃g,Iso c f g))⟩:=h9;refine Bd rfl (AC (n:=K.length) (λi v=>v=(i:Int)) rfl (λi hi v hv=>?_) λv hv=>?_)
  ·obtain rfl:=hv
   have hia:i<ar c:=by omega
   have eq:decide (K.getD i 0=31)=(decide ((i:Int)∈lf c (rt c w))&&decide ((i:Int)∈rt c w)):=by
    rw [Bool.eq_iff_iff,bAE,decide_eq_true_eq,decide_eq_true_eq,decide_eq_true_eq];exact(hk i hia).trans (Yf hc hwi hia).symm
   refine Bs (ltd hi) (AP (p11 (Nat.le_trans hR (le6 hl))) (AP (Yi λ_=>Ag (p11 (Nat.le_trans hR (le6 hl))) rfl) ?_))
   generalize (decide ((i:Int)∈lf c (rt c w))&&decide ((i:Int)∈rt c w))=V at eq;refine Ad (Ab hi) (AP (v:=false) ?_ (AP (v:=false) (BC rfl ?_) (Bd rfl (Aa (wr hi (by omega))))))
   ·show(bif decide (K.getD i 0=31)then some (!V)else some false)=some false
    rw [eq];cases V<;>rfl
   ·cases hV:V
    ·rfl
    ·refine BV rfl (BU (Ab hi) ?_)
     show some (!decide (K.getD i 0=31))=some false;rw [eq,hV];rfl
  ·obtain rfl:=hv
   exact Bd ltn (Aa (Ad rfl (Aa rfl)))
theorem u8_in{n:Int}(h:(Lit.int .u8 n).wf=true):0<=n/\n<=255:=by
 have h:(decide (IntKind.u8.min<=n)&&decide (n<=IntKind.u8.max))=true:=h;rw [bAE,decide_eq_true_eq,decide_eq_true_eq]at h;have e1:IntKind.u8.min=0:=by decide
 have e2:IntKind.u8.max=255:=by decide
 omega
theorem p3(x:List Int)(h:okT (PT S3.ps) x):G3 x=some true:=by
 have h:x.length<=maxLen/\∀n∈x,(Lit.int .u8 n).wf=true:=h;by_cases hl:x.length<=4096
 ·obtain⟨b,hb,rfl⟩:=law3 ⟨hl,λb hb=>u8_in (h.2 b hb)⟩
  exact hb
 ·unfold G3
  exact Ag (v:=true) (congrArg some (dT (by omega))) rfl
end
end Go.Ve.D

