/- Systems, factorizations, diagonals, isomorphisms: the functions of the law. -/
import Derived.Test.YtlggjlgcmilmhaaSyh
namespace Go.Ve.D
open Go Go.Ve
noncomputable section
variable{c:Cat}{ws:List (List Int)}{e m w:List Int}{f g n:Nat}{q:Nat->Bool}
theorem Hn:(((List.range n).filter q).map fun(i:Nat)=>(i:Int)).length<=n:=by
 rw [List.length_map];have:=List.length_filter_le q (List.range n);rwa [List.length_range]at this
theorem Ww{d:Int}:d∈(((List.range n).filter q).map fun(i:Nat)=>(i:Int))↔ ∃f,f<n/\q f=true/\d=(f:Int):=by
 simp only [List.mem_map,List.mem_filter,List.mem_range];exact⟨fun⟨f,⟨h1,h2⟩,h3⟩=>⟨f,h1,h2,h3.symm⟩,fun⟨f,h1,h2,h3⟩=>⟨f,⟨h1,h2⟩,h3.symm⟩⟩
theorem DU:wi n (((List.range n).filter q).map fun(i:Nat)=>(i:Int))=true:=by
 unfold wi;rw [aET];intro d hd;obtain⟨f,hf,_,rfl⟩:=Ww.1 hd;exact Wa (by omega) (by omega)
theorem Wv:IN (((List.range n).filter q).map fun(i:Nat)=>(i:Int))=true:=by
 have hp:(((List.range n).filter q).map fun(i:Nat)=>(i:Int)).Pairwise (· < ·):=by
  rw [List.pairwise_map];refine(List.Pairwise.filter _ List.pairwise_lt_range).imp λh=>by omega
 generalize ((List.range n).filter q).map (fun(i:Nat)=>(i:Int))=x at hp
 unfold IN;rw [aET];intro i hi;have hi:=List.mem_range.1 hi;have h1:=List.pairwise_iff_getElem.1 hp i (i+1) (by omega) (by omega) (by omega)
 rw [gDE,gEE (by omega),gDE,gEE (by omega)]
 show(!decide (x[i+1]<=x[i]))=true;rw [dF (by omega)];rfl
theorem Wy(h:decide (clC c ws=0)=true):B3 c=true/\(∀w∈ws,wi (ar c) w=true)/\∀w∈ws,IN w=true:=by
 unfold clC at h;cases h1:B3 c<;>rw [h1]at h
 ·cases h
 cases h2:ws.all (wi (ar c))<;>rw [h2]at h
 ·cases h
 cases h3:ws.all IN<;>rw [h3]at h
 ·cases h
 exact⟨rfl,aET.1 h2,aET.1 h3⟩
theorem clC_of(h1:B3 c=true)(h2: ∀w∈ws,wi (ar c) w=true)(h3: ∀w∈ws,IN w=true):clC c ws=0:=by
 unfold clC;rw [h1,aET.2 h2,aET.2 h3];rfl
def Yy(c:Cat)(w:List Int):List Int×List Int×Bool×Int:=bif decide (clC c [w]=0)then(lf c (rt c w),(rt c w,(U7 c (lf c (rt c w)) (rt c w),0)))else([],([],(false,clC c [w])))
theorem le6(h:n<=40):n<=1048576:=by omega
theorem p14(h:okC c)(hw:w.length<=1048576):G14 (c,w)=some (Yy c w):=by
 unfold G14 Yy;refine Aa (p26 h (by show 1<=1048576;omega) (λx hx=>by rw [List.mem_singleton.1 hx];exact hw)) ?_
 cases hc:decide (clC c [w]=0)
 ·rfl
 obtain⟨h1,h2,_⟩:=Wy hc;have hs:=BN h1;have hl:=Cy hs;have hwi:=h2 w (by simp)
 have e0:clC c [w]=0:=of_decide_eq_true hc;refine AF rfl (Aa (p27 hs) (Aa (p28 hl hw hwi) (Aa (p31 hl (Nat.le_trans Hn (le6 hl)) DU) (Aa (p39 hs (Nat.le_trans Hn (le6 hl)) (Nat.le_trans Hn (le6 hl)) DU DU) rfl))))
theorem p15(h:okC c)(hw:w.length<=1048576):G15 (c,w)=some (Yy c w):=by
 unfold G15 Yy;refine Aa (p29 h hw (by show 0<=1048576;omega)) ?_
 rw [clC1];cases hc:decide (clC c [w]=0)
 ·rfl
 obtain⟨h1,h2,_⟩:=Wy hc;have hs:=BN h1;have hl:=Cy hs;have hwi:=h2 w (by simp)
 refine AF rfl (Aa (p30 hs hw hwi) (Aa (p40 hs (Nat.le_trans Hn (le6 hl)) DU) (Aa (p41 hs (Nat.le_trans Hn hl) (Nat.le_trans Hn hl) DU DU) rfl)))
theorem p16(h:okC c)(he:e.length<=1048576)(hm:m.length<=1048576)(h0:clC c [e,m]=0):G16 (c,(e,m))=some (U7 c e m,0):=by
 obtain⟨h1,h2,_⟩:=Wy (dT h0);have hs:=BN h1;unfold G16;refine Aa (p26 h (by show 2<=1048576;omega) (λx hx=>?_)) ?_
 ·rcases List.mem_cons.1 hx with rfl|hx
  ·exact he
  ·rw [List.mem_singleton.1 hx];exact hm
 ·rw [h0]
  exact AF rfl (Aa (p27 hs) (Aa (p39 hs he hm (h2 e (by simp)) (h2 m (by simp))) rfl))
theorem p19(h:okC c)(he:e.length<=40)(hm:m.length<=40)(hf:f<ar c)(h0:clC c [e,m]=0):G19 (c,(e,(m,(f:Int))))=some (fac c e m (q19 c e m f),0):=by
 obtain⟨h1,h2,_⟩:=Wy (dT h0);have hs:=BN h1;have hl:=Cy hs;have ht:=MX hs;have hE:=h2 e (by simp)
 have hM:=h2 m (by simp)
 unfold G19;refine Aa (p32 h) ?_;rw [h1];refine AF rfl (Aa (p33 c) (Aa (p42' _ _ (by have:c.2.1.length<=40:=hl;omega)) ?_))
 rw [Wa (by show(0:Int)<=(f:Int);omega) (by show(f:Int)<(ar c:Int);omega)]
 refine AF rfl (Aa (p26 h (by show 2<=1048576;omega) (λx hx=>?_)) ?_)
 ·rcases List.mem_cons.1 hx with rfl|hx
  ·exact le6 he
  ·rw [List.mem_singleton.1 hx];exact le6 hm
 rw [h0];refine AF rfl ?_;refine loop3 (q:=q19 c e m f) hs he hm (λv=>rfl) (λz v hi=>A7 (dT hi.2) (A4 hi rfl)) (λz acc=>AF ltn rfl) (λz i k acc a1 a2 hz hi hk ha=>?_) (λz i acc=>AF ltn rfl) rfl
 obtain⟨a,ha',ea⟩:=Uy hE hi;obtain⟨b,hb,eb⟩:=Uy hM hk;have ina:(0:Int)<=e.getD i 0/\e.getD i 0<(c.2.1.length:Int):=by rw [ea];exact Ab ha'
 have ina':(0:Int)<=e.getD i 0/\e.getD i 0<(c.2.2.1.length:Int):=by rw [ea,ht];exact Ab ha'
 have inb:(0:Int)<=m.getD k 0/\m.getD k 0<(c.2.1.length:Int):=by rw [eb];exact Ab hb
 refine A7 (ltd hk) (A4 (Ab hk) (A4 ina' (Aa (Up λ_=>Aa (p43 hs ina inb) rfl) ?_)))
 have:=pushR (R:=LO (Int×List (List Int)) (LO (Int×List (List Int)) (List (List Int)×Int))) (b:=q19 c e m f z i k) (v:=QC e m z i k) ha (wr hk (by omega))
 rw [<-this];show(bif q19 c e m f z i k then _ else _)=_;cases q19 c e m f z i k<;>rfl
theorem p20(h:Sh c)(hf:f<ar c)(hg:g<ar c):G20 (c,((f:Int),(g:Int)))=some (T c f g):=by
 have h1:=h.hd.2.2.2.2.2.1;have h2:=h.row f hf;have a1:(c.2.2.2.2.length:Int)=(ar c:Int):=by rw [h1];rfl
 have a2:((c.2.2.2.2.getD f []).length:Int)=(ar c:Int):=by rw [h2];rfl
 unfold G20;refine Aa (v:=false) ?_ (Aa (v:=false) (congrArg some (dF ?_)) (Aa (v:=false) (AF rfl (A4 ?_ (congrArg some (dF ?_)))) (AF rfl (A4 ?_ (A4 ?_ rfl)))))
 ·exact(AF (dF (by show ¬ (f:Int)<0;omega)) (congrArg some (dF (by show ¬ (g:Int)<0;omega))))
 ·show ¬ (c.2.2.2.2.length:Int)<=(f:Int);omega
 ·show(0:Int)<=(f:Int)/\(f:Int)<(c.2.2.2.2.length:Int);omega
 ·show ¬ ((c.2.2.2.2.getD f []).length:Int)<=(g:Int);omega
 ·show(0:Int)<=(f:Int)/\(f:Int)<(c.2.2.2.2.length:Int);omega
 ·show(0:Int)<=(g:Int)/\(g:Int)<((c.2.2.2.2.getD f []).length:Int);omega
theorem arr0(h:B3 c=true)(hw:wi (ar c) w=true):Yg c w=0:=by
 unfold Yg;rw [h,hw];rfl
theorem Ja{a:Nat}(h:a<n)(hw:wi n w=true):wi n ((a:Int)::w)=true:=by
 unfold wi at*;rw [List.all_cons,hw,Wa (by omega) (by omega)];rfl
theorem p21(h:okC c)(hc:B3 c=true){e m u v:Nat}(he:e<ar c)(hm:m<ar c)(hu:u<ar c)(hv:v<ar c)(h1:fT c u=fT c e)(h2:tT c u=fT c m)(h3:fT c v=tT c e)(h4:tT c v=tT c m)(h5:T c e v=T c u m):
  G21 (c,((e:Int),((m:Int),((u:Int),(v:Int)))))=some (dg c e m u v,0):=by
 have hs:=BN hc;have ht:=MX hs;have to: ∀ {a:Nat},a<ar c->(0:Int)<=(a:Int)/\(a:Int)<(c.2.2.1.length:Int):=λha=>by rw [ht];exact Ab ha
 unfold G21;refine Aa ((p44 h (by show 4<=1048576;omega)).trans (congrArg some (arr0 hc (Ja he (Ja hm (Ja hu (Ja hv rfl))))))) (AF rfl (Aa (p45 (Ab hu) (to hu)) (A4 (Ab he) (A4 (Ab hm) (Aa (v:=false) ?_ (Aa (v:=false) ?_ (AF rfl (Aa (p46 hs he hm _ _) rfl))))))))
 ·refine AF ?_ (Aa (p45 (Ab hv) (to hv)) (A4 (to he) (A4 (to hm) ?_)))
  ·show(!(decide (fT c u=fT c e)&&(decide (tT c u=fT c m)&&true)))=false
   rw [dT h1,dT h2];rfl
  ·show some (!(decide (fT c v=tT c e)&&(decide (tT c v=tT c m)&&true)))=some false
   rw [dT h3,dT h4];rfl
 ·refine AF rfl (Aa (p43 hs (Ab he) (Ab hv)) (Aa (p43 hs (Ab hu) (Ab hm)) ?_))
  show some (!decide (T c e v=T c u m))=_;rw [dT h5];rfl
def idv(c:Cat)(x:Int):Int:=c.2.2.2.1.getD x.toNat 0
theorem p38(h:Sh c)(hf:f<ar c)(hg:g<ar c)(h1:fT c g=tT c f)(h2:tT c g=fT c f)(h3:T c f g=idv c (fT c f))(h4:T c g f=idv c (tT c f)): ∃r,G38 (c,(f:Int))=some r/\0<=r:=by
 have hl:=Cy h;have ht:=MX h;have hL:=Hk (c:=c) (x:=tT c f) (y:=fT c f);have hi0:(c.2.2.2.1.length:Int)=c.1:=h.hd.2.2.2.2.2.2.1;have idi: ∀ {x:Int},0<=x/\x<c.1->(0:Int)<=x/\x<(c.2.2.2.1.length:Int):=λhx=>by rw [hi0];exact hx
 unfold G38;show Tot (λr:Int=>0<=r) _
 refine Ah (Ab hf) (Ah (by show(0:Int)<=(f:Int)/\(f:Int)<(c.2.2.1.length:Int);rw [ht];exact Ab hf) (BH (show _=some (By c (tT c f) (fT c f))from p64 (by show ar c<=_;omega) ht _ _) ?_))
 refine Cq (Q:=λr:Int=>0<=r) (st:=λi:Nat=>(i:Int)) (n:=(By c (tT c f) (fT c f)).length) (p:=λi=>!(decide (T c f ((By c (tT c f) (fT c f)).getD i 0).toNat=idv c (fT c f))&&decide (T c ((By c (tT c f) (fT c f)).getD i 0).toNat f=idv c (tT c f)))) (o:=.brk 0 ((By c (tT c f) (fT c f)).length:Int)) (Post:=λo=>Tot (λr:Int=>0<=r) o) (λi hi=>?_) (AF ltn rfl) (λy=>by simp) (λhA=>?_) (λ_ r hr=>⟨r,rfl,hr⟩)
 ·obtain⟨k,hk,ek⟩:=JM hi
  have hd:=Wc hi
  have go: ∀ {X:Bool->Option (LO Int Int)} {o},X (decide (T c f ((By c (tT c f) (fT c f)).getD i 0).toNat=idv c (fT c f))&&decide (T c ((By c (tT c f) (fT c f)).getD i 0).toNat f=idv c (tT c f)))=o->(∀Y:Option (LO Int Int),Y=(bif decide ((i:Int)<((By c (tT c f) (fT c f)).length:Int))then if 0<=(i:Int)/\(i:Int)<((By c (tT c f) (fT c f)).length:Int)then(G43 (c,(f:Int),(By c (tT c f) (fT c f)).getD ((i:Int)).toNat 0)).bind λv2=>if 0<=fT c f/\fT c f<(c.2.2.2.1.length:Int)then Option.bind (bif decide (v2=idv c (fT c f))then(G43 (c,(By c (tT c f) (fT c f)).getD ((i:Int)).toNat 0,(f:Int))).bind λv3=>if 0<=tT c f/\tT c f<(c.2.2.2.1.length:Int)then some (decide (v3=idv c (tT c f)))else none else some false) X else none else none else some (LO.brk 0 (i:Int)))->Y=o):=by
   intro X o hX Y hY;rw [hY];exact A7 (ltd hi) (A4 (Ab hi) (Aa (p43 h (Ab hf) hd) (A4 (idi (h.fr f hf)) (Aa (Up λ_=>Aa (p43 h hd (Ab hf)) (A4 (idi (h.to f hf)) rfl)) hX))))
  refine⟨λhp=>?_,λhp=>⟨_,?_,hd.1⟩⟩
  ·refine go (X:=λv3=>bif v3 then BL (some ((By c (tT c f) (fT c f)).getD i 0))else some (LO.next (IntKind.i64.wrap ((i:Int)+1)))) ?_ _ rfl
   rw [wr hi (by omega)]
   exact AF (by rwa [Bool.not_eq_true']at hp) rfl
  ·refine go (X:=λv3=>bif v3 then BL (some ((By c (tT c f) (fT c f)).getD i 0))else some (LO.next (IntKind.i64.wrap ((i:Int)+1)))) ?_ _ rfl
   exact A7 (by rwa [Bool.not_eq_false']at hp) rfl
 ·exfalso
  obtain⟨i,hi,e⟩:=List.getElem_of_mem (Iq.2 ⟨g,hg,rfl,h1,h2⟩);have:=aET.1 hA i (List.mem_range.2 hi);rw [gDE,gEE hi,Option.getD_some,e]at this;rw [show((g:Int)).toNat=g from rfl,dT h3,dT h4]at this
  cases this
theorem p22(h:okC c)(hc:B3 c=true)(hf:f<ar c)(hg:g<ar c)(h1:fT c g=tT c f)(h2:tT c g=fT c f)(h3:T c f g=idv c (fT c f))(h4:T c g f=idv c (tT c f)):G22 (c,(f:Int))=some (true,0):=by
 obtain⟨r,hr,h0⟩:=p38 (BN hc) hf hg h1 h2 h3 h4;unfold G22;refine Aa ((p44 h (by show 1<=1048576;omega)).trans (congrArg some (arr0 hc (Ja hf rfl)))) (AF rfl (Aa hr ?_))
 rw [dT h0]
end
end Go.Ve.D


namespace Go.Ve.D
open Go Go.Ve
noncomputable section
variable{c:Cat}{d e f g i k m u v:Nat}
theorem cat_T(hc:B3 c=true)(hf:f<ar c)(hg:g<ar c)(h:tT c f=fT c g): ∃k:Nat,T c f g=(k:Int)/\k<ar c/\fT c k=fT c f/\tT c k=tT c g:=by
 obtain⟨g1,g2,g3,g4⟩:=(BN hc).pos f g hf hg (dT h);refine⟨(T c f g).toNat,by omega,?_,g3,g4⟩
 have:T c f g<(ar c:Int):=g2;omega
theorem O5(hc:B3 c=true):(∀f,f<ar c->D7 c f=true)/\∀f g h,f<ar c->g<ar c->h<ar c->mt c f g=true->Dv c f g h=true:=by
 unfold B3 HP at hc;simp only [bAE]at hc;obtain⟨_,h1,h2⟩:=hc;refine⟨λf hf=>aET.1 h1 f (List.mem_range.2 hf),λf g h hf hg hh hm=>?_⟩
 have h3:=aET.1 (aET.1 h2 f (List.mem_range.2 hf)) g (List.mem_range.2 hg);rw [hm]at h3;exact aET.1 h3 h (List.mem_range.2 hh)
theorem Wz(hc:B3 c=true){h l:Nat}(hf:f<ar c)(hg:g<ar c)(hh:h<ar c)(m1:tT c f=fT c g)(m2:tT c g=fT c h)(hk:T c f g=(k:Int))(hl:T c g h=(l:Int)):T c k h=T c f l:=by
 have:=(O5 hc).2 f g h hf hg hh (dT m1);unfold Dv at this;rw [show mt c g h=true from dT m2,hk,hl]at this
 exact of_decide_eq_true this
theorem cat_id(hc:B3 c=true){x:Int}(hx:0<=x/\x<c.1): ∃i:Nat,idv c x=(i:Int)/\idn c x=i/\i<ar c/\fT c i=x/\tT c i=x:=by
 have hs:=BN hc;obtain⟨a1,a2⟩:=hs.id x hx.1 hx.2;have hi0:(c.2.2.2.1.length:Int)=c.1:=hs.hd.2.2.2.2.2.2.1;obtain⟨i,hi⟩: ∃i:Nat,idv c x=(i:Int):=⟨(idv c x).toNat,by have:0<=idv c x:=a1;omega⟩
 have hn:idn c x=i:=by show(idv c x).toNat=i;rw [hi];rfl
 have hc':=hc;unfold B3 Hu at hc';simp only [bAE]at hc';have h2:=aET.1 hc'.1.2.1 x.toNat (List.mem_range.2 (by omega))
 unfold Wb at h2;rw [bAE,decide_eq_true_eq,decide_eq_true_eq,show(c.2.2.2.1.getD x.toNat 0).toNat=i from hn]at h2
 refine⟨i,hi,hn,?_,?_,?_⟩
 ·have:idv c x<(ar c:Int):=a2
  omega
 ·show c.2.1.getD i 0=x;omega
 ·show c.2.2.1.getD i 0=x;omega
theorem cat_ul(hc:B3 c=true)(hf:f<ar c)(hi:idn c (fT c f)=i):T c i f=(f:Int):=by
 have:=(O5 hc).1 f hf;unfold D7 at this;rw [bAE,decide_eq_true_eq]at this;rw [<-hi];exact this.1
theorem cat_ur(hc:B3 c=true)(hf:f<ar c)(hi:idn c (tT c f)=i):T c f i=(f:Int):=by
 have:=(O5 hc).1 f hf;unfold D7 at this;rw [bAE]at this;rw [<-hi];exact of_decide_eq_true this.2
theorem Y1{u v:Int}{d:Int}:d∈dg c e m u v↔ ∃k,k<ar c/\d=(k:Int)/\fT c k=tT c e/\tT c k=fT c m/\T c e k=u/\T c k m=v:=by
 unfold dg;rw [List.mem_filter,Iq];constructor
 ·rintro ⟨⟨k,hk,rfl,h1,h2⟩,h3⟩
  rw [bAE,decide_eq_true_eq,decide_eq_true_eq]at h3;exact⟨k,hk,rfl,h1,h2,h3.1,h3.2⟩
 ·rintro ⟨k,hk,rfl,h1,h2,h3,h4⟩
  exact⟨⟨k,hk,rfl,h1,h2⟩,by rw [bAE,decide_eq_true_eq,decide_eq_true_eq];exact⟨h3,h4⟩⟩
theorem VO(h:og c e m=true)(hu:u<ar c)(hv:v<ar c)(h1:fT c u=fT c e)(h2:tT c u=fT c m)(h3:fT c v=tT c e)(h4:tT c v=tT c m)(h5:T c e v=T c u m):
  ∃d,d<ar c/\dg c e m u v= [(d:Int)]/\fT c d=tT c e/\tT c d=fT c m/\T c e d=(u:Int)/\T c d m=(v:Int):=by
 have:=aET.1 (aET.1 h u (Iq.2 ⟨u,hu,rfl,h1,h2⟩)) v (Iq.2 ⟨v,hv,rfl,h3,h4⟩);unfold ogV at this;rw [show((u:Int)).toNat=u from rfl,show((v:Int)).toNat=v from rfl,dT h5,Bool.true_and,Bool.not_not,decide_eq_true_eq]at this
 obtain⟨a,ha⟩:=List.length_eq_one_iff.1 (show(dg c e m u v).length=1 by omega)
 obtain⟨d,hd,e1,h⟩:=Y1.1 (show a∈dg c e m u v by rw [ha];simp)
 exact⟨d,hd,by rw [ha,e1],h⟩
theorem YL(hd:dg c e m u v= [(d:Int)])(hk:k<ar c)(h1:fT c k=tT c e)(h2:tT c k=fT c m)(h3:T c e k=(u:Int))(h4:T c k m=(v:Int)):k=d:=by
 have:(k:Int)∈dg c e m u v:=Y1.2 ⟨k,hk,rfl,h1,h2,h3,h4⟩;rw [hd,List.mem_singleton]at this;omega
theorem link1(hc:B3 c=true){e' m' d':Nat}(hog:og c e m=true)(he:e<ar c)(hm:m<ar c)(he':e'<ar c)(hm':m'<ar c)(hd:d<ar c)(hd':d'<ar c)
  (k1:tT c e=fT c m) (k2:tT c e'=fT c m') (a1:fT c d=tT c e) (a2:tT c d=fT c m') (a3:T c e d=(e':Int)) (a4:T c d m'=(m:Int))
  (b1:fT c d'=tT c e') (b2:tT c d'=fT c m) (b3:T c e' d'=(e:Int)) (b4:T c d' m=(m':Int)):T c d d'=idv c (fT c d):=by
 have hs:=BN hc;obtain⟨i,i1,i2,i3,i4,i5⟩:=cat_id hc (x:=tT c e) (hs.to e he);have dd:tT c d=fT c d':=by rw [a2,<-k2,b1]
 obtain⟨k,hk,hk1,hk2,hk3⟩:=cat_T hc hd hd' dd;obtain⟨x,hx,_⟩:=cat_T hc he hm k1;obtain⟨w,hw,hwe,_⟩:=VO hog he hm rfl k1 k1.symm rfl rfl;have e1:k=w:=by
  refine YL hwe hk1 (by rw [hk2,a1]) (by rw [hk3,b2]) ?_ ?_
  ·rw [<-Wz hc he hd hd' a1.symm dd a3 hk];exact b3
  ·rw [Wz hc hd hd' hm dd b2 hk b4];exact a4
 have e2:i=w:=by
  refine YL hwe i3 i4 (by rw [i5,k1]) (cat_ur hc he i2) (cat_ul hc hm ?_)
  rw [<-k1];exact i2
 rw [hk,e1,<-e2,a1,i1]
end
end Go.Ve.D

