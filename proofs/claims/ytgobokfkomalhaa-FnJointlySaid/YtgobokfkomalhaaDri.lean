/- The category of paths of a small graph. -/
import Derived.Test.YtgobokfkomalhaaDrg
namespace Go.Ve.D
open Go Go.Ve
noncomputable section
theorem p105(c:Ca):G105 c=some (decide (c.1<=8)&&decide ((c.2.1.length:Int)<=40)):=by
 unfold G105;cases decide (c.1<=8)<;>rfl
theorem Vq{a b:LI}(ha:a.length<=1048576):Tot (λr:Bool=>r=true↔a=b) (G115 (a,b)):=by
 unfold G115;refine Ap (λe=>Aa ?_) λe=>?_
 ·have e:(!decide ((a.length:Int)=(b.length:Int)))=true:=e
  rw [Bool.not_eq_true',decide_eq_false_iff_not]at e;exact⟨(λh=>by cases h),λh=>absurd (by rw [h]) e⟩
 ·have e:(!decide ((a.length:Int)=(b.length:Int)))=false:=e
  rw [Bool.not_eq_false',decide_eq_true_eq]at e;refine AC (n:=a.length) (λi v=>v=(i:Int)/\∀k,k<i->a.getD k 0=b.getD k 0) ⟨rfl,λk hk=>absurd hk (Nat.not_lt_zero _)⟩ (λi hi v hv=>?_) λv hv=>?_
  ·obtain⟨rfl,hk⟩:=hv
   refine Bk (ltD hi) (Ab (Ad hi) (Ab (Ad (show i<b.length by omega)) (Ap (λe=>Ct (Aa ?_)) λe=>Aa ⟨wrD hi ha,λk hk'=>?_⟩)))
   ·have e:(!decide (a.getD i 0=b.getD i 0))=true:=e
    rw [Bool.not_eq_true',decide_eq_false_iff_not]at e;exact⟨(λh=>by cases h),λh=>absurd (by rw [h]) e⟩
   ·have e:(!decide (a.getD i 0=b.getD i 0))=false:=e
    rw [Bool.not_eq_false',decide_eq_true_eq]at e;by_cases h:k=i
    ·rw [h];exact e
    ·exact hk k (by omega)
  ·obtain⟨rfl,hk⟩:=hv
   refine A8 ltf (Aa (Aa ⟨λ_=>?_,λ_=>rfl⟩))
   apply List.ext_getElem (by omega)
   intro i h1 h2;have:=hk i h1;rwa [gDE,gEE h1,gDE,gEE h2]at this
def Cp(L:List P3)(f g:Nat)(q:Int):Prop:=((L.getD f d3).2.1=(L.getD g d3).1->∃h:Nat,h<L.length/\q=h/\(L.getD h d3).1=(L.getD f d3).1/\(L.getD h d3).2.1=(L.getD g d3).2.1)/\((L.getD f d3).2.1≠(L.getD g d3).1->q<0)
theorem p109{n:Nat}{fr to:LI}(hg:Gr n fr to)(hn:0<n):Tot (λc=>∃m,m<=21/\Sp c n m) (G109 ((n:Int),(fr,to))):=by
 have hn3:=hg.n3;unfold G109;refine Ah (p114 hg) λL hL=>Ab ⟨by omega,by omega,by omega,by omega⟩ ?_
 have hle:=hL.le;have hm:0<L.length:=List.length_pos_of_mem (hL.tr 0 hn);have inL: ∀ {k},k<L.length->(0:Int)<=(k:Int)/\(k:Int)<(L.length:Int):=λh=>Ad h
 refine AC (n:=L.length) (λi v=>v.1=(i:Int)/\v.2.2.2.2.2.2.1=L/\v.2.2.2.2.2.2.2.1=(n:Int)/\v.2.2.2.2.2.2.2.2.1.length=i/\v.2.2.2.2.2.2.2.2.2.1.length=i/\(∀k,k<i->v.2.2.2.2.2.2.2.2.1.getD k 0=(L.getD k d3).1)/\(∀k,k<i->v.2.2.2.2.2.2.2.2.2.1.getD k 0=(L.getD k d3).2.1)/\(v.2.2.2.2.2.2.2.2.2.2.1.length=n/\∀x,x<n->∃f:Nat,f<L.length/\v.2.2.2.2.2.2.2.2.2.2.1.getD x 0=(f:Int))/\v.2.2.2.2.2.2.2.2.2.2.2= [])
  ⟨rfl,rfl,rfl,rfl,rfl,λk hk=>absurd hk (Nat.not_lt_zero _),λk hk=>absurd hk (Nat.not_lt_zero _),⟨by show(List.replicate n (0:Int)).length=n;rw [List.length_replicate],λx hx=>⟨0,hm,by show(List.replicate n (0:Int)).getD x 0=0;simp [hx]⟩⟩,rfl⟩ (λi hi v hv=>?_) λv hv=>?_
 ·obtain⟨_,o1,o2,o3,o4,o5,L',ob,cf,ct,ci,cm⟩:=v
  obtain⟨(rfl:_=(i:Int)),(rfl:L'=L),(rfl:ob=(n:Int)),(h1:cf.length=i),(h2:ct.length=i),(h3: ∀k,k<i->cf.getD k 0=(L'.getD k d3).1),(h4: ∀k,k<i->ct.getD k 0=(L'.getD k d3).2.1),⟨(h5:ci.length=n),(h6: ∀x,x<n->∃f:Nat,f<L'.length/\ci.getD x 0=(f:Int))⟩,(rfl:cm= [])⟩:=hv;obtain⟨x,y,hx,hy,hxn,hyn,_⟩:=hL.vd _ (C5 (d:=d3) hi);have a3:=Bw (P:=λk (q:Int)=>q=(L'.getD k d3).1) h1 h3 (a:=(L'.getD i d3).1) rfl
  have a4:=Bw (P:=λk (q:Int)=>q=(L'.getD k d3).2.1) h2 h4 (a:=(L'.getD i d3).2.1) rfl
  refine Bk (ltD hi) (Ab (inL hi) (Ab (by show cf.length+1<=_;omega) (Ab (inL hi) (Ab (by show ct.length+1<=_;omega) (Ab (inL hi) (Ap (λ_=>Ab (inL hi) (Ab ?_ (Aa ⟨wrD hi (by omega),rfl,rfl,Ba h1,Ba h2,a3,a4,⟨?_,λz hz=>?_⟩,rfl⟩))) λ_=>Aa ⟨wrD hi (by omega),rfl,rfl,Ba h1,Ba h2,a3,a4,⟨h5,h6⟩,rfl⟩))))))
  ·show 0<=(L'.getD i d3).1/\(L'.getD i d3).1<(ci.length:Int)
   rw [hx,h5];omega
  ·show(ci.set _ _).length=n
   rw [List.length_set];exact h5
  ·show ∃f:Nat,f<L'.length/\(ci.set ((L'.getD i d3).1).toNat (i:Int)).getD z 0=(f:Int)
   rw [hx,Bz (by show x<ci.length;omega)]
   split
   ·exact⟨i,hi,rfl⟩
   ·exact h6 z hz
 ·obtain⟨_,o1,o2,o3,o4,o5,L',ob,cf,ct,ci,cm⟩:=v
  obtain⟨(rfl:_=(L.length:Int)),(rfl:L'=L),(rfl:ob=(n:Int)),(h1:cf.length=L'.length),(h2:ct.length=L'.length),(h3: ∀k,k<L'.length->cf.getD k 0=(L'.getD k d3).1),(h4: ∀k,k<L'.length->ct.getD k 0=(L'.getD k d3).2.1),⟨(h5:ci.length=n),(h6: ∀x,x<n->∃f:Nat,f<L'.length/\ci.getD x 0=(f:Int))⟩,(rfl:cm= [])⟩:=hv;refine A8 ltf (Aa (AL (v:=true) ?_ (A8 rfl (AC (n:=L'.length) (λf v=>v.1=(f:Int)/\v.2.2.2.2.2.2.1=L'/\v.2.2.2.2.2.2.2.1=(n:Int)/\v.2.2.2.2.2.2.2.2.1=cf/\v.2.2.2.2.2.2.2.2.2.1=ct/\v.2.2.2.2.2.2.2.2.2.2.1=ci/\v.2.2.2.2.2.2.2.2.2.2.2.length=f/\∀k,k<f->(v.2.2.2.2.2.2.2.2.2.2.2.getD k []).length=L'.length/\∀g,g<L'.length->Cp L' k g ((v.2.2.2.2.2.2.2.2.2.2.2.getD k []).getD g 0)) ⟨rfl,rfl,rfl,rfl,rfl,rfl,rfl,λk hk=>absurd hk (Nat.not_lt_zero _)⟩ (λf hf v hv=>?_) λv hv=>?_))))
  ·refine(p105 _).trans (congrArg some ?_)
   show(decide ((n:Int)<=8)&&decide ((cf.length:Int)<=40))=true;rw [dT (by omega),dT (by omega)];rfl
  ·obtain⟨_,o1,o2,o3,o4,o5,L,ob,cf',ct',ci',cm⟩:=v
   obtain⟨(rfl:_=(f:Int)),(rfl:L=L'),(rfl:ob=(n:Int)),(rfl:cf'=cf),(rfl:ct'=ct),(rfl:ci'=ci),(hcl:cm.length=f),hcm⟩:=hv;obtain⟨x,y,hx,hy,hxn,hyn,hwf,hes⟩:=hL.vd _ (C5 (d:=d3) hf);refine Bk (ltD hf) (AC (n:=L.length) (λg v=>v.1=(g:Int)/\v.2.length=g/\∀k,k<g->Cp L f k (v.2.getD k 0)) ⟨rfl,rfl,λk hk=>absurd hk (Nat.not_lt_zero _)⟩ (λg hg v hv=>?_) λv hv=>?_)
   ·obtain⟨_,row⟩:=v
    obtain⟨(rfl:_=(g:Int)),(hrl:row.length=g),hrow⟩:=hv;obtain⟨y',z,hy',hz,hyn',hzn,hwg,hes'⟩:=hL.vd _ (C5 (d:=d3) hg);refine Bk (ltD hg) (Ab (inL hf) (Ab (inL hg) (Ap (λe=>?_) λe=>?_)))
    ·have e:(L.getD f d3).2.1=(L.getD g d3).1:=CK e
     have eyy:y'=y:=by omega
     subst eyy;refine Ab (inL hf) (AL (p98 (by show(L.getD f d3).2.2.length<=_;omega)) (Ab (inL hg) (Ab (by show(L.getD f d3).2.2.length+(L.getD g d3).2.2.length<=_;omega) ?_)))
     have hin:((x:Int),(z:Int),(L.getD f d3).2.2++(L.getD g d3).2.2)∈L:=WU hL (by rw [<-hx,<-hy];exact C5 (d:=d3) hf) hwg
     generalize hes:(L.getD f d3).2.2++(L.getD g d3).2.2=es at hin;have hwe:wk fr to x es z:=by rw [<-hes];exact Yq hwf hwg
     refine AC (n:=L.length) (λk v=>v.2=(k:Int)/\((∃h:Nat,h<k/\v.1=(h:Int)/\(L.getD h d3).1=(x:Int)/\(L.getD h d3).2.2=es)\/∀h,h<k->¬ ((L.getD h d3).1=(x:Int)/\(L.getD h d3).2.2=es))) ⟨rfl,.inr λh hh=>absurd hh (Nat.not_lt_zero _)⟩ (λk hk v hv=>?_) λv hv=>?_
     ·obtain⟨q,_⟩:=v
      obtain⟨(rfl:_=(k:Int)),hv⟩:=hv;obtain⟨x2,y2,_,_,_,hyn2,_,hes2⟩:=hL.vd _ (C5 (d:=d3) hk);refine Bk (ltD hk) (Ab (inL hk) (Ab (inL hf) (Ah (P:=λb:Bool=>b=true↔(L.getD k d3).1=(x:Int)/\(L.getD k d3).2.2=es) ?_ λb hb=>Ap (λe=>?_) λe=>?_)))
      ·refine Ap (λe=>?_) λe=>Aa ?_
       ·have e:(L.getD k d3).1=(L.getD f d3).1:=CK e
        refine Ab (inL hk) ((Ah (Vq (a:=(L.getD k d3).2.2) (b:=(L.getD f d3).2.2++(L.getD g d3).2.2) (by omega)) λr hr=>Aa ?_))
        rw [hes]at hr;exact hr.trans ⟨λh=>⟨by rw [e,hx],h⟩,λh=>h.2⟩
       ·have e: ¬ (L.getD k d3).1=(L.getD f d3).1:=Mf e
        exact⟨(λh=>by cases h),λh=>absurd (by rw [h.1,hx]) e⟩
      ·exact Aa ⟨wrD hk (by omega),.inl ⟨k,by omega,rfl,hb.1 e⟩⟩
      ·refine Aa ⟨wrD hk (by omega),hv.imp (fun⟨h,a,b⟩=>⟨h,by omega,b⟩) λhv h hh hc=>?_⟩
       by_cases h2:h=k
       ·subst h2;rw [hb.2 hc]at e;cases e
       ·exact hv h (by omega) hc
     ·obtain⟨q,_⟩:=v
      obtain⟨(rfl:_=(L.length:Int)),hv⟩:=hv;refine A8 ltf (Aa (Ab rfl (Ab (by show row.length+1<=_;omega) (Aa ⟨wrD hg (by omega),Ba hrl,Bw (P:=λk (q:Int)=>Cp L f k q) hrl hrow ⟨λ_=>?_,λh=>absurd e h⟩⟩))))
      rcases hv with⟨h,a1,a2,a3,a4⟩|hv
      ·refine⟨h,a1,a2,by rw [a3,hx],?_⟩
       obtain⟨x3,z3,c1,c2,_,_,c5,_⟩:=hL.vd _ (C5 (d:=d3) a1);have:x3=x:=by omega
       subst this;rw [a4]at c5;rw [c2,hz,Yp c5 hwe]
      ·obtain⟨h,a1,a2⟩:=P9 d3 hin
       exact absurd ⟨by rw [a2],by rw [a2]⟩ (hv h a1)
    ·have e: ¬ (L.getD f d3).2.1=(L.getD g d3).1:=Mf e
     exact Ab (by show row.length+1<=_;omega) (Aa ⟨wrD hg (by omega),Ba hrl,Bw (P:=λk (q:Int)=>Cp L f k q) hrl hrow ⟨λh=>absurd h e,λ_=>by decide⟩⟩)
   ·obtain⟨_,row⟩:=v
    obtain⟨(rfl:_=(L.length:Int)),(hrl:row.length=L.length),hrow⟩:=hv;exact A8 ltf (Aa (Ab rfl (Ab trivial (Ab (by show cm.length+1<=_;omega) (Aa ⟨wrD hf (by omega),rfl,rfl,rfl,rfl,rfl,Ba hcl,Bw (P:=λk (r:LI)=>r.length=L.length/\∀g,g<L.length->Cp L k g (r.getD g 0)) hcl hcm ⟨hrl,hrow⟩⟩)))))
  ·obtain⟨_,o1,o2,o3,o4,o5,L,ob,cf',ct',ci',cm⟩:=v
   obtain⟨(rfl:_=(L'.length:Int)),(rfl:L=L'),(rfl:ob=(n:Int)),(rfl:cf'=cf),(rfl:ct'=ct),(rfl:ci'=ci),(hcl:cm.length=L.length),hcm⟩:=hv;refine A8 ltf (Aa (Ab rfl (Aa ⟨L.length,hle,rfl,h1,h2,h5,hcl,λf hf=>(hcm f hf).1,λf hf=>?_,λf hf=>?_,h6,λf g hf hg he=>?_,λf g hf hg he=>?_⟩)))
   ·obtain⟨x,y,hx,hy,hxn,hyn,_⟩:=hL.vd _ (C5 (d:=d3) hf)
    exact⟨x,hxn,(h3 f hf).trans hx⟩
   ·obtain⟨x,y,hx,hy,hxn,hyn,_⟩:=hL.vd _ (C5 (d:=d3) hf)
    exact⟨y,hyn,(h4 f hf).trans hy⟩
   ·have he:ct'.getD f 0=cf'.getD g 0:=he
    rw [h4 f hf,h3 g hg]at he;obtain⟨h,a1,a2,a3,a4⟩:=((hcm f hf).2 g hg).1 he;exact⟨h,a1,a2,(h3 h a1).trans (a3.trans (h3 f hf).symm),(h4 h a1).trans (a4.trans (h4 g hg).symm)⟩
   ·have he:ct'.getD f 0≠cf'.getD g 0:=he
    rw [h4 f hf,h3 g hg]at he;exact((hcm f hf).2 g hg).2 he
end
end Go.Ve.D


namespace Go.Ve.D
open Go Go.Ve
noncomputable section
variable{c:Ca}{a o:Int}{fr to:LI}{t:LL}{m n:Nat}{s:Src}
def trB(z:Nat)(t:LL):Bool:=decide (t.length=z)&&(List.range z).all λi=>decide ((t.getD i []).length=z)&&decide (one t i i)&&(List.range z).all λj=>(List.range z).all λm=>!(decide (one t i m)&&decide (one t m j))||decide (one t i j)
theorem Zj{z:Nat}(h:trB z t=true):Tr z t:=by
 unfold trB at h;rw [bAE,decide_eq_true_eq]at h
 have row:=λi (hi:i<z)=>by
  have:=aET.1 h.2 i (List.mem_range.2 hi);rw [bAE,bAE,decide_eq_true_eq,decide_eq_true_eq]at this;exact this
 refine⟨⟨h.1,λi hi=>(row i hi).1.1⟩,λi hi=>(row i hi).1.2,λi j m hi hj hm h1 h2=>?_⟩
 have:=aET.1 (aET.1 (row i hi).2 j (List.mem_range.2 hj)) m (List.mem_range.2 hm);rw [dT h1,dT h2]at this;exact of_decide_eq_true this
theorem gr_of(h:(decide (n<=3)&&decide (fr.length<=3)&&decide (to.length=fr.length)&&(List.range fr.length).all λk=>decide (0<=fr.getD k 0)&&decide (fr.getD k 0<to.getD k 0)&&decide (to.getD k 0<(n:Int)))=true):Gr n fr to:=by
 simp only [bAE,decide_eq_true_eq]at h;obtain⟨⟨⟨h1,h2⟩,h3⟩,h4⟩:=h;refine⟨h1,h2,h3,λk hk=>?_⟩
 have:=aET.1 h4 k (List.mem_range.2 hk);simp only [bAE,decide_eq_true_eq]at this;exact⟨(fr.getD k 0).toNat,(to.getD k 0).toNat,by omega,by omega,by omega,by omega⟩
theorem Dn{z:Int}{r:Int×Src}(h:Num z r)(hz:z=(n:Int))(hn:0<n): ∃k:Nat,r.1=(k:Int)/\k<n:=by
 obtain⟨⟨h1,h2,_⟩,_⟩:=h;have:=h2 (by omega)
 exact⟨r.1.toNat,by omega,by omega⟩
def Fam(r:Ca×Src):Prop:=(∃n m,n<=4/\m<=21/\Sp r.1 n m)/\OkS r.2
theorem famP(hn:n<=4)(h:Tr n t)(hs:OkS s):Tot Fam (Option.bind (G96 t) λv=>some (v,s)):=
 Ah (p96 (by omega) h) λv ⟨m,hm,hv⟩=>Aa ⟨⟨n,m,hn,by have:=Nat.mul_le_mul hn hn;omega,hv⟩,hs⟩
theorem famW(h:Gr n fr to)(hn:0<n)(hs:OkS s):Tot Fam (Option.bind (G109 ((n:Int),(fr,to))) λv=>some (v,s)):=
 Ah (p109 h hn) λv ⟨m,hm,hv⟩=>Aa ⟨⟨n,m,by have:=h.n3;omega,hm,hv⟩,hs⟩
theorem oneP:Tot (λc=>Sp c 1 1) (G96 [[1]]):=by
 obtain⟨c,h1,m,h2,h3⟩:=p96 (n:=1) (by decide) (Zj (z:=1) (t:=[[1]]) (by decide))
 obtain⟨f,hf,_⟩:=h3.ix 0 (by decide)
 have:m=1:=by omega
 subst this;exact⟨c,h1,h3⟩
theorem p102(h:OkS s):Tot Fam (G102 () s):=by
 unfold G102;refine Ah (p52 h) λv hv=>?_
 have hs:=hv.2;refine Ap (λ_=>Ah (p52 hs) λv1 h1=>?_) λ_=>Ap (λ_=>Ab trivial (famP (n:=2) (by decide) (Zj (by decide)) hs)) λ_=>Ap (λ_=>Ab trivial (famP (n:=3) (by decide) (Zj (by decide)) hs)) λ_=>Ap (λ_=>famW (n:=2) (gr_of (by decide)) (by decide) hs) λ_=>Ap (λ_=>?_) λ_=>Ap (λ_=>Ah (p52 hs) λv1 h1=>?_) λ_=>Ap (λ_=>famW (n:=3) (gr_of (by decide)) (by decide) hs) λ_=>Ap (λ_=>?_) λ_=>Ap (λ_=>?_) λ_=>Ap (λ_=>?_) λ_=>Ap (λ_=>Ah (p52 hs) λv1 h1=>?_) λ_=>Ah (p52 hs) λv1 h1=>Ah (p52 h1.2) λv2 h2=>?_
 ·obtain⟨k,hk,hk5⟩:=Dn (n:=5) h1 rfl (by decide)
  rw [hk];exact Ah (p108 (by omega) h1.2) λv2 h2=>famP (by omega) h2.1 h2.2
 ·exact Ah (p111 hs) λv1 ⟨⟨m,hm,h1⟩,h2⟩=>AL (p110 h1 (by omega)) (Aa ⟨⟨1,m,by decide,by omega,h1⟩,h2⟩)
 ·obtain⟨k,hk,hk3⟩:=Dn (n:=3) h1 rfl (by decide)
  have w:IntKind.wrap .i64 (1+v1.1)=((k+1:Nat):Int):=by rw [hk,Ay (by omega) (by omega)];omega
  rw [w];refine AC (n:=k+1) (λi v=>v.1=(i:Int)/\v.2.length=i/\∀a,a<i->(v.2.getD a []).length=k+1/\∀b,b<k+1->(v.2.getD a []).getD b 0=1) ⟨rfl,rfl,λa ha=>absurd ha (Nat.not_lt_zero _)⟩ (λi hi v hv=>?_) λv hv=>?_
  ·obtain⟨_,t⟩:=v
   obtain⟨(rfl:_=(i:Int)),(hl:t.length=i),ht⟩:=hv;refine Bk (ltD hi) (AC (n:=k+1) (λj v=>v.1=(j:Int)/\v.2.length=j/\∀b,b<j->v.2.getD b 0=1) ⟨rfl,rfl,λa ha=>absurd ha (Nat.not_lt_zero _)⟩ (λj hj v hv=>?_) λv hv=>?_)
   ·obtain⟨_,row⟩:=v
    obtain⟨(rfl:_=(j:Int)),(hrl:row.length=j),hr⟩:=hv;exact Bk (ltD hj) (Ab (by show row.length+1<=_;omega) (Aa ⟨wrD hj (by omega),Ba hrl,Bw (P:=λ_ (q:Int)=>q=1) hrl hr rfl⟩))
   ·obtain⟨_,row⟩:=v
    obtain⟨(rfl:_=((k+1:Nat):Int)),(hrl:row.length=k+1),hr⟩:=hv;exact A8 ltf (Aa (Ab rfl (Ab trivial (Ab (by show t.length+1<=_;omega) (Aa ⟨wrD hi (by omega),Ba hl,Bw (P:=λ_ (r:LI)=>r.length=k+1/\∀b,b<k+1->r.getD b 0=1) hl ht ⟨hrl,hr⟩⟩)))))
  ·obtain⟨_,t⟩:=v
   obtain⟨(rfl:_=((k+1:Nat):Int)),(hl:t.length=k+1),ht⟩:=hv;refine A8 ltf (Aa (Ab rfl (famP (n:=k+1) (by omega) ⟨⟨hl,λi hi=>(ht i hi).1⟩,λi hi=>(ht i hi).2 i hi,λi j m hi hj hm _ _=>(ht i hi).2 j hj⟩ h1.2)))
 ·exact Ah p97 λv1 h1=>Aa ⟨⟨2,5,by decide,by decide,h1⟩,hs⟩
 ·exact Ah (p111 hs) λv1 ⟨⟨m,hm,h1⟩,h2⟩=>AL (p110 h1 (by omega)) (Ab trivial (Ah oneP λv3 h3=>Ah (p112 h1 h3 (by decide) (by omega) (by decide) (by decide)) λv4 h4=>Ah (p88 h4 (by omega) (by omega)) λv5 h5=>Aa ⟨⟨_,_,by omega,by omega,h5⟩,h2⟩))
 ·exact Ah (p111 hs) λv1 ⟨⟨m,hm,h1⟩,h2⟩=>AL (p110 h1 (by omega)) (Ab trivial (Ah oneP λv3 h3=>Ah (p112 h1 h3 (by decide) (by omega) (by decide) (by decide)) λv4 h4=>Aa ⟨⟨_,_,by omega,by omega,h4⟩,h2⟩))
 ·obtain⟨k,hk,hk2⟩:=Dn (n:=2) h1 rfl (by decide)
  have w:IntKind.wrap .i64 (2+v1.1)=((k+2:Nat):Int):=by rw [hk,Ay (by omega) (by omega)];omega
  rw [w];exact Ah (p108 (by omega) h1.2) λv2 h2=>famP (by omega) h2.1 h2.2
 ·obtain⟨k,hk,hk2⟩:=Dn (n:=2) h1 rfl (by decide)
  obtain⟨e,he,he4⟩:=Dn (n:=4) h2 rfl (by decide)
  have w:IntKind.wrap .i64 (2+v1.1)=((k+2:Nat):Int):=by rw [hk,Ay (by omega) (by omega)];omega
  have w1:IntKind.wrap .i64 (((k+2:Nat):Int)-1)=((k+1:Nat):Int):=by rw [Ay (by omega) (by omega)];omega
  rw [w,w1,he];refine AC (n:=e) (λi v=>v.1=((e-i:Nat):Int)/\OkS (v.2.1,(v.2.2.1,v.2.2.2.1))/\v.2.2.2.2.2.2.2.2.2.1.length=i/\v.2.2.2.2.2.2.2.2.2.2.length=i/\∀j,j<i->∃x y:Nat,v.2.2.2.2.2.2.2.2.2.1.getD j 0=(x:Int)/\v.2.2.2.2.2.2.2.2.2.2.getD j 0=(y:Int)/\x<y/\y<k+2) ⟨rfl,h2.2,rfl,rfl,λj hj=>absurd hj (Nat.not_lt_zero _)⟩ (λi hi v hv=>?_) λv hv=>?_
  ·obtain⟨_,s1,s2,s3,o1,o2,o3,o4,o5,fr,to⟩:=v
   obtain⟨(rfl:_=((e-i:Nat):Int)),(hs:OkS (s1,(s2,s3))),(l1:fr.length=i),(l2:to.length=i),hG⟩:=hv;refine Bk (dT (by show(0:Int)<((e-i:Nat):Int);omega)) (Ah (p52 hs) λv4 h4=>Ab (by show fr.length+1<=_;omega) ?_)
   obtain⟨x,hx,hx1⟩:=Dn (n:=k+1) h4 rfl (by omega)
   have w2:IntKind.wrap .i64 (((k+1:Nat):Int)-v4.1)=((k+1-x:Nat):Int):=by rw [hx,Ay (by omega) (by omega)];omega
   rw [w2];refine Ah (p52 h4.2) λv5 h5=>Ab (by show to.length+1<=_;omega) (Aa ⟨?_,h5.2,Ba l1,Ba l2,λj hj=>?_⟩)
   ·show IntKind.wrap .i64 (((e-i:Nat):Int)-1)=((e-(i+1):Nat):Int)
    rw [Ay (by omega) (by omega)];omega
   ·show ∃x y:Nat,(fr++ [v4.1]).getD j 0=(x:Int)/\(to++ [IntKind.wrap .i64 (IntKind.wrap .i64 (v4.1+1)+v5.1)]).getD j 0=(y:Int)/\x<y/\y<k+2
    by_cases hji:j=i
    ·obtain⟨y,hy,hy1⟩:=Dn (n:=k+1-x) h5 rfl (by omega)
     refine⟨x,x+1+y,?_,?_,by omega,by omega⟩
     ·rw [hji,<-l1,Dq,hx]
     ·rw [hji,<-l2,Dq,hx,hy,Ay (n:=(x:Int)+1) (by omega) (by omega),Ay (by omega) (by omega)];omega
    ·rw [A7 (by omega),A7 (by omega)]
     exact hG j (by omega)
  ·obtain⟨_,s1,s2,s3,o1,o2,o3,o4,o5,fr,to⟩:=v
   obtain⟨(rfl:_=((e-e:Nat):Int)),(hs:OkS (s1,(s2,s3))),(l1:fr.length=e),(l2:to.length=e),hG⟩:=hv;exact A8 (dF (by show ¬ (0:Int)<((e-e:Nat):Int);omega)) (Aa (Ab rfl (famW (n:=k+2) ⟨by omega,by omega,by omega,λj hj=>hG j (by omega)⟩ (by omega) hs)))
def Som(o a:Int)(r:Ca×Src):Prop:=(∃n m:Nat,(n:Int)<=o/\(m:Int)<=a/\n<=8/\m<=40/\Sp r.1 n m)/\OkS r.2
theorem endS{o a:Int}(h:Sp c n m)(hs:OkS s){I:Int×LI×Int×Int×Ca->Prop}{g:Nat->Int×LI×Int×Int×Ca->Option (Ca×Src)}{Y:Int×LI×Int×Int×Ca}(hI:I Y):
  Tot (LoT I g (Som o a)) (Option.bind (bif decide (c.1<=o)then some (decide ((c.2.1.length:Int)<=a))else some false) λv8=>Option.bind (bif v8 then(G105 c).bind λv9=>some v9 else some false) λv9=>bif v9 then B4 (some (c,s))else some (LO.next Y)):=by
 refine AL (v:=decide (c.1<=o)&&decide ((c.2.1.length:Int)<=a)) (by cases decide (c.1<=o)<;>rfl) (Ah (P:=λb:Bool=>b=true->(decide (c.1<=o)&&decide ((c.2.1.length:Int)<=a))=true/\(decide (c.1<=8)&&decide ((c.2.1.length:Int)<=40))=true) (Ap (λe=>AL (p105 c) (Aa λh=>⟨e,h⟩)) λ_=>Aa λh=>by cases h) λb hb=>Ap (λe=>Ct (Aa ⟨?_,hs⟩)) λ_=>Aa hI)
 obtain⟨h1,h2⟩:=hb e;simp only [bAE,decide_eq_true_eq,h.ob,h.lf]at h1 h2;exact⟨n,m,h1.1,h1.2,by omega,by omega,h⟩
theorem p92(ho:1<=o)(ha:1<=a)(h:OkS s):Tot (Som o a) (G92 (o,a) s):=by
 unfold G92;refine AC (n:=12) (λi v=>v.1=(i:Int)/\OkS (v.2.1,(v.2.2.1,v.2.2.2.1))) ⟨rfl,h⟩ (λi hi v hv=>?_) λv hv=>?_
 ·obtain⟨_,s1,s2,s3,d⟩:=v
  obtain⟨(rfl:_=(i:Int)),(hs:OkS (s1,(s2,s3)))⟩:=hv;have hI: ∀ {s':Src},OkS s'->((IntKind.wrap .i64 ((i:Int)+1),(s'.1,(s'.2.1,(s'.2.2,d)))):Int×LI×Int×Int×Ca).1=((i+1:Nat):Int)/\OkS (s'.1,(s'.2.1,s'.2.2)):=λh=>⟨wrD hi (by omega),h⟩
  refine Bk (dT (by show(i:Int)<12;omega)) (Ah (p102 hs) λv1 ⟨⟨n,m,hn,hm,hc⟩,hs⟩=>Ah (p52 hs) λv2 hv2=>Ap (λ_=>?_) λ_=>?_)
  ·refine Ah (p102 hv2.2) λv3 ⟨⟨n3,m3,hn3,hm3,hc3⟩,hs3⟩=>Ah (p103 hc hc3 (by omega) (by omega) (by omega) (by omega)) λv4 hc4=>Ah (p52 hs3) λv5 hv5=>Ap (λ_=>?_) λ_=>endS hc4 hv5.2 (hI hv5.2)
   exact Ah (p102 hv5.2) λv6 ⟨⟨n6,m6,hn6,hm6,hc6⟩,hs6⟩=>Ah (p104 hc4 hc6 (by omega) (by omega) (by omega) (by omega)) λv7 hc7=>endS hc7 hs6 (hI hs6)
  ·refine Ah (p52 hv2.2) λv3 hv3=>Ap (λ_=>?_) λ_=>endS hc hv3.2 (hI hv3.2)
   exact Ah (p102 hv3.2) λv4 ⟨⟨n4,m4,hn4,hm4,hc4⟩,hs4⟩=>Ah (p104 hc hc4 (by omega) (by omega) (by omega) (by omega)) λv5 hc5=>endS hc5 hs4 (hI hs4)
 ·obtain⟨_,s1,s2,s3,d⟩:=v
  obtain⟨(rfl:_=((12:Nat):Int)),(hs:OkS (s1,(s2,s3)))⟩:=hv;exact A8 (show decide (((12:Nat):Int)<12)=false by decide) (Aa (Ab rfl (Ab trivial (Ah oneP λv1 h1=>Aa ⟨⟨1,1,ho,ha,by decide,by decide,h1⟩,hs⟩))))
def okD(c:Ca):Prop:=c.2.1.length<=2000/\c.2.2.1.length<=2000/\c.2.2.2.1.length<=2000/\c.2.2.2.2.length<=2000/\∀y∈c.2.2.2.2,y.length<=2000
theorem Sp.okD{c:Ca}{n m:Nat}(h:Sp c n m)(hn:n<=1000)(hm:m<=1000):okD c:=by
 refine⟨by rw [h.lf];omega,by rw [h.lt];omega,by rw [h.li];omega,by rw [h.lc];omega,λy hy=>?_⟩
 obtain⟨k,hk,rfl⟩:=P9 [] hy;rw [h.lr k (by rw [h.lc]at hk;exact hk)];omega
theorem rowsD{k:Nat}{r:LI}(h: ∀y∈t,y.length<=2000)(hr:r.length<=2000): ∀y∈t.set k r,y.length<=2000:=λy hy=>by
 rcases List.mem_or_eq_of_mem_set hy with h1|rfl
 ·exact h y h1
 ·exact hr
theorem p93(h:Sp c n m)(hn:n<=1000)(hm:m<=1000)(hs:OkS s):Tot (λr=>okD r.1/\OkS r.2) (G93 c s):=by
 have hok:=h.okD hn hm;obtain⟨o1,o2,o3,o4,o5⟩:=hok;unfold G93;refine AL (p106 h hn hm) (Ah (p52 hs) λv1 hv1=>Ah (p52 hv1.2) λv2 hv2=>?_)
 have hs2:=hv2.2;have e1:=h.lf;have e2:=h.lt;have e3:=h.li;have e4:=h.lc;have f1:0<m->∃k:Nat,v1.1=(k:Int)/\k<m:=λhm=>Dn hv1 (by rw [e1]) hm
 have row: ∀ {Y:Option (Ca×Src)},Y=(bif decide (0<(c.2.1.length:Int))then if 0<=v1.1/\v1.1<(c.2.2.2.2.length:Int)then(G52 (c.2.1.length:Int) v2.2).bind λv3=>(G52 (IntKind.i64.wrap ((c.2.1.length:Int)+1)) v3.2).bind λv4=>if 0<=v3.1/\v3.1<((c.2.2.2.2.getD v1.1.toNat []).length:Int)then some ((c.1,(c.2.1,(c.2.2.1,(c.2.2.2.1,c.2.2.2.2.set v1.1.toNat ((c.2.2.2.2.getD v1.1.toNat []).set v3.1.toNat (IntKind.i64.wrap (v4.1-1))))))),v4.2)else none else none else some (c,v2.2))->Tot (λr=>okD r.1/\OkS r.2) Y:=by
  rintro Y rfl
  refine Ap (λe=>?_) λ_=>Aa ⟨⟨o1,o2,o3,o4,o5⟩,hs2⟩
  have e:(0:Int)<(c.2.1.length:Int):=CK e;obtain⟨k,hk,hkm⟩:=f1 (by omega)
  rw [hk];have hrow:(c.2.2.2.2.getD k []).length=m:=h.lr k hkm;refine Ab (by omega) (Ah (p52 hs2) λv3 hv3=>Ah (p52 hv3.2) λv4 hv4=>?_)
  obtain⟨g,hg,hgm⟩:=Dn (n:=m) hv3 (by rw [e1]) (by omega)
  rw [hg];refine Ab (by show(0:Int)<=(g:Int)/\(g:Int)<((c.2.2.2.2.getD k []).length:Int);omega) (Aa ⟨⟨o1,o2,o3,by show(c.2.2.2.2.set _ _).length<=_;rw [List.length_set];exact o4,rowsD o5 ?_⟩,hv4.2⟩)
  show((c.2.2.2.2.getD k []).set _ _).length<=_;rw [List.length_set];omega
 refine Ap (λ_=>Ah (p82 hs2 (by show 0<3;omega)) λv3 hv3=>Aa ⟨⟨o1,o2,o3,o4,o5⟩,hv3⟩) λ_=>Ap (λ_=>Ab (by show c.2.1.length+1<=_;omega) (Aa ⟨⟨?_,o2,o3,o4,o5⟩,hs2⟩)) λ_=>Ap (λ_=>Ap (λe=>Ah (p52 hs2) λv3 hv3=>Ab ⟨by decide,CK e⟩ (Aa ⟨⟨o1,o2,?_,o4,o5⟩,hv3.2⟩)) λ_=>Aa ⟨⟨o1,o2,o3,o4,o5⟩,hs2⟩) λ_=>Ap (λe=>Bk e (row rfl)) λ_=>Ap (λe=>Bk e (row rfl)) λ_=>Ap (λe=>row rfl) λ_=>Ap (λ_=>Ap (λe=>?_) λ_=>Aa ⟨⟨o1,o2,o3,o4,o5⟩,hs2⟩) λ_=>Ap (λe=>?_) λ_=>Aa ⟨⟨o1,o2,o3,o4,o5⟩,hs2⟩
 ·show(c.2.1++ [(0:Int)]).length<=_
  rw [List.length_append,e1];show m+1<=_;omega
 ·show(c.2.2.2.1.set _ _).length<=_
  rw [List.length_set];exact o3
 ·have e:(0:Int)<(c.2.1.length:Int):=CK e
  obtain⟨k,hk,hkm⟩:=f1 (by omega)
  rw [hk];exact Ah (p52 hs2) λv3 hv3=>Ab (by show(0:Int)<=(k:Int)/\(k:Int)<(c.2.2.1.length:Int);omega) (Aa ⟨⟨o1,by show(c.2.2.1.set _ _).length<=_;rw [List.length_set];exact o2,o3,o4,o5⟩,hv3.2⟩)
 ·have e:(0:Int)<(c.2.1.length:Int):=CK e
  obtain⟨k,hk,hkm⟩:=f1 (by omega)
  rw [hk];have hrow:(c.2.2.2.2.getD k []).length=m:=h.lr k hkm;have ik:(0:Int)<=(k:Int)/\(k:Int)<(c.2.2.2.2.length:Int):=by omega
  refine Ab ik (Ab ⟨by decide,by show(1:Int)<=((c.2.2.2.2.getD k []).length:Int);omega,Int.le_refl _⟩ (Ab ik (Ab ⟨⟨Nat.le_refl _,Nat.le_refl _⟩,⟨Nat.le_refl _,Nat.le_refl _⟩,trivial⟩ (Aa ⟨⟨o1,o2,o3,by show(c.2.2.2.2.set _ _).length<=_;rw [List.length_set];exact o4,rowsD o5 ?_⟩,hs2⟩))))
  show((List.range _).map _).length<=_;rw [List.length_map,List.length_range];show((c.2.2.2.2.getD k []).length:Int).toNat-1<=_;omega
theorem p81(ho:1<=o)(ha:1<=a)(h:OkS s):Tot (λr=>okD r.1/\OkS r.2) (G81 (o,a) s):=by
 unfold G81;exact Ah (p92 ho ha h) λv0 ⟨⟨n,m,_,_,hn,hm,hc⟩,hs⟩=>Ah (p52 hs) λv1 hv1=>Ap (λ_=>Ah (p93 hc (by omega) (by omega) hv1.2) λv2 hv2=>Aa hv2) λ_=>Aa ⟨hc.okD (by omega) (by omega),hv1.2⟩
end
end Go.Ve.D

