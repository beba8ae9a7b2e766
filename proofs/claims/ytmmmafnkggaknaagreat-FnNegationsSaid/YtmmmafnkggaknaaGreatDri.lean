/- The category of paths of a small graph. -/
import Derived.Test.YtmmmafnkggaknaaGreatDrg
set_option linter.all false
namespace Go.Ve.D
open Go Go.Ve
noncomputable section
def p119(c:Ca):G119 c=some (decide (c.1<=8)&&decide ((c.2.1.length:Int)<=40)):=by
 unfold G119;cases decide (c.1<=8)<;>rfl
theorem UV{a b:LI}(U:a.length<=1048576):Tot (λr:Bool=>r=true↔a=b) (G136 (a,b)):=by
 unfold G136;refine Ak (λe=>Aa ?_) λe=>?_
 .have e:(!decide ((a.length:Int)=(b.length:Int)))=true:=e
  rw[Bool.not_eq_true',decide_eq_false_iff_not]at e;exact⟨(λh=>by cases h),λh=>absurd (by rw[h]) e⟩
 .have e:(!decide ((a.length:Int)=(b.length:Int)))=false:=e
  rw[Bool.not_eq_false',decide_eq_true_eq]at e;refine As (n:=a.length) (λi v=>v=(i:Int)/\∀k,k<i->a.getD k 0=b.getD k 0) ⟨rfl,λk u=>absurd u (Nat.not_lt_zero _)⟩ (λi B v A=>?_) λv A=>?_
  .obtain⟨rfl,u⟩:=A
   refine AU (ltD B) (Ab (Ac B) (Ab (Ac (show i<b.length by omega)) (Ak (λe=>DZ (Aa ?_)) λe=>Aa ⟨wrD B U,λk J=>?_⟩)))
   .have e:(!decide (a.getD i 0=b.getD i 0))=true:=e
    rw[Bool.not_eq_true',decide_eq_false_iff_not]at e;exact⟨(λh=>by cases h),λh=>absurd (by rw[h]) e⟩
   .have e:(!decide (a.getD i 0=b.getD i 0))=false:=e
    rw[Bool.not_eq_false',decide_eq_true_eq]at e;by_cases h:k=i
    .rw[h];exact e
    .exact u k (by omega)
  .obtain⟨rfl,u⟩:=A
   refine AW ltf (Aa (Aa ⟨λ_=>?_,λ_=>rfl⟩))
   apply List.ext_getElem (by omega)
   intro i E W;have:=u i E;rwa [gDE,gEE E,gDE,gEE W]at this
def Cp(L:List P3)(f g:Nat)(q:Int):Prop:=((L.getD f d3).2.1=(L.getD g d3).1->∃h:Nat,h<L.length/\q=h/\(L.getD h d3).1=(L.getD f d3).1/\(L.getD h d3).2.1=(L.getD g d3).2.1)/\((L.getD f d3).2.1≠(L.getD g d3).1->q<0)
theorem p142{n:Nat}{fr to:LI}(B:Gr n fr to)(hn:0<n):Tot (λc=>∃m,m<=21/\Sp c n m) (G142 ((n:Int),(fr,to))):=by
 have hn3:=B.n3;unfold G142;refine Ad (p155 B) λL hL=>Ab ⟨by omega,by omega,by omega,by omega⟩ ?_
 have hle:=hL.le;have hm:0<L.length:=List.length_pos_of_mem (hL.tr 0 hn);have inL:∀{k},k<L.length->(0:Int)<=(k:Int)/\(k:Int)<(L.length:Int):=λh=>Ac h
 refine As (n:=L.length) (λi v=>v.1=(i:Int)/\v.2.2.2.2.2.2.1=L/\v.2.2.2.2.2.2.2.1=(n:Int)/\v.2.2.2.2.2.2.2.2.1.length=i/\v.2.2.2.2.2.2.2.2.2.1.length=i/\(∀k,k<i->v.2.2.2.2.2.2.2.2.1.getD k 0=(L.getD k d3).1)/\(∀k,k<i->v.2.2.2.2.2.2.2.2.2.1.getD k 0=(L.getD k d3).2.1)/\(v.2.2.2.2.2.2.2.2.2.2.1.length=n/\∀x,x<n->∃f:Nat,f<L.length/\v.2.2.2.2.2.2.2.2.2.2.1.getD x 0=(f:Int))/\v.2.2.2.2.2.2.2.2.2.2.2=[])
  ⟨rfl,rfl,rfl,rfl,rfl,λk J=>absurd J (Nat.not_lt_zero _),λk J=>absurd J (Nat.not_lt_zero _),⟨by show(List.replicate n (0:Int)).length=n;rw[List.length_replicate],λx W=>⟨0,hm,by show(List.replicate n (0:Int)).getD x 0=0;simp[W]⟩⟩,rfl⟩ (λi hi v u=>?_) λv u=>?_
 .obtain⟨_,o1,o2,o3,o4,o5,L',ob,cf,ct,Z,cm⟩:=v
  obtain⟨(rfl:_=(i:Int)),(rfl:L'=L),(rfl:ob=(n:Int)),(h1:cf.length=i),(h2:ct.length=i),(h3:∀k,k<i->cf.getD k 0=(L'.getD k d3).1),(h4:∀k,k<i->ct.getD k 0=(L'.getD k d3).2.1),⟨(h5:Z.length=n),(h6:∀x,x<n->∃f:Nat,f<L'.length/\Z.getD x 0=(f:Int))⟩,(rfl:cm=[])⟩:=u;obtain⟨x,y,W,hy,hxn,hyn,_⟩:=hL.vd _ (Cu (d:=d3) hi);have a3:=Bp (P:=λk (q:Int)=>q=(L'.getD k d3).1) h1 h3 (a:=(L'.getD i d3).1) rfl
  have a4:=Bp (P:=λk (q:Int)=>q=(L'.getD k d3).2.1) h2 h4 (a:=(L'.getD i d3).2.1) rfl
  refine AU (ltD hi) (Ab (inL hi) (Ab (by show cf.length+1<=_;omega) (Ab (inL hi) (Ab (by show ct.length+1<=_;omega) (Ab (inL hi) (Ak (λ_=>Ab (inL hi) (Ab ?_ (Aa ⟨wrD hi (by omega),rfl,rfl,A4 h1,A4 h2,a3,a4,⟨?_,λz hz=>?_⟩,rfl⟩))) λ_=>Aa ⟨wrD hi (by omega),rfl,rfl,A4 h1,A4 h2,a3,a4,⟨h5,h6⟩,rfl⟩))))))
  .show 0<=(L'.getD i d3).1/\(L'.getD i d3).1<(Z.length:Int)
   rw[W,h5];omega
  .show(Z.set _ _).length=n
   rw[List.length_set];exact h5
  .show ∃f:Nat,f<L'.length/\(Z.set ((L'.getD i d3).1).toNat (i:Int)).getD z 0=(f:Int)
   rw[W,Bv (by show x<Z.length;omega)]
   split
   .exact⟨i,hi,rfl⟩
   .exact h6 z hz
 .obtain⟨_,o1,o2,o3,o4,o5,L',ob,cf,ct,Z,cm⟩:=v
  obtain⟨(rfl:_=(L.length:Int)),(rfl:L'=L),(rfl:ob=(n:Int)),(h1:cf.length=L'.length),(h2:ct.length=L'.length),(h3:∀k,k<L'.length->cf.getD k 0=(L'.getD k d3).1),(h4:∀k,k<L'.length->ct.getD k 0=(L'.getD k d3).2.1),⟨(h5:Z.length=n),(h6:∀x,x<n->∃f:Nat,f<L'.length/\Z.getD x 0=(f:Int))⟩,(rfl:cm=[])⟩:=u;refine AW ltf (Aa (A7 (v:=true) ?_ (AW rfl (As (n:=L'.length) (λf v=>v.1=(f:Int)/\v.2.2.2.2.2.2.1=L'/\v.2.2.2.2.2.2.2.1=(n:Int)/\v.2.2.2.2.2.2.2.2.1=cf/\v.2.2.2.2.2.2.2.2.2.1=ct/\v.2.2.2.2.2.2.2.2.2.2.1=Z/\v.2.2.2.2.2.2.2.2.2.2.2.length=f/\∀k,k<f->(v.2.2.2.2.2.2.2.2.2.2.2.getD k []).length=L'.length/\∀g,g<L'.length->Cp L' k g ((v.2.2.2.2.2.2.2.2.2.2.2.getD k []).getD g 0)) ⟨rfl,rfl,rfl,rfl,rfl,rfl,rfl,λk J=>absurd J (Nat.not_lt_zero _)⟩ (λf A v u=>?_) λv u=>?_))))
  .refine(p119 _).trans (congrArg some ?_)
   show(decide ((n:Int)<=8)&&decide ((cf.length:Int)<=40))=true;rw[dT (by omega),dT (by omega)];rfl
  .obtain⟨_,o1,o2,o3,o4,o5,L,ob,cf',ct',ci',cm⟩:=v
   obtain⟨(rfl:_=(f:Int)),(rfl:L=L'),(rfl:ob=(n:Int)),(rfl:cf'=cf),(rfl:ct'=ct),(rfl:ci'=Z),(hcl:cm.length=f),hcm⟩:=u;obtain⟨x,y,W,hy,hxn,hyn,hwf,hes⟩:=hL.vd _ (Cu (d:=d3) A);refine AU (ltD A) (As (n:=L.length) (λg v=>v.1=(g:Int)/\v.2.length=g/\∀k,k<g->Cp L f k (v.2.getD k 0)) ⟨rfl,rfl,λk J=>absurd J (Nat.not_lt_zero _)⟩ (λg B v u=>?_) λv u=>?_)
   .obtain⟨_,row⟩:=v
    obtain⟨(rfl:_=(g:Int)),(U:row.length=g),E⟩:=u;obtain⟨y',z,hy',hz,hyn',hzn,hwg,hes'⟩:=hL.vd _ (Cu (d:=d3) B);refine AU (ltD B) (Ab (inL A) (Ab (inL B) (Ak (λe=>?_) λe=>?_)))
    .have e:(L.getD f d3).2.1=(L.getD g d3).1:=BE e
     have eyy:y'=y:=by omega
     subst eyy;refine Ab (inL A) (A7 (WC (by show(L.getD f d3).2.2.length<=_;omega)) (Ab (inL B) (Ab (by show(L.getD f d3).2.2.length+(L.getD g d3).2.2.length<=_;omega) ?_)))
     have hin:((x:Int),(z:Int),(L.getD f d3).2.2++(L.getD g d3).2.2)∈L:=Wp hL (by rw[<-W,<-hy];exact Cu (d:=d3) A) hwg
     generalize hes:(L.getD f d3).2.2++(L.getD g d3).2.2=es at hin;have hwe:wk fr to x es z:=by rw[<-hes];exact X4 hwf hwg
     refine As (n:=L.length) (λk v=>v.2=(k:Int)/\((∃h:Nat,h<k/\v.1=(h:Int)/\(L.getD h d3).1=(x:Int)/\(L.getD h d3).2.2=es)\/∀h,h<k->¬ ((L.getD h d3).1=(x:Int)/\(L.getD h d3).2.2=es))) ⟨rfl,.inr λh hh=>absurd hh (Nat.not_lt_zero _)⟩ (λk J v u=>?_) λv u=>?_
     .obtain⟨q,_⟩:=v
      obtain⟨(rfl:_=(k:Int)),u⟩:=u;obtain⟨x2,y2,_,_,_,hyn2,_,hes2⟩:=hL.vd _ (Cu (d:=d3) J);refine AU (ltD J) (Ab (inL J) (Ab (inL A) (Ad (P:=λb:Bool=>b=true↔(L.getD k d3).1=(x:Int)/\(L.getD k d3).2.2=es) ?_ λb hb=>Ak (λe=>?_) λe=>?_)))
      .refine Ak (λe=>?_) λe=>Aa ?_
       .have e:(L.getD k d3).1=(L.getD f d3).1:=BE e
        refine Ab (inL J) ((Ad (UV (a:=(L.getD k d3).2.2) (b:=(L.getD f d3).2.2++(L.getD g d3).2.2) (by omega)) λr hr=>Aa ?_))
        rw[hes]at hr;exact hr.trans ⟨λh=>⟨by rw[e,W],h⟩,λh=>h.2⟩
       .have e:¬ (L.getD k d3).1=(L.getD f d3).1:=IE e
        exact⟨(λh=>by cases h),λh=>absurd (by rw[h.1,W]) e⟩
      .exact Aa ⟨wrD J (by omega),.inl ⟨k,by omega,rfl,hb.1 e⟩⟩
      .refine Aa ⟨wrD J (by omega),u.imp (fun⟨h,a,b⟩=>⟨h,by omega,b⟩) λu h hh hc=>?_⟩
       by_cases h2:h=k
       .subst h2;rw[hb.2 hc]at e;cases e
       .exact u h (by omega) hc
     .obtain⟨q,_⟩:=v
      obtain⟨(rfl:_=(L.length:Int)),u⟩:=u;refine AW ltf (Aa (Ab rfl (Ab (by show row.length+1<=_;omega) (Aa ⟨wrD B (by omega),A4 U,Bp (P:=λk (q:Int)=>Cp L f k q) U E ⟨λ_=>?_,λh=>absurd e h⟩⟩))))
      rcases u with⟨h,a1,a2,a3,a4⟩|u
      .refine⟨h,a1,a2,by rw[a3,W],?_⟩
       obtain⟨x3,z3,c1,c2,_,_,c5,_⟩:=hL.vd _ (Cu (d:=d3) a1);have:x3=x:=by omega
       subst this;rw[a4]at c5;rw[c2,hz,X3 c5 hwe]
      .obtain⟨h,a1,a2⟩:=JN d3 hin
       exact absurd ⟨by rw[a2],by rw[a2]⟩ (u h a1)
    .have e:¬ (L.getD f d3).2.1=(L.getD g d3).1:=IE e
     exact Ab (by show row.length+1<=_;omega) (Aa ⟨wrD B (by omega),A4 U,Bp (P:=λk (q:Int)=>Cp L f k q) U E ⟨λh=>absurd h e,λ_=>by decide⟩⟩)
   .obtain⟨_,row⟩:=v
    obtain⟨(rfl:_=(L.length:Int)),(U:row.length=L.length),E⟩:=u;exact AW ltf (Aa (Ab rfl (Ab trivial (Ab (by show cm.length+1<=_;omega) (Aa ⟨wrD A (by omega),rfl,rfl,rfl,rfl,rfl,A4 hcl,Bp (P:=λk (r:LI)=>r.length=L.length/\∀g,g<L.length->Cp L k g (r.getD g 0)) hcl hcm ⟨U,E⟩⟩)))))
  .obtain⟨_,o1,o2,o3,o4,o5,L,ob,cf',ct',ci',cm⟩:=v
   obtain⟨(rfl:_=(L'.length:Int)),(rfl:L=L'),(rfl:ob=(n:Int)),(rfl:cf'=cf),(rfl:ct'=ct),(rfl:ci'=Z),(hcl:cm.length=L.length),hcm⟩:=u;refine AW ltf (Aa (Ab rfl (Aa ⟨L.length,hle,rfl,h1,h2,h5,hcl,λf A=>(hcm f A).1,λf A=>?_,λf A=>?_,h6,λf g A B he=>?_,λf g A B he=>?_⟩)))
   .obtain⟨x,y,W,hy,hxn,hyn,_⟩:=hL.vd _ (Cu (d:=d3) A)
    exact⟨x,hxn,(h3 f A).trans W⟩
   .obtain⟨x,y,W,hy,hxn,hyn,_⟩:=hL.vd _ (Cu (d:=d3) A)
    exact⟨y,hyn,(h4 f A).trans hy⟩
   .have he:ct'.getD f 0=cf'.getD g 0:=he
    rw[h4 f A,h3 g B]at he;obtain⟨h,a1,a2,a3,a4⟩:=((hcm f A).2 g B).1 he;exact⟨h,a1,a2,(h3 h a1).trans (a3.trans (h3 f A).symm),(h4 h a1).trans (a4.trans (h4 g B).symm)⟩
   .have he:ct'.getD f 0≠cf'.getD g 0:=he
    rw[h4 f A,h3 g B]at he;exact((hcm f A).2 g B).2 he
end
end Go.Ve.D


namespace Go.Ve.D
open Go Go.Ve
noncomputable section
variable{c:Ca}{a o:Int}{fr:LI}{t:LL}{m n:Nat}{s:Src}
def trB(z:Nat)(t:LL):Bool:=decide (t.length=z)&&(List.range z).all λi=>decide ((t.getD i []).length=z)&&decide (one t i i)&&(List.range z).all λj=>(List.range z).all λm=>!(decide (one t i m)&&decide (one t m j))||decide (one t i j)
theorem YY{z:Nat}(h:trB z t=true):Tr z t:=by
 unfold trB at h;rw[bAE,decide_eq_true_eq]at h
 have row:=λi (e:i<z)=>by
  have:=aET.1 h.2 i (List.mem_range.2 e);rw[bAE,bAE,decide_eq_true_eq,decide_eq_true_eq]at this;exact this
 refine⟨⟨h.1,λi e=>(row i e).1.1⟩,λi e=>(row i e).1.2,λi j m e A u E B=>?_⟩
 have:=aET.1 (aET.1 (row i e).2 j (List.mem_range.2 A)) m (List.mem_range.2 u);rw[dT E,dT B]at this;exact of_decide_eq_true this
def gr_of{to:LI}(h:(decide (n<=3)&&decide (fr.length<=3)&&decide (to.length=fr.length)&&(List.range fr.length).all λk=>decide (0<=fr.getD k 0)&&decide (fr.getD k 0<to.getD k 0)&&decide (to.getD k 0<(n:Int)))=true):Gr n fr to:=by
 simp only[bAE,decide_eq_true_eq]at h;obtain⟨⟨⟨B,A⟩,u⟩,h4⟩:=h;refine⟨B,A,u,λk e=>?_⟩
 have:=aET.1 h4 k (List.mem_range.2 e);simp only[bAE,decide_eq_true_eq]at this;exact⟨(fr.getD k 0).toNat,(to.getD k 0).toNat,by omega,by omega,by omega,by omega⟩
def BO{z:Int}{r:Int×Src}(h:Num z r)(u:z=(n:Int))(A:0<n):∃k:Nat,r.1=(k:Int)/\k<n:=by
 obtain⟨⟨B,e,_⟩,_⟩:=h;have:=e (by omega)
 exact⟨r.1.toNat,by omega,by omega⟩
def Fam(r:Ca×Src):Prop:=(∃n m,n<=4/\m<=21/\Sp r.1 n m)/\OkS r.2
theorem famP(e:n<=4)(h:Tr n t)(hs:OkS s):Tot Fam (Option.bind (G120 t) λv=>some (v,s)):=
 Ad (p120 (by omega) h) λv ⟨m,A,u⟩=>Aa ⟨⟨n,m,e,by have:=Nat.mul_le_mul e e;omega,u⟩,hs⟩
theorem famW{to:LI}(h:Gr n fr to)(u:0<n)(hs:OkS s):Tot Fam (Option.bind (G142 ((n:Int),(fr,to))) λv=>some (v,s)):=
 Ad (p142 h u) λv ⟨m,A,e⟩=>Aa ⟨⟨n,m,by have:=h.n3;omega,A,e⟩,hs⟩
theorem oneP:Tot (λc=>Sp c 1 1) (G120 [[1]]):=by
 obtain⟨c,u,m,B,e⟩:=p120 (n:=1) (by decide) (YY (z:=1) (t:=[[1]]) (by decide))
 obtain⟨f,A,_⟩:=e.ix 0 (by decide)
 have:m=1:=by omega
 subst this;exact⟨c,u,e⟩
theorem p116(h:OkS s):Tot Fam (G116 () s):=by
 unfold G116;refine Ad (p63 h) λv B=>?_
 have hs:=B.2;refine Ak (λ_=>Ad (p63 hs) λE u=>?_) λ_=>Ak (λ_=>Ab trivial (famP (n:=2) (by decide) (YY (by decide)) hs)) λ_=>Ak (λ_=>Ab trivial (famP (n:=3) (by decide) (YY (by decide)) hs)) λ_=>Ak (λ_=>famW (n:=2) (gr_of (by decide)) (by decide) hs) λ_=>Ak (λ_=>?_) λ_=>Ak (λ_=>Ad (p63 hs) λE u=>?_) λ_=>Ak (λ_=>famW (n:=3) (gr_of (by decide)) (by decide) hs) λ_=>Ak (λ_=>?_) λ_=>Ak (λ_=>?_) λ_=>Ak (λ_=>?_) λ_=>Ak (λ_=>Ad (p63 hs) λE u=>?_) λ_=>Ad (p63 hs) λE u=>Ad (p63 u.2) λv2 A=>?_
 .obtain⟨k,Z,hk5⟩:=BO (n:=5) u rfl (by decide)
  rw[Z];exact Ad (p141 (by omega) u.2) λv2 A=>famP (by omega) A.1 A.2
 .exact Ad (p144 hs) λE ⟨⟨m,hm,u⟩,A⟩=>A7 (p143 u (by omega)) (Aa ⟨⟨1,m,by decide,by omega,u⟩,A⟩)
 .obtain⟨k,Z,hk3⟩:=BO (n:=3) u rfl (by decide)
  have w:IntKind.wrap .i64 (1+E.1)=((k+1:Nat):Int):=by rw[Z,Ah (by omega) (by omega)];omega
  rw[w];refine As (n:=k+1) (λi v=>v.1=(i:Int)/\v.2.length=i/\∀a,a<i->(v.2.getD a []).length=k+1/\∀b,b<k+1->(v.2.getD a []).getD b 0=1) ⟨rfl,rfl,λa ha=>absurd ha (Nat.not_lt_zero _)⟩ (λi J v B=>?_) λv B=>?_
  .obtain⟨_,t⟩:=v
   obtain⟨(rfl:_=(i:Int)),(hl:t.length=i),ht⟩:=B;refine AU (ltD J) (As (n:=k+1) (λj v=>v.1=(j:Int)/\v.2.length=j/\∀b,b<j->v.2.getD b 0=1) ⟨rfl,rfl,λa ha=>absurd ha (Nat.not_lt_zero _)⟩ (λj W v B=>?_) λv B=>?_)
   .obtain⟨_,row⟩:=v
    obtain⟨(rfl:_=(j:Int)),(U:row.length=j),hr⟩:=B;exact AU (ltD W) (Ab (by show row.length+1<=_;omega) (Aa ⟨wrD W (by omega),A4 U,Bp (P:=λ_ (q:Int)=>q=1) U hr rfl⟩))
   .obtain⟨_,row⟩:=v
    obtain⟨(rfl:_=((k+1:Nat):Int)),(U:row.length=k+1),hr⟩:=B;exact AW ltf (Aa (Ab rfl (Ab trivial (Ab (by show t.length+1<=_;omega) (Aa ⟨wrD J (by omega),A4 hl,Bp (P:=λ_ (r:LI)=>r.length=k+1/\∀b,b<k+1->r.getD b 0=1) hl ht ⟨U,hr⟩⟩)))))
  .obtain⟨_,t⟩:=v
   obtain⟨(rfl:_=((k+1:Nat):Int)),(hl:t.length=k+1),ht⟩:=B;refine AW ltf (Aa (Ab rfl (famP (n:=k+1) (by omega) ⟨⟨hl,λi J=>(ht i J).1⟩,λi J=>(ht i J).2 i J,λi j m J W hm _ _=>(ht i J).2 j W⟩ u.2)))
 .exact Ad p145 λE u=>Aa ⟨⟨2,5,by decide,by decide,u⟩,hs⟩
 .exact Ad (p144 hs) λE ⟨⟨m,hm,u⟩,A⟩=>A7 (p143 u (by omega)) (Ab trivial (Ad oneP λv3 h3=>Ad (p147 u h3 (by decide) (by omega) (by decide) (by decide)) λv4 h4=>Ad (p146 h4 (by omega) (by omega)) λv5 h5=>Aa ⟨⟨_,_,by omega,by omega,h5⟩,A⟩))
 .exact Ad (p144 hs) λE ⟨⟨m,hm,u⟩,A⟩=>A7 (p143 u (by omega)) (Ab trivial (Ad oneP λv3 h3=>Ad (p147 u h3 (by decide) (by omega) (by decide) (by decide)) λv4 h4=>Aa ⟨⟨_,_,by omega,by omega,h4⟩,A⟩))
 .obtain⟨k,Z,hk2⟩:=BO (n:=2) u rfl (by decide)
  have w:IntKind.wrap .i64 (2+E.1)=((k+2:Nat):Int):=by rw[Z,Ah (by omega) (by omega)];omega
  rw[w];exact Ad (p141 (by omega) u.2) λv2 A=>famP (by omega) A.1 A.2
 .obtain⟨k,Z,hk2⟩:=BO (n:=2) u rfl (by decide)
  obtain⟨e,he,he4⟩:=BO (n:=4) A rfl (by decide)
  have w:IntKind.wrap .i64 (2+E.1)=((k+2:Nat):Int):=by rw[Z,Ah (by omega) (by omega)];omega
  have w1:IntKind.wrap .i64 (((k+2:Nat):Int)-1)=((k+1:Nat):Int):=by rw[Ah (by omega) (by omega)];omega
  rw[w,w1,he];refine As (n:=e) (λi v=>v.1=((e-i:Nat):Int)/\OkS (v.2.1,(v.2.2.1,v.2.2.2.1))/\v.2.2.2.2.2.2.2.2.2.1.length=i/\v.2.2.2.2.2.2.2.2.2.2.length=i/\∀j,j<i->∃x y:Nat,v.2.2.2.2.2.2.2.2.2.1.getD j 0=(x:Int)/\v.2.2.2.2.2.2.2.2.2.2.getD j 0=(y:Int)/\x<y/\y<k+2) ⟨rfl,A.2,rfl,rfl,λj W=>absurd W (Nat.not_lt_zero _)⟩ (λi J v B=>?_) λv B=>?_
  .obtain⟨_,s1,s2,s3,o1,o2,o3,o4,o5,fr,to⟩:=v
   obtain⟨(rfl:_=((e-i:Nat):Int)),(hs:OkS (s1,(s2,s3))),(l1:fr.length=i),(l2:to.length=i),hG⟩:=B;refine AU (dT (by show(0:Int)<((e-i:Nat):Int);omega)) (Ad (p63 hs) λv4 h4=>Ab (by show fr.length+1<=_;omega) ?_)
   obtain⟨x,hx,hx1⟩:=BO (n:=k+1) h4 rfl (by omega)
   have w2:IntKind.wrap .i64 (((k+1:Nat):Int)-v4.1)=((k+1-x:Nat):Int):=by rw[hx,Ah (by omega) (by omega)];omega
   rw[w2];refine Ad (p63 h4.2) λv5 h5=>Ab (by show to.length+1<=_;omega) (Aa ⟨?_,h5.2,A4 l1,A4 l2,λj W=>?_⟩)
   .show IntKind.wrap .i64 (((e-i:Nat):Int)-1)=((e-(i+1):Nat):Int)
    rw[Ah (by omega) (by omega)];omega
   .show ∃x y:Nat,(fr++[v4.1]).getD j 0=(x:Int)/\(to++[IntKind.wrap .i64 (IntKind.wrap .i64 (v4.1+1)+v5.1)]).getD j 0=(y:Int)/\x<y/\y<k+2
    by_cases hji:j=i
    .obtain⟨y,hy,hy1⟩:=BO (n:=k+1-x) h5 rfl (by omega)
     refine⟨x,x+1+y,?_,?_,by omega,by omega⟩
     .rw[hji,<-l1,Di,hx]
     .rw[hji,<-l2,Di,hx,hy,Ah (n:=(x:Int)+1) (by omega) (by omega),Ah (by omega) (by omega)];omega
    .rw[AD (by omega),AD (by omega)]
     exact hG j (by omega)
  .obtain⟨_,s1,s2,s3,o1,o2,o3,o4,o5,fr,to⟩:=v
   obtain⟨(rfl:_=((e-e:Nat):Int)),(hs:OkS (s1,(s2,s3))),(l1:fr.length=e),(l2:to.length=e),hG⟩:=B;exact AW (dF (by show ¬ (0:Int)<((e-e:Nat):Int);omega)) (Aa (Ab rfl (famW (n:=k+2) ⟨by omega,by omega,by omega,λj W=>hG j (by omega)⟩ (by omega) hs)))
def Som(o a:Int)(r:Ca×Src):Prop:=(∃n m:Nat,(n:Int)<=o/\(m:Int)<=a/\n<=8/\m<=40/\Sp r.1 n m)/\OkS r.2
def endS{o a:Int}(h:Sp c n m)(hs:OkS s){I:Int×LI×Int×Int×Ca->Prop}{g:Nat->Int×LI×Int×Int×Ca->Option (Ca×Src)}{Y:Int×LI×Int×Int×Ca}(J:I Y):
  Tot (LoT I g (Som o a)) (Option.bind (bif decide (c.1<=o)then some (decide ((c.2.1.length:Int)<=a))else some false) λB=>Option.bind (bif B then(G119 c).bind λu=>some u else some false) λu=>bif u then BB (some (c,s))else some (LO.next Y)):=by
 refine A7 (v:=decide (c.1<=o)&&decide ((c.2.1.length:Int)<=a)) (by cases decide (c.1<=o)<;>rfl) (Ad (P:=λb:Bool=>b=true->(decide (c.1<=o)&&decide ((c.2.1.length:Int)<=a))=true/\(decide (c.1<=8)&&decide ((c.2.1.length:Int)<=40))=true) (Ak (λe=>A7 (p119 c) (Aa λh=>⟨e,h⟩)) λ_=>Aa λh=>by cases h) λb E=>Ak (λe=>DZ (Aa ⟨?_,hs⟩)) λ_=>Aa J)
 obtain⟨A,U⟩:=E e;simp only[bAE,decide_eq_true_eq,h.ob,h.lf]at A U;exact⟨n,m,A.1,A.2,by omega,by omega,h⟩
theorem p70(ho:1<=o)(ha:1<=a)(h:OkS s):Tot (Som o a) (G70 (o,a) s):=by
 unfold G70;refine As (n:=12) (λi v=>v.1=(i:Int)/\OkS (v.2.1,(v.2.2.1,v.2.2.2.1))) ⟨rfl,h⟩ (λi hi v hv=>?_) λv hv=>?_
 .obtain⟨_,s1,Z,W,d⟩:=v
  obtain⟨(rfl:_=(i:Int)),(hs:OkS (s1,(Z,W)))⟩:=hv;have U:∀{s':Src},OkS s'->((IntKind.wrap .i64 ((i:Int)+1),(s'.1,(s'.2.1,(s'.2.2,d)))):Int×LI×Int×Int×Ca).1=((i+1:Nat):Int)/\OkS (s'.1,(s'.2.1,s'.2.2)):=λh=>⟨wrD hi (by omega),h⟩
  refine AU (dT (by show(i:Int)<12;omega)) (Ad (p116 hs) λv1 ⟨⟨n,m,hn,hm,hc⟩,hs⟩=>Ad (p63 hs) λv2 B=>Ak (λ_=>?_) λ_=>?_)
  .refine Ad (p116 B.2) λv3 ⟨⟨n3,m3,hn3,hm3,hc3⟩,hs3⟩=>Ad (p117 hc hc3 (by omega) (by omega) (by omega) (by omega)) λv4 e=>Ad (p63 hs3) λv5 u=>Ak (λ_=>?_) λ_=>endS e u.2 (U u.2)
   exact Ad (p116 u.2) λv6 ⟨⟨n6,m6,hn6,hm6,hc6⟩,E⟩=>Ad (p118 e hc6 (by omega) (by omega) (by omega) (by omega)) λv7 hc7=>endS hc7 E (U E)
  .refine Ad (p63 B.2) λv3 A=>Ak (λ_=>?_) λ_=>endS hc A.2 (U A.2)
   exact Ad (p116 A.2) λv4 ⟨⟨n4,m4,hn4,hm4,e⟩,J⟩=>Ad (p118 hc e (by omega) (by omega) (by omega) (by omega)) λv5 hc5=>endS hc5 J (U J)
 .obtain⟨_,s1,Z,W,d⟩:=v
  obtain⟨(rfl:_=((12:Nat):Int)),(hs:OkS (s1,(Z,W)))⟩:=hv;exact AW (show decide (((12:Nat):Int)<12)=false by decide) (Aa (Ab rfl (Ab trivial (Ad oneP λv1 h1=>Aa ⟨⟨1,1,ho,ha,by decide,by decide,h1⟩,hs⟩))))
def okD(c:Ca):Prop:=c.2.1.length<=2000/\c.2.2.1.length<=2000/\c.2.2.2.1.length<=2000/\c.2.2.2.2.length<=2000/\∀y∈c.2.2.2.2,y.length<=2000
def Sp.okD{c:Ca}{n m:Nat}(h:Sp c n m)(A:n<=1000)(B:m<=1000):okD c:=by
 refine⟨by rw[h.lf];omega,by rw[h.lt];omega,by rw[h.li];omega,by rw[h.lc];omega,λy u=>?_⟩
 obtain⟨k,e,rfl⟩:=JN [] u;rw[h.lr k (by rw[h.lc]at e;exact e)];omega
def rowsD{k:Nat}{r:LI}(h:∀y∈t,y.length<=2000)(u:r.length<=2000):∀y∈t.set k r,y.length<=2000:=λy e=>by
 rcases List.mem_or_eq_of_mem_set e with h1|rfl
 .exact h y h1
 .exact u
def p102(h:Sp c n m)(hn:n<=1000)(hm:m<=1000)(hs:OkS s):Tot (λr=>okD r.1/\OkS r.2) (G102 c s):=by
 have hok:=h.okD hn hm;obtain⟨W,U,J,E,B⟩:=hok;unfold G102;refine A7 (AaD h hn hm) (Ad (p63 hs) λv1 hv1=>Ad (p63 hv1.2) λv2 hv2=>?_)
 have u:=hv2.2;have e1:=h.lf;have e2:=h.lt;have e3:=h.li;have e4:=h.lc;have f1:0<m->∃k:Nat,v1.1=(k:Int)/\k<m:=λhm=>BO hv1 (by rw[e1]) hm
 have row:∀{Y:Option (Ca×Src)},Y=(bif decide (0<(c.2.1.length:Int))then if 0<=v1.1/\v1.1<(c.2.2.2.2.length:Int)then(G63 (c.2.1.length:Int) v2.2).bind λv3=>(G63 (IntKind.i64.wrap ((c.2.1.length:Int)+1)) v3.2).bind λv4=>if 0<=v3.1/\v3.1<((c.2.2.2.2.getD v1.1.toNat []).length:Int)then some ((c.1,(c.2.1,(c.2.2.1,(c.2.2.2.1,c.2.2.2.2.set v1.1.toNat ((c.2.2.2.2.getD v1.1.toNat []).set v3.1.toNat (IntKind.i64.wrap (v4.1-1))))))),v4.2)else none else none else some (c,v2.2))->Tot (λr=>okD r.1/\OkS r.2) Y:=by
  rintro Y rfl
  refine Ak (λe=>?_) λ_=>Aa ⟨⟨W,U,J,E,B⟩,u⟩
  have e:(0:Int)<(c.2.1.length:Int):=BE e;obtain⟨k,hk,Z⟩:=f1 (by omega)
  rw[hk];have hrow:(c.2.2.2.2.getD k []).length=m:=h.lr k Z;refine Ab (by omega) (Ad (p63 u) λv3 A=>Ad (p63 A.2) λv4 hv4=>?_)
  obtain⟨g,hg,hgm⟩:=BO (n:=m) A (by rw[e1]) (by omega)
  rw[hg];refine Ab (by show(0:Int)<=(g:Int)/\(g:Int)<((c.2.2.2.2.getD k []).length:Int);omega) (Aa ⟨⟨W,U,J,by show(c.2.2.2.2.set _ _).length<=_;rw[List.length_set];exact E,rowsD B ?_⟩,hv4.2⟩)
  show((c.2.2.2.2.getD k []).set _ _).length<=_;rw[List.length_set];omega
 refine Ak (λ_=>Ad (p72 u (by show 0<3;omega)) λv3 A=>Aa ⟨⟨W,U,J,E,B⟩,A⟩) λ_=>Ak (λ_=>Ab (by show c.2.1.length+1<=_;omega) (Aa ⟨⟨?_,U,J,E,B⟩,u⟩)) λ_=>Ak (λ_=>Ak (λe=>Ad (p63 u) λv3 A=>Ab ⟨by decide,BE e⟩ (Aa ⟨⟨W,U,?_,E,B⟩,A.2⟩)) λ_=>Aa ⟨⟨W,U,J,E,B⟩,u⟩) λ_=>Ak (λe=>AU e (row rfl)) λ_=>Ak (λe=>AU e (row rfl)) λ_=>Ak (λe=>row rfl) λ_=>Ak (λ_=>Ak (λe=>?_) λ_=>Aa ⟨⟨W,U,J,E,B⟩,u⟩) λ_=>Ak (λe=>?_) λ_=>Aa ⟨⟨W,U,J,E,B⟩,u⟩
 .show(c.2.1++[(0:Int)]).length<=_
  rw[List.length_append,e1];show m+1<=_;omega
 .show(c.2.2.2.1.set _ _).length<=_
  rw[List.length_set];exact J
 .have e:(0:Int)<(c.2.1.length:Int):=BE e
  obtain⟨k,hk,Z⟩:=f1 (by omega)
  rw[hk];exact Ad (p63 u) λv3 A=>Ab (by show(0:Int)<=(k:Int)/\(k:Int)<(c.2.2.1.length:Int);omega) (Aa ⟨⟨W,by show(c.2.2.1.set _ _).length<=_;rw[List.length_set];exact U,J,E,B⟩,A.2⟩)
 .have e:(0:Int)<(c.2.1.length:Int):=BE e
  obtain⟨k,hk,Z⟩:=f1 (by omega)
  rw[hk];have hrow:(c.2.2.2.2.getD k []).length=m:=h.lr k Z;have ik:(0:Int)<=(k:Int)/\(k:Int)<(c.2.2.2.2.length:Int):=by omega
  refine Ab ik (Ab ⟨by decide,by show(1:Int)<=((c.2.2.2.2.getD k []).length:Int);omega,Int.le_refl _⟩ (Ab ik (Ab ⟨⟨Nat.le_refl _,Nat.le_refl _⟩,⟨Nat.le_refl _,Nat.le_refl _⟩,trivial⟩ (Aa ⟨⟨W,U,J,by show(c.2.2.2.2.set _ _).length<=_;rw[List.length_set];exact E,rowsD B ?_⟩,u⟩))))
  show((List.range _).map _).length<=_;rw[List.length_map,List.length_range];show((c.2.2.2.2.getD k []).length:Int).toNat-1<=_;omega
theorem p87(B:1<=o)(E:1<=a)(h:OkS s):Tot (λr=>okD r.1/\OkS r.2) (G87 (o,a) s):=by
 unfold G87;exact Ad (p70 B E h) λv0 ⟨⟨n,m,_,_,W,Z,A⟩,hs⟩=>Ad (p63 hs) λU e=>Ak (λ_=>Ad (p102 A (by omega) (by omega) e.2) λJ u=>Aa u) λ_=>Aa ⟨A.okD (by omega) (by omega),e.2⟩
end
end Go.Ve.D

