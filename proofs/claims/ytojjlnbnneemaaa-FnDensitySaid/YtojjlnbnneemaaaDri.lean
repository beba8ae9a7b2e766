/- The category of paths of a small graph. -/
import Derived.Test.YtojjlnbnneemaaaDrg
open Nat(not_lt_zero le_refl)
open List(length_set range mem_range)
open Go.IntKind(wrap i64)
set_option linter.all false
namespace Go.Ve.D
open Go Go.Ve
noncomputable section
def p49(c:Ca):G49 c=some (decide (c.1<=8)&&decide ((c.2.1.length:Int)<=40)):=by
 delta G49 an
 cases decide (c.1<=8)<;>rfl
theorem V6{a b:LI}(O:a.length<=1048576):Tot (λr:Bool=>r=true↔a=b) (G134 (a,b)):=by
 delta G134 ln lw lt gd l0 sc nx bk
 refine An (λe=>Aa ?_) λe=>?_
 .have e:(!decide ((a.length:Int)=(b.length:Int)))=true:=e
  rw[Bool.not_eq_true',decide_eq_false_iff_not]at e;exact⟨(λh=>by cases h),λh=>absurd (by rw[h]) e⟩
 .have e:(!decide ((a.length:Int)=(b.length:Int)))=false:=e
  rw[Bool.not_eq_false',decide_eq_true_eq]at e;refine Au (n:=a.length) (λi v=>v=(i:Int)/\∀k,k<i->a.getD k 0=b.getD k 0) ⟨rfl,λk u=>absurd u (not_lt_zero _)⟩ (λi B v A=>?_) λv A=>?_
  .obtain⟨rfl,u⟩:=A
   refine A5 (ltD B) (Ab (Ac B) (Ab (Ac (show i<b.length by omega)) (An (λe=>H6 (Aa ?_)) λe=>Aa ⟨wrD B O,λk J=>?_⟩)))
   .have e:(!decide (a.getD i 0=b.getD i 0))=true:=e
    rw[Bool.not_eq_true',decide_eq_false_iff_not]at e;exact⟨(λh=>by cases h),λh=>absurd (by rw[h]) e⟩
   .have e:(!decide (a.getD i 0=b.getD i 0))=false:=e
    rw[Bool.not_eq_false',decide_eq_true_eq]at e;by_cases h:k=i
    .rw[h];exact e
    .exact u k (by omega)
  .obtain⟨rfl,u⟩:=A
   refine A8 ltf (Aa (Aa ⟨λ_=>?_,λ_=>rfl⟩))
   apply List.ext_getElem (by omega)
   intro i E U;have:=u i E;rwa [gDE,gEE E,gDE,gEE U]at this
def Cp(L:List P3)(f g:Nat)(q:Int):Prop:=((L.getD f d3).2.1=(L.getD g d3).1->∃h:Nat,h<L.length/\q=h/\(L.getD h d3).1=(L.getD f d3).1/\(L.getD h d3).2.1=(L.getD g d3).2.1)/\((L.getD f d3).2.1≠(L.getD g d3).1->q<0)
theorem p168{n:Nat}{fr to:LI}(E:Gr n fr to)(hn:0<n):Tot (λc=>∃m,m<=21/\Sp c n m) (G168 ((n:Int),(fr,to))):=by
 have hn3:=E.n3
 delta G168 mA mB lw an k7 k8 lt gd q4 q9 sc nx bk cp
 refine Ad (p170 E) λL hL=>Ab ⟨by omega,by omega,by omega,by omega⟩ ?_
 have hle:=hL.le;have hm:0<L.length:=List.length_pos_of_mem (hL.tr 0 hn);have u:∀{k},k<L.length->(0:Int)<=(k:Int)/\(k:Int)<(L.length:Int):=λh=>Ac h
 refine Au (n:=L.length) (λi v=>v.1=(i:Int)/\v.2.2.2.2.2.2.1=L/\v.2.2.2.2.2.2.2.1=(n:Int)/\v.2.2.2.2.2.2.2.2.1.length=i/\v.2.2.2.2.2.2.2.2.2.1.length=i/\(∀k,k<i->v.2.2.2.2.2.2.2.2.1.getD k 0=(L.getD k d3).1)/\(∀k,k<i->v.2.2.2.2.2.2.2.2.2.1.getD k 0=(L.getD k d3).2.1)/\(v.2.2.2.2.2.2.2.2.2.2.1.length=n/\∀x,x<n->∃f:Nat,f<L.length/\v.2.2.2.2.2.2.2.2.2.2.1.getD x 0=(f:Int))/\v.2.2.2.2.2.2.2.2.2.2.2=[])
  ⟨rfl,rfl,rfl,rfl,rfl,λk O=>absurd O (not_lt_zero _),λk O=>absurd O (not_lt_zero _),⟨by show(List.replicate n (0:Int)).length=n;rw[List.length_replicate],λx W=>⟨0,hm,by show(List.replicate n (0:Int)).getD x 0=0;simp[W]⟩⟩,rfl⟩ (λi hi v A=>?_) λv A=>?_
 .obtain⟨_,o1,o2,o3,o4,o5,L',ob,cf,ct,Y,cm⟩:=v
  obtain⟨(rfl:_=(i:Int)),(rfl:L'=L),(rfl:ob=(n:Int)),(h1:cf.length=i),(h2:ct.length=i),(h3:∀k,k<i->cf.getD k 0=(L'.getD k d3).1),(h4:∀k,k<i->ct.getD k 0=(L'.getD k d3).2.1),⟨(h5:Y.length=n),(h6:∀x,x<n->∃f:Nat,f<L'.length/\Y.getD x 0=(f:Int))⟩,(rfl:cm=[])⟩:=A;obtain⟨x,y,W,hy,hxn,hyn,_⟩:=hL.vd _ (CB (d:=d3) hi);have a3:=Bt (P:=λk (q:Int)=>q=(L'.getD k d3).1) h1 h3 (a:=(L'.getD i d3).1) rfl
  have a4:=Bt (P:=λk (q:Int)=>q=(L'.getD k d3).2.1) h2 h4 (a:=(L'.getD i d3).2.1) rfl
  refine A5 (ltD hi) (Ab (u hi) (Ab (by show cf.length+1<=_;omega) (Ab (u hi) (Ab (by show ct.length+1<=_;omega) (Ab (u hi) (An (λ_=>Ab (u hi) (Ab ?_ (Aa ⟨wrD hi (by omega),rfl,rfl,A6 h1,A6 h2,a3,a4,⟨?_,λz hz=>?_⟩,rfl⟩))) λ_=>Aa ⟨wrD hi (by omega),rfl,rfl,A6 h1,A6 h2,a3,a4,⟨h5,h6⟩,rfl⟩))))))
  .show 0<=(L'.getD i d3).1/\(L'.getD i d3).1<(Y.length:Int)
   rw[W,h5];omega
  .show(Y.set _ _).length=n
   rw[length_set];exact h5
  .show ∃f:Nat,f<L'.length/\(Y.set ((L'.getD i d3).1).toNat (i:Int)).getD z 0=(f:Int)
   rw[W,BB (by show x<Y.length;omega)]
   split
   .exact⟨i,hi,rfl⟩
   .exact h6 z hz
 .obtain⟨_,o1,o2,o3,o4,o5,L',ob,cf,ct,Y,cm⟩:=v
  obtain⟨(rfl:_=(L.length:Int)),(rfl:L'=L),(rfl:ob=(n:Int)),(h1:cf.length=L'.length),(h2:ct.length=L'.length),(h3:∀k,k<L'.length->cf.getD k 0=(L'.getD k d3).1),(h4:∀k,k<L'.length->ct.getD k 0=(L'.getD k d3).2.1),⟨(h5:Y.length=n),(h6:∀x,x<n->∃f:Nat,f<L'.length/\Y.getD x 0=(f:Int))⟩,(rfl:cm=[])⟩:=A;refine A8 ltf (Aa (Bh (v:=true) ?_ (A8 rfl (Au (n:=L'.length) (λf v=>v.1=(f:Int)/\v.2.2.2.2.2.2.1=L'/\v.2.2.2.2.2.2.2.1=(n:Int)/\v.2.2.2.2.2.2.2.2.1=cf/\v.2.2.2.2.2.2.2.2.2.1=ct/\v.2.2.2.2.2.2.2.2.2.2.1=Y/\v.2.2.2.2.2.2.2.2.2.2.2.length=f/\∀k,k<f->(v.2.2.2.2.2.2.2.2.2.2.2.getD k []).length=L'.length/\∀g,g<L'.length->Cp L' k g ((v.2.2.2.2.2.2.2.2.2.2.2.getD k []).getD g 0)) ⟨rfl,rfl,rfl,rfl,rfl,rfl,rfl,λk O=>absurd O (not_lt_zero _)⟩ (λf B v A=>?_) λv A=>?_))))
  .refine(p49 _).trans (congrArg some ?_)
   show(decide ((n:Int)<=8)&&decide ((cf.length:Int)<=40))=true;rw[dT (by omega),dT (by omega)];rfl
  .obtain⟨_,o1,o2,o3,o4,o5,L,ob,cf',ct',ci',cm⟩:=v
   obtain⟨(rfl:_=(f:Int)),(rfl:L=L'),(rfl:ob=(n:Int)),(rfl:cf'=cf),(rfl:ct'=ct),(rfl:ci'=Y),(hcl:cm.length=f),Z⟩:=A;obtain⟨x,y,W,hy,hxn,hyn,hwf,hes⟩:=hL.vd _ (CB (d:=d3) B);refine A5 (ltD B) (Au (n:=L.length) (λg v=>v.1=(g:Int)/\v.2.length=g/\∀k,k<g->Cp L f k (v.2.getD k 0)) ⟨rfl,rfl,λk O=>absurd O (not_lt_zero _)⟩ (λg E v A=>?_) λv A=>?_)
   .obtain⟨_,row⟩:=v
    obtain⟨(rfl:_=(g:Int)),(U:row.length=g),J⟩:=A;obtain⟨y',z,hy',hz,hyn',hzn,hwg,hes'⟩:=hL.vd _ (CB (d:=d3) E);refine A5 (ltD E) (Ab (u B) (Ab (u E) (An (λe=>?_) λe=>?_)))
    .have e:(L.getD f d3).2.1=(L.getD g d3).1:=B3 e
     have eyy:y'=y:=by omega
     subst eyy;refine Ab (u B) (Bh (X2 (by show(L.getD f d3).2.2.length<=_;omega)) (Ab (u E) (Ab (by show(L.getD f d3).2.2.length+(L.getD g d3).2.2.length<=_;omega) ?_)))
     have hin:((x:Int),(z:Int),(L.getD f d3).2.2++(L.getD g d3).2.2)∈L:=XM hL (by rw[<-W,<-hy];exact CB (d:=d3) B) hwg
     generalize hes:(L.getD f d3).2.2++(L.getD g d3).2.2=es at hin;have hwe:wk fr to x es z:=by rw[<-hes];exact Zv hwf hwg
     refine Au (n:=L.length) (λk v=>v.2=(k:Int)/\((∃h:Nat,h<k/\v.1=(h:Int)/\(L.getD h d3).1=(x:Int)/\(L.getD h d3).2.2=es)\/∀h,h<k->¬ ((L.getD h d3).1=(x:Int)/\(L.getD h d3).2.2=es))) ⟨rfl,.inr λh hh=>absurd hh (not_lt_zero _)⟩ (λk O v A=>?_) λv A=>?_
     .obtain⟨q,_⟩:=v
      obtain⟨(rfl:_=(k:Int)),A⟩:=A;obtain⟨x2,y2,_,_,_,hyn2,_,hes2⟩:=hL.vd _ (CB (d:=d3) O);refine A5 (ltD O) (Ab (u O) (Ab (u B) (Ad (P:=λb:Bool=>b=true↔(L.getD k d3).1=(x:Int)/\(L.getD k d3).2.2=es) ?_ λb hb=>An (λe=>?_) λe=>?_)))
      .refine An (λe=>?_) λe=>Aa ?_
       .have e:(L.getD k d3).1=(L.getD f d3).1:=B3 e
        refine Ab (u O) ((Ad (V6 (a:=(L.getD k d3).2.2) (b:=(L.getD f d3).2.2++(L.getD g d3).2.2) (by omega)) λr hr=>Aa ?_))
        rw[hes]at hr;exact hr.trans ⟨λh=>⟨by rw[e,W],h⟩,λh=>h.2⟩
       .have e:¬ (L.getD k d3).1=(L.getD f d3).1:=JW e
        exact⟨(λh=>by cases h),λh=>absurd (by rw[h.1,W]) e⟩
      .exact Aa ⟨wrD O (by omega),.inl ⟨k,by omega,rfl,hb.1 e⟩⟩
      .refine Aa ⟨wrD O (by omega),A.imp (fun⟨h,a,b⟩=>⟨h,by omega,b⟩) λA h hh hc=>?_⟩
       by_cases h2:h=k
       .subst h2;rw[hb.2 hc]at e;cases e
       .exact A h (by omega) hc
     .obtain⟨q,_⟩:=v
      obtain⟨(rfl:_=(L.length:Int)),A⟩:=A;refine A8 ltf (Aa (Ab rfl (Ab (by show row.length+1<=_;omega) (Aa ⟨wrD E (by omega),A6 U,Bt (P:=λk (q:Int)=>Cp L f k q) U J ⟨λ_=>?_,λh=>absurd e h⟩⟩))))
      rcases A with⟨h,a1,a2,a3,a4⟩|A
      .refine⟨h,a1,a2,by rw[a3,W],?_⟩
       obtain⟨x3,z3,c1,c2,_,_,c5,_⟩:=hL.vd _ (CB (d:=d3) a1);have:x3=x:=by omega
       subst this;rw[a4]at c5;rw[c2,hz,Zu c5 hwe]
      .obtain⟨h,a1,a2⟩:=Lo d3 hin
       exact absurd ⟨by rw[a2],by rw[a2]⟩ (A h a1)
    .have e:¬ (L.getD f d3).2.1=(L.getD g d3).1:=JW e
     exact Ab (by show row.length+1<=_;omega) (Aa ⟨wrD E (by omega),A6 U,Bt (P:=λk (q:Int)=>Cp L f k q) U J ⟨λh=>absurd h e,λ_=>by decide⟩⟩)
   .obtain⟨_,row⟩:=v
    obtain⟨(rfl:_=(L.length:Int)),(U:row.length=L.length),J⟩:=A;exact A8 ltf (Aa (Ab rfl (Ab trivial (Ab (by show cm.length+1<=_;omega) (Aa ⟨wrD B (by omega),rfl,rfl,rfl,rfl,rfl,A6 hcl,Bt (P:=λk (r:LI)=>r.length=L.length/\∀g,g<L.length->Cp L k g (r.getD g 0)) hcl Z ⟨U,J⟩⟩)))))
  .obtain⟨_,o1,o2,o3,o4,o5,L,ob,cf',ct',ci',cm⟩:=v
   obtain⟨(rfl:_=(L'.length:Int)),(rfl:L=L'),(rfl:ob=(n:Int)),(rfl:cf'=cf),(rfl:ct'=ct),(rfl:ci'=Y),(hcl:cm.length=L.length),Z⟩:=A;refine A8 ltf (Aa (Ab rfl (Aa ⟨L.length,hle,rfl,h1,h2,h5,hcl,λf B=>(Z f B).1,λf B=>?_,λf B=>?_,h6,λf g B E he=>?_,λf g B E he=>?_⟩)))
   .obtain⟨x,y,W,hy,hxn,hyn,_⟩:=hL.vd _ (CB (d:=d3) B)
    exact⟨x,hxn,(h3 f B).trans W⟩
   .obtain⟨x,y,W,hy,hxn,hyn,_⟩:=hL.vd _ (CB (d:=d3) B)
    exact⟨y,hyn,(h4 f B).trans hy⟩
   .have he:ct'.getD f 0=cf'.getD g 0:=he
    rw[h4 f B,h3 g E]at he;obtain⟨h,a1,a2,a3,a4⟩:=((Z f B).2 g E).1 he;exact⟨h,a1,a2,(h3 h a1).trans (a3.trans (h3 f B).symm),(h4 h a1).trans (a4.trans (h4 g E).symm)⟩
   .have he:ct'.getD f 0≠cf'.getD g 0:=he
    rw[h4 f B,h3 g E]at he;exact((Z f B).2 g E).2 he
end
end Go.Ve.D


namespace Go.Ve.D
open Go Go.Ve
noncomputable section
variable{c:Ca}{a o:Int}{fr to:LI}{t:LL}{m n:Nat}{s:Src}
def trB(z:Nat)(t:LL):Bool:=decide (t.length=z)&&(range z).all λi=>decide ((t.getD i []).length=z)&&decide (one t i i)&&(range z).all λj=>(range z).all λm=>!(decide (one t i m)&&decide (one t m j))||decide (one t i j)
theorem AaG{z:Nat}(h:trB z t=true):Tr z t:=by
 unfold trB at h;rw[bAE,decide_eq_true_eq]at h
 have row:=λi (u:i<z)=>by
  have:=aET.1 h.2 i (mem_range.2 u);rw[bAE,bAE,decide_eq_true_eq,decide_eq_true_eq]at this;exact this
 refine⟨⟨h.1,λi u=>(row i u).1.1⟩,λi u=>(row i u).1.2,λi j m u B A J E=>?_⟩
 have:=aET.1 (aET.1 (row i u).2 j (mem_range.2 B)) m (mem_range.2 A);rw[dT J,dT E]at this;exact of_decide_eq_true this
def gr_of(h:(decide (n<=3)&&decide (fr.length<=3)&&decide (to.length=fr.length)&&(range fr.length).all λk=>decide (0<=fr.getD k 0)&&decide (fr.getD k 0<to.getD k 0)&&decide (to.getD k 0<(n:Int)))=true):Gr n fr to:=by
 simp only[bAE,decide_eq_true_eq]at h;obtain⟨⟨⟨E,B⟩,A⟩,h4⟩:=h;refine⟨E,B,A,λk u=>?_⟩
 have:=aET.1 h4 k (mem_range.2 u);simp only[bAE,decide_eq_true_eq]at this;exact⟨(fr.getD k 0).toNat,(to.getD k 0).toNat,by omega,by omega,by omega,by omega⟩
def CA{z:Int}{r:Int×Src}(h:Num z r)(A:z=(n:Int))(B:0<n):∃k:Nat,r.1=(k:Int)/\k<n:=by
 obtain⟨⟨E,u,_⟩,_⟩:=h;have:=u (by omega)
 exact⟨r.1.toNat,by omega,by omega⟩
def Fam(r:Ca×Src):Prop:=(∃n m,n<=4/\m<=21/\Sp r.1 n m)/\OkS r.2
theorem famP(u:n<=4)(h:Tr n t)(B:OkS s):Tot Fam (Option.bind (G48 t) λv=>some (v,s)):=
 Ad (p48 (by omega) h) λv ⟨m,E,A⟩=>Aa ⟨⟨n,m,u,by have:=Nat.mul_le_mul u u;omega,A⟩,B⟩
theorem famW(h:Gr n fr to)(B:0<n)(A:OkS s):Tot Fam (Option.bind (G168 ((n:Int),(fr,to))) λv=>some (v,s)):=
 Ad (p168 h B) λv ⟨m,E,u⟩=>Aa ⟨⟨n,m,by have:=h.n3;omega,E,u⟩,A⟩
theorem oneP:Tot (λc=>Sp c 1 1) (G48 [[1]]):=by
 obtain⟨c,A,m,E,u⟩:=p48 (n:=1) (by decide) (AaG (z:=1) (t:=[[1]]) (by decide))
 obtain⟨f,B,_⟩:=u.ix 0 (by decide)
 have:m=1:=by omega
 subst this;exact⟨c,A,u⟩
theorem p164(h:OkS s):Tot Fam (G164 () s):=by
 delta G164 mA mB lw k3 k5 lt q4 q9 wz sc nx bk cp
 refine Ad (p38 h) λv E=>?_
 have A:=E.2;refine An (λ_=>Ad (p38 A) λJ u=>?_) λ_=>An (λ_=>Ab trivial (famP (n:=2) (by decide) (AaG (by decide)) A)) λ_=>An (λ_=>Ab trivial (famP (n:=3) (by decide) (AaG (by decide)) A)) λ_=>An (λ_=>famW (n:=2) (gr_of (by decide)) (by decide) A) λ_=>An (λ_=>?_) λ_=>An (λ_=>Ad (p38 A) λJ u=>?_) λ_=>An (λ_=>famW (n:=3) (gr_of (by decide)) (by decide) A) λ_=>An (λ_=>?_) λ_=>An (λ_=>?_) λ_=>An (λ_=>?_) λ_=>An (λ_=>Ad (p38 A) λJ u=>?_) λ_=>Ad (p38 A) λJ u=>Ad (p38 u.2) λv2 B=>?_
 .obtain⟨k,Y,hk5⟩:=CA (n:=5) u rfl (by decide)
  rw[Y];exact Ad (p37 (by omega) u.2) λv2 B=>famP (by omega) B.1 B.2
 .exact Ad (p36 A) λJ ⟨⟨m,hm,u⟩,B⟩=>Bh (p54 u (by omega)) (Aa ⟨⟨1,m,by decide,by omega,u⟩,B⟩)
 .obtain⟨k,Y,hk3⟩:=CA (n:=3) u rfl (by decide)
  have w:wrap .i64 (1+J.1)=((k+1:Nat):Int):=by rw[Y,Ah (by omega) (by omega)];omega
  rw[w];refine Au (n:=k+1) (λi v=>v.1=(i:Int)/\v.2.length=i/\∀a,a<i->(v.2.getD a []).length=k+1/\∀b,b<k+1->(v.2.getD a []).getD b 0=1) ⟨rfl,rfl,λa ha=>absurd ha (not_lt_zero _)⟩ (λi O v E=>?_) λv E=>?_
  .obtain⟨_,t⟩:=v
   obtain⟨(rfl:_=(i:Int)),(hl:t.length=i),ht⟩:=E;refine A5 (ltD O) (Au (n:=k+1) (λj v=>v.1=(j:Int)/\v.2.length=j/\∀b,b<j->v.2.getD b 0=1) ⟨rfl,rfl,λa ha=>absurd ha (not_lt_zero _)⟩ (λj W v E=>?_) λv E=>?_)
   .obtain⟨_,row⟩:=v
    obtain⟨(rfl:_=(j:Int)),(U:row.length=j),hr⟩:=E;exact A5 (ltD W) (Ab (by show row.length+1<=_;omega) (Aa ⟨wrD W (by omega),A6 U,Bt (P:=λ_ (q:Int)=>q=1) U hr rfl⟩))
   .obtain⟨_,row⟩:=v
    obtain⟨(rfl:_=((k+1:Nat):Int)),(U:row.length=k+1),hr⟩:=E;exact A8 ltf (Aa (Ab rfl (Ab trivial (Ab (by show t.length+1<=_;omega) (Aa ⟨wrD O (by omega),A6 hl,Bt (P:=λ_ (r:LI)=>r.length=k+1/\∀b,b<k+1->r.getD b 0=1) hl ht ⟨U,hr⟩⟩)))))
  .obtain⟨_,t⟩:=v
   obtain⟨(rfl:_=((k+1:Nat):Int)),(hl:t.length=k+1),ht⟩:=E;refine A8 ltf (Aa (Ab rfl (famP (n:=k+1) (by omega) ⟨⟨hl,λi O=>(ht i O).1⟩,λi O=>(ht i O).2 i O,λi j m O W hm _ _=>(ht i O).2 j W⟩ u.2)))
 .exact Ad p158 λJ u=>Aa ⟨⟨2,5,by decide,by decide,u⟩,A⟩
 .exact Ad (p36 A) λJ ⟨⟨m,hm,u⟩,B⟩=>Bh (p54 u (by omega)) (Ab trivial (Ad oneP λv3 h3=>Ad (p169 u h3 (by decide) (by omega) (by decide) (by decide)) λv4 Z=>Ad (p142 Z (by omega) (by omega)) λv5 h5=>Aa ⟨⟨_,_,by omega,by omega,h5⟩,B⟩))
 .exact Ad (p36 A) λJ ⟨⟨m,hm,u⟩,B⟩=>Bh (p54 u (by omega)) (Ab trivial (Ad oneP λv3 h3=>Ad (p169 u h3 (by decide) (by omega) (by decide) (by decide)) λv4 Z=>Aa ⟨⟨_,_,by omega,by omega,Z⟩,B⟩))
 .obtain⟨k,Y,hk2⟩:=CA (n:=2) u rfl (by decide)
  have w:wrap .i64 (2+J.1)=((k+2:Nat):Int):=by rw[Y,Ah (by omega) (by omega)];omega
  rw[w];exact Ad (p37 (by omega) u.2) λv2 B=>famP (by omega) B.1 B.2
 .obtain⟨k,Y,hk2⟩:=CA (n:=2) u rfl (by decide)
  obtain⟨e,he,he4⟩:=CA (n:=4) B rfl (by decide)
  have w:wrap .i64 (2+J.1)=((k+2:Nat):Int):=by rw[Y,Ah (by omega) (by omega)];omega
  have w1:wrap .i64 (((k+2:Nat):Int)-1)=((k+1:Nat):Int):=by rw[Ah (by omega) (by omega)];omega
  rw[w,w1,he];refine Au (n:=e) (λi v=>v.1=((e-i:Nat):Int)/\OkS (v.2.1,(v.2.2.1,v.2.2.2.1))/\v.2.2.2.2.2.2.2.2.2.1.length=i/\v.2.2.2.2.2.2.2.2.2.2.length=i/\∀j,j<i->∃x y:Nat,v.2.2.2.2.2.2.2.2.2.1.getD j 0=(x:Int)/\v.2.2.2.2.2.2.2.2.2.2.getD j 0=(y:Int)/\x<y/\y<k+2) ⟨rfl,B.2,rfl,rfl,λj W=>absurd W (not_lt_zero _)⟩ (λi O v E=>?_) λv E=>?_
  .obtain⟨_,s1,s2,s3,o1,o2,o3,o4,o5,fr,to⟩:=v
   obtain⟨(rfl:_=((e-i:Nat):Int)),(A:OkS (s1,(s2,s3))),(l1:fr.length=i),(l2:to.length=i),hG⟩:=E;refine A5 (dT (by show(0:Int)<((e-i:Nat):Int);omega)) (Ad (p38 A) λv4 Z=>Ab (by show fr.length+1<=_;omega) ?_)
   obtain⟨x,hx,hx1⟩:=CA (n:=k+1) Z rfl (by omega)
   have w2:wrap .i64 (((k+1:Nat):Int)-v4.1)=((k+1-x:Nat):Int):=by rw[hx,Ah (by omega) (by omega)];omega
   rw[w2];refine Ad (p38 Z.2) λv5 h5=>Ab (by show to.length+1<=_;omega) (Aa ⟨?_,h5.2,A6 l1,A6 l2,λj W=>?_⟩)
   .show wrap .i64 (((e-i:Nat):Int)-1)=((e-(i+1):Nat):Int)
    rw[Ah (by omega) (by omega)];omega
   .show ∃x y:Nat,(fr++[v4.1]).getD j 0=(x:Int)/\(to++[wrap .i64 (wrap .i64 (v4.1+1)+v5.1)]).getD j 0=(y:Int)/\x<y/\y<k+2
    by_cases hji:j=i
    .obtain⟨y,hy,hy1⟩:=CA (n:=k+1-x) h5 rfl (by omega)
     refine⟨x,x+1+y,?_,?_,by omega,by omega⟩
     .rw[hji,<-l1,Dt,hx]
     .rw[hji,<-l2,Dt,hx,hy,Ah (n:=(x:Int)+1) (by omega) (by omega),Ah (by omega) (by omega)];omega
    .rw[AE (by omega),AE (by omega)]
     exact hG j (by omega)
  .obtain⟨_,s1,s2,s3,o1,o2,o3,o4,o5,fr,to⟩:=v
   obtain⟨(rfl:_=((e-e:Nat):Int)),(A:OkS (s1,(s2,s3))),(l1:fr.length=e),(l2:to.length=e),hG⟩:=E;exact A8 (dF (by show ¬ (0:Int)<((e-e:Nat):Int);omega)) (Aa (Ab rfl (famW (n:=k+2) ⟨by omega,by omega,by omega,λj W=>hG j (by omega)⟩ (by omega) A)))
def Som(o a:Int)(r:Ca×Src):Prop:=(∃n m:Nat,(n:Int)<=o/\(m:Int)<=a/\n<=8/\m<=40/\Sp r.1 n m)/\OkS r.2
def endS{o a:Int}(h:Sp c n m)(E:OkS s){I:Int×LI×Int×Int×Ca->Prop}{g:Nat->Int×LI×Int×Int×Ca->Option (Ca×Src)}{Y:Int×LI×Int×Int×Ca}(O:I Y):
  Tot (LoT I g (Som o a)) (Option.bind (bif decide (c.1<=o)then some (decide ((c.2.1.length:Int)<=a))else some false) λB=>Option.bind (bif B then(G49 c).bind λu=>some u else some false) λu=>bif u then Ck (some (c,s))else some (LO.next Y)):=by
 refine Bh (v:=decide (c.1<=o)&&decide ((c.2.1.length:Int)<=a)) (by cases decide (c.1<=o)<;>rfl) (Ad (P:=λb:Bool=>b=true->(decide (c.1<=o)&&decide ((c.2.1.length:Int)<=a))=true/\(decide (c.1<=8)&&decide ((c.2.1.length:Int)<=40))=true) (An (λe=>Bh (p49 c) (Aa λh=>⟨e,h⟩)) λ_=>Aa λh=>by cases h) λb J=>An (λe=>H6 (Aa ⟨?_,E⟩)) λ_=>Aa O)
 obtain⟨A,U⟩:=J e;simp only[bAE,decide_eq_true_eq,h.ob,h.lf]at A U;exact⟨n,m,A.1,A.2,by omega,by omega,h⟩
theorem p154(ho:1<=o)(ha:1<=a)(h:OkS s):Tot (Som o a) (G154 (o,a) s):=by
 delta G154 ln lw an lt q4 sc nx bk
 refine Au (n:=12) (λi v=>v.1=(i:Int)/\OkS (v.2.1,(v.2.2.1,v.2.2.2.1))) ⟨rfl,h⟩ (λi hi v hv=>?_) λv hv=>?_
 .obtain⟨_,s1,Z,Y,d⟩:=v
  obtain⟨(rfl:_=(i:Int)),(U:OkS (s1,(Z,Y)))⟩:=hv;have W:∀{s':Src},OkS s'->((wrap .i64 ((i:Int)+1),(s'.1,(s'.2.1,(s'.2.2,d)))):Int×LI×Int×Int×Ca).1=((i+1:Nat):Int)/\OkS (s'.1,(s'.2.1,s'.2.2)):=λh=>⟨wrD hi (by omega),h⟩
  refine A5 (dT (by show(i:Int)<12;omega)) (Ad (p164 U) λv1 ⟨⟨n,m,hn,hm,hc⟩,U⟩=>Ad (p38 U) λv2 E=>An (λ_=>?_) λ_=>?_)
  .refine Ad (p164 E.2) λv3 ⟨⟨n3,m3,hn3,hm3,hc3⟩,hs3⟩=>Ad (p165 hc hc3 (by omega) (by omega) (by omega) (by omega)) λv4 u=>Ad (p38 hs3) λv5 A=>An (λ_=>?_) λ_=>endS u A.2 (W A.2)
   exact Ad (p164 A.2) λv6 ⟨⟨n6,m6,hn6,hm6,hc6⟩,J⟩=>Ad (p166 u hc6 (by omega) (by omega) (by omega) (by omega)) λv7 hc7=>endS hc7 J (W J)
  .refine Ad (p38 E.2) λv3 B=>An (λ_=>?_) λ_=>endS hc B.2 (W B.2)
   exact Ad (p164 B.2) λv4 ⟨⟨n4,m4,hn4,hm4,u⟩,O⟩=>Ad (p166 hc u (by omega) (by omega) (by omega) (by omega)) λv5 hc5=>endS hc5 O (W O)
 .obtain⟨_,s1,Z,Y,d⟩:=v
  obtain⟨(rfl:_=((12:Nat):Int)),(U:OkS (s1,(Z,Y)))⟩:=hv;exact A8 (show decide (((12:Nat):Int)<12)=false by decide) (Aa (Ab rfl (Ab trivial (Ad oneP λv1 h1=>Aa ⟨⟨1,1,ho,ha,by decide,by decide,h1⟩,U⟩))))
def okD(c:Ca):Prop:=c.2.1.length<=2000/\c.2.2.1.length<=2000/\c.2.2.2.1.length<=2000/\c.2.2.2.2.length<=2000/\∀y∈c.2.2.2.2,y.length<=2000
def Sp.okD{c:Ca}{n m:Nat}(h:Sp c n m)(B:n<=1000)(E:m<=1000):okD c:=by
 refine⟨by rw[h.lf];omega,by rw[h.lt];omega,by rw[h.li];omega,by rw[h.lc];omega,λy A=>?_⟩
 obtain⟨k,u,rfl⟩:=Lo [] A;rw[h.lr k (by rw[h.lc]at u;exact u)];omega
def rowsD{k:Nat}{r:LI}(h:∀y∈t,y.length<=2000)(A:r.length<=2000):∀y∈t.set k r,y.length<=2000:=λy u=>by
 rcases List.mem_or_eq_of_mem_set u with h1|rfl
 .exact h y h1
 .exact A
def p153(h:Sp c n m)(hn:n<=1000)(hm:m<=1000)(hs:OkS s):Tot (λr=>okD r.1/\OkS r.2) (G153 c s):=by
 have hok:=h.okD hn hm;obtain⟨U,O,J,E,B⟩:=hok
 delta G153 mA ln k3 k4 lt gd li q4 wz sc cp
 refine Bh (Acq h hn hm) (Ad (p38 hs) λv1 hv1=>Ad (p38 hv1.2) λv2 hv2=>?_)
 have u:=hv2.2;have e1:=h.lf;have e2:=h.lt;have e3:=h.li;have e4:=h.lc;have f1:0<m->∃k:Nat,v1.1=(k:Int)/\k<m:=λhm=>CA hv1 (by rw[e1]) hm
 have row:∀{Y:Option (Ca×Src)},Y=(bif decide (0<(c.2.1.length:Int))then if 0<=v1.1/\v1.1<(c.2.2.2.2.length:Int)then(G38 (c.2.1.length:Int) v2.2).bind λZ=>(G38 (i64.wrap ((c.2.1.length:Int)+1)) Z.2).bind λv4=>if 0<=Z.1/\Z.1<((c.2.2.2.2.getD v1.1.toNat []).length:Int)then some ((c.1,(c.2.1,(c.2.2.1,(c.2.2.2.1,c.2.2.2.2.set v1.1.toNat ((c.2.2.2.2.getD v1.1.toNat []).set Z.1.toNat (i64.wrap (v4.1-1))))))),v4.2)else none else none else some (c,v2.2))->Tot (λr=>okD r.1/\OkS r.2) Y:=by
  rintro Y rfl
  refine An (λe=>?_) λ_=>Aa ⟨⟨U,O,J,E,B⟩,u⟩
  have e:(0:Int)<(c.2.1.length:Int):=B3 e;obtain⟨k,hk,W⟩:=f1 (by omega)
  rw[hk];have hrow:(c.2.2.2.2.getD k []).length=m:=h.lr k W;refine Ab (by omega) (Ad (p38 u) λZ A=>Ad (p38 A.2) λv4 hv4=>?_)
  obtain⟨g,hg,hgm⟩:=CA (n:=m) A (by rw[e1]) (by omega)
  rw[hg];refine Ab (by show(0:Int)<=(g:Int)/\(g:Int)<((c.2.2.2.2.getD k []).length:Int);omega) (Aa ⟨⟨U,O,J,by show(c.2.2.2.2.set _ _).length<=_;rw[length_set];exact E,rowsD B ?_⟩,hv4.2⟩)
  show((c.2.2.2.2.getD k []).set _ _).length<=_;rw[length_set];omega
 refine An (λ_=>Ad (p127 u (by show 0<3;omega)) λZ A=>Aa ⟨⟨U,O,J,E,B⟩,A⟩) λ_=>An (λ_=>Ab (by show c.2.1.length+1<=_;omega) (Aa ⟨⟨?_,O,J,E,B⟩,u⟩)) λ_=>An (λ_=>An (λe=>Ad (p38 u) λZ A=>Ab ⟨by decide,B3 e⟩ (Aa ⟨⟨U,O,?_,E,B⟩,A.2⟩)) λ_=>Aa ⟨⟨U,O,J,E,B⟩,u⟩) λ_=>An (λe=>A5 e (row rfl)) λ_=>An (λe=>A5 e (row rfl)) λ_=>An (λe=>row rfl) λ_=>An (λ_=>An (λe=>?_) λ_=>Aa ⟨⟨U,O,J,E,B⟩,u⟩) λ_=>An (λe=>?_) λ_=>Aa ⟨⟨U,O,J,E,B⟩,u⟩
 .show(c.2.1++[(0:Int)]).length<=_
  rw[List.length_append,e1];show m+1<=_;omega
 .show(c.2.2.2.1.set _ _).length<=_
  rw[length_set];exact J
 .have e:(0:Int)<(c.2.1.length:Int):=B3 e
  obtain⟨k,hk,W⟩:=f1 (by omega)
  rw[hk];exact Ad (p38 u) λZ A=>Ab (by show(0:Int)<=(k:Int)/\(k:Int)<(c.2.2.1.length:Int);omega) (Aa ⟨⟨U,by show(c.2.2.1.set _ _).length<=_;rw[length_set];exact O,J,E,B⟩,A.2⟩)
 .have e:(0:Int)<(c.2.1.length:Int):=B3 e
  obtain⟨k,hk,W⟩:=f1 (by omega)
  rw[hk];have hrow:(c.2.2.2.2.getD k []).length=m:=h.lr k W;have ik:(0:Int)<=(k:Int)/\(k:Int)<(c.2.2.2.2.length:Int):=by omega
  refine Ab ik (Ab ⟨by decide,by show(1:Int)<=((c.2.2.2.2.getD k []).length:Int);omega,Int.le_refl _⟩ (Ab ik (Ab ⟨⟨le_refl _,le_refl _⟩,⟨le_refl _,le_refl _⟩,trivial⟩ (Aa ⟨⟨U,O,J,by show(c.2.2.2.2.set _ _).length<=_;rw[length_set];exact E,rowsD B ?_⟩,u⟩))))
  show((range _).map _).length<=_;rw[List.length_map,List.length_range];show((c.2.2.2.2.getD k []).length:Int).toNat-1<=_;omega
theorem p125(J:1<=o)(O:1<=a)(h:OkS s):Tot (λr=>okD r.1/\OkS r.2) (G125 (o,a) s):=by
 unfold G125;exact Ad (p154 J O h) λv0 ⟨⟨n,m,_,_,Y,Z,B⟩,E⟩=>Ad (p38 E) λW u=>An (λ_=>Ad (p153 B (by omega) (by omega) u.2) λU A=>Aa A) λ_=>Aa ⟨B.okD (by omega) (by omega),u.2⟩
end
end Go.Ve.D

