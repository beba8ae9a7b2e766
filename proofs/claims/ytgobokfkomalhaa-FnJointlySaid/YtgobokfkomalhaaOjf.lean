/- Subobjects, quotients; the law. -/
import Derived.Test.YtgobokfkomalhaaOjd
namespace Go.Ve.D
open Go Go.Ve
noncomputable section
variable{c:Cat}{m n x:Int}{M:LI}{L out:LL}{a b f i:Nat}
theorem p38(h:Sh c)(ha:a<ar c)(hb:b<ar c):G38 (c,((a:Int),(b:Int)))=some ((Dw c (tT c b) (tT c a)).filter λd=>decide (T c b d.toNat=(a:Int))):=by
 have hl:=Ds h;have ht:=Jl h;have hh:(Dw c (tT c b) (tT c a)).length<=1048576:=by have:=Mb (c:=c) (x:=tT c b) (y:=tT c a);omega
 unfold G38;refine Dd (by show(0:Int)<=(b:Int)/\(b:Int)<(c.2.2.1.length:Int);omega) (Dd (by show(0:Int)<=(a:Int)/\(a:Int)<(c.2.2.1.length:Int);omega) (Ai (show _=some (Dw c (tT c b) (tT c a))from p58 (by show ar c<=_;omega) ht _ _) ?_))
 refine gatF (p:=λd=>decide (T c b d.toNat=(a:Int))) (id:=0) hh (λi hi acc ha=>?_) (λacc=>CN ltn rfl) rfl
 exact HU (ltd hi) (Dd (Ad hi) (Ai (p60 h (Ad hb) (Wj hi)) (VK ha (wr hi hh))))
theorem p34(h:Sh c)(ha:a<ar c)(hb:b<ar c):G34 (c,((a:Int),(b:Int)))=some ((Dw c (fT c a) (fT c b)).filter λd=>decide (T c d.toNat b=(a:Int))):=by
 have hl:=Ds h;have ht:=Jl h;have hh:(Dw c (fT c a) (fT c b)).length<=1048576:=by have:=Mb (c:=c) (x:=fT c a) (y:=fT c b);omega
 unfold G34;refine Dd (Ad ha) (Dd (Ad hb) (Ai (show _=some (Dw c (fT c a) (fT c b))from p58 (by show ar c<=_;omega) ht _ _) ?_))
 refine gatF (p:=λd=>decide (T c d.toNat b=(a:Int))) (id:=0) hh (λi hi acc ha=>?_) (λacc=>CN ltn rfl) rfl
 exact HU (ltd hi) (Dd (Ad hi) (Ai (p60 h (Wj hi) (Ad hb)) (VK ha (wr hi hh))))
def blw(c:Cat)(a b:Nat):Bool:=decide (0<(((Dw c (tT c b) (tT c a)).filter λd=>decide (T c b d.toNat=(a:Int))).length:Int))
theorem p37(h:Sh c)(ha:a<ar c)(hb:b<ar c):G37 ((a:Int),((b:Int),c))=some (blw c a b):=Ai (p38 h ha hb) rfl
theorem p33(hc:Bj c=true)(ha:a<ar c)(hb:b<ar c):G33 ((a:Int),((b:Int),opO c))=some (blw c a b):=by
 have h:=Bb hc;have har:=VV h;refine Ai (p34 (Bb (NC hc)) (by rw [har];exact ha) (by rw [har];exact hb)) ?_
 show some (decide (0<(((Dw (opO c) (tT c a) (tT c b)).filter λd=>decide (T (opO c) d.toNat b=(a:Int))).length:Int)))=_
 unfold blw;rw [YS h]
 have e:((Dw (opO c) (tT c a) (tT c b)).filter λd=>decide (T (opO c) d.toNat b=(a:Int)))=((Dw (opO c) (tT c a) (tT c b)).filter λd=>decide (T c b d.toNat=(a:Int))):=by
  refine List.filter_congr λd hd=>?_
  obtain⟨f,hf,rfl,_⟩:=Hh.1 hd;rw [har]at hf;rw [tNC,XG h hf hb]
 rw [e]
theorem r_out{a b:Int}(h: ¬ ((0<=a/\a<(c.2.2.1.length:Int))/\(0<=b/\b<(c.2.2.1.length:Int)))):G33 (a,(b,opO c))=none/\G37 (a,(b,c))=none:=by
 have e1:G34 (opO c,(a,b))=none:=by
  unfold G34;show(if(0<=a/\a<(c.2.2.1.length:Int))then(if(0<=b/\b<(c.2.2.1.length:Int))then _ else none)else none)=none
  by_cases h1:0<=a/\a<(c.2.2.1.length:Int)
  ·rw [if_pos h1,if_neg λh2=>h ⟨h1,h2⟩]
  ·rw [if_neg h1]
 have e2:G38 (c,(a,b))=none:=by
  unfold G38;show(if(0<=b/\b<(c.2.2.1.length:Int))then(if(0<=a/\a<(c.2.2.1.length:Int))then _ else none)else none)=none
  by_cases h1:0<=b/\b<(c.2.2.1.length:Int)
  ·rw [if_pos h1,if_neg λh2=>h ⟨h2,h1⟩]
  ·rw [if_neg h1]
 refine⟨?_,?_⟩
 ·unfold G33
  show Option.bind (G34 (opO c,(a,b))) _=none;rw [e1];rfl
 ·unfold G37
  show Option.bind (G38 (c,(a,b))) _=none;rw [e2];rfl
theorem r_eq(hc:Bj c=true):(λa b=>G33 (a,(b,opO c)))=λa b=>G37 (a,(b,c)):=by
 have h:=Bb hc;have ht:c.2.2.1.length=ar c:=Jl h
 funext a b
 by_cases hr:(0<=a/\a<(c.2.2.1.length:Int))/\(0<=b/\b<(c.2.2.1.length:Int))
 ·obtain⟨⟨a1,a2⟩,b1,b2⟩:=hr
  rw [show a=((a.toNat:Nat):Int) by omega,show b=((b.toNat:Nat):Int) by omega,p33 hc (by omega) (by omega),p37 h (by omega) (by omega)]
 ·rw [(r_out hr).1,(r_out hr).2]
def clsH(M:LI)(r:Int->Int->Option Bool):Option LL:=(Option.bind (Aq (fun(v0:Nat×LL)=>if v0.1=0 then(Aq (fun(v1:Int×LL)=>bif decide (v1.1<M.length)then if 0<=v1.1/\v1.1<M.length then(Aq (fun(v2:Int×LL)=>bif decide (v2.1<v1.2.length)then if 0<=v2.1/\v2.1<v2.2.length then if(0:Int)<=(0:Int)/\0<((v2.2.getD v2.1.toNat []).length:Int)then(r (M.getD v1.1.toNat 0) ((v2.2.getD v2.1.toNat []).getD (0:Int).toNat 0)).bind λv3=>Option.bind (bif v3 then if(0:Int)<=(0:Int)/\0<((v2.2.getD v2.1.toNat []).length:Int)then(r ((v2.2.getD v2.1.toNat []).getD (0:Int).toNat 0) (M.getD v1.1.toNat 0)).bind λv4=>some v4 else none else some false) (fun(v4:Bool)=>bif v4 then if(((0<=v2.1)/\(v2.1<v2.2.length))/\(((v2.1.toNat<=v2.1.toNat)/\(v2.1.toNat<=v2.1.toNat))/\True))/\((v2.2.getD v2.1.toNat []).length+((M.getD v1.1.toNat 0):: []).length)<=17592186044416 then some (LO.brk 1 (v2.1,v2.2.set v2.1.toNat ((v2.2.getD v2.1.toNat [])++((M.getD v1.1.toNat 0):: []))))else none else some (LO.next (IntKind.wrap .i64 (v2.1+1),v2.2)))else none else none else some (LO.brk 2 v2)) (0,v1.2)).bind (LO.fin λi2 v2=>if i2=2 then if True then if(v2.2.length+(((M.getD v1.1.toNat 0):: []):: []).length)<=5864062014805 then some (LO.next (IntKind.wrap .i64 (v1.1+1),v2.2++(((M.getD v1.1.toNat 0):: []):: [])))else none else none else if i2=1 then some (LO.next (IntKind.wrap .i64 (v1.1+1),v2.2))else none)else none else some (LO.brk 0 v1)) (0,v0.2)).bind (LO.fin λi1 v1=>if i1=0 then B4 (some v1.2)else none)else none) (0,[])) LO.fin1)
theorem h32(M:LI)(c:Cat):G10032 (M,c)=clsH M λa b=>G33 (a,(b,c)):=rfl
theorem h32'(M:LI)(c:Cat):G20032 (M,c)=clsH M λa b=>G37 (a,(b,c)):=rfl
theorem Zk{α:Type}{Q:α->Prop}{p:Prop} [Decidable p]{x y:Option α}(h: ¬p)(hy:Tot Q y):Tot Q (if p then x else y):=by rw [if_neg h];exact hy
theorem UN{X R:Type}{F:Nat×X->Option (LO (Nat×X) R)}{x:Nat×X}{Q:R->Prop}(h:Tot (λo=>∃r,o= .ret r/\Q r) (F x)):Tot Q (Option.bind (Aq F x) LO.fin1):=by
 obtain⟨o,ho,r,rfl,hr⟩:=h;rw [BK,ho];exact⟨r,rfl,hr⟩
def ClI(M:LI)(i:Nat)(out:LL):Prop:=out.length<=i/\∀j,j<out.length->0<(out.getD j []).length/\(out.getD j []).length<=i/\(out.getD j []).getD 0 0∈M
theorem ClI.mono(h:ClI M i out):ClI M (i+1) out:=⟨by have:=h.1;omega,λj hj=>by obtain⟨a,b,d⟩:=h.2 j hj;exact⟨a,by omega,d⟩⟩
theorem ClI.push(h:ClI M i out)(hm:m∈M):ClI M (i+1) (out++ [[m]]):=by
 refine⟨by rw [List.length_append];have:=h.1;show out.length+1<=_;omega,λj hj=>?_⟩
 rw [List.length_append]at hj;have hj:j<out.length+1:=hj;by_cases e:j<out.length
 ·rw [A7 e]
  obtain⟨a,b,d⟩:=h.2 j e;exact⟨a,by omega,d⟩
 ·obtain rfl:j=out.length:=by omega
  have e:(out++ [[m]]).getD out.length []= [m]:=by simp
  rw [e];exact⟨Nat.one_pos,by show 1<=i+1;omega,hm⟩
theorem ClI.add{k:Nat}(h:ClI M i out)(hk:k<out.length):ClI M (i+1) (out.set k (out.getD k []++ [m])):=by
 refine⟨by rw [List.length_set];have:=h.1;omega,λj hj=>?_⟩
 rw [List.length_set]at hj;obtain⟨a,b,d⟩:=h.2 j hj;by_cases e:j=k
 ·subst e
  rw [DV hj,List.length_append];refine⟨by omega,by show(out.getD j []).length+1<=_;omega,?_⟩
  rw [A7 a];exact d
 ·have e:(out.set k (out.getD k []++ [m])).getD j []=out.getD j []:=by simp only [gDE];rw [List.getElem?_set_ne (Ne.symm e)]
  rw [e];exact⟨a,by omega,d⟩
theorem cls_t{r:Int->Int->Option Bool}(hM:M.length<=1048576)(hr: ∀a∈M,∀b∈M,∃v,r a b=some v):Tot (λL:LL=>L.length<=M.length/\∀j,j<L.length->(L.getD j []).length<=M.length) (clsH M r):=by
 unfold clsH;refine UN (Ab rfl (AC (n:=M.length) (λi v=>v.1=(i:Int)/\ClI M i v.2) ⟨rfl,Nat.le_refl _,λj hj=>absurd hj (Nat.not_lt_zero j)⟩ (λi hi v hv=>?_) λv hv=>?_))
 ·obtain⟨v1,out⟩:=v
  obtain⟨(rfl:v1=(i:Int)),(ho:ClI M i out)⟩:=hv;have hm:M.getD i 0∈M:=He 0 hi;refine Bk (ltd hi) (Ab (Ad hi) ?_);refine AC (n:=out.length) (λj v=>v.1=(j:Int)/\v.2=out) ⟨rfl,rfl⟩ (λj hj v hv=>?_) λv hv=>?_
  ·obtain⟨v1,o'⟩:=v
   obtain⟨(rfl:v1=(j:Int)),(rfl:o'=out)⟩:=hv;obtain⟨g1,g2,g3⟩:=ho.2 j hj;have i0:(0:Int)<=(0:Int)/\(0:Int)<(((o'.getD j []).length:Nat):Int):=by omega
   obtain⟨w1,hw1⟩:=hr _ hm _ g3;obtain⟨w2,hw2⟩:=hr _ g3 _ hm;refine Bk (ltd hj) (Ab (Ad hj) (Ab i0 (AL hw1 (Ah (P:=λ_=>True) (Ap (λ_=>Ab i0 (AL hw2 (Aa trivial))) λ_=>Aa trivial) λv4 _=>Ap (λ_=>?_) λ_=>Aa ⟨wr hj (by have:=ho.1;omega),rfl⟩))))
   refine Ab ⟨⟨Ad hj,⟨Nat.le_refl _,Nat.le_refl _⟩,trivial⟩,by show(o'.getD j []).length+1<=_;omega⟩ (Aa ?_)
   exact Zk (by decide) (Ab rfl (Aa ⟨wr hi hM,ho.add hj⟩))
  ·obtain⟨v1,o'⟩:=v
   obtain⟨(h1:v1=(out.length:Int)),(h2:o'=out)⟩:=hv;subst h1 h2;refine A8 ltn (Aa (Ab rfl (Ab trivial (Ab (by show o'.length+1<=_;have:=ho.1;omega) (Aa ⟨wr hi hM,ho.push hm⟩)))))
 ·obtain⟨v1,out⟩:=v
  obtain⟨(h1:v1=(M.length:Int)),(ho:ClI M M.length out)⟩:=hv;subst h1;exact A8 ltn (Aa (Ab rfl (show Tot _ (some (LO.ret out))from Aa ⟨_,rfl,ho.1,λj hj=>(ho.2 j hj).2.1⟩)))
theorem wi1{a:Int}(h:0<=a/\a<n):wi n [a]=true:=by
 unfold wi;rw [List.all_cons,XY h.1 h.2];rfl
theorem p29(h:okC c)(hc:Bj c=true)(hx:0<=x/\x<c.1):G29 (c,[x])=some 0:=by
 have h0:=(Bb hc).hd.1;unfold G29;refine Ai (p27 h) ?_;rw [hc];refine Ai (p55 (n:=c.1) ⟨h0.1,by omega⟩ (by show 1<=_;omega)) ?_
 rw [wi1 hx];rfl
def QY(c:Cat)(x:Int):LI:=((List.range (ar c)).filter λf=>decide (fT c f=x)).map fun(f:Nat)=>(f:Int)
theorem p35(h:Sh c)(x:Int):G35 (c,x)=some (QY c x):=by
 have hl:=Ds h;unfold G35;refine gatN (q:=λf=>decide (fT c f=x)) (id:=0) (by omega:ar c<=1048576) (λi hi acc ha=>?_) (λacc=>CN ltn rfl) rfl
 exact HU (ltd hi) (Dd (Ad hi) (VK ha (wr hi (by omega))))
theorem LU{d:Int}(h:d∈QY c x): ∃f:Nat,d=(f:Int)/\f<ar c:=by
 unfold QY at h;obtain⟨f,hf,rfl⟩:=List.mem_map.1 h;exact⟨f,rfl,List.mem_range.1 (List.mem_filter.1 hf).1⟩
theorem OI:(QY c x).length<=ar c:=by
 unfold QY;rw [List.length_map];exact Nat.le_trans (List.length_filter_le ..) (by rw [List.length_range];exact Nat.le_refl _)
def epi(c:Cat)(f:Int):Bool:=jmB (opO c) (tT c f.toNat) [f]
theorem p31(hc:Bj c=true)(hf:f<ar c):G31 (c,(f:Int))=some (jmB c (fT c f) [(f:Int)]):=by
 unfold G31;exact Dd (Ad hf) (Ai (Pg (p23 hc (by show 1<=_;omega) (wi1 (Ad hf)))) rfl)
theorem p36(hc:Bj c=true)(hf:f<ar c):G36 (c,(f:Int))=some (epi c (f:Int)):=by
 have ht:c.2.2.1.length=ar c:=Jl (Bb hc);have hi:(0:Int)<=(f:Int)/\(f:Int)<(c.2.2.1.length:Int):=by rw [ht];exact Ad hf
 unfold G36;exact Dd hi (Ai (Pg (p67 hc (by show 1<=_;omega) (wi1 (Ad hf)))) rfl)
def memL(c:Cat)(x:Int):LI:=(QY c x).filter (epi c)
def quoO(c:Cat)(x:Int):Option LL:=clsH (memL c x) λa b=>G37 (a,(b,c))
theorem quo_t(hc:Bj c=true):Tot (λL:LL=>L.length<=40/\∀j,j<L.length->(L.getD j []).length<=40) (quoO c x):=by
 have h:=Bb hc;have hl:=Ds h;have hm:(memL c x).length<=40:=Nat.le_trans (List.length_filter_le ..) (Nat.le_trans OI hl);refine Pf (cls_t (by omega) λa ha b hb=>?_) λL hL=>⟨by have:=hL.1;omega,λj hj=>by have:=hL.2 j hj;omega⟩
 obtain⟨f,rfl,hf⟩:=LU (List.mem_filter.1 ha).1;obtain⟨g,rfl,hg⟩:=LU (List.mem_filter.1 hb).1;exact⟨_,p37 h hf hg⟩
theorem p11(hok:okC c)(hc:Bj c=true)(hx:0<=x/\x<c.1)(hL:quoO c x=some L):G11 (c,x)=some (L,0):=by
 have h:=Bb hc;have hl:=Ds h;have ho:(QY c x).length<=1048576:=by have:=OI (c:=c) (x:=x);omega
 unfold G11;refine Ai (p29 hok hc hx) (CN rfl (Ai (p35 h x) ?_));refine gatF (p:=epi c) (id:=0) ho (λi hi acc ha=>?_) (λacc=>CN ltn rfl) ?_
 ·obtain⟨f,ef,hf⟩:=LU (He (0:Int) hi)
  refine HU (ltd hi) (Dd (Ad hi) (Ai (v:=epi c ((QY c x).getD i 0)) ?_ (VK ha (wr hi ho))));show G36 (c,(QY c x).getD i 0)=_;rw [ef];exact p36 hc hf
 ·refine Dd rfl (Ai (v:=L) ?_ rfl)
  exact(h32' (memL c x) c).trans hL
theorem p10(hc:Bj c=true)(hx:0<=x/\x<c.1)(hL:quoO c x=some L):G10 (opO c,x)=some (L,0):=by
 have h:=Bb hc;have hl:=Ds h;have har:=VV h;have ho:(QY c x).length<=1048576:=by have:=OI (c:=c) (x:=x);omega
 unfold G10;refine Ai (p29 (op_ok hc) (NC hc) hx) (CN rfl (Ai (v:=QY c x) ?_ ?_))
 ·exact(show G30 (opO c,x)=G35 (c,x)from rfl).trans (p35 h x)
 refine gatF (p:=epi c) (id:=0) ho (λi hi acc ha=>?_) (λacc=>CN ltn rfl) ?_
 ·obtain⟨f,ef,hf⟩:=LU (He (0:Int) hi)
  refine HU (ltd hi) (Dd (Ad hi) (Ai (v:=epi c ((QY c x).getD i 0)) ?_ (VK ha (wr hi ho))));show G31 (opO c,(QY c x).getD i 0)=_;rw [ef];exact p31 (NC hc) (by rw [har];exact hf)
 ·refine Dd rfl (Ai (v:=L) ?_ rfl)
  refine(h32 (memL c x) (opO c)).trans ?_;rw [r_eq hc];exact hL
theorem p39s{a:LI}(ha:a.length<=1048576):G39 (a,a)=some true:=by
 unfold G39;refine CN (by simp) ?_
 refine(chkG (n:=a.length) (p:=λ_=>true) (id:=0) (r:=false) (v:=true) (λi hi=>HU (ltd hi) (Dd (Ad hi) (Dd (Ad hi) (CN (by simp) (by rw [wr hi ha];rfl))))) (CN ltn rfl) λ_=>Dd rfl rfl).trans ?_
 rw [show((List.range a.length).all λ_=>true)=true by simp];rfl
theorem p12s(hL:L.length<=1048576)(hr: ∀j,j<L.length->(L.getD j []).length<=1048576):G12 (L,L)=some true:=by
 unfold G12;refine CN (by simp) ?_
 refine(chkG (n:=L.length) (p:=λ_=>true) (id:=0) (r:=false) (v:=true) (λi hi=>HU (ltd hi) (Dd (Ad hi) (Dd (Ad hi) (Ai (p39s (hr i hi)) (CN rfl (by rw [wr hi hL];rfl)))))) (CN ltn rfl) λ_=>Dd rfl rfl).trans ?_
 rw [show((List.range L.length).all λ_=>true)=true by simp];rfl
theorem arr1(hc:Bj c=true){a:Int}(ha:0<=a/\a<(ar c:Int)):Aax c [a]=0:=by
 unfold Aax;rw [hc,wi1 ha];rfl
theorem p13(hok:okC c)(hc:Bj c=true)(hf:f<ar c):G13 (c,(f:Int))=some (jmB c (fT c f) [(f:Int)],0):=by
 unfold G13;refine Ai (p22 hok (w:=[(f:Int)]) (by show 1<=_;omega)) ?_
 rw [arr1 hc (Ad hf)];exact Ai (p31 hc hf) rfl
theorem jR1(hc:Bj c=true)(hf:f<ar c):jR c [(f:Int)]=(jmB c (fT c f) [(f:Int)],0):=by
 unfold jR;rw [hc,wi1 (Ad hf)]
 have e:IP c [(f:Int)]=true:=by
  unfold IP;refine aET.2 λk hk=>?_
  have:k<1:=List.mem_range.1 hk;obtain rfl:k=0:=by omega
  exact dT rfl
 rw [e];rfl
theorem jm_sub{A:LI}(hi:i<A.length)(h:jmB c x [A.getD i 0]=true):jmB c x A=true:=by
 have hh: ∀ {B},jmB c x B=true↔JM c x B:=fun{B}=>by unfold jmB;exact @decide_eq_true_iff _ (Classical.propDecidable _)
 refine hh.2 λg k hg hk hne h1 h2 h3=>?_
 obtain⟨w,hw,he⟩:=hh.1 h g k hg hk hne h1 h2 h3;have hw:w<1:=hw;obtain rfl:w=0:=by omega
 exact⟨i,hi,he⟩
theorem law3{x:List Int}(hx:VW x):Tot (λb:Bool=>b=true) (G3 x):=by
 unfold G3;refine AL (v:=false) (congrArg some (dF (by have:=hx.1;omega))) (A8 rfl (Ah (p6 hx) λv1 hv1=>?_))
 obtain⟨c,A⟩:=v1;obtain⟨(hok:okC c),(hA8:A.length<=8)⟩:=hv1;have hAl:A.length<=1048576:=by omega
 refine AL (p7 hok hAl) (AL (p8 hok hAl) (AL (v:=false) (CN (by simp) (by simp)) (A8 rfl ?_)))
 have bad: ∀ {b:Bool} {n:Int},n≠0->jR c A=(b,n)->b=false:=by
  intro b n hn e;unfold jR at e;cases h1:Bj c<;>rw [h1]at e
  ·cases e;rfl
  cases h2:wi (ar c) A<;>rw [h2]at e
  ·cases e;rfl
  cases h3:(decide (A.length=0)|| !IP c A)<;>rw [h3]at e
  ·cases e;exact absurd rfl hn
  ·cases e;rfl
 by_cases h0:(jR c A).2=0
 case neg=>
  refine Bk (by rw [dF h0];rfl) (Aa ?_)
  rw [bad (b:=(jR c A).1) (n:=(jR c A).2) h0 rfl];rfl
 refine A8 (by rw [dT h0];rfl) ?_
 obtain⟨hc,hwi,hne,hen,hj⟩:Bj c=true/\wi (ar c) A=true/\0<A.length/\IP c A=true/\(jR c A).1=jmB c (fT c (A.getD 0 0).toNat) A:=by
  unfold jR at h0⊢;cases h1:Bj c<;>rw [h1]at h0
  ·cases h0
  cases h2:wi (ar c) A<;>rw [h2]at h0
  ·cases h0
  cases h3:(decide (A.length=0)|| !IP c A)<;>rw [h3]at h0
  ·rw [Bool.or_eq_false_iff,Bool.not_eq_false']at h3
   exact⟨rfl,rfl,Nat.pos_of_ne_zero (of_decide_eq_false h3.1),h3.2,rfl⟩
  ·cases h0
 have hs:=Bb hc;have hl:=Ds hs;obtain⟨f0,hf0,e0⟩:=getW hwi hne;have hx0:=hs.fr f0 hf0;obtain⟨L,hL,hL1,hL2⟩:=quo_t hc (x:=c.2.1.getD f0 0);refine AL (p9 hok hc) (Ab (by show(0:Int)<=0/\(0:Int)<(A.length:Int);omega) (Ab (by show 0<=A.getD 0 0/\A.getD 0 0<(c.2.1.length:Int);rw [e0];exact Ad hf0) ?_))
 have ex:c.2.1.getD (A.getD (0:Int).toNat 0).toNat 0=c.2.1.getD f0 0:=by
  show c.2.1.getD (A.getD 0 0).toNat 0=_;rw [e0];rfl
 refine AL (v:=(L,0)) (by show G10 (opO c,c.2.1.getD (A.getD (0:Int).toNat 0).toNat 0)=_;rw [ex];exact p10 hc hx0 hL) (AL (v:=(L,0)) (by show G11 (c,c.2.1.getD (A.getD (0:Int).toNat 0).toNat 0)=_;rw [ex];exact p11 hok hc hx0 hL) ?_)
 refine AL (v:=false) (CN (show(!decide (IntKind.wrap .i64 (IntKind.wrap .i64 ((0:Int)+0)+0)=0))=false by decide) (Ai (p12s (Nat.le_trans hL1 (by decide)) λj hj=>Nat.le_trans (hL2 j hj) (by decide)) rfl)) (A8 rfl ?_)
 refine AC (n:=A.length) (λi v=>v=(i:Int)) rfl (λi hi v hv=>?_) λv hv=>?_
 ·obtain rfl:=hv
  obtain⟨f,hf,ef⟩:=getW hwi hi
  have hfe:fT c f=fT c (A.getD 0 0).toNat:=by
   have:=of_decide_eq_true (aET.1 hen i (List.mem_range.2 hi));rw [ef]at this;exact this
  refine Bk (ltd hi) (Ab (Ad hi) (AL (v:=(jmB c (fT c f) [(f:Int)],0)) (by show G13 (c,A.getD i 0)=_;rw [ef];exact p13 hok hc hf) ?_))
  rw [wr hi hAl];refine Ab ⟨by omega,by omega,by show((i+1:Nat):Int)<=(A.length:Int);omega⟩ ?_
  have es:Ks ((i:Nat):Int).toNat (((i+1:Nat):Int).toNat-((i:Nat):Int).toNat) A 0= [(f:Int)]:=by
   unfold Ks;rw [show((i+1:Nat):Int).toNat-((i:Nat):Int).toNat=1 by omega,tNC]
   show [A.getD (i+0) 0]=_;rw [Nat.add_zero,ef]
  refine AL (v:=(jmB c (fT c f) [(f:Int)],0)) (by show G7 (c,Ks ((i:Nat):Int).toNat (((i+1:Nat):Int).toNat-((i:Nat):Int).toNat) A 0)=_;rw [es,p7 hok (by show 1<=_;omega),jR1 hc hf]) ?_
  refine AL (v:=false) (CN (show(!decide (IntKind.wrap .i64 ((0:Int)+0)=0))=false by decide) (by simp)) (AL (v:=false) (CN rfl ?_) (A8 rfl (Aa rfl)))
  cases hb:jmB c (fT c f) [(f:Int)]with
  |false=>rfl
  |true=>
   show some (!(jR c A).1)=some false;rw [hj,<-hfe,jm_sub hi (by rw [ef];exact hb)];rfl
 ·obtain rfl:=hv
  exact A8 ltn (Aa (Ab rfl (Aa rfl)))
theorem u8_in(h:(Lit.int .u8 n).wf=true):0<=n/\n<=255:=by
 have h:(decide (IntKind.u8.min<=n)&&decide (n<=IntKind.u8.max))=true:=h;rw [bAE,decide_eq_true_eq,decide_eq_true_eq]at h;have e1:IntKind.u8.min=0:=by decide
 have e2:IntKind.u8.max=255:=by decide
 omega
theorem p3(x:List Int)(h:okT (PT S3.ps) x):G3 x=some true:=by
 have h:x.length<=maxLen/\∀n∈x,(Lit.int .u8 n).wf=true:=h;by_cases hl:x.length<=4096
 ·obtain⟨b,hb,rfl⟩:=law3 ⟨hl,λb hb=>u8_in (h.2 b hb)⟩
  exact hb
 ·unfold G3
  exact Ai (v:=true) (congrArg some (dT (by omega))) rfl
end
end Go.Ve.D

