/- Fractions: squares. -/
import Derived.Test.YtdhfaeiafmlhlaaCfa
set_option linter.all false
namespace Go.Ve.D
open Go Go.Ve
variable{c:Cat}{x y:Int}
theorem Dt{i:Nat}(hi:i<(Bk c x y).length):∃f:Nat,f<ar c/\(Bk c x y).getD i 0=(f:Int):=by
 have A:(Bk c x y).getD i 0∈Bk c x y:=H2 0 hi;obtain⟨f,hf,e⟩:=List.mem_map.1 A;exact⟨f,List.mem_range.1 (List.mem_filter.1 hf).1,e.symm⟩
theorem BJ:(Bk c x y).length<=ar c:=by
 unfold Bk;rw[List.length_map];have:=List.length_filter_le (λf=>decide (fT c f=x)&&decide (tT c f=y)) (List.range (ar c))
 rwa [List.length_range]at this
def hit(c:Cat)(w:List Int)(f v:Nat)(b a:Int):Bool:=w.contains b&&decide (T c b.toNat f=T c a.toNat v)
def sqS(c:Cat)(w:List Int)(f v:Nat)(s:Nat):Bool:=(Bk c (s:Int) (fT c f)).any λb=>(Bk c (s:Int) (fT c v)).any λa=>hit c w f v b a
def sq(c:Cat)(w:List Int)(f v:Nat):Bool:=(List.range c.1.toNat).any (sqS c w f v)
theorem AaT{X R S:Type}{f:X->Option (LO X R)}{st:Nat->X}{n:Nat}{q:Nat->Bool}{Q:R->Prop}{o:LO X R}{k:LO X R->Option S}{Post:Bool->Option S->Prop}
  (W:∀i,i<n->(q i=false->f (st i)=some (.next (st (i+1))))/\(q i=true->∃r,f (st i)=some (.ret r)/\Q r)) (U:f (st n)=some o) (F:∀y,o≠.next y)
  (O:Post false (k o)) (J:∀r,Q r->Post true (k (.ret r))):Post ((List.range n).any q) (Option.bind (Ar f (st 0)) k):=by
 refine Bd (p:=λi=>!q i) (Q:=Q) (o:=o) (Post:=λx=>Post ((List.range n).any q) x) (λi hi=>?_) U F (λe=>?_) (λe r E=>?_)
 .obtain⟨g1,g2⟩:=W i hi
  cases B:q i with
  |true=>exact⟨(λh=>by cases h),λ_=>g2 B⟩
  |false=>exact⟨λ_=>g1 B,(λh=>by cases h)⟩
 .have:(List.range n).any q=false:=by
   rw[List.any_eq_false];intro x A;have:=aET.1 e x A;simpa using this
  rw[this];exact O
 .have:(List.range n).any q=true:=by
   rw[List.all_eq_false]at e;obtain⟨x,A,h⟩:=e;rw[List.any_eq_true];exact⟨x,A,by simpa using h⟩
  rw[this];exact J r E
theorem Hb{α:Type}(d:α)(q:α->Bool)(x:List α):(List.range x.length).any (λi=>q (x.getD i d))=x.any q:=by
 have:=Adh d q x;rw[Bool.eq_iff_iff]at this⊢;rw[List.any_eq_true];constructor
 .rintro ⟨i,hi,h⟩
  cases e:x.any q with
  |true=>rfl
  |false=>
   rw[e]at this;have:=aET.1 (this.2 rfl) i hi;rw[h]at this;cases this
 .intro e
  by_cases A:∃i,i∈List.range x.length/\q (x.getD i d)=true
  .exact A
  .exfalso
   have E:((List.range x.length).all λi=>!q (x.getD i d))=true:=by
    rw[aET];intro i hi;cases B:q (x.getD i d)with
    |true=>exact absurd ⟨i,hi,B⟩ A
    |false=>rfl
   have:=this.1 E;rw[e]at this;cases this
theorem p144(h:Sh c){w:List Int}(hw:w.length<=1048576){f v:Nat}(hf:f<ar c)(hv:v<ar c):∃r,G144 (c,(w,((f:Int),(v:Int))))=some r/\r.2.2.2=sq c w f v:=by
 have hh:=h.hd;obtain⟨a1,a2,a3,a4,a5,a6,a7,a8⟩:=hh;have hm:ar c<=40:=a2;have F:c.2.1.length<=1048576:=by omega
 obtain⟨n,E⟩:∃n:Nat,c.1=(n:Int):=⟨c.1.toNat,by omega⟩
 unfold G144 sq;rw[E,tNC];simp only[Prod.eta,E];refine AaT (st:=λi:Nat=>(i:Int)) (n:=n) (q:=sqS c w f v) (Q:=λr:Int×Int×Int×Bool=>r.2.2.2=true) (o:=.brk 0 (n:Int)) (Post:=λb (o:Option (Int×Int×Int×Bool))=>∃r,o=some r/\r.2.2.2=b) (λs hs=>?_) ?_ (λy=>by simp) ⟨_,rfl,rfl⟩ (λr A=>⟨r,rfl,A⟩)
 rotate_left
 .simp only[Ad,Nat.lt_irrefl,decide_false,cond_false]
 have J:f<c.2.1.length:=hf;have B:v<c.2.1.length:=hv;have ec:((n:Int),(c.2.1,(c.2.2.1,(c.2.2.2.1,c.2.2.2.2))))=c:=by rw[<-E]
 simp only[ec,Ad,hs,decide_true,cond_true,Aa J,Aa B,and_self,if_true,tNC,p72 F a3,Option.bind_some]
 have W:sqS c w f v s=(List.range (Bk c (s:Int) (fT c f)).length).any λi=>(List.range (Bk c (s:Int) (fT c v)).length).any λj=>hit c w f v ((Bk c (s:Int) (fT c f)).getD i 0) ((Bk c (s:Int) (fT c v)).getD j 0):=by
  unfold sqS;rw[<-Hb (0:Int) (λb=>(Bk c (s:Int) (fT c v)).any λa=>hit c w f v b a)]
  refine Hc λi _=>?_
  rw[Hb (0:Int) (λa=>hit c w f v _ a)]
 rw[W]
 refine AaT (st:=λi:Nat=>(i:Int)) (n:=(Bk c (s:Int) (fT c f)).length) (q:=λi=>(List.range (Bk c (s:Int) (fT c v)).length).any λj=>hit c w f v ((Bk c (s:Int) (fT c f)).getD i 0) ((Bk c (s:Int) (fT c v)).getD j 0)) (Q:=λr:LO Int (Int×Int×Int×Bool)=>∃r',r=.ret r'/\r'.2.2.2=true) (o:=.brk 2 ((Bk c (s:Int) (fT c f)).length:Int))
  (Post:=λb (o:Option (LO Int (Int×Int×Int×Bool)))=>(b=false->o=some (.next ((s+1:Nat):Int)))/\(b=true->∃r,o=some (.ret r)/\r.2.2.2=true)) (λi hi=>?_) ?_ (λy=>by simp) ⟨λ_=>?_,(λh=>by cases h)⟩ (λr A=>⟨(λh=>by cases h),λ_=>?_⟩)
 rotate_left
 .have e:decide ((((Bk c (s:Int) (fT c f)).length:Nat):Int)<(((Bk c (s:Int) (fT c f)).length:Nat):Int))=false:=by simp
  show(bif decide ((((Bk c (s:Int) (fT c f)).length:Nat):Int)<(((Bk c (s:Int) (fT c f)).length:Nat):Int))then _ else _)=_;rw[e,cond_false]
 .show(if 2=2 then _ else none)=_
  rw[if_pos rfl,Aj (by omega) (by omega)];rfl
 .obtain⟨r',rfl,U⟩:=A
  exact⟨r',rfl,U⟩
 obtain⟨b,hb,eb⟩:=Dt hi;have hbl:=BJ (c:=c) (x:=(s:Int)) (y:=fT c f);have e1:decide ((i:Int)<(((Bk c (s:Int) (c.2.1.getD f 0)).length:Nat):Int))=true:=by rw[Ad];exact dT hi
 simp only[e1,cond_true]
 refine AaT (st:=λi:Nat=>(i:Int)) (n:=(Bk c (s:Int) (fT c v)).length) (q:=λj=>hit c w f v ((Bk c (s:Int) (fT c f)).getD i 0) ((Bk c (s:Int) (fT c v)).getD j 0)) (Q:=λr:LO Int (LO Int (Int×Int×Int×Bool))=>∃r',r=.ret (.ret r')/\r'.2.2.2=true) (o:=.brk 4 ((Bk c (s:Int) (fT c v)).length:Int))
  (Post:=λb (o:Option (LO Int (LO Int (Int×Int×Int×Bool))))=>(b=false->o=some (.next ((i+1:Nat):Int)))/\(b=true->∃r,o=some (.ret r)/\∃r',r=.ret r'/\r'.2.2.2=true)) (λj hj=>?_) ?_ (λy=>by simp) ⟨λ_=>?_,(λh=>by cases h)⟩ (λr A=>⟨(λh=>by cases h),λ_=>?_⟩)
 rotate_left
 .have e:decide ((((Bk c (s:Int) (fT c v)).length:Nat):Int)<(((Bk c (s:Int) (fT c v)).length:Nat):Int))=false:=by simp
  show(bif decide ((((Bk c (s:Int) (fT c v)).length:Nat):Int)<(((Bk c (s:Int) (fT c v)).length:Nat):Int))then _ else _)=_;rw[e,cond_false]
 .show(if 4=4 then _ else none)=_
  rw[if_pos rfl,Aj (by omega) (by omega)];rfl
 .obtain⟨r',rfl,U⟩:=A
  exact⟨_,rfl,r',rfl,U⟩
 obtain⟨a,ha,ea⟩:=Dt hj;have hal:=BJ (c:=c) (x:=(s:Int)) (y:=fT c v);have e2:decide ((j:Int)<(((Bk c (s:Int) (c.2.1.getD v 0)).length:Nat):Int))=true:=by rw[Ad];exact dT hj
 have Y:(Bk c (s:Int) (c.2.1.getD f 0)).getD i 0=(b:Int):=eb;have Z:(Bk c (s:Int) (c.2.1.getD v 0)).getD j 0=(a:Int):=ea;have i1:(0:Int)<=(i:Int)/\(i:Int)<(((Bk c (s:Int) (c.2.1.getD f 0)).length:Nat):Int):=Aa hi;have i2:(0:Int)<=(j:Int)/\(j:Int)<(((Bk c (s:Int) (c.2.1.getD v 0)).length:Nat):Int):=Aa hj;simp only[e2,cond_true,i1,i2,and_self,if_true,tNC,Y,Z,p73 hw,Option.bind_some,XN h (Aa hb) (Aa hf),XN h (Aa ha) (Aa hv)];rw[Aj (by omega) (by omega),eb,ea]
 unfold hit;rw[tNC,tNC];cases w.contains (b:Int)with
 |false=>exact⟨λ_=>rfl,(λh=>by cases h)⟩
 |true=>
  simp only[cond_true,Option.bind_some,Bool.true_and];refine⟨λO=>?_,λO=>?_⟩
  .rw[O];rfl
  .rw[O];exact⟨_,rfl,_,rfl,rfl⟩
end Go.Ve.D


namespace Go.Ve.D
open Go Go.Ve
variable{d n:List Int}
abbrev SqS:=Nat×(Int×(Int×(Int×((List Int)×(List Int)))))
noncomputable def Mm(x:(((Int×((List Int)×((List Int)×((List Int)×(List (List Int))))))×((List Int)×(List Bool)))×(Int×Int))):SqS->Option (LO SqS (Int×Int×Bool)):=(fun(v0:(Nat×(Int×(Int×(Int×((List Int)×(List Int)))))))=>(if v0.1=0 then(bif(decide (v0.2.1=x.1.1.1))then(BD (some ((0:Int),((0:Int),false))))else(if(((0:Int)<=x.2.1)/\(x.2.1<((x.1.1.2.1.length:Nat):Int)))then(Option.bind (G78 (x.1.1,(v0.2.1,(x.1.1.2.1.getD (x.2.1).toNat (0:Int))))) (fun(A:(List Int))=>(if(((0:Int)<=x.2.2)/\(x.2.2<((x.1.1.2.1.length:Nat):Int)))then(Option.bind (G78 (x.1.1,(v0.2.1,(x.1.1.2.1.getD (x.2.2).toNat (0:Int))))) (fun(e:(List Int))=>(some (LO.next (1,((IntKind.wrap .i64 (v0.2.1+(1:Int))),((0:Int),((0:Int),(A,e)))))))))else none)))else none))else(if v0.1=1 then(bif(decide (v0.2.2.1=((v0.2.2.2.2.1.length:Nat):Int)))then(some (LO.next (0,(v0.2.1,(v0.2.2.1,(v0.2.2.2.1,(v0.2.2.2.2.1,v0.2.2.2.2.2)))))))else(Option.bind (bif(decide (v0.2.2.2.1=((v0.2.2.2.2.2.length:Nat):Int)))then(some true)else(if(((0:Int)<=v0.2.2.1)/\(v0.2.2.1<((v0.2.2.2.2.1.length:Nat):Int)))then(if(((0:Int)<=(v0.2.2.2.2.1.getD (v0.2.2.1).toNat (0:Int)))/\((v0.2.2.2.2.1.getD (v0.2.2.1).toNat (0:Int))<((x.1.2.2.length:Nat):Int)))then(some (!(x.1.2.2.getD ((v0.2.2.2.2.1.getD (v0.2.2.1).toNat (0:Int))).toNat false)))else none)else none)) (fun(A:Bool)=>(bif A then(some (LO.next (1,(v0.2.1,((IntKind.wrap .i64 (v0.2.2.1+(1:Int))),((0:Int),(v0.2.2.2.2.1,v0.2.2.2.2.2)))))))else(if(((0:Int)<=v0.2.2.1)/\(v0.2.2.1<((v0.2.2.2.2.1.length:Nat):Int)))then(Option.bind (G81 (x.1.1,((v0.2.2.2.2.1.getD (v0.2.2.1).toNat (0:Int)),x.2.1))) (fun(e:Int)=>(if(((0:Int)<=v0.2.2.2.1)/\(v0.2.2.2.1<((v0.2.2.2.2.2.length:Nat):Int)))then(Option.bind (G81 (x.1.1,((v0.2.2.2.2.2.getD (v0.2.2.2.1).toNat (0:Int)),x.2.2))) (fun(B:Int)=>(bif(decide (e=B))then(if(((0:Int)<=v0.2.2.1)/\(v0.2.2.1<((v0.2.2.2.2.1.length:Nat):Int)))then(if(((0:Int)<=v0.2.2.2.1)/\(v0.2.2.2.1<((v0.2.2.2.2.2.length:Nat):Int)))then(BD (some ((v0.2.2.2.2.1.getD (v0.2.2.1).toNat (0:Int)),((v0.2.2.2.2.2.getD (v0.2.2.2.1).toNat (0:Int)),true))))else none)else none)else(some (LO.next (1,(v0.2.1,(v0.2.2.1,((IntKind.wrap .i64 (v0.2.2.2.1+(1:Int))),(v0.2.2.2.2.1,v0.2.2.2.2.2))))))))))else none)))else none)))))else none)))
def Adl(x:(((Int×((List Int)×((List Int)×((List Int)×(List (List Int))))))×((List Int)×(List Bool)))×(Int×Int))):G149 x=Option.bind (Ar (Mm x) (0,((0:Int),((0:Int),((0:Int),([],[])))))) LO.fin1:=rfl
theorem Wy{c:Cat}{x y:Int}:wi (ar c) (Bk c x y)=true:=by
 unfold wi;rw[aET];intro a A;obtain⟨g,e,rfl⟩:=List.mem_map.1 A;exact IJ.2 (Aa (List.mem_range.1 (List.mem_filter.1 e).1))
section
variable {c:Cat}{w:List Int}{f v:Nat} (h:Sh c) (hf:f<ar c) (hv:v<ar c)
include h hf hv
def St1(u:Int)(i k:Nat)(d n:List Int):SqS:=(1,(u,((i:Int),((k:Int),(d,n)))))
theorem sq_row{u:Int}(hd:wi (ar c) d=true)(hn:wi (ar c) n=true)(hdl:d.length<=40)(hnl:n.length<=40){i:Nat}(hi:i<d.length):∀m k,k+m=n.length->
  ((n.drop k).any (hit c w f v (d.getD i 0))=true->∃r,Ar (Mm ((c,(w,mkB c w)),((f:Int),(v:Int)))) (St1 u i k d n)=some (.ret r)/\r.2.2=true)/\
  ((n.drop k).any (hit c w f v (d.getD i 0))=false->Ar (Mm ((c,(w,mkB c w)),((f:Int),(v:Int)))) (St1 u i k d n)=Ar (Mm ((c,(w,mkB c w)),((f:Int),(v:Int)))) (St1 u (i+1) 0 d n)):=by
 have hm:ar c<=40:=h.hd.2.1;obtain⟨b,F,U⟩:=Ws hd hi;intro m
 induction m with
 |zero=>
  intro k hk;obtain rfl:k=n.length:=by omega
  rw[List.drop_length];refine⟨(λE=>by cases E),λ_=>?_⟩
  rw[A1]
  have e:Mm ((c,(w,mkB c w)),((f:Int),(v:Int))) (St1 u i n.length d n)=some (.next (St1 u (i+1) 0 d n)):=by
   unfold Mm St1;have W:decide ((i:Int)=((d.length:Nat):Int))=false:=dF (by omega)
   simp only[Nat.one_ne_zero,if_false,if_true,W,cond_false,decide_true,cond_true,Option.bind_some];rw[Aj (by omega) (by omega)]
   rfl
  rw[e];rfl
 |succ m ih=>
  intro k hk;have A:k<n.length:=by omega
  obtain⟨a,ha,Y⟩:=Ws hn A
  have ed:n.drop k=(a:Int)::n.drop (k+1):=by
   rw[List.drop_eq_getElem_cons A]
   congr 1
   rw[<-Y,gDE,gEE A];rfl
  rw[ed,List.any_cons];have W:decide ((i:Int)=((d.length:Nat):Int))=false:=dF (by omega)
  have Z:decide ((k:Int)=((n.length:Nat):Int))=false:=dF (by omega)
  have J:hit c w f v (d.getD i 0) (a:Int)=(w.contains (b:Int)&&decide (T c b f=T c a v)):=by
   unfold hit;rw[U];rfl
  cases O:w.contains (b:Int)with
  |false=>
   have B:∀y:Int,hit c w f v (d.getD i 0) y=false:=λy=>by unfold hit;rw[U,O];rfl
   have hz:(n.drop (k+1)).any (hit c w f v (d.getD i 0))=false:=by rw[List.any_eq_false];intro y _;rw[B];simp
   rw[B,hz];refine⟨(λE=>by cases E),λ_=>?_⟩
   rw[A1]
   have e:Mm ((c,(w,mkB c w)),((f:Int),(v:Int))) (St1 u i k d n)=some (.next (St1 u (i+1) 0 d n)):=by
    unfold Mm St1;simp only[Nat.one_ne_zero,if_false,if_true,W,Z,cond_false,Aa hi,and_self,tNC,U,DR,Aa F,DS F,O,Bool.not_false,Option.bind_some,cond_true];rw[Aj (by omega) (by omega)]
    rfl
   rw[e];rfl
  |true=>
   rw[J,O,Bool.true_and]
   have e:Mm ((c,(w,mkB c w)),((f:Int),(v:Int))) (St1 u i k d n)=(bif decide (T c b f=T c a v)then BD (some ((b:Int),((a:Int),true)))else some (.next (St1 u i (k+1) d n))):=by
    unfold Mm St1;simp only[Nat.one_ne_zero,if_false,if_true,W,Z,cond_false,Aa hi,Aa A,and_self,tNC,U,Y,DR,Aa F,DS F,O,Bool.not_true,Option.bind_some,cond_false,p81 h (Aa F) (Aa hf),p81 h (Aa ha) (Aa hv)];rw[Aj (by omega) (by omega)]
    rfl
   rw[A1,e];cases decide (T c b f=T c a v)with
   |true=>exact⟨λ_=>⟨_,rfl,rfl⟩,(λE=>by cases E)⟩
   |false=>
    rw[Bool.false_or];exact ih (k+1) (by omega)
theorem Ab8{u:Int}(hd:wi (ar c) d=true)(U:wi (ar c) n=true)(E:d.length<=40)(B:n.length<=40):∀m i,i+m=d.length->
  ((d.drop i).any (λb=>n.any (hit c w f v b))=true->∃r,Ar (Mm ((c,(w,mkB c w)),((f:Int),(v:Int)))) (St1 u i 0 d n)=some (.ret r)/\r.2.2=true)/\
  ((d.drop i).any (λb=>n.any (hit c w f v b))=false->Ar (Mm ((c,(w,mkB c w)),((f:Int),(v:Int)))) (St1 u i 0 d n)=Ar (Mm ((c,(w,mkB c w)),((f:Int),(v:Int)))) (0,(u,((d.length:Int),((0:Int),(d,n)))))):=by
 intro m
 induction m with
 |zero=>
  intro i hi;obtain rfl:i=d.length:=by omega
  rw[List.drop_length];refine⟨(λF=>by cases F),λ_=>?_⟩
  rw[A1]
  have e:Mm ((c,(w,mkB c w)),((f:Int),(v:Int))) (St1 u d.length 0 d n)=some (.next (0,(u,((d.length:Int),((0:Int),(d,n)))))):=by
   unfold Mm St1;simp only[Nat.one_ne_zero,if_false,if_true,decide_true,cond_true];rfl
  rw[e];rfl
 |succ m O=>
  intro i hi;have A:i<d.length:=by omega
  have W:d.drop i=d.getD i 0::d.drop (i+1):=by
   rw[List.drop_eq_getElem_cons A]
   congr 1
   rw[gDE,gEE A];rfl
  rw[W,List.any_cons];obtain⟨g1,g2⟩:=sq_row h hf hv (u:=u) hd U E B A n.length 0 (by omega)
  rw[List.drop_zero]at g1 g2;cases J:n.any (hit c w f v (d.getD i 0))with
  |true=>exact⟨λ_=>g1 J,(λF=>by cases F)⟩
  |false=>
   rw[g2 J,Bool.false_or];exact O (i+1) (by omega)
theorem sq_all{n:Nat}(hn:c.1=(n:Int)):∀m s,s+m=n->∀(i k:Int) (d e:List Int),∃r,Ar (Mm ((c,(w,mkB c w)),((f:Int),(v:Int)))) (0,((s:Int),(i,(k,(d,e)))))=some (.ret r)/\r.2.2=(List.range' s m).any (sqS c w f v):=by
 have W:=h.hd;obtain⟨a1,a2,a3,a4,a5,a6,a7,a8⟩:=W;have B:c.2.1.length<=1048576:=by omega
 intro m
 induction m with
 |zero=>
  intro s U i k d e;rw[A1]
  have e:Mm ((c,(w,mkB c w)),((f:Int),(v:Int))) (0,((s:Int),(i,(k,(d,e)))))=BD (some ((0:Int),((0:Int),false))):=by
   unfold Mm;simp only[if_true];have:decide ((s:Int)=c.1)=true:=dT (by omega)
   rw[this];rfl
  rw[e];exact⟨_,rfl,rfl⟩
 |succ m O=>
  intro s U i k d e;have E:f<c.2.1.length:=hf;have A:v<c.2.1.length:=hv
  have ef:Mm ((c,(w,mkB c w)),((f:Int),(v:Int))) (0,((s:Int),(i,(k,(d,e)))))=some (.next (St1 ((s+1:Nat):Int) 0 0 (Bk c (s:Int) (fT c f)) (Bk c (s:Int) (fT c v)))):=by
   unfold Mm St1;have e1:decide ((s:Int)=c.1)=false:=dF (by omega)
   simp only[if_true,e1,cond_false,Aa E,Aa A,and_self,tNC,p78 B a3,Option.bind_some];rw[Aj (by omega) (by omega)]
   rfl
  rw[A1,ef];show ∃r,Ar _ _=_/\_;have hm:ar c<=40:=a2;have l1:=BJ (c:=c) (x:=(s:Int)) (y:=fT c f);have l2:=BJ (c:=c) (x:=(s:Int)) (y:=fT c v);obtain⟨g1,g2⟩:=Ab8 (w:=w) h hf hv (u:=((s+1:Nat):Int)) (Wy (x:=(s:Int)) (y:=fT c f)) (Wy (x:=(s:Int)) (y:=fT c v)) (by omega) (by omega) (Bk c (s:Int) (fT c f)).length 0 (by omega)
  rw[List.drop_zero]at g1 g2;rw[List.range'_succ,List.any_cons];have J:sqS c w f v s=(Bk c (s:Int) (fT c f)).any λb=>(Bk c (s:Int) (fT c v)).any (hit c w f v b):=rfl
  cases F:sqS c w f v s with
  |true=>
   obtain⟨r,Z,Y⟩:=g1 (J▸F);exact⟨r,Z,Y⟩
  |false=>
   rw[g2 (J▸F),Bool.false_or];exact O (s+1) (by omega) _ _ _ _
theorem p149:∃r,G149 ((c,(w,mkB c w)),((f:Int),(v:Int)))=some r/\r.2.2=sq c w f v:=by
 have A:=h.hd;obtain⟨a1,_⟩:=A;obtain⟨n,e⟩:∃n:Nat,c.1=(n:Int):=⟨c.1.toNat,by omega⟩
 obtain⟨r,E,B⟩:=sq_all (w:=w) h hf hv e n 0 (by omega) 0 0 [] []
 rw[Adl];refine⟨r,?_,?_⟩
 .show Option.bind (Ar _ (0,(((0:Nat):Int),_))) _=_
  rw[E];rfl
 .rw[B]
  unfold sq;rw[e,tNC,List.range_eq_range']
theorem p134:G134 ((c,(w,mkB c w)),((f:Int),(v:Int)))=some (sq c w f v):=by
 obtain⟨r,A,e⟩:=p149 (w:=w) h hf hv;unfold G134;rw[A,<-e];rfl
end
end Go.Ve.D


namespace Go.Ve.D
open Go Go.Ve
variable{c:Cat}{w:List Int}{f g i m:Nat}{q:Nat->Bool}
def Ads(c:Cat)(x:Int):List Int:=((List.range (ar c)).filter λf=>decide (fT c f=x)).map fun(f:Nat)=>(f:Int)
def C6(c:Cat)(x:Int):List Int:=((List.range (ar c)).filter λf=>decide (tT c f=x)).map fun(f:Nat)=>(f:Int)
theorem p166(A:c.2.1.length<=1048576)(x:Int):G166 (c,x)=some (Ads c x):=by
 obtain⟨c1,c2,c3,c4,c5⟩:=c;unfold G166;simp only at A⊢;refine AC (v:=.brk 0 ((c2.length:Int),Ads (c1,(c2,(c3,(c4,c5)))) x)) (Ys (λi hi e B=>?_) λe=>?_) rfl
 .simp only[Ad,hi,decide_true,cond_true,Aa hi,if_true,and_self,tNC,List.length_cons,List.length_nil]
  rw[Aj (by omega) (by omega),if_pos (show e.length+(0+1)<=17592186044416 by omega)]
  show _=some (LO.next (((i+1:Nat):Int),bif decide (c2.getD i 0=x)then e++[(i:Int)]else e))
  cases decide (c2.getD i 0=x)<;>rfl
 .simp only[Ad,Nat.lt_irrefl,decide_false,cond_false]
theorem p80(B:c.2.1.length<=1048576)(A:c.2.2.1.length=c.2.1.length)(x:Int):G80 (c,x)=some (C6 c x):=by
 obtain⟨c1,c2,c3,c4,c5⟩:=c;unfold G80;simp only at B A⊢;refine AC (v:=.brk 0 ((c2.length:Int),C6 (c1,(c2,(c3,(c4,c5)))) x)) (Ys (λi hi e E=>?_) λe=>?_) rfl
 .simp only[A,Ad,hi,decide_true,cond_true,Aa hi,if_true,and_self,tNC,List.length_cons,List.length_nil]
  rw[Aj (by omega) (by omega),if_pos (show e.length+(0+1)<=17592186044416 by omega)]
  show _=some (LO.next (((i+1:Nat):Int),bif decide (c3.getD i 0=x)then e++[(i:Int)]else e))
  cases decide (c3.getD i 0=x)<;>rfl
 .simp only[A,Ad,Nat.lt_irrefl,decide_false,cond_false]
theorem Abn(hi:i<(((List.range m).filter q).map fun(f:Nat)=>(f:Int)).length):∃f:Nat,f<m/\q f=true/\(((List.range m).filter q).map fun(f:Nat)=>(f:Int)).getD i 0=(f:Int):=by
 have A:=H2 (0:Int) hi;obtain⟨f,hf,e⟩:=List.mem_map.1 A;obtain⟨E,B⟩:=List.mem_filter.1 hf;exact⟨f,List.mem_range.1 E,B,e.symm⟩
def Abm:(((List.range m).filter q).map fun(f:Nat)=>(f:Int)).length<=m:=by
 rw[List.length_map];have:=List.length_filter_le q (List.range m);rwa [List.length_range]at this
def QL{x:List Int}{q:Int->Bool}(hi:i<x.length):(x.take (i+1)).any q=((x.take i).any q||q (x.getD i 0)):=by
 rw[<-HC 0 hi,List.any_append];simp
def post(c:Cat)(f g:Nat)(v:Int):Bool:=decide (c.2.1.getD v.toNat 0=tT c f)&&decide (T c f v.toNat=T c g v.toNat)
def Adq(c:Cat)(f g:Nat)(v:Int):Bool:=decide (c.2.2.1.getD v.toNat 0=fT c f)&&decide (T c v.toNat f=T c v.toNat g)
def canc(c:Cat)(w:List Int)(f g:Nat):Bool:=!w.any (post c f g)||w.any (Adq c f g)
theorem p175(h:Sh c)(hw:w.length<=1048576)(A:wi (ar c) w=true)(hf:f<ar c)(Z:g<ar c):G175 (c,(w,((f:Int),(g:Int))))=some (canc c w f g):=by
 have hh:=h.hd;obtain⟨a1,a2,a3,a4,a5,a6,a7,a8⟩:=hh;have hm:ar c<=40:=a2;have U:f<c.2.1.length:=hf;have O:f<c.2.2.1.length:=by omega
 unfold G175 canc;simp only[Prod.eta];refine AC (v:=.brk 0 (w.any (post c f g),(w.length:Int))) ?_ ?_
 .have J:=AL (R:=Bool) (st:=λi:Nat=>((w.take i).any (post c f g),(i:Int))) (n:=w.length) (o:=.brk 0 (w.any (post c f g),(w.length:Int))) (f:=fun(v0:(Bool×Int))=>(bif(decide (v0.2<((w.length:Nat):Int)))then(Option.bind (bif v0.1 then(some true)else(if(((0:Int)<=v0.2)/\(v0.2<((w.length:Nat):Int)))then(if(((0:Int)<=(w.getD (v0.2).toNat (0:Int)))/\((w.getD (v0.2).toNat (0:Int))<((c.2.1.length:Nat):Int)))then(if(((0:Int)<=(f:Int))/\((f:Int)<((c.2.2.1.length:Nat):Int)))then(bif(decide ((c.2.1.getD ((w.getD (v0.2).toNat (0:Int))).toNat (0:Int))=(c.2.2.1.getD ((f:Int)).toNat (0:Int))))then(if(((0:Int)<=v0.2)/\(v0.2<((w.length:Nat):Int)))then(Option.bind (G128 (c,((f:Int),(w.getD (v0.2).toNat (0:Int))))) (fun(F:Int)=>(if(((0:Int)<=v0.2)/\(v0.2<((w.length:Nat):Int)))then(Option.bind (G128 (c,((g:Int),(w.getD (v0.2).toNat (0:Int))))) (fun(v2:Int)=>(some (decide (F=v2)))))else none)))else none)else(some false))else none)else none)else none)) (fun(F:Bool)=>(some (LO.next (F,(IntKind.wrap .i64 (v0.2+(1:Int))))))))else(some (LO.brk 0 (v0.1,v0.2))))) (λi hi=>?_) ?_ (λy=>by simp)
  .exact J
  .obtain⟨b,e,E⟩:=Ws A hi
   have Y:b<c.2.1.length:=e;simp only[Ad,hi,decide_true,cond_true,Aa hi,Aa O,Aa Y,and_self,if_true,tNC,E,XN h (Aa hf) (Aa e),XN h (Aa Z) (Aa e),Option.bind_some];rw[Aj (by omega) (by omega),QL hi,E]
   cases (w.take i).any (post c f g)with
   |true=>rfl
   |false=>
    rw[Bool.false_or];unfold post tT;rw[tNC];cases decide (c.2.1.getD b 0=c.2.2.1.getD f 0)<;>rfl
  .simp only[Ad,Nat.lt_irrefl,decide_false,cond_false,List.take_length]
 show(if 0=0 then _ else none)=_
 rw[if_pos rfl];cases w.any (post c f g)with
 |false=>rfl
 |true=>
 simp only[Bool.not_true,cond_false,Bool.false_or];rw[<-Hb (0:Int) (Adq c f g) w];refine AaT (st:=λi:Nat=>(i:Int)) (n:=w.length) (q:=λi=>Adq c f g (w.getD i 0)) (Q:=λr:Bool=>r=true) (o:=.brk 2 (w.length:Int)) (Post:=λb (o:Option Bool)=>o=some b) (λi hi=>?_) ?_ (λy=>by simp) rfl (λr hr=>by rw[hr])
 .obtain⟨b,e,E⟩:=Ws A hi
  have W:b<c.2.2.1.length:=by rw[a3];exact e
  simp only[Ad,hi,decide_true,cond_true,Aa hi,Aa U,Aa W,and_self,if_true,tNC,E,XN h (Aa e) (Aa hf),XN h (Aa e) (Aa Z),Option.bind_some];rw[Aj (by omega) (by omega)]
  unfold Adq fT;rw[tNC];cases decide (c.2.2.1.getD b 0=c.2.1.getD f 0)with
  |false=>exact⟨λ_=>rfl,(λB=>by cases B)⟩
  |true=>
   rw[Bool.true_and];simp only[cond_true,Option.bind_some];refine⟨λB=>?_,λB=>?_⟩
   .rw[B];rfl
   .rw[B];exact⟨_,rfl,rfl⟩
 .simp only[Ad,Nat.lt_irrefl,decide_false,cond_false]
theorem p136(h:Sh c)(hw:w.length<=1048576)(J:wi (ar c) w=true)(hf:f<ar c)(hg:g<ar c):G136 ((c,(w,mkB c w)),((f:Int),(g:Int)))=some (canc c w f g):=by
 have hh:=h.hd;obtain⟨a1,a2,a3,a4,a5,a6,a7,a8⟩:=hh;have hm:ar c<=40:=a2;have O:c.2.1.length<=1048576:=by omega
 have hf2:f<c.2.1.length:=hf;have hf3:f<c.2.2.1.length:=by omega
 have eo:w.any (post c f g)=(Ads c (tT c f)).any λv=>w.contains v&&decide (T c f v.toNat=T c g v.toNat):=by
  rw[any_w J];unfold Ads;rw[AbH];refine Hc λv _=>?_
  unfold post;rw[tNC];show(w.contains (v:Int)&&(decide (fT c v=tT c f)&&_))=(decide (fT c v=tT c f)&&(w.contains (v:Int)&&_));cases w.contains (v:Int)<;>cases decide (fT c v=tT c f)<;>rfl
 have ei:w.any (Adq c f g)=(C6 c (fT c f)).any λv=>w.contains v&&decide (T c v.toNat f=T c v.toNat g):=by
  rw[any_w J];unfold C6;rw[AbH];refine Hc λv _=>?_
  unfold Adq;rw[tNC];show(w.contains (v:Int)&&(decide (tT c v=fT c f)&&_))=(decide (tT c v=fT c f)&&(w.contains (v:Int)&&_));cases w.contains (v:Int)<;>cases decide (tT c v=fT c f)<;>rfl
 unfold G136 canc;rw[eo,ei];simp only[Aa hf2,Aa hf3,and_self,if_true,tNC,p166 O,p80 O a3,Option.bind_some];obtain⟨l,W⟩:∃l,l=Ads c (tT c f):=⟨_,rfl⟩;obtain⟨B,A⟩:∃l,l=C6 c (fT c f):=⟨_,rfl⟩;have hll:l.length<=ar c:=by rw[W];exact Abm
 have hll2:B.length<=ar c:=by rw[A];exact Abm
 have hl':Ads c (c.2.2.1.getD f 0)=l:=W.symm;have U:C6 c (c.2.1.getD f 0)=B:=A.symm;rw[hl',U,<-W,<-A];obtain⟨P,hP⟩:∃P:Int->Bool,P=λv=>w.contains v&&decide (T c f v.toNat=T c g v.toNat):=⟨_,rfl⟩
 rw[<-hP];refine AC (v:=.brk 0 (l.any P,(l.length:Int))) ?_ ?_
 .have hst:=AL (R:=Bool) (st:=λi:Nat=>((l.take i).any P,(i:Int))) (n:=l.length) (o:=.brk 0 (l.any P,(l.length:Int))) (f:=fun(e:(Bool×Int))=>(bif(decide (e.2<((l.length:Nat):Int)))then(if(((0:Int)<=e.2)/\(e.2<((l.length:Nat):Int)))then(Option.bind (bif e.1 then(some true)else(if(((0:Int)<=(l.getD (e.2).toNat (0:Int)))/\((l.getD (e.2).toNat (0:Int))<(((mkB c w).length:Nat):Int)))then(bif((mkB c w).getD ((l.getD (e.2).toNat (0:Int))).toNat false)then(Option.bind (G81 (c,((f:Int),(l.getD (e.2).toNat (0:Int))))) (fun(Z:Int)=>(Option.bind (G81 (c,((g:Int),(l.getD (e.2).toNat (0:Int))))) (fun(v3:Int)=>(some (decide (Z=v3)))))))else(some false))else none)) (fun(Z:Bool)=>(some (LO.next (Z,(IntKind.wrap .i64 (e.2+(1:Int))))))))else none)else(some (LO.brk 0 (e.1,e.2))))) (λi hi=>?_) ?_ (λy=>by simp)
  .exact hst
  .obtain⟨b,E,_,F⟩:=Abn (m:=ar c) (q:=λv=>decide (fT c v=tT c f)) (i:=i) (by rw[W]at hi;exact hi)
   have F:l.getD i 0=(b:Int):=by rw[W];exact F
   simp only[Ad,hi,decide_true,cond_true,Aa hi,and_self,if_true,tNC,F,DR,Aa E,DS E,p81 h (Aa hf) (Aa E),p81 h (Aa hg) (Aa E),Option.bind_some];rw[Aj (by omega) (by omega),QL hi,F]
   cases (l.take i).any P with
   |true=>rfl
   |false=>
    rw[Bool.false_or,hP];simp only[tNC];cases w.contains (b:Int)<;>rfl
  .simp only[Ad,Nat.lt_irrefl,decide_false,cond_false,List.take_length]
 show(if 0=0 then _ else none)=_
 rw[if_pos rfl];cases l.any P with
 |false=>rfl
 |true=>
 simp only[Bool.not_true,cond_false,Bool.false_or];rw[<-Hb (0:Int) (λv:Int=>w.contains v&&decide (T c v.toNat f=T c v.toNat g)) B]
 refine AaT (st:=λi:Nat=>(i:Int)) (n:=B.length) (q:=λi=>w.contains (B.getD i 0)&&decide (T c (B.getD i 0).toNat f=T c (B.getD i 0).toNat g)) (Q:=λr:Bool=>r=true) (o:=.brk 2 (B.length:Int)) (Post:=λb (o:Option Bool)=>o=some b) (λi hi=>?_) ?_ (λy=>by simp) rfl (λr hr=>by rw[hr])
 .obtain⟨b,E,_,F⟩:=Abn (m:=ar c) (q:=λv=>decide (tT c v=fT c f)) (i:=i) (by rw[A]at hi;exact hi)
  have F:B.getD i 0=(b:Int):=by rw[A];exact F
  simp only[Ad,hi,decide_true,cond_true,Aa hi,and_self,if_true,tNC,F,DR,Aa E,DS E,p81 h (Aa E) (Aa hf),p81 h (Aa E) (Aa hg),Option.bind_some];rw[Aj (by omega) (by omega)]
  cases w.contains (b:Int)with
  |false=>exact⟨λ_=>rfl,(λY=>by cases Y)⟩
  |true=>
   rw[Bool.true_and];simp only[cond_true,Option.bind_some];refine⟨λY=>?_,λY=>?_⟩
   .rw[Y];rfl
   .rw[Y];exact⟨_,rfl,rfl⟩
 .simp only[Ad,Nat.lt_irrefl,decide_false,cond_false]
end Go.Ve.D


namespace Go.Ve.D
open Go Go.Ve
variable{c:Cat}{w:List Int}
def par(c:Cat)(f g:Nat):Bool:=decide (fT c f=fT c g)&&decide (tT c f=tT c g)
def p174(h:Sh c){f g:Nat}(hf:f<ar c)(J:g<ar c):G174 (c,((f:Int),(g:Int)))=some (par c f g):=by
 have F:=h.hd;obtain⟨a1,a2,a3,a4,a5,a6,a7,a8⟩:=F;have E:f<c.2.1.length:=hf;have A:g<c.2.1.length:=J;have B:f<c.2.2.1.length:=by omega
 have e:g<c.2.2.1.length:=by omega
 unfold G174 par fT tT;simp only[Aa E,Aa A,Aa B,Aa e,and_self,if_true,tNC];cases decide (c.2.1.getD f 0=c.2.1.getD g 0)<;>rfl
def PI(c:Cat)(w:List Int)(f i:Nat):Bool:=!decide (tT c f=c.2.2.1.getD (w.getD i 0).toNat 0)||sq c w f (w.getD i 0).toNat
def sqAll(c:Cat)(w:List Int):Bool:=(List.range (ar c)).all λf=>(List.range w.length).all (PI c w f)
def Nr(c:Cat)(w:List Int)(f j:Nat):Bool:=!par c f (f+1+j)||canc c w f (f+1+j)
def YJ(c:Cat)(w:List Int):Bool:=(List.range (ar c)).all λf=>(List.range (ar c-(f+1))).all (Nr c w f)
def Aap(c:Cat)(w:List Int):Bool:=(Km c w&&CX c w)&&(sqAll c w&&YJ c w)
theorem AdA{R S:Type}{F:Int->Option (LO Int R)}{n:Nat}{p:Nat->Bool}{Q:R->Prop}{o:LO Int R}{k:LO Int R->Option S}{Post:Bool->Option S->Prop}
  (U:∀i,i<n->(p i=true->F (i:Int)=some (.next ((i+1:Nat):Int)))/\(p i=false->∃r,F (i:Int)=some (.ret r)/\Q r)) (O:F (n:Int)=some o) (B:∀y,o≠.next y)
  (J:Post true (k o)) (E:∀r,Q r->Post false (k (.ret r))):Post ((List.range n).all p) (Option.bind (Ar F (0:Int)) k):=by
 refine Bd (st:=λi:Nat=>(i:Int)) (p:=p) (Q:=Q) (o:=o) (Post:=λx=>Post ((List.range n).all p) x) U O B (λe=>?_) (λe r A=>?_)
 .rw[e];exact J
 .rw[e];exact E r A
abbrev R3:=Int×Int×Int
def Aac(s:Int)(p:Bool)(o:Option (LO Int R3)):Prop:=(p=true->o=some (.next s))/\(p=false->∃r,o=some (.ret r)/\decide (r.1=0)=false)
theorem p127(h:Sh c)(W:w.length<=1048576)(E:wi (ar c) w=true):∃r,G127 (c,w)=some r/\decide (r.1=0)=Aap c w:=by
 have hh:=h.hd;obtain⟨a1,a2,a3,a4,a5,a6,a7,a8⟩:=hh;have hm:ar c<=40:=a2;obtain⟨r0,Z,O⟩:=p173 h W E;unfold G127 Aap;simp only[Prod.eta,Z,Option.bind_some];cases U:Km c w&&CX c w with
 |false=>
  rw[U]at O;rw[O];exact⟨_,rfl,O⟩
 |true=>
 rw[U]at O;rw[O];simp only[Bool.not_true,cond_false,Bool.true_and];refine AdA (n:=ar c) (p:=λf=>(List.range w.length).all (PI c w f)) (Q:=λr:R3=>decide (r.1=0)=false) (o:=.brk 0 (ar c:Int)) (Post:=λb (o:Option R3)=>∃r,o=some r/\decide (r.1=0)=(b&&YJ c w)) (λf hf=>?_) ?_ (λy=>by simp) ?_ (λr F=>⟨r,rfl,by rw[F];rfl⟩)
 .have J:f<c.2.1.length:=hf
  have hf3:f<c.2.2.1.length:=by omega
  simp only[Ad,J,decide_true,cond_true];refine AdA (n:=w.length) (p:=PI c w f) (Q:=λr:LO Int R3=>∃r',r=.ret r'/\decide (r'.1=0)=false) (o:=.brk 2 (w.length:Int)) (Post:=Aac ((f+1:Nat):Int)) (λi hi=>?_) ?_ (λy=>by simp) ⟨λ_=>?_,(λA=>by cases A)⟩ (λr F=>⟨(λA=>by cases A),λ_=>?_⟩)
  .obtain⟨v,hv,ev⟩:=Ws E hi
   have Y:v<c.2.2.1.length:=by rw[a3];exact hv
   obtain⟨r,g1,g2⟩:=p144 h W hf hv;simp only[Ad,hi,decide_true,cond_true,Aa hi,Aa hf3,Aa Y,and_self,if_true,tNC,ev,g1,Option.bind_some,g2];rw[Aj (by omega) (by omega)]
   unfold PI tT;rw[ev,tNC];cases decide (c.2.2.1.getD f 0=c.2.2.1.getD v 0)with
   |false=>exact⟨λ_=>rfl,(λA=>by cases A)⟩
   |true=>
    rw[Bool.not_true,Bool.false_or];refine⟨λA=>?_,λA=>?_⟩
    .rw[A];rfl
    .rw[A];exact⟨_,rfl,_,rfl,rfl⟩
  .simp only[Ad,Nat.lt_irrefl,decide_false,cond_false]
  .show(if 2=2 then _ else none)=_
   rw[if_pos rfl,Aj (by omega) (by omega)];rfl
  .obtain⟨r',rfl,h'⟩:=F
   exact⟨r',rfl,h'⟩
 .have e:decide (((ar c:Nat):Int)<((c.2.1.length:Nat):Int))=false:=by rw[Ad];exact dF (Nat.lt_irrefl _)
  simp only[e,cond_false]
 .show ∃r,(if 0=0 then _ else none)=some r/\_
  rw[if_pos rfl,Bool.true_and];refine AdA (n:=ar c) (p:=λf=>(List.range (ar c-(f+1))).all (Nr c w f)) (Q:=λr:R3=>decide (r.1=0)=false) (o:=.brk 4 (ar c:Int)) (Post:=λb (o:Option R3)=>∃r,o=some r/\decide (r.1=0)=b) (λf hf=>?_) ?_ (λy=>by simp) ⟨_,rfl,rfl⟩ (λr F=>⟨r,rfl,F⟩)
  .have J:f<c.2.1.length:=hf
   simp only[Ad,J,decide_true,cond_true];rw[Aj (n:=(f:Int)+1) (by omega) (by omega)]
   refine Bd (st:=λj:Nat=>((f+1+j:Nat):Int)) (n:=ar c-(f+1)) (p:=Nr c w f) (Q:=λr:LO Int R3=>∃r',r=.ret r'/\decide (r'.1=0)=false) (o:=.brk 6 (ar c:Int)) (Post:=Aac ((f+1:Nat):Int) ((List.range (ar c-(f+1))).all (Nr c w f))) (λj hj=>?_) ?_ (λy=>by simp) (λB=>?_) (λB r F=>?_)
   .have hg:f+1+j<ar c:=by omega
    have e1:decide (((f+1+j:Nat):Int)<((c.2.1.length:Nat):Int))=true:=by rw[Ad];exact dT hg
    simp only[e1,cond_true,p174 h hf hg,Option.bind_some,p175 h W E hf hg];rw[Aj (n:=((f+1+j:Nat):Int)+1) (by omega) (by omega)]
    unfold Nr;cases par c f (f+1+j)with
    |false=>exact⟨λ_=>rfl,(λA=>by cases A)⟩
    |true=>
     rw[Bool.not_true,Bool.false_or];simp only[cond_true,Option.bind_some];refine⟨λA=>?_,λA=>?_⟩
     .rw[A];rfl
     .rw[A];exact⟨_,rfl,_,rfl,rfl⟩
   .have e1:f+1+(ar c-(f+1))=ar c:=by omega
    have e:decide (((ar c:Nat):Int)<((c.2.1.length:Nat):Int))=false:=by rw[Ad];exact dF (Nat.lt_irrefl _)
    simp only[e1,e,cond_false]
   .rw[B]
    refine⟨λ_=>?_,(λA=>by cases A)⟩
    show(if 6=6 then _ else none)=_
    rw[if_pos rfl];rfl
   .rw[B]
    refine⟨(λA=>by cases A),λ_=>?_⟩
    obtain⟨r',rfl,h'⟩:=F;exact⟨r',rfl,h'⟩
  .have e:decide (((ar c:Nat):Int)<((c.2.1.length:Nat):Int))=false:=by rw[Ad];exact dF (Nat.lt_irrefl _)
   simp only[e,cond_false]
theorem p77(h:Sh c)(hs:DG c=true)(hw:w.length<=1048576)(E:wi (ar c) w=true):∃r,G77 (c,(w,mkB c w))=some r/\decide (r.1=0)=Aap c w:=by
 have hh:=h.hd;obtain⟨a1,a2,a3,a4,a5,a6,a7,a8⟩:=hh;have hm:ar c<=40:=a2;obtain⟨r0,hr0,W⟩:=p133 h hw E;unfold G77 Aap;rw[<-Aad h hs w,<-Wb h E];simp only[hr0,Option.bind_some,p99];cases U:Qg c w&&DY c w with
 |false=>
  rw[U]at W;rw[W];exact⟨_,rfl,rfl⟩
 |true=>
 rw[U]at W;rw[W];simp only[Bool.not_true,cond_false,Bool.true_and];refine AdA (n:=ar c) (p:=λf=>(List.range w.length).all (PI c w f)) (Q:=λr:R3=>decide (r.1=0)=false) (o:=.brk 0 (ar c:Int)) (Post:=λb (o:Option R3)=>∃r,o=some r/\decide (r.1=0)=(b&&YJ c w)) (λf hf=>?_) ?_ (λy=>by simp) ?_ (λr J=>⟨r,rfl,by rw[J];rfl⟩)
 .have F:f<c.2.1.length:=hf
  have O:f<c.2.2.1.length:=by omega
  simp only[Ad,F,decide_true,cond_true];refine AdA (n:=w.length) (p:=PI c w f) (Q:=λr:LO Int R3=>∃r',r=.ret r'/\decide (r'.1=0)=false) (o:=.brk 2 (w.length:Int)) (Post:=Aac ((f+1:Nat):Int)) (λi hi=>?_) ?_ (λy=>by simp) ⟨λ_=>?_,(λA=>by cases A)⟩ (λr J=>⟨(λA=>by cases A),λ_=>?_⟩)
  .obtain⟨v,hv,ev⟩:=Ws E hi
   have Z:v<c.2.2.1.length:=by rw[a3];exact hv
   simp only[Ad,hi,decide_true,cond_true,Aa hi,Aa O,Aa Z,and_self,if_true,tNC,ev,p134 h hf hv,Option.bind_some];rw[Aj (by omega) (by omega)]
   unfold PI tT;rw[ev,tNC];cases decide (c.2.2.1.getD f 0=c.2.2.1.getD v 0)with
   |false=>exact⟨λ_=>rfl,(λA=>by cases A)⟩
   |true=>
    rw[Bool.not_true,Bool.false_or];refine⟨λA=>?_,λA=>?_⟩
    .rw[A];rfl
    .rw[A];exact⟨_,rfl,_,rfl,rfl⟩
  .simp only[Ad,Nat.lt_irrefl,decide_false,cond_false]
  .show(if 2=2 then _ else none)=_
   rw[if_pos rfl,Aj (by omega) (by omega)];rfl
  .obtain⟨r',rfl,h'⟩:=J
   exact⟨r',rfl,h'⟩
 .have e:decide (((ar c:Nat):Int)<((c.2.1.length:Nat):Int))=false:=by rw[Ad];exact dF (Nat.lt_irrefl _)
  simp only[e,cond_false]
 .show ∃r,(if 0=0 then _ else none)=some r/\_
  rw[if_pos rfl,Bool.true_and];refine AdA (n:=ar c) (p:=λf=>(List.range (ar c-(f+1))).all (Nr c w f)) (Q:=λr:R3=>decide (r.1=0)=false) (o:=.brk 4 (ar c:Int)) (Post:=λb (o:Option R3)=>∃r,o=some r/\decide (r.1=0)=b) (λf hf=>?_) ?_ (λy=>by simp) ⟨_,rfl,rfl⟩ (λr J=>⟨r,rfl,J⟩)
  .have F:f<c.2.1.length:=hf
   have O:f<c.2.2.1.length:=by omega
   simp only[Ad,F,decide_true,cond_true];rw[Aj (n:=(f:Int)+1) (by omega) (by omega)]
   refine Bd (st:=λj:Nat=>((f+1+j:Nat):Int)) (n:=ar c-(f+1)) (p:=Nr c w f) (Q:=λr:LO Int R3=>∃r',r=.ret r'/\decide (r'.1=0)=false) (o:=.brk 6 (ar c:Int)) (Post:=Aac ((f+1:Nat):Int) ((List.range (ar c-(f+1))).all (Nr c w f))) (λj hj=>?_) ?_ (λy=>by simp) (λB=>?_) (λB r J=>?_)
   .have Y:f+1+j<ar c:=by omega
    have hg3:f+1+j<c.2.2.1.length:=by rw[a3];exact Y
    have e1:decide (((f+1+j:Nat):Int)<((c.2.1.length:Nat):Int))=true:=by rw[Ad];exact dT Y
    simp only[e1,cond_true,p135 (Aa F) (Aa O),p135 (Aa Y) (Aa hg3),Option.bind_some,p136 h hw E hf Y,tNC];rw[Aj (n:=((f+1+j:Nat):Int)+1) (by omega) (by omega)]
    have ep:(decide (c.2.1.getD f 0=c.2.1.getD (f+1+j) 0)&&(decide (c.2.2.1.getD f 0=c.2.2.1.getD (f+1+j) 0)&&true))=par c f (f+1+j):=by rw[Bool.and_true];rfl
    rw[ep];unfold Nr;cases par c f (f+1+j)with
    |false=>exact⟨λ_=>rfl,(λA=>by cases A)⟩
    |true=>
     rw[Bool.not_true,Bool.false_or];simp only[cond_true,Option.bind_some];refine⟨λA=>?_,λA=>?_⟩
     .rw[A];rfl
     .rw[A];exact⟨_,rfl,_,rfl,rfl⟩
   .have e1:f+1+(ar c-(f+1))=ar c:=by omega
    have e:decide (((ar c:Nat):Int)<((c.2.1.length:Nat):Int))=false:=by rw[Ad];exact dF (Nat.lt_irrefl _)
    simp only[e1,e,cond_false]
   .rw[B]
    refine⟨λ_=>?_,(λA=>by cases A)⟩
    show(if 6=6 then _ else none)=_
    rw[if_pos rfl];rfl
   .rw[B]
    refine⟨(λA=>by cases A),λ_=>?_⟩
    obtain⟨r',rfl,h'⟩:=J;exact⟨r',rfl,h'⟩
  .have e:decide (((ar c:Nat):Int)<((c.2.1.length:Nat):Int))=false:=by rw[Ad];exact dF (Nat.lt_irrefl _)
   simp only[e,cond_false]
end Go.Ve.D


namespace Go.Ve.D
open Go Go.Ve
variable{c:Cat}{y:Int}{w:List Int}{u:Nat}{α:Type}
def objC(c:Cat)(xs:List Int):Int:=bif !Df c then 1 else bif !wi c.1 xs then 2 else 0
def p70(h:okC c){xs:List Int}(e:xs.length<=1048576):G70 (c,xs)=some (objC c xs):=by
 unfold G70 objC;simp only[Prod.eta,p45 h,Option.bind_some,p125 e];cases Df c with
 |false=>rfl
 |true=>
  simp only[Bool.not_true,cond_false];cases wi c.1 xs<;>rfl
def Jd(c:Cat)(w:List Int)(x y:Int):Int:=bif !Df c then 1 else bif !(wi (ar c) w&&wi c.1 [x,y])then 2 else bif !(ZJ w&&Aap c w)then 5 else 0
def Qe(h:Df c=true):DG c=true:=by
 unfold Df at h;rw[bAE]at h;exact h.1
def p71(h:okC c)(F:w.length<=1048576):G71 (c,w)=some (bif decide (QV c w=0)then(bif Aap c w then 0 else 5)else QV c w):=by
 unfold G71;simp only[Prod.eta,p126 h F,Option.bind_some];cases J:decide (QV c w=0)with
 |false=>rfl
 |true=>
  have e:=of_decide_eq_true J;have A:Df c=true:=by
   cases E:Df c with
   |true=>rfl
   |false=>unfold QV YN at e;rw[E]at e;cases e
  have B:wi (ar c) w=true:=by
   cases E:wi (ar c) w with
   |true=>rfl
   |false=>unfold QV YN at e;rw[A,E]at e;cases e
  obtain⟨r,U,O⟩:=p127 (Jq A) F B;simp only[cond_true,U,Option.bind_some,O,e];cases Aap c w<;>rfl
def p36(h:okC c)(e:w.length<=1048576)(x y:Int):G36 (c,(w,(x,y)))=some (Jd c w x y):=by
 unfold G36 Jd;simp only[Prod.eta,p70 h (show [x,y].length<=1048576 by simp),p71 h e,Option.bind_some]
 unfold objC QV YN;cases Df c with
 |false=>rfl
 |true=>cases wi c.1 [x,y]<;>cases wi (ar c) w<;>cases ZJ w<;>cases Aap c w<;>rfl
abbrev DenF:=Cat×List Int×List Bool
def zD:DenF:=((0,[],[],[],[]),[],[])
theorem p40(h:okC c)(E:w.length<=1048576)(x y:Int):G40 (c,(w,[x,y]))=some (bif decide (Jd c w x y=0)then(true,((c,(w,mkB c w)),0))else(false,(zD,Jd c w x y))):=by
 unfold G40 G76 Jd zD;simp only[p130 h E,Option.bind_some];unfold YN;cases e:Df c with
 |false=>rfl
 |true=>
 have B:=Jq e;have U:=B.hd.1;cases A:wi (ar c) w with
 |false=>rfl
 |true=>
 simp only[Bool.not_true,cond_false,Bool.true_and,decide_true,p131 (n:=c.1) (x:=[x,y]) ⟨U.1,by omega⟩ (by simp),Option.bind_some]
 cases F:wi c.1 [x,y]with
 |false=>rfl
 |true=>
 simp only[Bool.not_true,cond_false,p132 E,Option.bind_some];cases W:ZJ w with
 |false=>rfl
 |true=>
 obtain⟨r,O,J⟩:=p77 B (Qe e) E A;simp only[Bool.not_true,cond_false,p55 h E A,Option.bind_some,cond_true,decide_true,O,J,Bool.true_and];cases Aap c w<;>rfl
theorem Pk{R:Type}{F:Int×List α->Option (LO (Int×List α) R)}{n K L:Nat}{g:Nat->List α}{id:Nat}(O:∀i,i<n->(g i).length<=K)
  (W:∀i,i<n->∀A:List α,A.length<=L+i*K->F ((i:Int),A)=some (.next (((i+1:Nat):Int),A++g i))) (U:∀A:List α,F ((n:Int),A)=some (.brk id ((n:Int),A))) (e:List α) (Y:e.length<=L):
  Ar F ((0:Int),e)=some (.brk id ((n:Int),e++(List.range n).flatMap g)):=by
 have J:∀i,i<=n->(e++(List.range i).flatMap g).length<=L+i*K:=by
  intro i
  induction i with
  |zero=>intro _;simpa using Y
  |succ i E=>
   intro hi;have:=E (by omega)
   have:=O i (by omega)
   rw[List.range_succ,List.flatMap_append,<-List.append_assoc,List.length_append];simp only[List.flatMap_cons,List.flatMap_nil,List.append_nil];rw[Nat.succ_mul];omega
 have B:=AL (f:=F) (st:=λi:Nat=>((i:Int),e++(List.range i).flatMap g)) (n:=n) (o:=.brk id ((n:Int),e++(List.range n).flatMap g)) (λi hi=>?_) (U _) (λy=>by simp)
 .simpa using B
 .rw[W i hi _ (J i (by omega)),List.range_succ,List.flatMap_append,List.append_assoc]
  simp
def spB(c:Cat)(w:List Int)(y:Int)(u:Nat)(b:Int):List (Int×Int×Int):=bif w.contains b then(Bk c (u:Int) y).map λa=>((u:Int),b,a)else []
def spU(c:Cat)(w:List Int)(x y:Int)(u:Nat):List (Int×Int×Int):=(List.range (Bk c (u:Int) x).length).flatMap λi=>spB c w y u ((Bk c (u:Int) x).getD i 0)
def spT(c:Cat)(w:List Int)(x y:Int):List (Int×Int×Int):=(List.range c.1.toNat).flatMap (spU c w x y)
def QW(t:Int×Int×Int):List Int:=[t.1,t.2.1,t.2.2]
def Jx{α:Type}{g:Nat->List α}{K:Nat}:∀n,(∀i,i<n->(g i).length<=K)->((List.range n).flatMap g).length<=n*K
 |0,_=>by simp
 |n+1,h=>by
  have:=Jx n λi hi=>h i (by omega)
  have:=h n (by omega)
  rw[List.range_succ,List.flatMap_append,List.length_append];simp only[List.flatMap_cons,List.flatMap_nil,List.append_nil];rw[Nat.succ_mul];omega
def PJ{b:Int}:(spB c w y u b).length<=ar c:=by
 unfold spB;cases w.contains b with
 |false=>exact Nat.zero_le _
 |true=>
  show((Bk c (u:Int) y).map _).length<=_;rw[List.length_map];exact BJ
theorem W9(e:ar c<=40){x:Int}:(spU c w x y u).length<=1600:=by
 have:=Jx (g:=λi=>spB c w y u ((Bk c (u:Int) x).getD i 0)) (K:=40) (Bk c (u:Int) x).length λi _=>Nat.le_trans PJ e
 have A:=BJ (c:=c) (x:=(u:Int)) (y:=x);have:(Bk c (u:Int) x).length*40<=40*40:=Nat.mul_le_mul_right _ (by omega)
 unfold spU;omega
def OY{A:Type}(d:α)(f:α->A)(l:List α):(List.range l.length).flatMap (λj=>[f (l.getD j d)])=l.map f:=by
 induction l with
 |nil=>rfl
 |cons a l e=>
  rw[List.length_cons,List.range_succ_eq_map,List.flatMap_cons,List.flatMap_map,List.map_cons];simp only[List.getD_cons_zero];have:(λj:Nat=>[f ((a::l).getD (j+1) d)])=λj=>[f (l.getD j d)]:=by funext j;simp
  show [f a]++(List.range l.length).flatMap (λj:Nat=>[f ((a::l).getD (j+1) d)])=_
  rw[this,e];rfl
theorem p41(h:Sh c)(x y:Int):G41 ((c,(w,mkB c w)),(x,y))=some (spT c w x y):=by
 have Z:=h.hd;obtain⟨a1,a2,a3,a4,a5,a6,a7,a8⟩:=Z;have U:ar c<=40:=a2;have E:c.2.1.length<=1048576:=by omega
 obtain⟨n,O⟩:∃n:Nat,c.1=(n:Int):=⟨c.1.toNat,by omega⟩
 unfold G41 spT;rw[O,tNC];simp only[O];refine AC (v:=.brk 0 ((n:Int),[]++(List.range n).flatMap (spU c w x y))) (Pk (K:=1600) (L:=0) (λu J=>W9 U) (λu J A ha=>?_) (λA=>?_) [] (Nat.zero_le _)) (by rw[List.nil_append];rfl)
 rotate_left
 .simp only[Ad,Nat.lt_irrefl,decide_false,cond_false]
 have Y:A.length<=20000:=by
  have:u*1600<=8*1600:=Nat.mul_le_mul_right _ (by omega)
  omega
 have hbl:=BJ (c:=c) (x:=(u:Int)) (y:=x);have hal:=BJ (c:=c) (x:=(u:Int)) (y:=y);simp only[Ad,J,decide_true,cond_true,p78 E a3,Option.bind_some];refine AC (v:=.brk 2 (((Bk c (u:Int) x).length:Int),A++spU c w x y u)) (Pk (K:=40) (L:=A.length) (λi hi=>Nat.le_trans PJ U) (λi hi e ha2=>?_) (λe=>?_) A (Nat.le_refl _)) ?_
 .obtain⟨b,W,eb⟩:=Dt hi
  have F:e.length<=30000:=by
   have:i*40<=40*40:=Nat.mul_le_mul_right _ (by omega)
   omega
  simp only[Ad,hi,decide_true,cond_true,Aa hi,and_self,if_true,tNC,eb,DR,Aa W,DS W];unfold spB;cases w.contains (b:Int)with
  |false=>
   simp only[Bool.not_false,cond_true,cond_false,List.append_nil];rw[Aj (by omega) (by omega)];rfl
  |true=>
   simp only[Bool.not_true,cond_true,cond_false];refine AC (v:=.brk 4 (((Bk c (u:Int) y).length:Int),e++(List.range (Bk c (u:Int) y).length).flatMap λj=>[((u:Int),((b:Int),(Bk c (u:Int) y).getD j 0))])) (Pk (K:=1) (L:=e.length) (λj hj=>Nat.le_refl _) (λj hj B ha3=>?_) (λB=>?_) e (Nat.le_refl _)) ?_
   .simp only[Ad,hj,decide_true,cond_true,Aa hj,and_self,if_true,tNC,List.length_cons,List.length_nil]
    rw[Aj (by omega) (by omega),if_pos (show B.length+(0+1)<=5864062014805 by omega)]
    rfl
   .simp only[Ad,Nat.lt_irrefl,decide_false,cond_false]
   .show(if 4=4 then _ else none)=_
    rw[if_pos rfl,Aj (by omega) (by omega),OY (0:Int) (λa=>((u:Int),((b:Int),a)))]
    rfl
 .simp only[Ad,Nat.lt_irrefl,decide_false,cond_false]
 .show(if 2=2 then _ else none)=_
  rw[if_pos rfl,Aj (by omega) (by omega)];rfl
end Go.Ve.D


namespace Go.Ve.D
open Go Go.Ve
variable{c:Cat}{b x y:Int}{w:List Int}{u:Nat}
def rowB(c:Cat)(w:List Int)(y:Int)(u:Nat)(b:Int):List (List Int):=bif w.contains b then(Bk c (u:Int) y).map λa=>[(u:Int),b,a]else []
def Acg(c:Cat)(w:List Int)(x y:Int)(u:Nat):List (List Int):=(List.range (Bk c (u:Int) x).length).flatMap λi=>rowB c w y u ((Bk c (u:Int) x).getD i 0)
def spR(c:Cat)(w:List Int)(x y:Int):List (List Int):=(List.range c.1.toNat).flatMap (Acg c w x y)
def PM:rowB c w y u b=(spB c w y u b).map QW:=by
 unfold rowB spB;cases w.contains b with
 |false=>rfl
 |true=>simp[QW]
def spR_eq:spR c w x y=(spT c w x y).map QW:=by
 unfold spR spT Acg spU;simp only[PM,List.map_flatMap]
def ZH:(rowB c w y u b).length<=ar c:=by
 rw[PM,List.length_map];exact PJ
def ZG(A:ar c<=40):(Acg c w x y u).length<=1600:=by
 have e:Acg c w x y u=(spU c w x y u).map QW:=by unfold Acg spU;simp only[PM,List.map_flatMap]
 rw[e,List.length_map];exact W9 A
theorem p37(h:Sh c)(Y:w.length<=1048576)(x y:Int):G37 (c,(w,(x,y)))=some (spR c w x y):=by
 have Z:=h.hd;obtain⟨a1,a2,a3,a4,a5,a6,a7,a8⟩:=Z;have U:ar c<=40:=a2;have F:c.2.1.length<=1048576:=by omega
 obtain⟨n,E⟩:∃n:Nat,c.1=(n:Int):=⟨c.1.toNat,by omega⟩
 have ec:((n:Int),(c.2.1,(c.2.2.1,(c.2.2.2.1,c.2.2.2.2))))=c:=by rw[<-E]
 unfold G37 spR;rw[E,tNC];simp only[E,ec];refine AC (v:=.brk 0 ((n:Int),[]++(List.range n).flatMap (Acg c w x y))) (Pk (K:=1600) (L:=0) (λu O=>ZG U) (λu O A ha=>?_) (λA=>?_) [] (Nat.zero_le _)) (by rw[List.nil_append];rfl)
 rotate_left
 .simp only[Ad,Nat.lt_irrefl,decide_false,cond_false]
 have W:A.length<=20000:=by
  have:u*1600<=8*1600:=Nat.mul_le_mul_right _ (by omega)
  omega
 have hbl:=BJ (c:=c) (x:=(u:Int)) (y:=x);have hal:=BJ (c:=c) (x:=(u:Int)) (y:=y);simp only[Ad,O,decide_true,cond_true,p72 F a3,Option.bind_some];refine AC (v:=.brk 2 (((Bk c (u:Int) x).length:Int),A++Acg c w x y u)) (Pk (K:=40) (L:=A.length) (λi hi=>Nat.le_trans ZH U) (λi hi e ha2=>?_) (λe=>?_) A (Nat.le_refl _)) ?_
 .obtain⟨b,hb,eb⟩:=Dt hi
  have J:e.length<=30000:=by
   have:i*40<=40*40:=Nat.mul_le_mul_right _ (by omega)
   omega
  simp only[Ad,hi,decide_true,cond_true,Aa hi,and_self,if_true,tNC,eb,p73 Y,Option.bind_some];unfold rowB;cases w.contains (b:Int)with
  |false=>
   simp only[cond_false,List.append_nil];refine AC (v:=.brk 4 ((0:Int),e)) ?_ ?_
   .rw[A1]
    simp only;cases decide ((0:Int)<((Bk c (u:Int) y).length:Nat))<;>rfl
   .show(if 4=4 then _ else none)=_
    rw[if_pos rfl,Aj (by omega) (by omega)];rfl
  |true=>
   simp only[cond_true];refine AC (v:=.brk 4 (((Bk c (u:Int) y).length:Int),e++(List.range (Bk c (u:Int) y).length).flatMap λj=>[[(u:Int),(b:Int),(Bk c (u:Int) y).getD j 0]])) (Pk (K:=1) (L:=e.length) (λj hj=>Nat.le_refl _) (λj hj B ha3=>?_) (λB=>?_) e (Nat.le_refl _)) ?_
   .simp only[Ad,hj,decide_true,cond_true,Aa hj,and_self,if_true,tNC,List.length_cons,List.length_nil,Option.bind_some]
    rw[Aj (by omega) (by omega),if_pos (show B.length+(0+1)<=5864062014805 by omega)]
    rfl
   .simp only[Ad,Nat.lt_irrefl,decide_false,cond_false,Option.bind_some]
   .show(if 4=4 then _ else none)=_
    rw[if_pos rfl,Aj (by omega) (by omega),OY (0:Int) (λa=>[(u:Int),(b:Int),a])]
    rfl
 .simp only[Ad,Nat.lt_irrefl,decide_false,cond_false]
 .show(if 2=2 then _ else none)=_
  rw[if_pos rfl,Aj (by omega) (by omega)];rfl
def YD(h:Jd c w x y=0):Df c=true:=by
 unfold Jd at h;cases e:Df c with
 |true=>rfl
 |false=>rw[e]at h;cases h
def mk14{k:Int}(F:0<=k)(h1:k<=562949953421312)(h:okC c):∃k' y,G14 (c,k)=some (k',y)/\0<=k'/\k'<=k+8796093022208:=by
 obtain⟨g1,g2,U,O,J⟩:=h;obtain⟨k1,E,a1,b1,c1,d1⟩:=mh15 F (by omega) g1
 obtain⟨k2,B,a2,Z,c2,d2⟩:=mh15 b1 (by omega) g2
 obtain⟨k3,A,a3,Y,c3,d3⟩:=mh15 Z (by omega) U
 obtain⟨k4,e,a4,W,c4,d4⟩:=mh23 Y (by omega) O J
 refine⟨k4,(E,(B,(A,e))),?_,W,by omega⟩
 unfold G14;simp only[a1,a2,a3,a4,Option.bind_some]
end Go.Ve.D

