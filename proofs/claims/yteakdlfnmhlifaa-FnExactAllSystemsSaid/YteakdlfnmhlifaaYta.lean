/- AllSystems: small functions. -/
import Derived.Test.YteakdlfnmhlifaaYtn
open List(range contains_iff_mem ext_getElem? length_map length_range getElem?_set_ne mem_append mem_singleton getElem?_map take_length)
open Go.IntKind(wrap)
set_option linter.all false
namespace Go.Ve.D
open Go Go.Ve
variable{c:Cat}{f:Nat}
def cl(n:Nat)(q:Nat->Bool):List Int:=((range n).filter q).map fun(i:Nat)=>(i:Int)
def Hs(c:Cat):List Int:=cl (ar c) λf=>!Jc c f
def p52(h:Sh c)(B:f<ar c):G52 (c,(f:Int))=some (Jc c f):=by
 have A:f<c.2.1.length:=B;have H:=h.fr f B;have F:(c.2.2.2.1.length:Int)=c.1:=h.hd.2.2.2.2.2.2.1;unfold G52;exact A8 (Ab A) (A8 (by show(0:Int)<=c.2.1.getD ((f:Int)).toNat 0/\c.2.1.getD ((f:Int)).toNat 0<(c.2.2.2.1.length:Int);rw[tNC,F];exact H) rfl)
def p90(h:Sh c)(A:f<ar c):G90 (c,(f:Int))=some (Jc c f):=p52 h A
theorem p45(h:Sh c):G45 c=some (Hs c):=by
 have F:=Cf h;unfold G45;refine gatN (q:=λf=>!Jc c f) (id:=0) (n:=ar c) (by omega) (λi hi A B=>?_) (λA=>Bf ltn rfl) rfl
 exact Bb (ltd hi) (Af (p90 h hi) (PS B (wr hi (by omega))))
theorem ZV(H:BY c=true)(Y:f<ar c):c.2.2.2.1.contains (f:Int)=Jc c f:=by
 have h:=Cv H;have Z:(c.2.2.2.1.length:Int)=c.1:=h.hd.2.2.2.2.2.2.1;rw[Bool.eq_iff_iff,contains_iff_mem];unfold Jc fT;rw[decide_eq_true_iff];constructor
 .intro hm
  obtain⟨x,W,B⟩:=List.getElem_of_mem hm;obtain⟨i,U,_,_,A,_⟩:=UN H (x:=(x:Int)) ⟨by omega,by omega⟩
  have F:c.2.2.2.1.getD x 0=(f:Int):=by rw[gDE,gEE W];exact B
  have hi:(i:Int)=(f:Int):=by
   rw[<-U];show c.2.2.2.1.getD ((x:Int)).toNat 0=_;rw[tNC];exact F
  have:i=f:=by omega
  subst this;have A:c.2.1.getD i 0=(x:Int):=A;rw[A,tNC];exact F
 .intro B
  have h1:=h.fr f Y;rw[<-B];exact BR 0 (by omega)
theorem p54(W:BY c=true):Tot (λr=>r=(range (ar c)).map (Jc c)) (G54 (c,c.2.2.2.1)):=by
 have h:=Cv W;have hl:=Cf h;have hn:(c.2.2.2.1.length:Int)=c.1:=h.hd.2.2.2.2.2.2.1;have h8:=h.hd.1.2;unfold G54;refine Cz (p99 c) (AS ⟨by omega,by omega,by show 1*((ar c:Nat):Int)<=_;omega,by show((ar c:Nat):Int)<=_;omega⟩ ?_)
 refine Dk (n:=c.2.2.2.1.length) (λk v=>v.1=(k:Int)/\v.2=(range (ar c)).map fun(f:Nat)=>(c.2.2.2.1.take k).contains (f:Int)) ⟨rfl,?_⟩ (λk B v hv=>?_) λv hv=>?_
 .show List.replicate ((c.2.1.length:Int)).toNat false=_
  apply ext_getElem?;intro j;by_cases hj:j<ar c
  .have A:j<c.2.1.length:=hj
   simp[hj,A]
  .have A:¬j<c.2.1.length:=hj
   simp[hj,A]
 .obtain⟨k0,M⟩:=v
  obtain⟨(U:k0=_),(H:M=_)⟩:=hv;subst U H;have F:=h.id (k:Int) (by omega) (by omega)
  rw[tNC]at F;obtain⟨i,hi⟩:∃i:Nat,c.2.2.2.1.getD k 0=(i:Int):=⟨(c.2.2.2.1.getD k 0).toNat,by omega⟩
  have Z:i<ar c:=by
   have:(i:Int)<(c.2.1.length:Int):=by rw[<-hi];exact F.2
   exact Int.ofNat_lt.1 this
  have Y:c.2.2.2.1.getD ((k:Int)).toNat 0=(i:Int):=by rw[tNC];exact hi
  refine Mj (ltd B) (AS (Ab B) (AS (by show(0:Int)<=c.2.2.2.1.getD ((k:Int)).toNat 0/\c.2.2.2.1.getD ((k:Int)).toNat 0<(((range (ar c)).map fun(f:Nat)=>(c.2.2.2.1.take k).contains (f:Int)).length:Int);rw[Y,length_map,length_range];omega) (As ⟨wr B (by omega),?_⟩)))
  show((range (ar c)).map fun(f:Nat)=>(c.2.2.2.1.take k).contains (f:Int)).set (c.2.2.2.1.getD ((k:Int)).toNat 0).toNat true=_
  rw[Y,tNC];apply ext_getElem?;intro j;by_cases hj:j<ar c
  .by_cases e:j=i
   .subst e
    rw[List.getElem?_set_self (by simpa using hj)]
    have:(c.2.2.2.1.take (k+1)).contains (j:Int)=true:=by
     rw[contains_iff_mem,<-Hy 0 B,hi];simp
    simp[hj];simpa using this
   .rw[getElem?_set_ne (Ne.symm e)]
    have:(c.2.2.2.1.take (k+1)).contains (j:Int)=(c.2.2.2.1.take k).contains (j:Int):=by
     rw[Bool.eq_iff_iff,contains_iff_mem,contains_iff_mem,<-Hy 0 B,hi,mem_append,mem_singleton];constructor
     .rintro (h|h)
      .exact h
      .exact absurd (Int.ofNat.inj h) e
     .exact .inl
    rw[getElem?_map,getElem?_map,List.getElem?_range hj];exact congrArg some this.symm
  .rw[getElem?_set_ne (by omega)]
   simp[hj]
 .obtain⟨k0,M⟩:=v
  obtain⟨(U:k0=_),(H:M=_)⟩:=hv;subst U H;refine KT ltn (As (AS rfl (As ?_)));rw[take_length];exact List.map_congr_left λf hf=>ZV W (List.mem_range.1 hf)
def snocM{α:Type}{f:Nat->α}{i:Nat}:(range i).map f++[f i]=(range (i+1)).map f:=by
 rw[List.range_succ,List.map_append];rfl
theorem p46(h:Sh c):Tot (λr=>r=ot c) (G46 c):=by
 have hl:=Cf h;have Z:c.2.1.length<=40:=hl;unfold G46;refine Dk (n:=ar c) (λe v=>v.1=(e:Int)/\v.2=(range e).map λe=>(range (ar c)).map λm=>og c e m) ⟨rfl,rfl⟩ (λe W v hv=>?_) λv hv=>?_
 .obtain⟨Y,A⟩:=v
  obtain⟨(H:Y=_),(F:A=_)⟩:=hv;subst H F;refine Mj (ltd W) (Dk (n:=ar c) (λm v=>v.1=(m:Int)/\v.2=(range m).map λm=>og c e m) ⟨rfl,rfl⟩ (λm hm v hv=>?_) λv hv=>?_)
  .obtain⟨U,B⟩:=v
   obtain⟨(H:U=_),(F:B=_)⟩:=hv;subst H F;refine Mj (ltd hm) (Cz (p91 h W hm) (AS (by show((range m).map λm=>og c e m).length+1<=_;rw[length_map,length_range];omega) (As ⟨wr hm (by omega),snocM⟩)))
  .obtain⟨U,B⟩:=v
   obtain⟨(H:U=_),(F:B=_)⟩:=hv;subst H F;exact KT ltn (As (AS rfl (AS trivial (AS (by show((range e).map λe=>(range (ar c)).map λm=>og c e m).length+1<=_;rw[length_map,length_range];omega) (As ⟨wr W (by omega),snocM⟩)))))
 .obtain⟨Y,A⟩:=v
  obtain⟨(H:Y=_),(F:A=_)⟩:=hv;subst H F;exact KT ltn (As (AS rfl (As rfl)))
theorem p48{L:List (List Int)}(F:L.length<=1000)(B:∀p∈L,p.length<=1048576)(e:List Int):Tot (λr=>r<0↔ ¬e∈L) (G48 (L,e)):=by
 unfold G48;refine Dk (n:=L.length) (λi v=>v=(i:Int)/\¬e∈L.take i) ⟨rfl,by simp⟩ (λi hi v hv=>?_) λv hv=>?_
 .obtain⟨rfl,A⟩:=hv
  have hm:L.getD i []∈L:=BR [] hi;refine Mj (ltd hi) (AS (Ab hi) (Cz (v:=decide (L.getD i []=e)) (by show G92 (L.getD ((i:Int)).toNat [],e)=_;rw[tNC];exact p92 (B _ hm)) (Cq (λc=>?_) λc=>As ⟨wr hi (by omega),?_⟩)))
  .have c:L.getD i []=e:=by simpa using c
   refine Ww (As ⟨λh=>by omega,λh=>absurd (c▸hm) h⟩)
  .have c:¬L.getD i []=e:=by simpa using c
   rw[<-Hy [] hi,mem_append,mem_singleton]
   rintro (h|h)
   .exact A h
   .exact c h.symm
 .obtain⟨rfl,A⟩:=hv
  rw[take_length]at A;exact KT ltn (As (AS rfl (As ⟨λ_=>A,λ_=>by decide⟩)))
end Go.Ve.D


namespace Go.Ve.D
open Go Go.Ve Go.Proofs
variable{c:Cat}{w:List Int}{i k m n:Nat}{q:Nat->Bool}
def YJ{p:Int->Bool}(h:(w.take k).all p=false):w.all p=false:=by
 rw[List.all_eq_false]at h⊢;obtain⟨x,A,B⟩:=h;exact⟨x,List.mem_of_mem_take A,B⟩
def ot_at{e:Nat}(A:e<ar c)(hm:m<ar c):((ot c).getD e []).getD m false=og c e m:=by
 rw[OC A,Kb hm]
def clN{n:Nat}:cl (i+1) q=bif q i then cl i q++[(i:Int)]else cl i q:=by
 unfold cl;rw[List.range_succ,List.filter_append,List.map_append];cases h:q i<;>simp[h]
def cl_le:(cl n q).length<=n:=DX
def X6(F:w.length<=1048576){q:Int->Bool}{f:(Bool×Int)->Option (LO (Bool×Int) (LO (Int×List Int) (List Int×List Int)))}{g:Nat->(Bool×Int)->Option (LO (Int×List Int) (List Int×List Int))}{Q:LO (Int×List Int) (List Int×List Int)->Prop}{id:Nat}
  (W:∀k,k<w.length->f (true,(k:Int))=some (.next (q (w.getD k 0),wrap .i64 ((k:Int)+1)))) (U:∀k:Nat,f (false,(k:Int))=some (.brk id (false,(k:Int)))) (h3:f (true,(w.length:Int))=some (.brk id (true,(w.length:Int)))) (H:∀k:Int,Tot Q (g id (w.all q,k))):Tot Q (Option.bind (Aq f (true,(0:Int))) (LO.fin g)):=by
 refine Hx (I:=λv=>∃k:Nat,v.2=(k:Int)/\k<=w.length/\v.1=(w.take k).all q) (λv=>w.length+1-v.2.toNat) ⟨0,rfl,Nat.zero_le _,by simp⟩ (λv hv=>?_)
 obtain⟨b,k0⟩:=v;obtain⟨k,(Y:k0=_),Z,(B:b=_)⟩:=hv;subst Y;cases b with
 |false=>
  rw[U];have:=YJ B.symm;rw[<-this];exact As (H _)
 |true=>
  by_cases A:k<w.length
  .rw[W k A]
   refine As ⟨⟨k+1,wr A F,by omega,?_⟩,?_⟩
   .show q (w.getD k 0)=_
    rw[JE (0:Int) A,<-B,Bool.true_and]
   .show w.length+1-(wrap .i64 ((k:Int)+1)).toNat<w.length+1-((k:Int)).toNat
    rw[wr A F,tNC,tNC];omega
  .obtain rfl:k=w.length:=by omega
   rw[h3];rw[take_length]at B;rw[B];exact As (H _)
def AaE(A:wi (ar c) w=true)(B:k<w.length):∃e:Nat,w.getD k 0=(e:Int)/\e<ar c:=by
 obtain⟨H,F⟩:=JA A B;exact⟨(w.getD k 0).toNat,by omega,by omega⟩
theorem p47(hl:ar c<=40)(hw:w.length<=1048576)(hwi:wi (ar c) w=true):Tot (λr=>r=(rt c w,lf c (rt c w))) (G47 (ot c,w)):=by
 unfold G47;have hrl:(rt c w).length<=1048576:=Nat.le_trans DX (by omega)
 have hrw:wi (ar c) (rt c w)=true:=I6;refine Dk (n:=ar c) (λi v=>v.1=(i:Int)/\v.2=cl i (rq c w)) ⟨rfl,rfl⟩ (λi hi v hv=>?_) λv hv=>?_
 .obtain⟨H,A⟩:=v
  obtain⟨(W:H=_),(B:A=_)⟩:=hv;subst W B;have hA:(cl i (rq c w)).length<=i:=cl_le;refine Mj (by show decide ((i:Int)<(((ot c).length:Nat):Int))=true;rw[I3];exact ltd hi) (X6 hw (q:=λe=>og c e.toNat i) (λk U=>?_) (λk=>rfl) ?_ λk=>?_)
  .obtain⟨e,Z,F⟩:=AaE hwi U
   have Y:w.getD ((k:Int)).toNat 0=(e:Int):=by rw[tNC];exact Z
   show Option.bind (some (decide ((k:Int)<((w.length:Nat):Int)))) _=_;rw[ltd U];refine A8 (Ab U) (A8 (by show(0:Int)<=w.getD ((k:Int)).toNat 0/\w.getD ((k:Int)).toNat 0<(((ot c).length:Nat):Int);rw[Y,I3];omega) (A8 (by show(0:Int)<=(i:Int)/\(i:Int)<((((ot c).getD (w.getD ((k:Int)).toNat 0).toNat []).length:Nat):Int);rw[Y,tNC,OC F,length_map,length_range];omega) ?_))
   show some (LO.next (((ot c).getD (w.getD ((k:Int)).toNat 0).toNat []).getD ((i:Int)).toNat false,_))=_
   rw[Y,Z,tNC,tNC,ot_at F hi]
  .show Option.bind (some (decide (((w.length:Nat):Int)<((w.length:Nat):Int)))) _=_
   rw[ltn];rfl
  .refine AS rfl ?_
   show Tot _ (bif rq c w i then _ else _);refine Cq (λh=>AS (by show(cl i (rq c w)).length+1<=_;omega) (As ⟨wr hi (by omega),?_⟩)) λh=>As ⟨wr hi (by omega),?_⟩
   .rw[clN (n:=0),h];rfl
   .rw[clN (n:=0),h];rfl
 .obtain⟨H,A⟩:=v
  obtain⟨(W:H=_),(B:A=_)⟩:=hv;subst W;have B:A=rt c w:=B;subst B;refine KT (by show decide ((ar c:Int)<(((ot c).length:Nat):Int))=false;rw[I3];exact ltn) (As (AS rfl ?_))
  refine Dk (n:=ar c) (λi v=>v.1=(i:Int)/\v.2=cl i (lq c (rt c w))) ⟨rfl,rfl⟩ (λi hi v hv=>?_) λv hv=>?_
  .obtain⟨H,A⟩:=v
   obtain⟨(W:H=_),(B:A=_)⟩:=hv;subst W B;have hA:(cl i (lq c (rt c w))).length<=i:=cl_le;have gi:(0:Int)<=(i:Int)/\(i:Int)<(((ot c).length:Nat):Int):=by rw[I3];omega
   refine Mj (by show decide ((i:Int)<(((ot c).length:Nat):Int))=true;rw[I3];exact ltd hi) (X6 hrl (q:=λm=>og c i m.toNat) (λk U=>?_) (λk=>rfl) ?_ λk=>?_)
   .obtain⟨e,Z,F⟩:=AaE hrw U
    have Y:(rt c w).getD ((k:Int)).toNat 0=(e:Int):=by rw[tNC];exact Z
    show Option.bind (some (decide ((k:Int)<(((rt c w).length:Nat):Int)))) _=_;rw[ltd U];refine A8 gi (A8 (Ab U) (A8 (by show(0:Int)<=(rt c w).getD ((k:Int)).toNat 0/\(rt c w).getD ((k:Int)).toNat 0<((((ot c).getD ((i:Int)).toNat []).length:Nat):Int);rw[Y,tNC,OC hi,length_map,length_range];omega) ?_))
    show some (LO.next (((ot c).getD ((i:Int)).toNat []).getD ((rt c w).getD ((k:Int)).toNat 0).toNat false,_))=_
    rw[Y,Z,tNC,tNC,ot_at hi F]
   .show Option.bind (some (decide ((((rt c w).length:Nat):Int)<(((rt c w).length:Nat):Int)))) _=_
    rw[ltn];rfl
   .refine AS rfl ?_
    show Tot _ (bif lq c (rt c w) i then _ else _);refine Cq (λh=>AS (by show(cl i (lq c (rt c w))).length+1<=_;omega) (As ⟨wr hi (by omega),?_⟩)) λh=>As ⟨wr hi (by omega),?_⟩
    .rw[clN (n:=0),h];rfl
    .rw[clN (n:=0),h];rfl
  .obtain⟨H,A⟩:=v
   obtain⟨(W:H=_),(B:A=_)⟩:=hv;subst W;have B:A=lf c (rt c w):=B;subst B;exact KT (by show decide ((ar c:Int)<(((ot c).length:Nat):Int))=false;rw[I3];exact ltn) (As (AS rfl (As rfl)))
def Mq(c:Cat)(q:Nat->Bool):List Bool:=(range (ar c)).map q
def Abu{A:Nat->Bool}{b:Bool}(hm:m<ar c)(h:∀f,f<ar c->A f=if f=m then b else q f):(Mq c q).set m b=Mq c A:=by
 apply ext_getElem?;intro j;unfold Mq;by_cases hj:j<ar c
 .by_cases e:j=m
  .subst e
   rw[List.getElem?_set_self (by simpa using hj),getElem?_map,List.getElem?_range hj]
   have:=h j hj;rw[if_pos rfl]at this;exact congrArg some this.symm
  .rw[getElem?_set_ne (Ne.symm e),getElem?_map,getElem?_map,List.getElem?_range hj]
   have:=h j hj;rw[if_neg e]at this;exact congrArg some this.symm
 .rw[getElem?_set_ne (by omega)]
  simp[hj]
def eS(c:Cat)(q:Nat->Bool):List Int:=cl (ar c) q
def LP(c:Cat):List Nat->(Nat->Bool)->List (List Int)
 |[],q=>if Pl c (eS c q) (rt c (eS c q))=true then [eS c q]else []
 |m::ms,q=>LP c ms q++LP c ms λf=>q f||decide (f=m)
theorem Js{c:Cat}:∀(A:List Nat) (q:Nat->Bool),(LP c A q).length<=2 ^ A.length
 |[],q=>by
  show(if _ then _ else _:List (List Int)).length<=1
  split<;>simp
 |m::A,q=>by
  show(LP c A q++LP c A _).length<=2 ^ (A.length+1);have F:=Js (c:=c) A q;have B:=Js (c:=c) A λf=>q f||decide (f=m)
  rw[List.length_append,Nat.pow_succ];omega
def dropN{l:List Nat}(h:i<l.length):l.drop i=l.getD i 0::l.drop (i+1):=by
 rw[List.drop_eq_getElem_cons h,gDE,gEE h];rfl
def mgetD{mv:List Nat}(h:i<mv.length)(hm:mv.getD i 0=m):(mv.map fun(m:Nat)=>(m:Int)).getD i 0=(m:Int):=by
 rw[gDE,gEE h]at hm;rw[gDE,getElem?_map,gEE h];exact congrArg (fun(m:Nat)=>(m:Int)) hm
def Jr:LP c [] q=if Pl c (eS c q) (rt c (eS c q))=true then [eS c q]else []:=rfl
def H1{A:List Nat}:LP c (m::A) q=LP c A q++LP c A λf=>q f||decide (f=m):=rfl
theorem gch(h:Sh c)(mv:List Nat)(hmv:∀m∈mv,m<ar c)(hnd:mv.Nodup)(h8:mv.length<=8):∀(k i n:Nat),i+k=mv.length->k<n->∀(q:Nat->Bool) (O:List (List Int)),(∀m∈mv.drop i,q m=false)->O.length+2 ^ k<=100000->
  Tot (λr=>r=(Mq c q,O++LP c (mv.drop i) q,mv.map fun(m:Nat)=>(m:Int))) (Gch c (ot c) n (i:Int) (Mq c q) O (mv.map fun(m:Nat)=>(m:Int))):=by
 have hl:=Cf h;intro k
 induction k with
 |zero=>
  intro i n hik hkn q O hq hO;obtain⟨n,rfl⟩:∃Z,n=Z+1:=⟨n-1,by omega⟩
  obtain rfl:i=mv.length:=by omega
  rw[List.drop_length,Jr];show Tot _ (G55 _ c (ot c) _ _ _ _);have A:wi (ar c) (eS c q)=true:=I6;have H:(eS c q).length<=1048576:=Nat.le_trans DX (by omega)
  have hrl:(rt c (eS c q)).length<=1048576:=Nat.le_trans DX (by omega)
  have hrw:wi (ar c) (rt c (eS c q))=true:=I6;unfold G55;refine Mj (by rw[length_map];exact dT rfl) (Cz (p56 (by omega) q) (Cz (p58 hl H A) (Cz (p57 h H hrl A hrw) (Cq (λe=>AS trivial (AS (by show O.length+1<=_;omega) (As ?_))) λe=>As ?_))))
  .have e:Pl c (eS c q) (rt c (eS c q))=true:=e
   rw[if_pos e];rfl
  .have e:Pl c (eS c q) (rt c (eS c q))=false:=e
   rw[if_neg (by rw[e];decide),List.append_nil]
 |succ k ih=>
  intro i n hik hkn q O hq hO;obtain⟨n,rfl⟩:∃Z,n=Z+1:=⟨n-1,by omega⟩
  have hi:i<mv.length:=by omega
  have hd:=dropN hi;obtain⟨m,hm⟩:∃m,mv.getD i 0=m:=⟨_,rfl⟩;rw[hm]at hd;have hmm:m∈mv:=by rw[<-hm];exact BR 0 hi
  have F:=hmv m hmm;have hpw:O.length+2 ^ k<=100000:=by rw[Nat.pow_succ]at hO;omega
  have hqm:q m=false:=hq m (by rw[hd];exact List.mem_cons_self ..)
  have B:∀x∈mv.drop (i+1),q x=false:=λx W=>hq x (by rw[hd];exact mCM _ W)
  have hnm:¬m∈mv.drop (i+1):=by
   have:(mv.drop i).Nodup:=hnd.sublist (List.drop_sublist i mv);rw[hd]at this;exact(List.nodup_cons.1 this).1
  have hg1:=Js (c:=c) (mv.drop (i+1)) q;have hdl:(mv.drop (i+1)).length=k:=by rw[List.length_drop];omega
  rw[hdl]at hg1;have ew:wrap .i64 ((i:Int)+1)=((i+1:Nat):Int):=wr (n:=100001) (by omega) (by omega)
  have Y:(mv.map fun(m:Nat)=>(m:Int)).getD ((i:Int)).toNat 0=(m:Int):=by rw[tNC];exact mgetD hi hm
  have g1:(0:Int)<=(i:Int)/\(i:Int)<(((mv.map fun(m:Nat)=>(m:Int)).length:Nat):Int):=by rw[length_map];omega
  have U:∀q:Nat->Bool,(Mq c q).length=ar c:=λq=>by unfold Mq;rw[length_map,length_range]
  show Tot _ (G55 _ c (ot c) _ _ _ _);unfold G55;rw[ew];refine KT (by rw[length_map];exact dF (by omega)) ?_
  refine D4 (ih (i+1) n (by omega) (by omega) q O B hpw) λv0 hv0=>?_
  subst hv0;refine AS g1 (AS (by show(0:Int)<=(mv.map fun(m:Nat)=>(m:Int)).getD ((i:Int)).toNat 0/\(mv.map fun(m:Nat)=>(m:Int)).getD ((i:Int)).toNat 0<(((Mq c q).length:Nat):Int);rw[Y,U];omega) ?_)
  have es:(Mq c q).set ((mv.map fun(m:Nat)=>(m:Int)).getD ((i:Int)).toNat 0).toNat true=Mq c (λf=>q f||decide (f=m)):=by
   rw[Y,tNC];refine Abu F λf hf=>?_
   by_cases e:f=m
   .rw[if_pos e,dT e,Bool.or_true]
   .rw[if_neg e,dF e,Bool.or_false]
  have eb:((Mq c (λf=>q f||decide (f=m)))).set ((mv.map fun(m:Nat)=>(m:Int)).getD ((i:Int)).toNat 0).toNat false=Mq c q:=by
   rw[Y,tNC];refine Abu F λf hf=>?_
   by_cases e:f=m
   .rw[if_pos e,e,hqm]
   .rw[if_neg e,dF e,Bool.or_false]
  show Tot _ (Option.bind (Gch c (ot c) n _ ((Mq c q).set ((mv.map fun(m:Nat)=>(m:Int)).getD ((i:Int)).toNat 0).toNat true) _ _) _)
  rw[es];refine D4 (ih (i+1) n (by omega) (by omega) _ (O++LP c (mv.drop (i+1)) q) (λx W=>?_) ?_) λv1 hv1=>?_
  .show(q x||decide (x=m))=false
   rw[B x W,dF (fun(e:x=m)=>hnm (e▸W))];rfl
  .rw[List.length_append];rw[Nat.pow_succ]at hO;omega
  subst hv1;refine Cz (v:=((),(Mq c q,(mv.map fun(m:Nat)=>(m:Int),((i:Int),()))))) ?_ (As ?_)
  .unfold G59
   refine A8 g1 (A8 (by show(0:Int)<=(mv.map fun(m:Nat)=>(m:Int)).getD ((i:Int)).toNat 0/\(mv.map fun(m:Nat)=>(m:Int)).getD ((i:Int)).toNat 0<(((Mq c _).length:Nat):Int);rw[Y,U];omega) ?_)
   show some ((),((Mq c (λf=>q f||decide (f=m))).set ((mv.map fun(m:Nat)=>(m:Int)).getD ((i:Int)).toNat 0).toNat false,_))=_
   rw[eb]
  .rw[hd,H1,<-List.append_assoc]
end Go.Ve.D


namespace Go.Ve.D
open Go Go.Ve Go.Proofs
variable{c:Cat}{m:Nat}
def p60{L:List (List Int)}(B:L.length<=100000)(h:∀x∈L,x.length<=40):G60 () L=some (B0 BG L,[]):=by
 unfold G60 ascG;exact if_pos ⟨by omega,λx A=>by have:=h x A;show x.length<_;omega⟩
def mvN(c:Cat):List Nat:=(range (ar c)).filter λf=>!Jc c f
def XM(h:m∈mvN c):m<ar c:=List.mem_range.1 (List.mem_filter.1 h).1
def XK(h:m∈mvN c):Jc c m=false:=by
 have:=(List.mem_filter.1 h).2;simpa using this
def OE:(mvN c).Nodup:=List.Pairwise.filter _ List.nodup_range
def P3:Hs c=(mvN c).map fun(m:Nat)=>(m:Int):=rfl
def Ng{c:Cat}:∀(A:List Nat) (q:Nat->Bool),∀x∈LP c A q,x.length<=ar c
 |[],q,x,hx=>by
  rw[Jr]at hx;split at hx
  .rw[mem_singleton]at hx
   subst hx;exact DX
  .cases hx
 |m::A,q,x,hx=>by
  rw[H1,mem_append]at hx;rcases hx with hx|hx
  .exact Ng A q x hx
  .exact Ng A _ x hx
theorem p26(W:okC c):G26 c=some (bif !BY c then([],1)else if 8<(mvN c).length then([],3)else(B0 BG (LP c (mvN c) (Jc c)),0)):=by
 unfold G26;refine Af (p51 W) ?_;cases e:BY c with
 |false=>rfl
 |true=>
 have h:=Cv e;have U:=Cf h;rw[Bool.not_true,cond_false,cond_false];refine gatN (q:=λf=>!Jc c f) (id:=0) (n:=ar c) (by omega) (λi hi A Y=>?_) (λA=>Bf ltn rfl) ?_
 .exact Bb (ltd hi) (Af (p52 h hi) (PS Y (wr hi (by omega))))
 refine A8 rfl ?_;have H:(((range (ar c)).filter λf=>!Jc c f).map fun(i:Nat)=>(i:Int)).length=(mvN c).length:=by rw[length_map];rfl
 by_cases F:8<(mvN c).length
 .rw[if_pos F]
  exact Bb (dT (by show(8:Int)<(((((range (ar c)).filter λf=>!Jc c f).map fun(i:Nat)=>(i:Int)).length:Nat):Int);rw[H];omega)) rfl
 .rw[if_neg F]
  refine Bf (dF (by show ¬ (8:Int)<(((((range (ar c)).filter λf=>!Jc c f).map fun(i:Nat)=>(i:Int)).length:Nat):Int);rw[H];omega)) (Af (p53 h) ?_)
  obtain⟨r,e1,rfl⟩:=p54 e;refine Af e1 ?_
  obtain⟨r,Z,rfl⟩:=gch h (mvN c) (λm hm=>XM hm) OE (by omega) (mvN c).length 0 9 (by omega) (by omega) (Jc c) [] (λm hm=>XK hm) (by
   have:=Nat.pow_le_pow_right (n:=2) (by decide) (show(mvN c).length<=8 by omega)
   rw[List.length_nil];omega)
  refine Af Z (Af (p60 (L:=[]++LP c ((mvN c).drop 0) (Jc c)) ?_ ?_) rfl)
  .have:=Js (c:=c) (mvN c) (Jc c)
   have h2:=Nat.pow_le_pow_right (n:=2) (by decide) (show(mvN c).length<=8 by omega)
   rw[List.nil_append,List.drop_zero];omega
  .intro x B
   rw[List.nil_append,List.drop_zero]at B;exact Nat.le_trans (Ng _ _ x B) U
end Go.Ve.D

