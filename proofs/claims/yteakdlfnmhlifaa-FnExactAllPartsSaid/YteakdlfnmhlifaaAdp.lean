/- The reference's sort sorts. -/
import Derived.Test.YteakdlfnmhlifaaAdm
import Derived.Test.YteakdlfnmhlifaaUar
open Nat(le_refl le_of_lt)
open Go.IntKind(wrap)
open Option(bind_some)
set_option linter.all false
namespace Go.Ve.D
open Go Go.Ve
variable{i k:Nat}
abbrev LL0:=List (List Int)
variable{x y:LL0}{L M N:List LL0}
def Zt(x y:LL0):Prop:=leC AV x y=true
def Nh:Zt x y↔AV x y<=0:=by
 unfold Zt leC;rw[Bool.not_eq_true',Dx];have:=CV x y;omega
def We{z:LL0}(u:Zt x y)(e:Zt y z):Zt x z:=by
 rw[Nh]at*;by_cases B:AV x y=0
 .rw[DB _ _ B];exact e
 by_cases A:AV y z=0
 .rw[<-DB _ _ A];exact u
 have:=DA x y z (by omega) (by omega)
 omega
def swp(N:List LL0)(k:Nat):List LL0:=(N.set k (N.getD (k-1) [])).set (k-1) (N.getD k [])
def ZU(e:k<N.length):(swp N k).Perm N:=by
 have h:=@List.set_set_perm _ N k (k-1) e (by omega)
 unfold swp;rw[gDE,gDE,gEE e,gEE (by omega:k-1<N.length)]
 exact h
def MH(B:0<k)(A:k<N.length)(j:Nat):(swp N k).getD j []=if j=k then N.getD (k-1) []else if j=k-1 then N.getD k []else N.getD j []:=by
 unfold swp;by_cases u:j=k
 .subst u
  rw[if_pos rfl,gDE,List.getElem?_set_ne (by omega),List.getElem?_set_self A];rfl
 .rw[if_neg u]
  by_cases e:j=k-1
  .subst e
   rw[if_pos rfl,gDE,List.getElem?_set_self (by rw[List.length_set];omega)];rfl
  .rw[if_neg e,gDE,List.getElem?_set_ne (by omega),List.getElem?_set_ne (by omega),<-gDE]
def Pre(M:List LL0)(i:Nat):Prop:=∀a b,a<b->b<i->Zt (M.getD a []) (M.getD b [])
def Mid(N:List LL0)(i k:Nat):Prop:=(∀a b,a<b->b<=i->a≠k->b≠k->Zt (N.getD a []) (N.getD b []))/\∀b,k<b->b<=i->Zt (N.getD k []) (N.getD b [])
def Pre.mid(h:Pre M i):Mid M i i:=⟨λa b e u _ A=>h a b e (by omega),λb e u=>by omega⟩
def Mid.swp{N:List LL0}{i k:Nat}(h:Mid N i k)(A:0<k)(O:k<=i)(hi:i<N.length)(E:Zt (N.getD k []) (N.getD (k-1) [])):Mid (swp N k) i (k-1):=by
 refine⟨λa b F u J H=>?_,λb F u=>?_⟩
 .rw[MH A (by omega),MH A (by omega),if_neg J,if_neg H]
  by_cases B:a=k
  .rw[if_pos B,if_neg (by omega)]
   exact h.1 _ _ (by omega) u (by omega) (by omega)
  .rw[if_neg B]
   by_cases e:b=k
   .rw[if_pos e]
    exact h.1 _ _ (by omega) (by omega) B (by omega)
   .rw[if_neg e]
    exact h.1 _ _ F u B e
 .rw[MH A (by omega),MH A (by omega),if_neg (by omega),if_pos rfl]
  by_cases e:b=k
  .rw[if_pos e];exact E
  .rw[if_neg e,if_neg (by omega)]
   exact h.2 b (by omega) u
def Mid.done(h:Mid N i k)(F:k<=i)(u:0<k->Zt (N.getD (k-1) []) (N.getD k [])):Pre N (i+1):=λa b E H=>by
 by_cases A:a=k
 .rw[A];exact h.2 b (by omega) (by omega)
 by_cases B:b=k
 .rw[B]
  by_cases e:a=k-1
  .rw[e];exact u (by omega)
  .exact We (h.1 a (k-1) (by omega) (by omega) A (by omega)) (u (by omega))
 .exact h.1 a b E (by omega) A B
def Pre.sort(A:M.Perm L)(h:Pre M M.length):M=Ci AV L:=by
 refine I4 swoLL AbY A (List.pairwise_iff_getElem.2 λa b B u e=>?_)
 have:=h a b e u;rw[gDE,gDE,gEE B,gEE u]at this;exact this
theorem Adb{n:Nat}(hl:L.length<=1000)(hp0:0<L.length)(hn:n<=1048576)(hL:∀p∈L,p.length=n/\∀z∈p,z.length<=1048576):Tot (λr=>r=(Ci AV L,decide (((L.length:Nat):Int)<=200))) (insB L):=by
 unfold insB;refine DK (I:=λv=>∃i:Nat,v.1=(i:Int)/\1<=i/\i<=v.2.length/\v.2.Perm L/\Pre v.2 i) (λv=>2000-v.1.toNat) ⟨1,rfl,le_refl _,hp0,List.Perm.refl _,λa b Y W=>by omega⟩ (λv Z=>?_)
 obtain⟨i0,M⟩:=v;obtain⟨i,(e1:i0=_),hi1,(hiM:i<=M.length),(E:M.Perm L),(J:Pre M i)⟩:=Z;subst e1;have hlM:M.length=L.length:=E.length_eq;refine AX (λe=>?_) λe=>?_
 .have e:(i:Int)<((M.length:Nat):Int):=Jp e
  have hi:i<M.length:=by omega
  refine DK (I:=λv=>∃k:Nat,v.1=(k:Int)/\k<=i/\v.2.Perm L/\Mid v.2 i k) (λv=>v.1.toNat) ⟨i,rfl,le_refl _,E,J.mid⟩ (λv Z=>?_)
  obtain⟨k0,N⟩:=v;obtain⟨k,(e1:k0=_),hk,(A:N.Perm L),(J:Mid N i k)⟩:=Z;subst e1;have hlN:N.length=L.length:=A.length_eq;have H:k<N.length:=by omega
  refine AT (P:=λb=>b=true↔0<k/\AV (N.getD k []) (N.getD (k-1) [])<0) (AX (λe=>?_) λe=>Aa ?_) λb U=>AX (λe=>?_) λe=>?_
  .have e:(0:Int)<(k:Int):=Jp e
   have F:0<k:=by omega
   have O:((k:Int)).toNat=k:=tNC k
   have u:wrap .i64 ((k:Int)-1)=((k-1:Nat):Int):=by
    rw[Aw (by omega) (by omega)];omega
   have B:(wrap .i64 ((k:Int)-1)).toNat=k-1:=by rw[u,tNC]
   refine Ah (by show(0:Int)<=(k:Int)/\(k:Int)<((N.length:Nat):Int);omega) (Ah (by show(0:Int)<=(wrap .i64 ((k:Int)-1))/\(wrap .i64 ((k:Int)-1))<((N.length:Nat):Int);rw[u];omega) (AT (P:=λb=>b=decide (AV (N.getD k []) (N.getD (k-1) [])<0)) ?_ λb U=>Aa ?_))
   .have Y:=hL _ (A.mem_iff.1 (Jn H))
    have W:=hL _ (A.mem_iff.1 (Jn (by omega:k-1<N.length)))
    show Tot _ (G68 (N.getD ((k:Int)).toNat [],N.getD ((wrap .i64 ((k:Int)-1))).toNat []));rw[O,B];exact p68 (by rw[Y.1,W.1]) (by rw[Y.1];exact hn) Y.2
   .subst U
    rw[decide_eq_true_iff];exact⟨λh=>⟨F,h⟩,λh=>h.2⟩
  .have e:¬ (0:Int)<(k:Int):=KG e
   exact⟨λh=>(by cases h),λh=>absurd h.1 (by omega)⟩
  .obtain⟨F,hlt⟩:=U.1 e
   have O:((k:Int)).toNat=k:=tNC k
   have u:wrap .i64 ((k:Int)-1)=((k-1:Nat):Int):=by
    rw[Aw (by omega) (by omega)];omega
   have B:(wrap .i64 ((k:Int)-1)).toNat=k-1:=by rw[u,tNC]
   have g1:(0:Int)<=(k:Int)/\(k:Int)<((N.length:Nat):Int):=by omega
   have g2:(0:Int)<=(wrap .i64 ((k:Int)-1))/\(wrap .i64 ((k:Int)-1))<((N.length:Nat):Int):=by rw[u];omega
   refine Ah g1 (Ah g2 (Ah g1 (Ah (by show(0:Int)<=(wrap .i64 ((k:Int)-1))/\(wrap .i64 ((k:Int)-1))<(((N.set _ _).length:Nat):Int);rw[List.length_set];exact g2) (Aa ⟨⟨k-1,u,by omega,?_,?_⟩,?_⟩))))
   .show((N.set ((k:Int)).toNat (N.getD ((wrap .i64 ((k:Int)-1))).toNat [])).set ((wrap .i64 ((k:Int)-1))).toNat (N.getD ((k:Int)).toNat [])).Perm L
    rw[O,B];exact(ZU H).trans A
   .show Mid ((N.set ((k:Int)).toNat (N.getD ((wrap .i64 ((k:Int)-1))).toNat [])).set ((wrap .i64 ((k:Int)-1))).toNat (N.getD ((k:Int)).toNat [])) i (k-1)
    rw[O,B];exact J.swp F hk (by omega) (Nh.2 (by omega))
   .show(wrap .i64 ((k:Int)-1)).toNat<((k:Int)).toNat
    rw[B,O];omega
  .have hn:¬ (0<k/\AV (N.getD k []) (N.getD (k-1) [])<0):=λh=>by rw[U.2 h]at e;cases e
   refine Aa (Ah rfl (Aa ⟨⟨i+1,wr1 hi (by omega),by omega,by show i+1<=N.length;omega,A,J.done hk λh=>Nh.2 ?_⟩,?_⟩))
   .have:=CV (N.getD k []) (N.getD (k-1) [])
    by_cases W:AV (N.getD k []) (N.getD (k-1) [])<0
    .exact absurd ⟨h,W⟩ hn
    .omega
   .show 2000-(wrap .i64 ((i:Int)+1)).toNat<2000-((i:Int)).toNat
    rw[wr1 hi (by omega),tNC,tNC];omega
 .have e:¬ (i:Int)<((M.length:Nat):Int):=KG e
  have he:i=M.length:=by omega
  subst he;refine Aa (Ah rfl (Aa ?_));show(M,decide (((M.length:Nat):Int)<=200))=_;rw[hlM,<-J.sort E]
end Go.Ve.D


namespace Go.Ve.D
open Go Go.Ve
variable{s:Int}{L:LLL}{f:SF}
def p69{x:List Int}(h:x.length<=1048576):G69 x=some x:=by
 unfold G69;rw[if_pos (by show 0+x.length<=_;omega),List.nil_append]
theorem p35{x:List (List Int)}(h:x.length<=1048576)(F:∀y∈x,y.length<=1048576):Tot (λr=>r=x) (G35 x):=by
 unfold G35;refine AE (n:=x.length) (λi v=>v.1=(i:Int)/\v.2=x.take i) ⟨rfl,rfl⟩ (λi hi v u=>?_) λv u=>?_
 .obtain⟨e,A⟩:=v
  obtain⟨(E:e=_),(B:A=_)⟩:=u;subst E B;have H:(x.take i).length=i:=by rw[List.length_take];omega
  refine BC (ltt hi) (Ah (by show(0:Int)<=(i:Int)/\(i:Int)<((x.length:Nat):Int);omega) (Bu (v:=x.getD i []) (by show G69 (x.getD ((i:Int)).toNat [])=_;rw[tNC];exact p69 (F _ (CQ [] hi))) (Ah trivial (Ah (by show(x.take i).length+1<=_;omega) (Aa ⟨wr1 hi (by omega),DM [] hi⟩)))))
 .obtain⟨e,A⟩:=v
  obtain⟨(E:e=_),(B:A=_)⟩:=u;subst E B;exact Bt ltf (Aa (Ah rfl (Aa (Q7 x))))
theorem p38(E:f.2.2.2.2.2.1.length<=1048576):∃s,G38 f=some s:=by
 have h:Tot (λ_=>True) (G38 f):=by
  unfold G38;refine AE (n:=f.2.2.2.2.2.1.length) (λi v=>v.2=(i:Int)) rfl (λi hi v e=>?_) λv e=>?_
  .obtain⟨B,u⟩:=v
   have A:u=(i:Int):=e;subst A;exact BC (ltt hi) (Ah (by show(0:Int)<=(i:Int)/\(i:Int)<((f.2.2.2.2.2.1.length:Nat):Int);omega) (Aa (wr1 hi (by omega))))
  .obtain⟨B,u⟩:=v
   have A:u=(f.2.2.2.2.2.1.length:Int):=e;subst A;exact Bt ltf (Aa (Ah rfl (Aa trivial)))
 obtain⟨v,e,_⟩:=h;exact⟨v,e⟩
def p33:G33 f=G38 f:=rfl
noncomputable def apR(f:SF)(s:Int):LLL×Int:=bif !UV f then([],1)else bif decide (12<s)then([],3)else if(By f).length<=200 then(Ci AV (By f),0)else([],3)
def p9(h:okS f)(B:G38 f=some s):Tot (λr=>r=apR f s) (G9 f):=by
 unfold G9 apR;refine Bu (p37 h) (AX (λe=>?_) λe=>?_)
 .rw[e];exact Aa rfl
 rw[e,cond_false];have hi:UV f=true:=by simpa using e
 refine Bu B (AX (λe=>?_) λe=>?_)
 .have e:decide (12<s)=true:=e
  rw[e];exact Aa rfl
 have e:decide (12<s)=false:=e;rw[e,cond_false];refine AT (p39s (Ko hi) h.2.1 h.1.1) λv A=>?_
 subst A;by_cases u:(By f).length<=200
 .rw[if_pos u,if_pos u];exact Bt rfl (Aa rfl)
 .rw[if_neg u,if_neg u];exact BC rfl (Aa rfl)
def Nt(E:FS f)(B:f.2.2.2.2.2.1.length<=1048576)(h:All f L):∀p∈L,p.length=f.2.2.2.2.2.1.length/\∀z∈p,z.length<=1048576:=λp A=>by
 have u:=VY E B (S:=mem p);have e:=Kd (f:=f) (S:=mem p);rw[<-h p A]at u e;exact⟨e,u.2⟩
def Uf{p:List (List Int)}:p∈Ci AV L↔p∈L:=(List.mergeSort_perm L _).mem_iff
def Ug:(Ci AV L).length=L.length:=(List.mergeSort_perm L _).length_eq
theorem p7(h:okS f)(Z:G38 f=some s):Tot (λr=>r=apR f s) (G7 f):=by
 unfold G7 apR;refine Bu (p32 h) (AX (λe=>?_) λe=>?_)
 .rw[e];exact Aa rfl
 rw[e,cond_false];have hi:UV f=true:=by simpa using e
 refine Bu (by show G33 f=some s;rw[p33];exact Z) (AX (λe=>?_) λe=>?_)
 .have e:decide (12<s)=true:=e
  rw[e];exact Aa rfl
 have e:decide (12<s)=false:=e;rw[e,cond_false];have U:=Ko hi;have F:f.2.2.2.2.2.1.length<=1048576:=h.2.1;refine AT (P:=λr=>r=(Ci AV (By f),decide ((((By f).length:Nat):Int)<=200))/\All f (By f)/\(By f).length<=1000) (p34a hi λL Y W hp B=>?_) λv u=>?_
 .subst Y
  exact ZD (Adb B hp F (Nt U F W.a)) λv u=>⟨u,W.a,B⟩
 obtain⟨u,hA,B⟩:=u;subst u;by_cases O:(By f).length<=200
 .rw[if_pos O]
  refine Bt (by show(!decide ((((By f).length:Nat):Int)<=200))=false;rw[dT (by omega)];rfl) (AE (n:=(Ci AV (By f)).length) (λi v=>v.1=(i:Int)/\v.2=(Ci AV (By f)).take i) ⟨rfl,rfl⟩ (λi hi v u=>?_) λv u=>?_)
  .obtain⟨E,A⟩:=v
   obtain⟨(J:E=_),(H:A=_)⟩:=u;subst J H;have Y:(Ci AV (By f)).length<=1000:=by rw[Ug];exact B
   have ho:=Nt U F hA _ (Uf.1 (Jn hi));have h1:((Ci AV (By f)).take i).length+1<=5864062014805:=by rw[List.length_take];omega
   refine BC (ltt hi) (Ah (by show(0:Int)<=(i:Int)/\(i:Int)<(((Ci AV (By f)).length:Nat):Int);omega) (AT (P:=λr=>r=(Ci AV (By f)).getD i []) (by show Tot _ (G35 ((Ci AV (By f)).getD ((i:Int)).toNat []));rw[tNC];exact p35 (by omega) ho.2) λv u=>?_))
   subst u;exact Ah trivial (Ah h1 (Aa ⟨wr1 hi (by omega),DM [] hi⟩))
  .obtain⟨E,A⟩:=v
   obtain⟨(J:E=_),(H:A=_)⟩:=u;subst J H;exact Bt ltf (Aa (Ah rfl (Aa (by rw[List.take_length]))))
 .rw[if_neg O]
  exact BC (by show(!decide ((((By f).length:Nat):Int)<=200))=true;rw[dF (by omega)];rfl) (Aa rfl)
def apR_ok(h:okS f)(B:UV f=true->All f (By f)):(apR f s).1.length<=200/\∀p∈(apR f s).1,p.length<=1048576/\∀z∈p,z.length<=1048576:=by
 have e:∀c:Int,(([]:LLL),c).1.length<=200/\∀p∈(([]:LLL),c).1,p.length<=1048576/\∀z∈p,z.length<=1048576:=λc=>⟨Nat.zero_le _,λp u=>by cases u⟩
 unfold apR;cases hi:UV f with
 |false=>exact e 1
 |true=>
 show _/\_;cases E:decide (12<s)with
 |true=>exact e 3
 |false=>
 by_cases A:(By f).length<=200
 .rw[Bool.not_true,cond_false,cond_false,if_pos A]
  refine⟨by rw[Ug];exact A,λp u=>?_⟩
  have:=Nt (Ko hi) h.2.1 (B hi) p (Uf.1 u);exact⟨by rw[this.1];exact h.2.1,this.2⟩
 .rw[Bool.not_true,cond_false,cond_false,if_neg A]
  exact e 3
end Go.Ve.D


namespace Go.Ve.D
open Go Go.Ve
variable{k:Int}{x:LLL}{i:Nat}
abbrev okP(x:LLL):Prop:=x.length<=200/\∀p∈x,p.length<=1048576/\∀z∈p,z.length<=1048576
def getP(h:okP x)(hi:i<x.length):(x.getD i []).length<=1048576/\∀z∈x.getD i [],z.length<=1048576:=h.2 _ (Jn hi)
def p40{p:List (List Int)}(h:okL p):G40 (p,p)=some true:=A6 (a:=G27 (p,p)) (p27 h.1 h.2) rfl
theorem p10(h:okP x):Tot (λb=>b=true) (G10 (x,x)):=by
 unfold G10;have u:=h.1;refine Bt (by show(!decide (((x.length:Nat):Int)=((x.length:Nat):Int)))=false;rw[dT rfl];rfl) (AE (n:=x.length) (λi v=>v=(i:Int)) rfl (λi hi v e=>?_) λv e=>?_)
 .subst e
  have g:(0:Int)<=(i:Int)/\(i:Int)<((x.length:Nat):Int):=by omega
  exact BC (ltt hi) (Ah g (Ah g (Bu (v:=true) (by show G40 (x.getD ((i:Int)).toNat [],x.getD ((i:Int)).toNat [])=_;rw[tNC];exact p40 (getP h hi)) (Bt rfl (Aa (wr1 hi (by omega)))))))
 .subst e
  exact Bt ltf (Aa (Ah rfl (Aa rfl)))
theorem p29{x:List (List Int)}(F:0<=k)(E:k<=1125899906842624)(h:x.length<=1048576)(u:∀y∈x,y.length<=1048576):G29 (mks x k,k)=some (k+(tot x x.length:Int)):=by
 unfold G29;have e:((k,(0:Int)):Int×Int)=(λi:Nat=>(k+(tot x i:Int),(i:Int))) 0:=by simp[tot]
 simp only[e];refine A6 (v:=.brk 0 (k+(tot x x.length:Int),(x.length:Int))) (Bi (st:=λi:Nat=>(k+(tot x i:Int),(i:Int))) (n:=x.length) (λi hi=>?_) ?_ (λy=>by simp)) rfl
 .have B:=NU u i (le_of_lt hi)
  have A:=u _ (CQ [] hi);have m:¬ (k+(tot x i:Int)+((x.getD i []).length:Int)<0):=by omega
  simp only[Dw,Ao,hi,decide_true,cond_true,Af hi,if_true,tNC,and_self,Yj hi,p43 (x:=x.getD i []) (k:=k+(tot x i:Int)) (by omega) (by omega) A,bind_some,m,decide_false,cond_false]
  rw[Aw (by omega) (by omega),Mt hi]
  simp only[Int.natCast_add,Int.add_assoc];rfl
 .simp only[Dw,Ao,Nat.lt_irrefl,decide_false,cond_false]
def JN(x:LLL)(i:Nat):Nat:=((x.take i).map λp=>tot p p.length).sum
def JM(hi:i<x.length):JN x (i+1)=JN x i+tot (x.getD i []) (x.getD i []).length:=by
 unfold JN;rw[List.take_add_one,List.map_append,List.sum_append,gEE hi,gDE,gEE hi];simp
def PL{x:LLL}(h:okP x):∀i,i<=x.length->JN x i<=i*1099511627776
 |0,_=>by simp[JN]
 |i+1,hi=>by
  have A:=PL h i (by omega)
  have e:=getP h (i:=i) (by omega)
  have u:=NU e.2 _ (le_refl _);rw[JM (by omega)]
  omega
def mk3(x:LLL)(k:Int):LLL:=(List.range x.length).map fun(i:Nat)=>mks (x.getD i []) (k+(JN x i:Int))
def De:(mk3 x k).length=x.length:=by simp[mk3]
def Yl(hi:i<x.length):(mk3 x k).getD i []=mks (x.getD i []) (k+(JN x i:Int)):=by
 simp[mk3,hi]
theorem p13(h:okP x)(h0:0<=k)(h1:k<=1000):Tot (λr=>r=(k+(JN x x.length:Int),mk3 x k)) (G13 (x,k)):=by
 have Z:=h.1;unfold G13;refine AE (n:=x.length) (λi v=>v.1=k+(JN x i:Int)/\v.2.1=(i:Int)/\v.2.2=(mk3 x k).take i++x.drop i) ⟨by simp[JN],rfl,rfl⟩ (λi hi v H=>?_) λv H=>?_
 .obtain⟨E,F,A⟩:=v
  obtain⟨(J:E=_),(B:F=_),(u:A=_)⟩:=H;subst J B;have e:A.length=x.length:=by rw[u];simp[De];omega
  have B:A.getD i []=x.getD i []:=by
   rw[u];simp only[gDE];rw[gAR (by simp[De];omega)]
   simp[De,Nat.min_eq_left (le_of_lt hi)]
  have Y:=PL h i (le_of_lt hi);have O:=getP h hi;have U:=HN (x:=mk3 x k) (y:=x) (i:=i) [] De.symm (by rw[De];exact hi)
  rw[Yl hi,<-u]at U;refine BC (by show decide ((i:Int)<((A.length:Nat):Int))=true;rw[e];exact ltt hi) (Ah (by show(0:Int)<=(i:Int)/\(i:Int)<((A.length:Nat):Int);omega) (Bu (v:=(k+(JN x i:Int)+(tot (x.getD i []) (x.getD i []).length:Int),mks (x.getD i []) (k+(JN x i:Int)))) (by show G28 (A.getD ((i:Int)).toNat [],k+(JN x i:Int))=_;rw[tNC,B];exact p28 (by omega) (by omega) O.1 O.2) (Aa ⟨?_,wr1 hi (by omega),?_⟩)))
  .show k+(JN x i:Int)+(tot (x.getD i []) (x.getD i []).length:Int)=_
   rw[JM hi];omega
  .show A.set ((i:Int)).toNat (mks (x.getD i []) (k+(JN x i:Int)))=_
   rw[tNC];exact U
 .obtain⟨E,F,A⟩:=v
  obtain⟨(J:E=_),(B:F=_),(u:A=_)⟩:=H;subst J B;have W:A=mk3 x k:=by
   rw[u,List.drop_length,List.append_nil];exact List.take_of_length_le (by rw[De];exact le_refl _)
  subst W;exact Bt (by show decide ((x.length:Int)<(((mk3 x k).length:Nat):Int))=false;rw[De];exact ltf) (Aa (Ah rfl (Aa rfl)))
theorem p14(h:okP x)(W:0<=k)(U:k<=1000):Tot (λr=>r=k+(JN x x.length:Int)) (G14 (mk3 x k,k)):=by
 have O:=h.1;unfold G14;refine AE (n:=x.length) (λi v=>v.1=k+(JN x i:Int)/\v.2=(i:Int)) ⟨by simp[JN],rfl⟩ (λi hi v A=>?_) λv A=>?_
 .obtain⟨e,u⟩:=v
  obtain⟨(E:e=_),(B:u=_)⟩:=A;subst E B;have J:=PL h i (le_of_lt hi);have F:=getP h hi;have H:¬ (k+(JN x i:Int)+(tot (x.getD i []) (x.getD i []).length:Int))<0:=by omega
  refine BC (by show decide ((i:Int)<(((mk3 x k).length:Nat):Int))=true;rw[De];exact ltt hi) (Ah (by show(0:Int)<=(i:Int)/\(i:Int)<(((mk3 x k).length:Nat):Int);rw[De];omega) (Bu (v:=k+(JN x i:Int)+(tot (x.getD i []) (x.getD i []).length:Int)) (by show G29 ((mk3 x k).getD ((i:Int)).toNat [],k+(JN x i:Int))=_;rw[tNC,Yl hi];exact p29 (by omega) (by omega) F.1 F.2) (Bt (dF H) (Aa ⟨?_,wr1 hi (by omega)⟩))))
  show k+(JN x i:Int)+(tot (x.getD i []) (x.getD i []).length:Int)=_;rw[JM hi];omega
 .obtain⟨e,u⟩:=v
  obtain⟨(E:e=_),(B:u=_)⟩:=A;subst E B;exact Bt (by show decide ((x.length:Int)<(((mk3 x k).length:Nat):Int))=false;rw[De];exact ltf) (Aa (Ah rfl (Aa rfl)))
end Go.Ve.D


namespace Go.Ve.D
open Go Go.Ve
variable{k:Int}{f:SF}
def p6(h1:f.2.1.length<=maxLen)(h2:f.2.2.1.length<=maxLen)(h3:f.2.2.2.1.length<=maxLen)(h4:f.2.2.2.2.1.length<=maxLen)(Z:∀y∈f.2.2.2.2.1,y.length<=maxLen)(Y:f.2.2.2.2.2.1.length<=maxLen)(W:f.2.2.2.2.2.2.length<=maxLen)(U:∀y∈f.2.2.2.2.2.2,y.length<=maxLen):
  ∃r,G6 (f,1048576)=some r/\(r<0\/okS f):=by
 unfold G6;obtain⟨J,O,e⟩:=p15 (c:=shS f) h1 h2 h3 h4 Z;unfold shS at O;simp only[O,bind_some];by_cases B:J<0
 .exact⟨-1,by simp only[B,decide_true,cond_true],.inl (by decide)⟩
 have e:=e.resolve_left B;obtain⟨H,e2,E⟩:=p30 (b:=J) ⟨e.1,e.2.1⟩ Y;simp only[B,decide_false,cond_false,e2,bind_some];by_cases A:H<0
 .exact⟨-1,by simp only[A,decide_true,cond_true],.inl (by decide)⟩
 have E:=E.resolve_left A;obtain⟨F,e3,f3⟩:=p31 (b:=H) ⟨E.2,by omega⟩ W U
 simp only[A,decide_false,cond_false,e3,bind_some];by_cases u:F<0
 .exact⟨-1,by simp only[u,decide_true,cond_true],.inl (by decide)⟩
 have f3:=f3.resolve_left u;refine⟨F,by simp only[u,decide_false,cond_false],.inr ⟨e.2.2,?_,f3.2.2.1,f3.2.2.2⟩⟩
 have:f.2.2.2.2.2.1.length<=1048576:=by omega
 exact this
def p8(h:okS f):G8 f=some f:=by
 unfold G8;have A:G17 (f.1,(f.2.1,(f.2.2.1,(f.2.2.2.1,f.2.2.2.2.1))))=some (shS f):=p17 h.1;have u:G18 f.2.2.2.2.2.1=some f.2.2.2.2.2.1:=p18 h.2.1;have e:G36 f.2.2.2.2.2.2=some f.2.2.2.2.2.2:=p36 h.2.2.1 h.2.2.2;simp only[A,u,e,bind_some];rfl
def p11(h:okS f):G11 (f,f)=some true:=by
 unfold G11;have A:G20 ((f.1,(f.2.1,(f.2.2.1,(f.2.2.2.1,f.2.2.2.2.1)))),(f.1,(f.2.1,(f.2.2.1,(f.2.2.2.1,f.2.2.2.2.1)))))=some true:=p20 h.1;have u:G21 (f.2.2.2.2.2.1,f.2.2.2.2.2.1)=some true:=p21 h.2.1;have e:G27 (f.2.2.2.2.2.2,f.2.2.2.2.2.2)=some true:=p27 h.2.2.1 h.2.2.2;simp only[A,u,e,bind_some,Bool.not_true,cond_false]
def mk28{x:List (List Int)}(A:0<=k)(u:k<=1125899906842624)(h:x.length<=1048576)(e:∀y∈x,y.length<=1048576):∃k' y,G28 (x,k)=some (k',y)/\0<=k'/\k'<=k+1099511627776:=by
 have B:=NU e x.length (le_refl _);exact⟨_,_,p28 A u h e,by omega,by omega⟩
def mk22{c:Cat}(E:0<=k)(Z:k<=562949953421312)(h:okC c):∃k' y,G22 (c,k)=some (k',y)/\0<=k'/\k'<=k+8796093022208:=by
 obtain⟨g1,g2,J,H,F⟩:=h;obtain⟨k1,B,a1,Y,c1,d1⟩:=mh23 E (by omega) g1
 obtain⟨k2,A,a2,W,c2,d2⟩:=mh23 Y (by omega) g2
 obtain⟨k3,u,a3,U,c3,d3⟩:=mh23 W (by omega) J
 obtain⟨k4,e,a4,O,c4⟩:=mk28 U (by omega) H F
 refine⟨k4,(B,(A,(u,e))),?_,O,by omega⟩
 unfold G22;simp only[a1,a2,a3,a4,bind_some]
def mk12(B:0<=k)(U:k<=281474976710656)(h:okS f):∃k' y,G12 (f,k)=some (k',y)/\0<=k':=by
 obtain⟨g1,g2,F,E⟩:=h;obtain⟨k1,e,a1,O,c1⟩:=mk22 B (by omega) g1
 obtain⟨k2,A,a2,J,c2,_⟩:=mh23 O (by omega) g2
 obtain⟨k3,u,a3,H,c3⟩:=mk28 J (by omega) F E
 unfold shS at a1;unfold szF at a2;unfold acF at a3;refine⟨k3,(e.1,(e.2.1,(e.2.2.1,(e.2.2.2,(A,u))))),?_,H⟩;unfold G12;simp only[a1,a2,a3,bind_some]
theorem Zd:All f (By f):=by
 have key:∀n k (L:LLL),All f L->All f (run f n k L):=by
  intro n
  induction n with
  |zero=>intro k L h;exact h
  |succ n e=>
   intro k L h;show All f (if k<L.length/\L.length<=200 then _ else L)
   split
   .exact e _ _ (h.row _ (le_refl _))
   .exact h
 exact key _ _ _ λp u=>by rw[List.mem_singleton.1 u];exact Zm
theorem p3(f:SF)(h:okT (PT S3.ps) f):G3 f=some true:=by
 obtain⟨_,h1,h2,h3,h4,h6,Z⟩:=h;obtain⟨r1,e1,f1⟩:=p6 (f:=f) h1.1 h2.1 h3.1 h4.1 (λy F=>(h4.2 y F).1) h6.1 Z.1 (λy F=>(Z.2 y F).1)
 by_cases E:r1<0
 .unfold G3
  simp only[Prod.eta,e1,E,bind_some,decide_true,cond_true]
 have e:=f1.resolve_left E;obtain⟨s,Y⟩:=p38 (f:=f) e.2.1;have e8:=p8 e;have U:=p11 e;obtain⟨v7,e7,q7⟩:=p7 e Y;obtain⟨v9,e9,q9⟩:=p9 e Y;subst q7 q9;have H:okP (apR f s).1:=apR_ok e λ_=>Zd
 generalize apR f s=r at*;obtain⟨v10,W,B⟩:=p10 H;subst B;obtain⟨v13,O,A⟩:=p13 H (k:=1) (by omega) (by omega)
 subst A;obtain⟨v14,J,u⟩:=p14 H (k:=1) (by omega) (by omega)
 subst u;obtain⟨k1,y1,a1,b1⟩:=mk12 (f:=f) (k:=1) (by omega) (by omega) e
 have m1:¬ (k1<0):=by omega
 have m2:¬ ((1:Int)+(JN r.1 r.1.length:Int)<0):=by omega
 unfold G3;simp only[Prod.eta,e1,E,decide_false,cond_false,e8,e7,e9,W,U,O,J,a1,m1,m2,bind_some,Bool.not_true,decide_true,cond_true]
end Go.Ve.D

