/- AllSystems: the program's function, piece by piece. -/
import Derived.Test.YteakdlfnmhlifaaUch1
import Derived.Test.YteakdlfnmhlifaaUso
open Nat(beq le_trans le_refl)
open Go.IntKind(wrap)
set_option linter.all false
namespace Go.Ve.D
open Go Go.Ve Go.Proofs Go.Proofs.Try
set_option maxRecDepth 100000
variable{R:Type}{v:Value}
noncomputable def b26:Code:=match f26.body with
 |some c=>c
 |none=>.skip
noncomputable def cRn:Nat->Code->Code
 |0,c=>c
 |n+1,c=>cRn n (cR c)
noncomputable def q26(n:Nat):Code:=cL (cRn n b26)
def TBc:Tab:=(98,⟨(.clo 55 .unit),false,[],none,8,false,none,none,1,[],0,none⟩)::TB
def AaH:Tab.OK prog TBc:=Tab.ok_of (by kernel_rfl)
noncomputable def E26:Ih:=⟨⟨TBc,[⟨51,S51,G51⟩,⟨52,S52,G52⟩,⟨53,S53,G53⟩,⟨54,S54,G54⟩],[],[],⟨40,[1],0⟩,[⟨60,S60,G60⟩],[]⟩,[(5,[4,16],[2,1004002,2000015]),(5,[1000005,4,15,16],[])],[]⟩
noncomputable def QD(E:Ih):List Code->{R:Type}->St->(Exit->St->Option R)->Option R
 |[],_,s,K=>K .normal s
 |c::cs,_,s,K=>Mm E c s λe s'=>match e with
  |.normal=>QD E cs s' K
  |.exit id=>K (.exit id) s'
  |.ret=>K .ret s'
  |.goto l=>K (.goto l) s'
  |_=>none
noncomputable def Ux(s:St):Option (Nat×Nat×Nat×Nat×Ca×LLB):=match s.t 35,s.t 9 with
 |.pk (.cl g) [.rp i1 [] 0 0,.rp i2 [] 0 0,.c U dc H,.c A do' B,.rp i5 [] 0 0,.rp i6 [] 0 0],.one (.rp j [] 0 0)=>
  bif beq g 55&&beq j i6&&beq dc 0&&beq do' 0&&ndB [i1,i2,i5,i6]&&Cu (s.r.getD i1 .dead)&&Cu (s.r.getD i2 .dead)&&Cu (s.r.getD i5 .dead)then(match KE (.ptr yC) ⟨U,H⟩,KE (.ptr (.sl yLB)) ⟨A,B⟩with
   |some c,some o=>some (i1,i2,i5,i6,c,o)
   |_,_=>none)else none
 |_,_=>none
noncomputable def Adb{R:Type}(f:(v:Value)->v.oneCell'=true->Option R):Option R:=@dite _ (∃z,∀v hv,f v hv=some z) (Classical.propDecidable _) (λh=>some (Classical.choose h)) λ_=>none
def Ada{f:(v:Value)->v.oneCell'=true->Option R}{z:R}(h:Adb f=some z)(v:Value)(hv:v.oneCell'=true):f v hv=some z:=by
 unfold Adb at h;split at h
 .rename_i A
  cases h;exact Classical.choose_spec A v hv
 .cases h
theorem V9{o:Option R}:Adb (λ_ _=>o)=o:=by
 unfold Adb;cases o with
 |none=>
  rw[dif_neg]
  rintro ⟨z,h⟩
  cases h (.int .i64 0) rfl
 |some z=>
  rw[dif_pos ⟨z,λ_ _=>rfl⟩]
  have:=Classical.choose_spec (p:=λA=>∀(v:Value) (_:v.oneCell'=true),some z=some A) ⟨z,λ_ _=>rfl⟩
  exact congrArg some (Option.some.inj (this (.int .i64 0) rfl)).symm
noncomputable def ifV{R:Type}(v v':Value)(o:Option R):Option R:=@ite _ (v=v') (Classical.propDecidable _) o none
def ZZ{o:Option R}:ifV v v o=o:=by
 unfold ifV;rw[if_pos rfl]
def ifV_of{v':Value}{o:Option R}{z:R}(h:ifV v v' o=some z):v=v'/\o=some z:=by
 unfold ifV at h;split at h
 .rename_i e
  exact⟨e,h⟩
 .cases h
noncomputable def st26(i5:Nat)(r:List Aa):St:=⟨λk=>bif beq k 7 then .one (.rp i5 [] 0 0)else .one .dead,r⟩
noncomputable def Ac4{R:Type}(s:St)(K:St->Option R):Option R:=match Nf [.tmp 6] s with
 |some s=>QB E26.toEnv s (nth (q26 9) 0) λs=>match Ux s with
  |some (i1,i2,i5,i6,c,o)=>Adb λv hv=>QB E26.toEnv ⟨AC s.t 35 (.one (.raw v hv)),s.r⟩ (nth (q26 9) 1) λA=>match A.r.getD i6 .dead,A.t 9,A.t 7 with
   |.obj false [.raw v' _],.one (.rp j [] 0 0),.one (.rp j7 [] 0 0)=>ifV v' v (bif beq j i6&&beq j7 i5 then(match Is (⟨λ_=>.one .dead,A.r.set i6 .dead⟩:St) tsC [i2,i5,i1]with
    |some z=>DO (Gch c o 9 0 z.1 z.2.1 z.2.2.1) λu=>K (st26 i5 (D8 [i2,i5,i1] (Ji u.2.2 u.1 u.2.1) (A.r.set i6 .dead)))
    |none=>none)else none)
   |_,_,_=>none
  |none=>none
 |none=>none
noncomputable def Aae(s:St):Option (LL×Int):=AaN true TBc f26.results.toList [(false,2,yLL),(false,0,yI)] s
noncomputable def Aaj(s:St):Option (LL×Int):=QB E26.toEnv s (nth (q26 11) 0) λs=>match Aao s (some (s.t 38))with
 |some s=>QB E26.toEnv s (nth (q26 11) 1) λs=>QB E26.toEnv s (nth (q26 11) 2) λs=>QB E26.toEnv s (nth (q26 11) 3) λs=>Aae s
 |none=>none
noncomputable def Ab1(x:Ca):Option (LL×Int):=QD E26 [q26 0,q26 1,q26 2,q26 3,q26 4,q26 5,q26 6,q26 7,q26 8] (JL [(true,yC)] x) λe s=>match e with
 |.normal=>Ac4 s Aaj
 |.ret=>Aae s
 |_=>none
noncomputable def G26(x:Ca):Option (LL×Int):=(Option.bind (G51 x) (fun(v0:Bool)=>(bif(!v0)then(some (([]:LL),(1:Int)))else(Option.bind (Aq (fun(A:(Int×LI))=>(bif(decide (A.1<((x.2.1.length:Nat):Int)))then(Option.bind (G52 (x,A.1)) (fun(B:Bool)=>(bif(!B)then(if((A.2.length+(A.1::([]:LI)).length)<=17592186044416)then(some (LO.next ((wrap .i64 (A.1+(1:Int))),(A.2++(A.1::([]:LI))))))else none)else(some (LO.next ((wrap .i64 (A.1+(1:Int))),A.2))))))else(some (LO.brk 0 (A.1,A.2))))) ((0:Int),([]:LI))) (LO.fin λi1 (A:(Int×LI))=>(if i1=0 then(bif(decide ((8:Int)<((A.2.length:Nat):Int)))then(some (([]:LL),(3:Int)))else(Option.bind (G53 x) (fun(B:(List (List Bool)))=>(Option.bind (G54 (x,x.2.2.2.1)) (fun(W:(List Bool))=>(Option.bind (Gch x B 9 (0:Int) W ([]:LL) A.2) (fun(U:((List Bool)×(LL×LI)))=>(Option.bind (G60 () U.2.1) (fun(H:(LL×LL))=>(some (H.1,(0:Int))))))))))))else none))))))
noncomputable def H26(x:Ca):Option (LL×Int):=(Option.bind (G51 x) (fun(v0:Bool)=>(bif(!v0)then(some (([]:LL),(1:Int)))else(Option.bind (Aq (fun(A:(Int×LI))=>(bif(decide (A.1<((x.2.1.length:Nat):Int)))then(Option.bind (G52 (x,A.1)) (fun(B:Bool)=>(bif(!B)then(if((A.2.length+(A.1::([]:LI)).length)<=17592186044416)then(some (LO.next ((wrap .i64 (A.1+(1:Int))),(A.2++(A.1::([]:LI))))))else none)else(some (LO.next ((wrap .i64 (A.1+(1:Int))),A.2))))))else(some (LO.brk 0 (A.1,A.2))))) ((0:Int),([]:LI))) (LO.fin λi1 (A:(Int×LI))=>(if i1=0 then(bif(decide ((8:Int)<((A.2.length:Nat):Int)))then(some (([]:LL),(3:Int)))else(Option.bind (G53 x) (fun(B:(List (List Bool)))=>(Option.bind (G54 (x,x.2.2.2.1)) (fun(W:(List Bool))=>(Adb λv _=>ifV v v (Option.bind (Gch x B 9 (0:Int) W ([]:LL) A.2) (fun(U:((List Bool)×(LL×LI)))=>(Option.bind (G60 () U.2.1) (fun(H:(LL×LL))=>(some (H.1,(0:Int)))))))))))))else none))))))
def t26:Ab1=H26:=by kernel_rfl
def h26(x:Ca):H26 x=G26 x:=by
 unfold H26 G26;simp only[ZZ,V9]
end Go.Ve.D


namespace Go.Ve.D
open Go Go.Ve Go.Proofs Go.Proofs.Try
set_option maxRecDepth 100000
variable{a:Act}{cts:Array Value}{c:Ca}{C:Ctx}{o:LLB}{ts σ:List V}{i1 i2 i5 i6:Nat}{F:Nat->Nat->Prop}{D:Nat->Prop}{ρ:Nat->Value}{s:St}{w:World}
def RB(C C':Ctx):Prop:=C'.dfs=C.dfs/\∀σ ts cts w D ρ F,CR C' σ ts cts w D ρ F->CR C σ ts cts w D ρ F
theorem RB.srel{C':Ctx}(h:RB C C'){N:Nat}{S:Ms}(A:AA C' N S a w):AA C N S a w:=by
 obtain⟨H,B,D,ρ,F,h3⟩:=A;exact⟨H.trans h.1,B,D,ρ,F,h.2 _ _ _ _ _ _ _ h3⟩
def AaR(h:CR C σ ts cts w D ρ F)(hm:C.m=0)(m:Nat)(ok:Wok w/\∀p,WD=some p->¬ ∃i,F i p.1):RB C ⟨w,λb=>∃i,F i b,D,m,ρ,ok,C.dfs⟩:=by
 refine⟨rfl,λσ' ts' Z w' D' ρ' F' k=>?_⟩
 have A:=h.fr.size;refine⟨k.wr,k.sz,k.tm,⟨k.fr.os.trans h.fr.os,k.fr.tape.trans h.fr.tape,k.fr.output.trans h.fr.output,le_trans h.fr.size k.fr.size,λb H Y=>?_,le_trans h.fr.drawn k.fr.drawn⟩,λi b hF=>?_,λb H=>k.D1 b (h.D1 b H),λb H U=>?_,λi hi=>by omega,by omega⟩
 .have W:=k.fr.block b (Nat.lt_of_lt_of_le H A) fun⟨i,hi⟩=>(h.Fn i b hi).elim Y λB=>by omega
  exact W.trans (h.fr.block b H Y)
 .rcases k.Fn i b hF with⟨j,hj⟩|B
  .exact h.Fn j b hj
  .exact .inr (le_trans A B)
 .rcases k.D2 b H (Nat.lt_of_lt_of_le U A)with W|⟨j,hj⟩
  .exact h.D2 b W U
  .exact(h.Fn j b hj).elim .inr λB=>by omega
def CR.tabF(h:CR C σ ts cts w D ρ F):Wok w/\∀p,WD=some p->¬ ∃i,F i p.1:=
 ⟨h.ok,λp A ⟨i,hi⟩=>(h.Fn i p.1 hi).elim (C.ok.2 p A) λB=>by have:=C.ok.1.lt A;omega⟩
def KQ:EOK prog E26.toEnv:=⟨AaH,fCs c51 (fCs c52 (fCs c53 (fCs c54 An))),C9,Da,Aag a60 rfl c60 IK,Kr⟩
def XJ{a b:Nat}(h:a≠b):beq a b=false:=by
 cases A:beq a b with
 |false=>rfl
 |true=>exact absurd (bqE A) h
def UO{t u:Ty}{x:u.T}{y:t.T}(h:KE t ⟨u,x⟩=some y):(⟨u,x⟩:Dy)=⟨t,y⟩:=(Qk h).symm
def Yc(h:Ux s=some (i1,i2,i5,i6,c,o)):s.t 35=.pk (.cl 55) [.rp i1 [] 0 0,.rp i2 [] 0 0,.c (.ptr yC) 0 c,.c (.ptr (.sl yLB)) 0 o,.rp i5 [] 0 0,.rp i6 [] 0 0]/\s.t 9=.one (.rp i6 [] 0 0)/\ndB [i1,i2,i5,i6]=true/\Cu (s.r.getD i1 .dead)=true/\Cu (s.r.getD i2 .dead)=true/\Cu (s.r.getD i5 .dead)=true:=by
 unfold Ux at h;split at h
 case h_2=>cases h
 rename_i g j1 j2 tc dc xc Z do' xo j5 j6 j e1 e2
 obtain⟨Y,B⟩:=A1 h;clear h;simp only[bAE]at Y;obtain⟨⟨⟨⟨⟨⟨⟨W,U⟩,h3⟩,h4⟩,h5⟩,h6⟩,h7⟩,h8⟩:=Y;have W:=bqE W;have U:=bqE U;have h3:=bqE h3;have h4:=bqE h4;subst W U h3 h4;split at B
 case h_2=>cases B
 rename_i c' o' H A;cases B;have H:=UO H;have A:=UO A;cases H;cases A;exact⟨e1,e2,h5,h6,h7,h8⟩
def s9:q26 9=.region (idR (q26 9)) (PZ (q26 9)) false:=by kernel_rfl
def l9:(PZ (q26 9)).toList=[nth (q26 9) 0,nth (q26 9) 1]:=by kernel_rfl
def s10:q26 10=.region (idR (q26 10)) (PZ (q26 10)) false:=by kernel_rfl
def l10:(PZ (q26 10)).toList=[nth (q26 10) 0,nth (q26 10) 1]:=by kernel_rfl
theorem lay26(hCm:C.m=0){R:Type}{K:St->Option R}{z:R}{op:Oper}{next:Act->World->Prop}{Q:Exit->Act->World->Prop}(hs:AA C 40 s.den a w)(hg:Ux s=some (i1,i2,i5,i6,c,o))
  (h:(Adb λv hv=>QB E26.toEnv ⟨AC s.t 35 (.one (.raw v hv)),s.r⟩ op λB=>match B.r.getD i6 .dead,B.t 9,B.t 7 with
   |.obj false [.raw v' _],.one (.rp j [] 0 0),.one (.rp Z [] 0 0)=>ifV v' v (bif beq j i6&&beq Z i5 then(match Is (⟨λ_=>.one .dead,B.r.set i6 .dead⟩:St) tsC [i2,i5,i1]with
    |some z=>DO (Gch c o 9 0 z.1 z.2.1 z.2.2.1) λu=>K (st26 i5 (D8 [i2,i5,i1] (Ji u.2.2 u.1 u.2.1) (B.r.set i6 .dead)))
    |none=>none)else none)
   |_,_,_=>none)=some z)
  (hn:∀(C2:Ctx) (p3 p4:Value) (ad:Addr) (v:Value) (r3:List Aa) (x:(TM tsC).T) (u:LB×LL×LI) a2 w2,RB C C2->KC i2 i5 i1 C2 c o p3 p4 ad v->v.oneCell'=true->ndB [i2,i5,i1]=true->
   AA C2 40 (St.den ⟨λk=>bif beq k 7 then .one (.rp i5 [] 0 0)else bif beq k 9 then .one (.raw (.pointer (some ad)) rfl)else .one .dead,r3⟩) a2 w2->Is (⟨λ_=>.one .dead,r3⟩:St) tsC [i2,i5,i1]=some x->Gch c o 9 0 x.1 x.2.1 x.2.2.1=some u->
   K (st26 i5 (D8 [i2,i5,i1] (Ji u.2.2 u.1 u.2.1) r3))=some z->next a2 w2):op.wp prog a w next Q:=by
 obtain⟨g1,g2,g3,g4,g5,g6⟩:=Yc hg;obtain⟨hd,hdd,D,ρ,F,Y⟩:=hs
 -- what the closure is
 have h1:=Bh Y hdd (.tmp 35)
 have e:s.den.ev (.tmp 35)=(Sl.pk (.cl 55) [.rp i1 [] 0 0,.rp i2 [] 0 0,.c (.ptr yC) 0 c,.c (.ptr (.sl yLB)) 0 o,.rp i5 [] 0 0,.rp i6 [] 0 0]).v s.r:=by
  show(s.t 35).v s.r=_;rw[g1]
 rw[e]at h1;obtain⟨A,G,hcv,hn6,hrel,_,hfp⟩:=h1;have hcv:a.eval (.tmp 35)=.func (.func 55) #[] A:=hcv;have hn6:A.size=6:=hn6;have hG:∀k,k<6->∀b,¬G k b:=λk hk b hb=>(hfp b).2 ⟨k,hk,hb⟩
 have hR:∀k,k<6->Rel D w (Ae s.den.σ ρ w) (([Cl.rp i1 [] 0 0,.rp i2 [] 0 0,.c (.ptr yC) 0 c,.c (.ptr (.sl yLB)) 0 o,.rp i5 [] 0 0,.rp i6 [] 0 0].map (Cl.v s.r)).getD k .dead) (A.getD k undef) noF:=λk hk=>
  Rel.fp_congr (λb=>⟨λh=>hG k hk b h,λh=>h.elim⟩) (hrel k hk)
 have hσr:∀i,s.den.σ.getD i .dead=(s.r.getD i .dead).v:=λi=>Ai _ _
 have ob:∀i,Cu (s.r.getD i .dead)=true->∃sz f,s.den.σ.getD i .dead=.nd false true sz 1 f:=λi hi=>by
  rw[hσr];exact X3 hi
 have r0:A.getD 0 undef=ρ i1:=by
  obtain⟨sz,f,hf⟩:=ob i1 g4;exact IY (hR 0 (by omega)).1 hf
 have r1:A.getD 1 undef=ρ i2:=by
  obtain⟨sz,f,hf⟩:=ob i2 g5;exact IY (hR 1 (by omega)).1 hf
 have r4:A.getD 4 undef=ρ i5:=by
  obtain⟨sz,f,hf⟩:=ob i5 g6;exact IY (hR 4 (by omega)).1 hf
 have lt1:i1<s.r.length:=by have:=(hR 0 (by omega)).1.1;simpa [St.den]using this
 have lt2:i2<s.r.length:=by have:=(hR 1 (by omega)).1.1;simpa [St.den]using this
 have lt5:i5<s.r.length:=by have:=(hR 4 (by omega)).1.1;simpa [St.den]using this
 have lt6:i6<s.r.length:=by have:=(hR 5 (by omega)).1.1;simpa [St.den]using this
 have hv:(Value.func (.func 55) #[] A).oneCell'=true:=rfl;have hz:=Ada h (.func (.func 55) #[] A) hv
 -- the relation from here on
 let C1:Ctx:=⟨w,λb=>∃i,F i b,D,s.r.length,ρ,CR.tabF Y,C.dfs⟩
 have rb1:RB C C1:=AaR Y hCm _ _
 have hs1:AA C1 40 (St.den ⟨AC s.t 35 (.one (.raw (.func (.func 55) #[] A) hv)),s.r⟩) a w:=by
  have hset:=Y.setv (Below.refl _ _) (v':=.func (.func 55) #[] A) (r:=.c (.func (.func 55) #[] A)) (D':=D) ⟨rfl,rfl,λ_ h=>h⟩ (λ_ h=>h) (λ_ h=>.inl h) Y.wr.Dlt 35
  have ecv:a.tmps.getD 35 undef=.func (.func 55) #[] A:=hcv;refine⟨hd,λx hx=>?_,D,ρ,F,⟨Y.wr,by simpa using Y.sz,λt ht=>?_,⟨rfl,rfl,rfl,le_refl _,λ_ _ _=>rfl,le_refl _⟩,λi b hb=>.inl ⟨i,hb⟩,λ_ h=>h,λ_ h _=>.inl h,λ_ _=>rfl,by show s.r.length<=(s.r.map Aa.v).length;rw[List.length_map];exact le_refl _⟩⟩
  .show(AC s.t 35 _ x).v s.r=.dead
   rw[AU (λe=>by omega)]
   exact hdd x hx
  .have ht:t<40:=by simpa using ht
   rw[Ay ht];by_cases h35:t=35
   .subst h35
    have:(St.den ⟨AC s.t 35 (.one (.raw (.func (.func 55) #[] A) hv)),s.r⟩).t 35=.c (.func (.func 55) #[] A):=by
     show(AC s.t 35 (.one (.raw (.func (.func 55) #[] A) hv)) 35).v s.r=_;unfold AC;simp;rfl
    rw[this,ecv];exact⟨rfl,rfl,λ_ h=>h⟩
   .have:(St.den ⟨AC s.t 35 (.one (.raw (.func (.func 55) #[] A) hv)),s.r⟩).t t=s.den.t t:=by
     show(AC s.t 35 (.one (.raw (.func (.func 55) #[] A) hv)) t).v s.r=_;rw[AU (λe=>h35 e)];rfl
    rw[this];have:=Y.tm t (by simpa using ht)
    rwa [Ay ht]at this
 refine C4 (E:=E26.toEnv) KQ hs1 hz λB a2 w2 k2 hs2 hz=>?_
 split at hz
 case h_2=>cases hz
 rename_i v' hv' j Z e3 e4 e5;obtain⟨ev',hz1⟩:=ifV_of hz;clear hz;subst ev';obtain⟨hb,hz⟩:=A1 hz1;clear hz1;rw[bAE]at hb;have hb1:=bqE hb.1;have hb2:=bqE hb.2;subst hb1 hb2;split at hz
 case h_2=>cases hz
 rename_i x hx;cases hu:Gch c o 9 0 x.1 x.2.1 x.2.2.1 with
 |none=>rw[hu]at hz;cases hz
 |some u=>
 rw[hu]at hz;have hz:K (st26 Z (D8 [i2,Z,i1] (Ji u.2.2 u.1 u.2.1) (B.r.set j .dead)))=some z:=hz;obtain⟨hd2,hdd2,D2,ρ2,F2,H⟩:=hs2;have H:CR C1 B.den.σ ((List.range 40).map B.den.t) a2.tmps w2 D2 ρ2 F2:=H;have hdd2:∀x,40<=x->B.den.t x=.dead:=hdd2;have hml:=H.ml;have hσ2:B.den.σ.length=B.r.length:=List.length_map ..;have hml:s.r.length<=B.r.length:=by rw[<-hσ2];exact hml
 have eρ:∀i,i<s.r.length->ρ2 i=ρ i:=λi hi=>H.rt i hi
 have hj6:B.den.σ.getD j .dead=.nd false true 1 1 λi k=>([[V.c (.func (.func 55) #[] A)]].getD i []).getD k .dead:=by
  show(B.r.map Aa.v).getD j .dead=_;rw[Ai,e3];rfl
 have hr6:=H.wr.rel j (by rw[hσ2];omega)
 rw[hj6]at hr6;rcases hr6 with⟨h0,_⟩|⟨b,U,cap,Gc,hcv6,_,_,_,hcells,_,hown⟩
 .cases h0
 obtain⟨x6,hc6,hx6⟩:=hcells 0 0 (by omega) (by omega)
 have hx6:x6=.func (.func 55) #[] A:=hx6.1;subst hx6;have hFb:F2 j b:=((hown rfl).2.2.2 b).2 (.inl rfl);have hp6:ρ2 j=.pointer (some ⟨b,U,none⟩):=hcv6;have hc6:w2.cell? ⟨b,U,none⟩=some (.func (.func 55) #[] A):=by simpa using hc6
 have ev9:a2.tmps.getD 9 undef=.pointer (some ⟨b,U,none⟩):=by
  have h1:=Bh H hdd2 (.tmp 9);have e:B.den.ev (.tmp 9)=.rp j [] 0 0:=by
   show(B.t 9).v B.r=_;rw[e4];rfl
  rw[e]at h1;have:=IY h1.1 hj6;exact this.trans hp6
 have r5:A.getD 5 undef=.pointer (some ⟨b,U,none⟩):=by
  have hob:s.den.σ.getD j .dead≠.dead:=λhe=>by
   obtain⟨_,s1,sz1,n1,f1,b1,o1,c1,⟨h3,_⟩,_⟩:=(hR 5 (by omega)).1
   rw[he]at h3;cases h3
  obtain⟨_,s1,sz1,n1,f1,b1,o1,c1,⟨h3,h4⟩,hi0,_,h5⟩:=(hR 5 (by omega)).1
  rw[h5];rw[eρ j lt6,<-h4]at hp6;cases s1 with
  |true=>cases hp6
  |false=>
   have hp6:Value.pointer (some ⟨b1,o1,none⟩)=.pointer (some ⟨b,U,none⟩):=hp6;rw[<-hp6];simp
 -- the box is given up
 have n6:Z≠j:=by
  intro e;subst e;simp[ndB]at g3
 let t3:Nat->V:=λk=>if k=7 then .rp Z [] 0 0 else if k=9 then .c (.pointer (some ⟨b,U,none⟩))else .dead
 have W:=H.giveG (j:=j) (by rw[hσ2];omega) (ts':=(List.range 40).map t3) (by simp) (λi hi=>by
  have hi:i<40:=by simpa using hi
  rw[Ay hi,Ay hi];by_cases h7:i=7
  .subst h7
   left;have e7:B.den.t 7=.rp Z [] 0 0:=by
    show(B.t 7).v B.r=_;rw[e5];rfl
   rw[e7];show Ak (hdK j (.rp Z [] 0 0)) (.rp Z [] 0 0);have:hdK j (.rp Z [] 0 0)=.rp Z [] 0 0:=by
    show AF j [] (.rp Z [] 0 0)=_;simp[AF,n6]
   rw[this];exact Ak.refl _
  .by_cases h9:i=9
   .subst h9
    right;rw[show a2.tmps.getD 9 undef=_ from ev9]
    exact⟨rfl,rfl,λ_ h=>h⟩
   .right
    have:t3 i=.dead:=by
     show(if i=7 then _ else if i=9 then _ else V.dead)=.dead
     rw[if_neg h7,if_neg h9]
    rw[this];exact λ_ h=>h)
 let r3:List Aa:=B.r.set j .dead
 let F3:Nat->Nat->Prop:=λi=>if i=j then noF else F2 i
 let C2:Ctx:=⟨w2,λb=>∃i,F3 i b,λb=>D2 b\/F2 j b,B.r.length,ρ2,CR.tabF (rb1.2 _ _ _ _ _ _ _ W),C.dfs⟩
 have rb2:RB C C2:=AaR (rb1.2 _ _ _ _ _ _ _ W) hCm _ _
 have hden:∀k,(St.den ⟨λk=>bif beq k 7 then .one (.rp Z [] 0 0)else bif beq k 9 then .one (.raw (.pointer (some ⟨b,U,none⟩)) rfl)else .one .dead,r3⟩).t k=t3 k:=λk=>by
  show(bif beq k 7 then Sl.one (.rp Z [] 0 0)else bif beq k 9 then .one (.raw (.pointer (some ⟨b,U,none⟩)) rfl)else .one .dead).v r3=if k=7 then _ else if k=9 then _ else _
  by_cases h7:k=7
  .subst h7;rfl
  .by_cases h9:k=9
   .subst h9;rfl
   .rw[if_neg h7,if_neg h9,XJ h7,XJ h9];rfl
 have hσ3:(r3.map Aa.v)=B.den.σ.set j .dead:=by
  show(B.r.set j .dead).map Aa.v=(B.r.map Aa.v).set j .dead;rw[List.map_set];rfl
 have hs3:AA C2 40 (St.den ⟨λk=>bif beq k 7 then .one (.rp Z [] 0 0)else bif beq k 9 then .one (.raw (.pointer (some ⟨b,U,none⟩)) rfl)else .one .dead,r3⟩) a2 w2:=by
  refine⟨hd2,λk hk=>?_,_,ρ2,F3,⟨by show Be (r3.map Aa.v) _ _ _ _;rw[hσ3];exact W.wr,by simpa using W.sz,λt ht=>?_,⟨rfl,rfl,rfl,le_refl _,λ_ _ _=>rfl,le_refl _⟩,λi b hb=>.inl ⟨i,hb⟩,λ_ h=>h,λ_ h _=>.inl h,λ_ _=>rfl,by show B.r.length<=(r3.map Aa.v).length;rw[hσ3,List.length_set,hσ2];exact le_refl _⟩⟩
  .rw[hden]
   show(if k=7 then _ else if k=9 then _ else V.dead)=.dead
   rw[if_neg (by omega),if_neg (by omega)]
  .have ht:t<40:=by simpa using ht
   rw[Ay ht,hden];have:=W.tm t (by simpa using ht)
   rw[Ay ht]at this;show Rel _ w2 (Ae (r3.map Aa.v) ρ2 w2) _ _ _;rw[hσ3];exact this
 have hsame:∀b,D b->w2.heap[b]? =w.heap[b]?:=λb hb=>H.fr.block b (Y.wr.Dlt b hb) fun⟨i,hi⟩=>Y.wr.dD i b hi hb
 have tr:∀(t:Ty) (y:t.T) (p:Value),Rel D w (Ae s.den.σ ρ w) (cV t 0 y) p noF->Rel C2.D0 C2.w0 noR (cV t 0 y) p noF:=λt y p hp=>
  Rel.mono (λb hb=>.inl (H.D1 b hb)) (λ_ _ h=>h) _ _ _ (λb hb=>hsame b (hb.resolve_right λh=>h)) (Rel.clean _ _ noR _ _ (Nn _ _) hp)
 have kc:KC i2 Z i1 C2 c o (A.getD 2 undef) (A.getD 3 undef) ⟨b,U,none⟩ (.func (.func 55) #[] A):=by
  refine⟨λb hb=>⟨W.wr.Dlt b hb,fun⟨i,hi⟩=>W.wr.dD i b hi hb⟩,tr _ _ _ (hR 2 (by omega)),tr _ _ _ (hR 3 (by omega)),rfl,.inr hFb,hc6,?_,⟨by show i2<B.r.length;omega,by show Z<B.r.length;omega,by show i1<B.r.length;omega⟩⟩
  have ecs:A= #[A.getD 0 undef,A.getD 1 undef,A.getD 2 undef,A.getD 3 undef,A.getD 4 undef,A.getD 5 undef]:=by
   apply Array.ext
   .rw[hn6];rfl
   .intro i h1 h2
    have h3:i<6:=by omega
    have hg:A[i]=A.getD i undef:=by simp[h1]
    rw[hg]
    match i,h3 with
    |0,_=>rfl
    |1,_=>rfl
    |2,_=>rfl
    |3,_=>rfl
    |4,_=>rfl
    |5,_=>rfl
  show Value.func (.func 55) #[] A=.func (.func 55) #[] #[ρ2 i1,ρ2 i2,A.getD 2 undef,A.getD 3 undef,ρ2 Z,.pointer (some ⟨b,U,none⟩)];rw[eρ i1 lt1,eρ i2 lt2,eρ Z lt5,<-r0,<-r1,<-r4,<-r5];exact congrArg (Value.func (.func 55) #[]) ecs
 have hnd:ndB [i2,Z,i1]=true:=by
  simp[ndB]at g3⊢;omega
 exact hn C2 _ _ ⟨b,U,none⟩ _ r3 x u a2 w2 rb2 kc rfl hnd hs3 hx hu hz
end Go.Ve.D


namespace Go.Ve.D
open Go Go.Ve Go.Proofs Go.Proofs.Try
set_option maxRecDepth 100000
def X8{J:List Nat}{id:Nat}:Uw J id []=false:=by
 unfold Uw;rw[Bool.and_false]
def call26{C:Ctx}{c:Ca}{o:LLB}{p3 p4:Value}{ad:Addr}{v:Value}{i1 i2 i5:Nat}{A:List Aa}{x:(TM tsC).T}{u:LB×LL×LI}{a:Act}{w:World}{Q:Exit->Act->World->Prop}(W:KC i2 i5 i1 C c o p3 p4 ad v)(hv:v.oneCell'=true)(U:ndB [i2,i5,i1]=true)
  (hs:AA C 40 (St.den ⟨λk=>bif beq k 7 then .one (.rp i5 [] 0 0)else bif beq k 9 then .one (.raw (.pointer (some ad)) rfl)else .one .dead,A⟩) a w) (hx:Is (⟨λ_=>.one .dead,A⟩:St) tsC [i2,i5,i1]=some x) (hu:Gch c o 9 0 x.1 x.2.1 x.2.2.1=some u)
  (hn:∀a' w',AA C 40 (st26 i5 (D8 [i2,i5,i1] (Ji u.2.2 u.1 u.2.1) A)).den a' w'->Q .normal a' w'):(q26 10).wp prog Q a w:=by
 rw[s10];refine wp_region_list ?_;rw[l10];refine Bp (by kernel_rfl) (Up (h:=⟨40,[],0⟩) (y:=9) (t:=98) (d:=36) (hv1:=hv) W hs (by kernel_rfl) (by kernel_rfl) rfl (by kernel_rfl) (by show 36<40;omega) λa1 w1 H=>Bp (by kernel_rfl) ?_)
 have e:(nth (q26 10) 1).op=.call {callee:=.value (.tmp 36),args:=#[.const (.int .i64 0)],argTypes:=#[3]}:=by kernel_rfl
 have Z:(nth (q26 10) 1).dst=some 37:=by kernel_rfl
 refine W9 (Abv 9) W (h:=⟨40,[],0⟩) (dd:=0) (i:=0) (M:=x.1) (O:=x.2.1) (mv:=x.2.2.1) (u:=u) (hv1:=hv) H e U (λd hd=>?_) rfl rfl hx hu (by rw[Z];rfl) λa2 w2 _ B=>hn a2 w2 ?_
 .rw[Z]at hd
  cases hd;exact⟨(by decide:37<40),rfl⟩
 .refine B.sub rfl (λi _=>Sub.refl _) λi=>?_
  by_cases Y:i=7
  .subst Y
   have e7:∀r,(Sl.killP (Uw [i2,i5,i1]) (.one (.rp i5 [] 0 0))).v r=.rp i5 [] 0 0:=λr=>by
    show Cl.v r (bif Uw [i2,i5,i1] i5 []then Cl.dead else .rp i5 [] 0 0)=_;rw[X8];rfl
   exact(congrArg (λv=>Ak v (.rp i5 [] 0 0)) (e7 (D8 [i2,i5,i1] (Ji u.2.2 u.1 u.2.1) A))).mpr (Ak.refl _)
  .show Ak _ ((bif beq i 7 then Sl.one (.rp i5 [] 0 0)else .one .dead).v _)
   rw[XJ Y];exact Ak.dead _
def NL{E:Ih}(Z:EOK prog E.toEnv){C:Ctx}(Y:C.m<=E.h.keep){last:Code}{R:Type}{K:Exit->St->Option R}{z:R}{Q:Exit->Act->World->Prop}(W:∀s' A w',AA C E.h.n s'.den A w'->K .normal s'=some z->last.wp prog Q A w')(U:∀e s' A w',e≠.normal->AA C E.h.n s'.den A w'->K e s'=some z->Q e A w'):
  ∀(cs:List Code) (s:St) (a:Act) (w:World),AA C E.h.n s.den a w->QD E cs s K=some z->(cs.foldr Code.seq last).wp prog Q a w
 |[],s,a,w,hs,h=>W s a w hs h
 |c::cs,s,a,w,hs,h=>by
  refine wp_seq ?_
  have h:(Mm E c s λe s'=>match e with
   |.normal=>QD E cs s' K
   |.exit id=>K (.exit id) s'
   |.ret=>K .ret s'
   |.goto l=>K (.goto l) s'
   |_=>none)=some z:=h
  refine Dl Z mixed Y c s _ z _ a w hs h λe s' A w' _ B H=>?_
  cases e with
  |normal=>exact NL Z Y W U cs s' A w' B H
  |exit id=>exact U (.exit id) s' A w' (by simp) B H
  |ret=>exact U .ret s' A w' (by simp) B H
  |goto l=>exact U (.goto l) s' A w' (by simp) B H
  |panic ch=>cases H
  |outgrown=>cases H
def S26:Sig:=⟨[(true,yC)],[(false,2,yLL),(false,0,yI)]⟩
def s26:b26=[q26 0,q26 1,q26 2,q26 3,q26 4,q26 5,q26 6,q26 7,q26 8].foldr Code.seq (.seq (q26 9) (.seq (q26 10) (.seq (q26 11) .ret))):=by kernel_rfl
def s11:q26 11=.region (idR (q26 11)) (PZ (q26 11)) false:=by kernel_rfl
def l11:(PZ (q26 11)).toList=[nth (q26 11) 0,nth (q26 11) 1,nth (q26 11) 2,nth (q26 11) 3]:=by kernel_rfl
def Aai{C:Ctx}{s:St}{a:Act}{w:World}{y:LL×Int}{Q:Exit->Act->World->Prop}(hs:AA C 40 s.den a w)(h:Aaj s=some y)(hQ:∀s' Z w',AA C 40 s'.den Z w'->Aae s'=some y->Q .ret Z w'):(Code.seq (q26 11) .ret).wp prog Q a w:=by
 refine wp_seq ?_;rw[s11];refine wp_region_list ?_;rw[l11];unfold Aaj at h;refine Bp (by kernel_rfl) (C4 (E:=E26.toEnv) KQ hs h λs1 a1 w1 _ W h=>?_)
 split at h
 case h_2=>cases h
 rename_i s2 hc;have U:AA C 40 s2.den a1 w1:=Kx (x:=.tmp 38) hc W;refine Bp (by kernel_rfl) (C4 (E:=E26.toEnv) KQ U h λs3 a3 w3 _ H h=>Bp (by kernel_rfl) (C4 (E:=E26.toEnv) KQ H h λs4 a4 w4 _ B h=>Bp (by kernel_rfl) (C4 (E:=E26.toEnv) KQ B h λs5 a5 Y _ A h=>?_)))
 show Code.ret.wp prog Q a5 Y;exact wp_ret (hQ s5 a5 Y A h)
theorem c26:FT prog 26 S26 G26:=by
 intro x y Y;have H:Ab1 x=some y:=(congrFun t26 x).trans ((h26 x).trans Y);refine FC_of (h:=⟨40,[],0⟩) (body:=b26) func26 (by kernel_rfl) (by rw[KK];kernel_rfl) λ_ C a w Q W hs hQ=>?_
 have e:(JL S26.ps x).den=⟨λi=>(CN S26.ps x).getD i .dead,[]⟩:=by
  show Ms.mk (λi=>((Ads S26.ps x).getD i (.one .dead)).v []) []=_
  congr 1
  funext i
  rw[<-YC S26.ps x,Aw (a:=.one .dead) rfl]
 rw[<-e]at hs;rw[<-Ir]at hQ;have fin:∀s' U w',AA C 40 s'.den U w'->Aae s'=some y->Q .ret U w':=λs' U w' B A=>hQ .ret s'.den U w' (QU AaH A) B
 rw[s26];unfold Ab1 at H;refine NL KQ (by rw[W];exact Nat.zero_le _) (λs' U w' B A=>?_) (λe s' U w' hne B A=>?_) _ _ a w hs H
 .have A:Ac4 s' Aaj=some y:=A
  unfold Ac4 at A;split at A
  case h_2=>cases A
  rename_i s1 hg;have hs1:=HZ _ hg B;refine wp_seq ?_;rw[s9];refine wp_region_list ?_;rw[l9];refine Bp (by kernel_rfl) (C4 (E:=E26.toEnv) KQ hs1 A λs2 a2 w2 _ hs2 A=>?_)
  split at A
  case h_2=>cases A
  rename_i i1 i2 i5 i6 c o hg2;refine Bp (by kernel_rfl) (lay26 W hs2 hg2 A λC2 p3 p4 ad v r3 x2 u a3 w3 rb kc hv hnd hs3 hx hu A=>?_)
  show(Code.seq (q26 10) _).wp prog _ a3 w3;refine wp_seq (call26 kc hv hnd hs3 hx hu λa4 w4 Z=>?_)
  show(Code.seq (q26 11) .ret).wp prog _ a4 w4;exact Aai (rb.srel Z) A fin
 .cases e with
  |normal=>exact absurd rfl hne
  |ret=>exact fin s' U w' B A
  |exit id=>cases A
  |goto l=>cases A
  |panic ch=>cases A
  |outgrown=>cases A
def a26:AE prog 26=true:=by kernel_rfl
end Go.Ve.D

