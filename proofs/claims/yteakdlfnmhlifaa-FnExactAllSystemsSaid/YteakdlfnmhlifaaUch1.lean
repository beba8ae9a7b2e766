/- AllSystems. -/
import Derived.Test.YteakdlfnmhlifaaUsys
open Nat(le_refl beq)
open List(length_map range mem_cons)
set_option linter.all false
namespace Go.Ve.D
open Go Go.Ve Go.Proofs Go.Proofs.Try
set_option maxRecDepth 100000
variable{cts:Array Value}{M:LB}{O:LL}{ts σ:List V}{F:Nat->Nat->Prop}{D:Nat->Prop}{ρ:Nat->Value}{w:World}
abbrev yLL:Ty:=.sl yL
abbrev yLB:Ty:=.sl .bool
abbrev tsC:List (Nat×Ty):=[(1,yLB),(2,yLL),(1,yL)]
abbrev Ji(mv:LI)(M:LB)(O:LL):List Aa:=AK tsC (M,(O,(mv,())))
def ys55(i:Int)(c:Ca)(o:LLB)(ad:Addr):List Sl:=[.one (.c yI 0 i),.one (.rp 2 [] 0 0),.one (.rp 0 [] 0 0),.one (.c (.ptr yC) 0 c),.one (.c (.ptr (.sl yLB)) 0 o),.one (.rp 1 [] 0 0),.one (.raw (.pointer (some ad)) rfl)]
def va55(i:Int)(c:Ca)(o:LLB)(ad:Addr):List V:=(ys55 i c o ad).map (Sl.v [])
def V2(cvs:Array Value):Value:=.func (.func 55) #[] #[cvs.getD 1 undef,cvs.getD 2 undef,cvs.getD 3 undef,cvs.getD 4 undef,cvs.getD 5 undef,cvs.getD 6 undef]
abbrev Y1:=Int->LB->LL->LI->Option (LB×LL×LI)
def CHok(A:Y1)(c:Ca)(o:LLB):Prop:=∀i M O mv u,A i M O mv=some u->∀(ad:Addr) (w:World) (D:Nat->Prop) (ρ:Nat->Value) (F:Nat->Nat->Prop) (cvs:Array Value),ad.spot=none->D ad.block->w.cell? ad=some (V2 cvs)->
 Adu (Calls prog 55 cvs w) (va55 i c o ad) ((Ji mv M O).map Aa.v) (Hj [] ()) ((Ji u.2.2 u.1 u.2.1).map Aa.v) w D ρ F cvs
structure KC(k0 k1 k2:Nat)(C:Ctx)(c:Ca)(o:LLB)(p3 p4:Value)(ad:Addr)(v:Value):Prop where
 hD:∀b,C.D0 b->b<C.w0.heap.size/\¬C.W b
 h3:Rel C.D0 C.w0 noR (cV (.ptr yC) 0 c) p3 noF
 h4:Rel C.D0 C.w0 noR (cV (.ptr (.sl yLB)) 0 o) p4 noF
 sp:ad.spot=none
 da:C.D0 ad.block
 ca:C.w0.cell? ad=some v
 hv:v=.func (.func 55) #[] #[C.ρ0 k2,C.ρ0 k0,p3,p4,C.ρ0 k1,.pointer (some ad)]
 hm:k0<C.m/\k1<C.m/\k2<C.m
section
variable {k0 k1 k2:Nat}{C:Ctx}{mv:LI}{c:Ca}{o:LLB}{p3 p4:Value}{ad:Addr}{v:Value}{k0 k1 k2:Nat}
def KC.same(h:KC k0 k1 k2 C c o p3 p4 ad v)(A:CR C σ ts cts w D ρ F):∀b,C.D0 b->w.heap[b]? =C.w0.heap[b]?:=λb B=>A.fr.block b (h.hD b B).1 (h.hD b B).2
def KC.rel(h:KC k0 k1 k2 C c o p3 p4 ad v)(A:CR C σ ts cts w D ρ F){x:V}{p:Value}{R:V->Value->Prop}(B:Rel C.D0 C.w0 noR x p noF):Rel D w R x p noF:=
 Rel.mono A.D1 (λ_ _ h=>h.elim) _ _ _ (λb H=>h.same A b (H.resolve_right λh=>h)) B
def KC.cell(h:KC k0 k1 k2 C c o p3 p4 ad v){σ ts:List V}{cts:Array Value}{w:World}{D:Nat->Prop}{ρ:Nat->Value}{F:Nat->Nat->Prop}(A:CR C σ ts cts w D ρ F):w.cell? ad=some v:=(KD (h.same A _ h.da)).trans h.ca
def rs55_g{mv:LI}:∀j,j<3->∃f,((Ji mv M O).map Aa.v).getD j .dead=.nd false true 1 1 f
 |0,_=>⟨_,rfl⟩
 |1,_=>⟨_,rfl⟩
 |2,_=>⟨_,rfl⟩
 |n+3,h=>absurd h (by omega)
theorem W9{rec:Y1}(hrec:CHok rec c o)(B:KC k0 k1 k2 C c o p3 p4 ad v){h:BW}{s s':St}{a:Act}{w:World}{op:Oper}{y dd:Nat}{Z:Operand}{ats:Array TypeId}{i:Int}{M:LB}{O:LL}{u:LB×LL×LI}{hv1:v.oneCell'=true}{next:Act->World->Prop}{Q:Exit->Act->World->Prop}
  (hs:AA C h.n s.den a w) (ho:op.op=.call {callee:=.value (.tmp y),args:=#[Z],argTypes:=ats}) (hnd:ndB [k0,k1,k2]=true) (hd:∀d,op.dst=some d->d<h.n/\h.fz.contains d=false) (hy:s.t y=.one (.raw v hv1)) (hx:s.ev Z=some (.one (.c yI dd i))) (hr:Is s tsC [k0,k1,k2]=some (M,(O,(mv,())))) (hu:rec i M O mv=some u)
  (hp:(⟨λi=>(s.t i).killP (Uw [k0,k1,k2]),D8 [k0,k1,k2] (Ji u.2.2 u.1 u.2.1) s.r⟩:St).put h op.dst (Lo true [] ())=some s') (hn:∀a' w',Kp (λi=>decide (op.dst≠some i)) s s'->AA C h.n s'.den a' w'->next a' w'):op.wp prog a w next Q:=by
 have hs2:=hs;obtain⟨_,hdd,D0,ρ0,F0,Y⟩:=hs2;have ey:a.eval (.tmp y)=v:=by
  have h1:=Bh Y hdd (.tmp y);have e:s.den.ev (.tmp y)=.c v:=by
   show(s.t y).v s.r=_;rw[hy];rfl
  rw[e]at h1;exact h1.1
 have ex:a.eval Z=.int .i64 i:=by
  have h1:=Bh Y hdd Z;rw[Bg hx]at h1;exact h1.1
 have U:=H5 (P:=prog) (w:=w) (a:=a) ho (ey.trans B.hv) (by kernel_rfl)
 have ecv: #[Z].map a.eval++ #[C.ρ0 k2,C.ρ0 k0,p3,p4,C.ρ0 k1,.pointer (some ad)]= #[.int .i64 i,C.ρ0 k2,C.ρ0 k0,p3,p4,C.ρ0 k1,.pointer (some ad)]:=by
  simp[ex]
 rw[ecv]at U;refine OF (ts:=tsC) (rs:=[]) (z:=()) (J:=[k0,k1,k2]) (x:=(M,(O,(mv,())))) (x2:=(u.1,(u.2.1,(u.2.2,())))) (args:=va55 i c o ad) U (λD ρ F A=>?_) ⟨hnd,rfl⟩ hr rfl hd (λD ρ F A hs0 k hk2=>?_) hp hs hn
 .refine hrec i M O mv u hu ad w D _ _ _ B.sp (A.D1 _ B.da) ?_
  rw[B.cell A,B.hv];rfl
 .obtain⟨hm0,hm1,hm2⟩:=B.hm
  have hml:=A.ml
  have ref:∀j id,j<3->([k0,k1,k2]:List Nat).getD j 0=id->id<C.m->Ae ((Ji mv M O).map Aa.v) (λk=>ρ (([k0,k1,k2]:List Nat).getD k 0)) w (.rp j [] 0 0) (C.ρ0 id):=λj id hj hjd hid=>by
   obtain⟨f,hf⟩:=rs55_g (mv:=mv) (M:=M) (O:=O) j hj;have H:=hs0 j hj;rw[hjd]at H;have W:=Rel.sub H (A.wr.rel id (by omega))
   rw[hf]at W;rw[<-A.rt id hid];rcases W with⟨h,_⟩|⟨b,ofs,cap,G,hcv,_⟩
   .cases h
   .refine⟨by show j<3;exact hj,false,1,1,f,b,ofs,cap,⟨hf.symm,?_⟩,by omega,by omega,?_⟩
    .show _=ρ (([k0,k1,k2]:List Nat).getD j 0)
     rw[hjd];exact hcv.symm
    .rw[hcv]
     show Value.pointer _=_;simp
  have hk3:k<7:=hk2
  match k,hk3 with
  |0,_=>exact⟨rfl,rfl,λ_ h=>h⟩
  |1,_=>exact⟨ref 2 k2 (by omega) rfl hm2,λ_ h=>h⟩
  |2,_=>exact⟨ref 0 k0 (by omega) rfl hm0,λ_ h=>h⟩
  |3,_=>exact B.rel A B.h3
  |4,_=>exact B.rel A B.h4
  |5,_=>exact⟨ref 1 k1 (by omega) rfl hm1,λ_ h=>h⟩
  |6,_=>exact⟨rfl,rfl,λ_ h=>h⟩
end
end Go.Ve.D


namespace Go.Ve.D
open Go Go.Ve Go.Proofs Go.Proofs.Try
set_option maxRecDepth 100000
section
variable {k0 k1 k2:Nat}{C:Ctx}{c:Ca}{o:LLB}{p3 p4:Value}{ad:Addr}{v:Value}
def plainT:Option TyI->Bool
 |some ⟨false,_,_⟩=>true
 |_=>false
theorem Up(Y:KC k0 k1 k2 C c o p3 p4 ad v){h:BW}{s:St}{a:Act}{w:World}{op:Oper}{t:TypeId}{d y:Nat}{hv1:v.oneCell'=true}{next:Act->World->Prop}{Q:Exit->Act->World->Prop}(hs:AA C h.n s.den a w)(ho:op.op=.load t (.tmp y))(U:plainT (tyI prog t)=true)
  (h6:s.t y=.one (.raw (.pointer (some ad)) rfl)) (hd:op.dst=some d) (Z:d<h.n) (hn:∀a' w',AA C h.n (St.den ⟨AC s.t d (.one (.raw v hv1)),s.r⟩) a' w'->next a' w'):op.wp prog a w next Q:=by
 obtain⟨hd0,B,D,ρ,F,A⟩:=hs
 have e6:a.eval (.tmp y)=.pointer (some ad):=by
  have h1:=Bh A B (.tmp y)
  have e:s.den.ev (.tmp y)=.c (.pointer (some ad)):=by
   show(s.t y).v s.r=_;rw[h6];rfl
  rw[e]at h1;exact h1.1
 have H:ad=⟨ad.block,ad.off,none⟩:=by
  have:=Y.sp;cases ad;cases this;rfl
 have W:OpR s.den.σ w D ρ F (.nd false false 1 1 λ_ _=>.c v) (a.eval (.tmp y)):=by
  refine⟨noF,.inr ⟨ad.block,ad.off,1,λ_ _=>noF,?_,le_refl _,by rw[show maxLen=9223372036854775807 by decide];omega,λ_=>rfl,λi k hi hk2=>?_,λ_=>⟨λ_=>A.D1 _ Y.da,λ_ _ _ _ _ h=>h,λ_ h=>h⟩,λh=>by cases h⟩,λ_ h=>h.elim,λ_ _ _ h=>h⟩
  .rw[e6,H];rfl
  .obtain rfl:i=0:=by omega
   obtain rfl:k=0:=by omega
   refine⟨v,?_,rfl,hv1,λ_ h=>h⟩
   have:=Y.cell A;rw[H]at this;simpa using this
 obtain⟨r,rfl,hy⟩:=JZ (P:=prog) (K:=λr=>r=.c v) A.wr ho W (by
  revert U
  generalize tyI prog t=ti;intro U
  match ti,U with
  |some ⟨false,_,_⟩,_=>exact⟨by omega,rfl⟩)
 refine hy next Q λv' w' D' fp hB hr h1 h2 h3 h4=>hn _ _ ⟨by rw[hd];exact hd0,λx hx=>?_,?_⟩
 .show(AC s.t d _ x).v s.r=.dead
  rw[AU (λe=>by omega)]
  exact B x hx
 .rw[hd]
  have:=A.setv hB (v':=v') (r:=.c v) (D':=D') ⟨hr.1,hr.2.1,λ_ h=>h⟩ h2 h3 (λb hb=>(h4 b hb).1) d
  rw[BO Z]at this
  have e:(St.den ⟨AC s.t d (.one (.raw v hv1)),s.r⟩)=⟨AD s.den.t d (.c v),s.den.σ⟩:=by
   have:=BL (r:=s.r) (t:=s.t) (d:=d) (y:=.one (.raw v hv1));show Ms.mk (λi=>(AC s.t d (.one (.raw v hv1)) i).v s.r) _=_
   rw[this];rfl
  rw[e];exact this
end
end Go.Ve.D


namespace Go.Ve.D
open Go Go.Ve Go.Proofs Go.Proofs.Try
set_option maxRecDepth 100000
variable{C:Ctx}{w:World}
def Cu:Aa->Bool
 |.obj false _=>true
 |_=>false
def X3{r:Aa}(h:Cu r=true):∃sz f,r.v=.nd false true sz 1 f:=by
 match r,h with
 |.obj false l,_=>exact⟨_,_,rfl⟩
theorem IY{σ:List V}{ρ:Nat->Value}{id sz:Nat}{f:Nat->Nat->V}{cv:Value}(h:Ae σ ρ w (.rp id [] 0 0) cv)(B:σ.getD id .dead=.nd false true sz 1 f):cv=ρ id:=by
 obtain⟨_,s,sz1,n1,f1,b,ofs,cap,⟨A,H⟩,_,_,h3⟩:=h;rw[B]at A;cases A;rw[h3,<-H];show _=Value.pointer _;simp
structure DC(C C':Ctx):Prop where
 w0:C'.w0=C.w0
 W:C'.W=C.W
 D0:C'.D0=C.D0
 m:C'.m=4
 rt:∀i,i<3->C'.ρ0 i=C.ρ0 i
 df:C'.dfs=[⟨.fn (.func 59) #[C'.ρ0 0,C'.ρ0 2,C'.ρ0 3],#[]⟩]
def KC.dc{C':Ctx}{c:Ca}{o:LLB}{p3 p4:Value}{ad:Addr}{v:Value}(h:KC 0 1 2 C c o p3 p4 ad v)(k:DC C C'):KC 0 1 2 C' c o p3 p4 ad v:=by
 obtain⟨Y,U,h3,h4,H,B,A,Z⟩:=h;refine⟨by rw[k.w0,k.W,k.D0];exact Y,by rw[k.w0,k.D0];exact U,by rw[k.w0,k.D0];exact h3,h4,by rw[k.D0];exact H,by rw[k.w0];exact B,?_,by rw[k.m];decide⟩
 rw[A,k.rt 0 (by omega),k.rt 1 (by omega),k.rt 2 (by omega)]
theorem Aan{h:BW}{s:St}{a:Act}{op:Oper}{y:Nat}{ats:Array TypeId}{next:Act->World->Prop}{Q:Exit->Act->World->Prop}(hs:AA C h.n s.den a w)(ho:op.op=.defer {callee:=.value (.tmp y),args:=#[],argTypes:=ats})(hdst:op.dst=none)
  (hy:s.t y=.pk (.cl 59) [.rp 0 [] 0 0,.rp 2 [] 0 0,.rp 3 [] 0 0]) (hC:C.dfs=[]) (hm:C.m=3) (hob:∀id∈ [0,2,3],Cu (s.r.getD id .dead)=true) (hn:∀C' a' w',DC C C'->AA C' h.n s.den a' w'->next a' w'):op.wp prog a w next Q:=by
 obtain⟨hd0,hdd,D,ρ,F,A⟩:=hs;have h1:=Bh A hdd (.tmp y)
 have e:s.den.ev (.tmp y)=(Sl.pk (.cl 59) [.rp 0 [] 0 0,.rp 2 [] 0 0,.rp 3 [] 0 0]).v s.r:=by
  show(s.t y).v s.r=_;rw[hy]
 rw[e]at h1;obtain⟨H,G,Y,U,hrel,_,hfp⟩:=h1;have Y:a.eval (.tmp y)=.func (.func 59) #[] H:=Y;have U:H.size=3:=U;have hr:∀k id,k<3->([0,2,3]:List Nat).getD k 0=id->H.getD k undef=ρ id:=by
  intro k id hk B;have h4:Rel D w (Ae s.den.σ ρ w) (([Cl.rp 0 [] 0 0,.rp 2 [] 0 0,.rp 3 [] 0 0].map (Cl.v s.r)).getD k .dead) (H.getD k undef) (G k):=hrel k hk;have hmem:id∈ [0,2,3]:=by
   rw[<-B]
   match k,hk with
   |0,_=>simp
   |1,_=>simp
   |2,_=>simp
  obtain⟨sz,f,hv⟩:=X3 (hob id hmem);have he:s.den.σ.getD id .dead=.nd false true sz 1 f:=by
   show(s.r.map Aa.v).getD id .dead=_;rw[Ai];exact hv
  have h5:Ae s.den.σ ρ w (.rp id [] 0 0) (H.getD k undef):=by
   match k,hk,B with
   |0,_,B=>cases B;exact h4.1
   |1,_,B=>cases B;exact h4.1
   |2,_,B=>cases B;exact h4.1
  exact IY h5 he
 have ecs:H= #[ρ 0,ρ 2,ρ 3]:=by
  apply Array.ext
  .rw[U];rfl
  .intro i h1 h2
   have h3:i<3:=by omega
   have hg:H[i]=H.getD i undef:=by simp[h1]
   rw[hg]
   match i,h3 with
   |0,_=>exact hr 0 0 (by omega) rfl
   |1,_=>exact hr 1 2 (by omega) rfl
   |2,_=>exact hr 2 3 (by omega) rfl
 subst ecs;have hl:4<=s.r.length:=by
  rcases Nat.lt_or_ge 3 s.r.length with h|h
  .exact h
  .have:=hob 3 (by simp)
   rw[gDE,List.getElem?_eq_none h]at this;cases this
 let C':Ctx:=⟨C.w0,C.W,C.D0,4,ρ,C.ok,[⟨.fn (.func 59) #[ρ 0,ρ 2,ρ 3],#[]⟩]⟩
 have Z:(execOp a.eval op).run prog w=.ok (.defer ⟨.fn (.func 59) #[ρ 0,ρ 2,ρ 3],#[]⟩) w:=by
  unfold execOp;rw[ho];simp[resolve,Y,Deferred.ofValue]
 unfold Oper.wp;rw[Z,Oper.upon_defer,hdst];refine hn C' _ _ ⟨rfl,rfl,rfl,rfl,λi hi=>A.rt i (by omega),rfl⟩ ⟨?_,hdd,D,ρ,F,⟨A.wr,A.sz,A.tm,A.fr,A.Fn,A.D1,A.D2,λ_ _=>rfl,?_⟩⟩
 .show _::a.defers=_
  rw[hd0,hC]
 .show 4<=(s.r.map Aa.v).length
  rw[length_map];exact hl
end Go.Ve.D


namespace Go.Ve.D
open Go Go.Ve Go.Proofs Go.Proofs.Try
set_option maxRecDepth 100000
variable{w:World}
def Ab7{σ σ0:List V}{D:Nat->Prop}{ρ:Nat->Value}{F:Nat->Nat->Prop}{J:List Nat}(wr:Be σ w D ρ F){i j:Nat}(hj:J.getD i 0=j)(W:j<σ.length)(hi:i<σ0.length)(B:Sub (σ.getD j .dead) (σ0.getD i .dead))(hv:∃sz f,σ0.getD i .dead=.nd false true (sz+1) 1 f):Ae σ0 (λk=>ρ (J.getD k 0)) w (.rp i [] 0 0) (ρ j):=by
 obtain⟨sz,f,Y⟩:=hv;have A:=Rel.sub B (wr.rel j W);rw[Y]at A;rcases A with⟨h,_⟩|⟨b,U,cap,G,H,_⟩
 .cases h
 .refine⟨hi,false,sz+1,1,f,b,U,cap,⟨Y.symm,?_⟩,by omega,by omega,?_⟩
  .show _=ρ (J.getD i 0)
   rw[hj];exact H.symm
  .rw[H]
   show Value.pointer _=_;simp
abbrev Pk:List (Nat×Ty):=[(1,yLB),(1,yL),(0,yI)]
def run59{cs:Array Value}:(invoke (.fn (.func 59) cs) #[]).run prog w=.ok (.enter 59 cs) w:=by
 have hfn:prog.funcs[59]? =some f59:=func59;have h2:f59.body.isNone=false:=by kernel_rfl
 have h3 : decide (f59.name = "runtime.NumGoroutine") = false := by kernel_rfl
 have h3:=of_decide_eq_false h3;have h2:¬f59.body=none:=λe=>by rw[e]at h2;cases h2
 simp[invoke,callFunc,hfn,h2,h3]
theorem dend{C C':Ctx}(k:DC C C')(hC:C.dfs=[])(hm:C.m=3){N:Nat}{s:St}{a:Act}(hs:AA C' N s.den a w){x x2:(TM Pk).T}{ρ0:Nat->Value}{F0:Nat->Nat->Prop}{rs:List Aa}(hW:C.W=(λb=>∃i,F0 i b))(hρ:C.ρ0=ρ0)(hrs:rs.length=3)
  (hx:Is s Pk [0,2,3]=some x) (hg:G59 () x=some ((),x2)) (hr:∀k,k<3->Sub ((D8 [0,2,3] (AK Pk x2) s.r).getD k .dead).v (rs.getD k .dead).v/\k<s.r.length):
  Leaves prog f55 a.tmps (Qo C.w0 C.D0 ρ0 F0 (Hj [] ()) (rs.map Aa.v)) a.defers .returning w:=by
 obtain⟨hd0,hdd,D,ρ,F,U⟩:=hs;rw[hd0,k.df];refine leaves_cons (by simp) run59 ?_
 obtain⟨r1,r2⟩:=MJ hx;have hobj:∀j∈ [0,2,3],∃l,s.r.getD j .dead=.obj false l:=λj hj=>by
  obtain⟨i,hi,rfl⟩:=List.getElem_of_mem hj;obtain⟨t,l,k1,_⟩:=r2 i hi;have e:([0,2,3]:List Nat).getD i 0=[0,2,3][i]:=by rw[gDE,gEE hi];rfl
  rw[e]at k1;exact⟨l,k1⟩
 have Z:∀j∈ [0,2,3],j<s.r.length:=λj hj=>by
  obtain⟨l,hl⟩:=hobj j hj;rcases Nat.lt_or_ge j s.r.length with h|h
  .exact h
  .rw[gDE,List.getElem?_eq_none h]at hl;cases hl
 have hg2:∀(x:(TM Pk).T) (i:Nat),((AK Pk x).map Aa.v).getD i .dead=((AK Pk x).getD i .dead).v:=λx i=>Ai _ _
 have hs0:∀i,i<3->Sub (s.den.σ.getD (([0,2,3]:List Nat).getD i 0) .dead) (((AK Pk x).map Aa.v).getD i .dead):=λi hi=>by
  obtain⟨t,l,_,_,k3,_⟩:=r2 i hi;rw[hg2];show Sub ((s.r.map Aa.v).getD _ .dead) _;rw[Ai];exact k3
 have B:s.den.σ.length=s.r.length:=length_map ..;have Y:∀i,i<4->ρ i=C'.ρ0 i:=λi hi=>U.rt i (by rw[k.m];exact hi)
 have call:=UP (X:=λR=>CallsD prog 59 #[C'.ρ0 0,C'.ρ0 2,C'.ρ0 3] .returning w (Abg .returning R)) (λR R' h hx=>CallsD.mono hx λe u' w' hh=>⟨hh.1,h _ _ hh.2⟩) U (args:=(K8 S59.ps ()).map (Sl.v [])) (σ0:=(AK Pk x).map Aa.v) (σ1:=(AK Pk x2).map Aa.v) (J:=[0,2,3]) (r:=Hj [] ()) (cvs:=#[C'.ρ0 0,C'.ρ0 2,C'.ρ0 3])
  (λh1 h2 h3 h4 h5=>(c59 () x ((),x2) hg w D _ _ _ h1 h2 h3 h4 h5).2 .returning) rfl hs0 (by decide) (λj hj=>by rw[B];exact Z j hj) rfl (λi hi=>by
   obtain⟨t,l,k1,k2,_,k4⟩:=r2 i hi;obtain⟨l',k5,k6⟩:=k4 x2;refine⟨false,t.w,1,λi k=>([l.map Cl.v0].getD i []).getD k .dead,λi k=>([l'.map Cl.v0].getD i []).getD k .dead,?_,?_⟩
   .show(s.r.map Aa.v).getD _ .dead=_
    rw[Ai,k1];show A3 true (l.map Cl.v0)=_;unfold A3;rw[length_map,k2]
   .rw[hg2,k5]
    show A3 true (l'.map Cl.v0)=_;unfold A3;rw[length_map,k6]) rfl (λi hi=>by
   have hi3:i<3:=hi;have H:=hs0 i hi3
   match i,hi3 with
   |0,_=>
    have:=Ab7 U.wr (J:=[0,2,3]) (i:=0) (j:=0) rfl (by rw[B];exact Z 0 (by simp)) (by show 0<3;omega) H ⟨_,_,rfl⟩
    rw[Y 0 (by omega)]at this
    exact⟨this,λ_ h=>h⟩
   |1,_=>
    have:=Ab7 U.wr (J:=[0,2,3]) (i:=1) (j:=2) rfl (by rw[B];exact Z 2 (by simp)) (by show 1<3;omega) H ⟨_,_,rfl⟩
    rw[Y 2 (by omega)]at this
    exact⟨this,λ_ h=>h⟩
   |2,_=>
    have:=Ab7 U.wr (J:=[0,2,3]) (i:=2) (j:=3) rfl (by rw[B];exact Z 3 (by simp)) (by show 2<3;omega) H ⟨_,_,rfl⟩
    rw[Y 3 (by omega)]at this
    exact⟨this,λ_ h=>h⟩)
 refine CallsD.mono call λe u' w' hp=>?_
 obtain⟨rfl,cv,fp,D',F',rfl,A,_⟩:=hp;show Leaves prog f55 a.tmps _ [] .returning w'
 have hs2:AA C N (St.den ⟨λ_=>.one .dead,D8 [0,2,3] (AK Pk x2) s.r⟩) {a with defers:=[]} w':=by
  have e1:(St.den ⟨λ_=>.one .dead,D8 [0,2,3] (AK Pk x2) s.r⟩).σ=DB [0,2,3] ((AK Pk x2).map Aa.v) s.den.σ:=Q7 _ _ _
  refine⟨hC.symm,λ_ _=>rfl,D',ρ,F',⟨by rw[e1];exact A.wr,by simpa using A.sz,λt _=>?_,by rw[<-k.w0,<-k.W];exact A.fr,by rw[<-k.w0,<-k.W];exact A.Fn,by rw[<-k.D0];exact A.D1,by rw[<-k.w0,<-k.W,<-k.D0];exact A.D2,λi hi=>?_,?_⟩⟩
  .have:((range N).map (St.den ⟨λ_=>.one .dead,D8 [0,2,3] (AK Pk x2) s.r⟩).t).getD t .dead=.dead:=by
    by_cases ht:t<N
    .rw[Ay ht];rfl
    .exact Hm (by simpa using ht)
   rw[this];exact λ_ h=>h
  .rw[hm]at hi
   rw[Y i (by omega),k.rt i hi]
  .rw[e1,hm]
   have:=A.ml;rw[k.m]at this;omega
 obtain⟨v,h1,h2⟩:=Yq (P:=prog) (E:=⟨⟨TB,[],[],[],⟨N,[],3⟩,[],[]⟩,[],[]⟩) (fn:=f55) (rts:=[]) (z:=()) (rs:=rs) Mn ⟨rfl,hW,rfl,by rw[hm,hrs],hρ⟩ hs2 (λi hi=>by
  rw[hrs]at hi;refine⟨(hr i hi).1,?_⟩;show i<(D8 _ _ _).length;rw[Jk];exact(hr i hi).2) (by rw[hrs];rfl)
 exact⟨v,h1,h2⟩
end Go.Ve.D


namespace Go.Ve.D
open Go Go.Ve Go.Proofs Go.Proofs.Try
set_option maxRecDepth 100000
noncomputable def cL:Code->Code
 |.seq a _=>a
 |c=>c
noncomputable def cR:Code->Code
 |.seq _ b=>b
 |c=>c
noncomputable def PZ:Code->Array Oper
 |.region _ ops _=>ops
 |_=>#[]
noncomputable def idR:Code->Nat
 |.region id _ _=>id
 |_=>0
def d0 : Oper := { dst := none, op :=.move (.tmp 0), type := 0, pos := "", after := #[], guard := none }
noncomputable def nth(c:Code)(i:Nat):Oper:=(PZ c).toList.getD i d0
noncomputable def b55:Code:=match f55.body with
 |some c=>c
 |none=>.skip
noncomputable def c0:Code:=cL b55
noncomputable def cA:Code:=cL (cR b55)
noncomputable def r5:Code:=cL (cR (cR b55))
noncomputable def r6:Code:=cL (cR (cR (cR b55)))
noncomputable def r7:Code:=cL (cR (cR (cR (cR b55))))
noncomputable def r8:Code:=cR (cR (cR (cR (cR b55))))
noncomputable def E55(k:Nat):Ih:=⟨⟨TB,[⟨56,S56,G56⟩,⟨57,S57,G57⟩,⟨58,S58,G58⟩],[],[],⟨40,[],k⟩,[],[]⟩,[],[]⟩
noncomputable def end1(s:St):Option (LB×LL×LI):=match JU s.r tsC 0 with
 |some x=>match AaN true TB f55.results.toList [] (Aj (range 3) s)with
  |some _=>some (x.1,x.2.1,x.2.2.1)
  |none=>none
 |none=>none
noncomputable def end2(s:St):Option (LB×LL×LI):=match Is s Pk [0,2,3]with
 |some x=>DO (G59 () x) λu=>match JU (D8 [0,2,3] (AK Pk u.2) s.r) tsC 0 with
  |some y=>some (y.1,y.2.1,y.2.2.1)
  |none=>none
 |none=>none
noncomputable def Zp{R:Type}(c:Code)(y x d:Nat)(B:Y1)(v:Value)(hv:v.oneCell'=true)(s:St)(K:St->Option R):Option R:=
 QB (E55 4).toEnv ⟨AC s.t y (.one (.raw v hv)),s.r⟩ (nth c 1) λU=>QB (E55 4).toEnv U (nth c 2) λA=>match A.t x with
  |.one (.c (.int .i64) _ i)=>match Is A tsC [0,1,2]with
   |some z=>DO (B i z.1 z.2.1 z.2.2.1) λu=>match(⟨λi=>(A.t i).killP (Uw [0,1,2]),D8 [0,1,2] (Ji u.2.2 u.1 u.2.1) A.r⟩:St).put ⟨40,[],4⟩ (some d) (Lo true [] ())with
    |some H=>K H
    |none=>none
   |none=>none
  |_=>none
noncomputable def chk5(s:St):Bool:=match s.t 25 with
 |.pk (.cl g) [.rp a [] 0 0,.rp b [] 0 0,.rp e [] 0 0]=>beq g 59&&beq a 0&&beq b 2&&beq e 3&&Cu (s.r.getD 0 .dead)&&Cu (s.r.getD 2 .dead)&&Cu (s.r.getD 3 .dead)
 |_=>false
noncomputable def Ab0(A:Y1)(v:Value)(hv:v.oneCell'=true)(W:St):Option (LB×LL×LI):=
 Mm (E55 3) c0 W λe s1=>match e with
  |.normal=>Mm (E55 3) cA s1 λe H=>match e with
   |.ret=>end1 H
   |.normal=>QB (E55 3).toEnv H (nth r5 0) λB=>bif chk5 B then
     Zp r6 26 28 29 A v hv B λU=>Mm (E55 4) r7 U λe s5=>match e with
      |.normal=>Zp r8 36 38 39 A v hv s5 λs6=>end2 s6
      |_=>none
     else none
   |_=>none
  |_=>none
noncomputable def st55(i:Int)(mv:LI)(c:Ca)(o:LLB)(ad:Addr)(M:LB)(O:LL):St:=⟨λk=>(ys55 i c o ad).getD k (.one .dead),Ji mv M O⟩
end Go.Ve.D


namespace Go.Ve.D
open Go Go.Ve Go.Proofs Go.Proofs.Try
set_option maxRecDepth 100000
variable{a:Act}{C:Ctx}{Q:Exit->Act->World->Prop}{u:LB×LL×LI}{F:Nat->Nat->Prop}{D:Nat->Prop}{ρ:Nat->Value}{s:St}{w w':World}
noncomputable def G55(B:Y1)(c:Ca)(o:LLB):Y1:=λi M O mv=>(bif(decide (i=((mv.length:Nat):Int)))then(Option.bind (G56 M) (fun(v0:LI)=>(Option.bind (G58 (o,v0)) (fun(A:LI)=>(Option.bind (G57 (c,(o,(v0,A)))) (fun(H:Bool)=>(bif H then(if True then(if((O.length+(v0::([]:LL)).length)<=5864062014805)then(some (M,((O++(v0::([]:LL))),mv)))else none)else none)else(some (M,(O,mv))))))))))else(Option.bind (B (IntKind.wrap .i64 (i+(1:Int))) M O mv) (fun(v0:((List Bool)×(LL×LI)))=>(if(((0:Int)<=i)/\(i<((v0.2.2.length:Nat):Int)))then(if(((0:Int)<=(v0.2.2.getD (i).toNat (0:Int)))/\((v0.2.2.getD (i).toNat (0:Int))<((v0.1.length:Nat):Int)))then(Option.bind (B (IntKind.wrap .i64 (i+(1:Int))) (v0.1.set ((v0.2.2.getD (i).toNat (0:Int))).toNat true) v0.2.1 v0.2.2) (fun(A:((List Bool)×(LL×LI)))=>(Option.bind (G59 () (A.1,(A.2.2,(i,())))) (fun(H:(Unit×((List Bool)×(LI×(Int×Unit)))))=>(some (H.2.1,(A.2.1,H.2.2.1)))))))else none)else none))))
def t55:(fun(A:Y1) (v:Value) (hv:v.oneCell'=true) (i:Int) (mv:LI) (c:Ca) (o:LLB) (ad:Addr) (M:LB) (O:LL)=>Ab0 A v hv (st55 i mv c o ad M O))=λA _ _ i mv c o _ M O=>G55 A c o i M O mv:=by kernel_rfl
def Mi(k:Nat):EOK prog (E55 k).toEnv:=⟨Mn,fCs c56 (fCs c57 (fCs c58 An)),C9,Da,IK,Kr⟩
def Bp{P:Program}{ops:Array Oper}{op:Oper}{rest:List Oper}(A:op.guard=none)(h:op.wp P a w (wpList P ops Q rest) Q):wpList P ops Q (op::rest) a w:=by
 unfold wpList;rw[if_pos (by simp[Region.wanted,A])]
 exact .inl h
def AcV(Z:C.w0=w/\C.W=(λb=>∃i,F i b)/\C.D0=D/\C.m=3/\C.ρ0=ρ)(H:AA C 40 s.den a w')(h:end1 s=some u):
  ∃v,(results f55 a.tmps).run prog w'=.ok v w'/\Qo w D ρ F (Hj [] ()) ((Ji u.2.2 u.1 u.2.1).map Aa.v) (.returned v) w':=by
 unfold end1 at h;split at h
 case h_2=>cases h
 rename_i x B;split at h
 case h_2=>cases h
 rename_i z A;cases h;have U:=Jj B;refine Yq (P:=prog) (E:=E55 3) (fn:=f55) (rts:=[]) (z:=()) (rs:=Ji x.2.2.1 x.1 x.2.1) Mn Z H (λk Y=>?_) A
 have:=U k Y;rw[Nat.zero_add]at this;exact this
def AcU{C':Ctx}(k:DC C C')(hd:C.dfs=[])(hC:C.w0=w/\C.W=(λb=>∃i,F i b)/\C.D0=D/\C.m=3/\C.ρ0=ρ)(Y:AA C' 40 s.den a w')(h:end2 s=some u):
  Leaves prog f55 a.tmps (Qo w D ρ F (Hj [] ()) ((Ji u.2.2 u.1 u.2.1).map Aa.v)) a.defers .returning w':=by
 obtain⟨h1,h2,h3,h4,h5⟩:=hC;unfold end2 at h;split at h
 case h_2=>cases h
 rename_i x U;cases A:G59 () x with
 |none=>rw[A]at h;cases h
 |some B=>
 rw[A]at h;obtain⟨⟨⟩,x2⟩:=B
 have h:(match JU (D8 [0,2,3] (AK Pk x2) s.r) tsC 0 with
  |some y=>some (y.1,y.2.1,y.2.2.1)
  |none=>none)=some u:=h
 split at h
 case h_2=>cases h
 rename_i y H;cases h;have Z:=Jj H
 have:=dend k hd h4 Y h2 h5 (rs:=Ji y.2.2.1 y.1 y.2.1) rfl U A λi hi=>by
  have:=Z i hi;rw[Nat.zero_add,Jk]at this;exact this
 rw[h1,h3]at this;exact this
theorem QR{c:Ca}{o:LLB}{p3 p4:Value}{ad:Addr}{v:Value}{hv:v.oneCell'=true}{H:Y1}(U:CHok H c o)(hk:KC 0 1 2 C c o p3 p4 ad v)(hm:C.m<=4){A:Code}{y x d:Nat}{ats:Array TypeId}{R:Type}{s:St}{K:St->Option R}{z:R}{a:Act}{w:World}{Q:Exit->Act->World->Prop}
  (hcd:A=.region (idR A) (PZ A) false) (W:(PZ A).toList=[nth A 0,nth A 1,nth A 2,nth A 3]) (g0:(nth A 0).guard=none/\(nth A 1).guard=none/\(nth A 2).guard=none/\(nth A 3).guard=none)
  (e0:(nth A 0).op=.load 98 (.tmp 6)/\(nth A 0).dst=some y) (e3:(nth A 3).op=.call {callee:=.value (.tmp y),args:=#[.tmp x],argTypes:=ats}/\(nth A 3).dst=some d) (hy:y<40/\d<40/\y≠6/\d≠6) (B:decide ((nth A 1).dst≠some y)=true/\decide ((nth A 2).dst≠some y)=true/\decide ((nth A 1).dst≠some 6)=true/\decide ((nth A 2).dst≠some 6)=true)
  (hs:AA C 40 s.den a w) (h6:s.t 6=.one (.raw (.pointer (some ad)) rfl)) (h:Zp A y x d H v hv s K=some z) (hn:∀s' a' w',s'.t 6=.one (.raw (.pointer (some ad)) rfl)->AA C 40 s'.den a' w'->K s'=some z->Q .normal a' w'):A.wp prog Q a w:=by
 rw[hcd];refine wp_region_list ?_;rw[W];refine Bp g0.1 (Up (h:=⟨40,[],4⟩) (hv1:=hv) hk hs e0.1 (by kernel_rfl) h6 e0.2 hy.1 λa1 w1 hs1=>Bp g0.2.1 ?_)
 unfold Zp at h;refine C4 (E:=(E55 4).toEnv) (Mi 4) hs1 h λs2 a2 w2 k2 hs2 h=>Bp g0.2.2.1 (C4 (E:=(E55 4).toEnv) (Mi 4) hs2 h λZ a3 w3 k3 hs3 h=>Bp g0.2.2.2 ?_)
 have y1:(St.mk (AC s.t y (.one (.raw v hv))) s.r).t y=.one (.raw v hv):=by
  show AC s.t y _ y=_;unfold AC;simp
 have y6:(St.mk (AC s.t y (.one (.raw v hv))) s.r).t 6=.one (.raw (.pointer (some ad)) rfl):=by
  show AC s.t y _ 6=_;rw[AU (Ne.symm hy.2.2.1)];exact h6
 have y2:s2.t y=.one (.raw v hv):=by rw[k2.t y B.1 (by rw[y1];rfl),y1]
 have y3:Z.t y=.one (.raw v hv):=by rw[k3.t y B.2.1 (by rw[y2];rfl),y2]
 have z2:s2.t 6=.one (.raw (.pointer (some ad)) rfl):=by rw[k2.t 6 B.2.2.1 (by rw[y6];rfl),y6]
 have z3:Z.t 6=.one (.raw (.pointer (some ad)) rfl):=by rw[k3.t 6 B.2.2.2 (by rw[z2];rfl),z2]
 split at h
 case h_2=>cases h
 rename_i dd i hx;split at h
 case h_2=>cases h
 rename_i q hq;cases hu:H i q.1 q.2.1 q.2.2.1 with
 |none=>rw[hu]at h;cases h
 |some u=>
 rw[hu]at h
 have h:(match(⟨λi=>(Z.t i).killP (Uw [0,1,2]),D8 [0,1,2] (Ji u.2.2 u.1 u.2.1) Z.r⟩:St).put ⟨40,[],4⟩ (some d) (Lo true [] ())with
  |some s4=>K s4
  |none=>none)=some z:=h
 split at h
 case h_2=>cases h
 rename_i s4 hp;refine W9 U hk (h:=⟨40,[],4⟩) hs3 e3.1 rfl (λd' Y=>?_) y3 (congrArg some hx) hq hu (by rw[e3.2];exact hp) λa4 w4 k4 hs4=>hn s4 a4 w4 ?_ hs4 h
 .rw[e3.2]at Y
  cases Y;exact⟨hy.2.1,rfl⟩
 .rw[k4.t 6 (by rw[e3.2];exact dT (λe=>hy.2.2.2 (Option.some.inj e))) (by rw[z3];rfl),z3]
end Go.Ve.D


namespace Go.Ve.D
open Go Go.Ve Go.Proofs Go.Proofs.Try
set_option maxRecDepth 100000
theorem Nn(t:Ty)(x:t.T):clean (cV t 0 x):=Cl.clean_v (r:=[]) (c:=.c t 0 x) (by cases t<;>rfl)
def s55:b55=.seq c0 (.seq cA (.seq r5 (.seq r6 (.seq r7 r8)))):=by kernel_rfl
def s5:r5=.region (idR r5) (PZ r5) false:=by kernel_rfl
def l5:(PZ r5).toList=[nth r5 0,nth r5 1]:=by kernel_rfl
def s6:r6=.region (idR r6) (PZ r6) false:=by kernel_rfl
def l6:(PZ r6).toList=[nth r6 0,nth r6 1,nth r6 2,nth r6 3]:=by kernel_rfl
def s8:r8=.region (idR r8) (PZ r8) false:=by kernel_rfl
def l8:(PZ r8).toList=[nth r8 0,nth r8 1,nth r8 2,nth r8 3]:=by kernel_rfl
theorem Ac5{s:St}(h:chk5 s=true):s.t 25=.pk (.cl 59) [.rp 0 [] 0 0,.rp 2 [] 0 0,.rp 3 [] 0 0]/\∀id∈ [0,2,3],Cu (s.r.getD id .dead)=true:=by
 unfold chk5 at h;split at h
 case h_2=>cases h
 rename_i g a b e U;simp only[bAE]at h;obtain⟨⟨⟨⟨⟨⟨H,B⟩,h3⟩,h4⟩,h5⟩,h6⟩,h7⟩:=h;have H:=bqE H;have B:=bqE B;have h3:=bqE h3;have h4:=bqE h4;subst H B h3 h4;refine⟨U,λid A=>?_⟩
 rcases mem_cons.1 A with rfl|A
 .exact h5
 rcases mem_cons.1 A with rfl|A
 .exact h6
 .rw[List.mem_singleton.1 A];exact h7
theorem G55_ok{H:Y1}{c:Ca}{o:LLB}(Y:CHok H c o):CHok (G55 H c o) c o:=by
 intro i M O mv u hu ad w D ρ F cvs hsp hDa hcell hk htab wr Z A;have Z:cvs.size=7:=Z
 let C:Ctx:=⟨w,λb=>∃i,F i b,D,3,ρ,⟨hk,λp hp ⟨i,hi⟩=>htab p hp i hi⟩,[]⟩
 have hv:(V2 cvs).oneCell'=true:=rfl
 have U:Ab0 H (V2 cvs) hv (st55 i mv c o ad M O)=some u:=by
  have:=congrFun (congrFun (congrFun (congrFun (congrFun (congrFun (congrFun (congrFun (congrFun (congrFun t55 H) (V2 cvs)) hv) i) mv) c) o) ad) M) O;exact this.trans hu
 have hC:C.w0=w/\C.W=(λb=>∃i,F i b)/\C.D0=D/\C.m=3/\C.ρ0=ρ:=⟨rfl,rfl,rfl,rfl,rfl⟩
 have a1:Rel D w (Ae ((Ji mv M O).map Aa.v) ρ w) (.rp 2 [] 0 0) (cvs.getD 1 undef) noF:=A 1 (by show 1<7;omega)
 have a2:Rel D w (Ae ((Ji mv M O).map Aa.v) ρ w) (.rp 0 [] 0 0) (cvs.getD 2 undef) noF:=A 2 (by show 2<7;omega)
 have a3:Rel D w (Ae ((Ji mv M O).map Aa.v) ρ w) (cV (.ptr yC) 0 c) (cvs.getD 3 undef) noF:=A 3 (by show 3<7;omega)
 have a4:Rel D w (Ae ((Ji mv M O).map Aa.v) ρ w) (cV (.ptr (.sl yLB)) 0 o) (cvs.getD 4 undef) noF:=A 4 (by show 4<7;omega)
 have a5:Rel D w (Ae ((Ji mv M O).map Aa.v) ρ w) (.rp 1 [] 0 0) (cvs.getD 5 undef) noF:=A 5 (by show 5<7;omega)
 have a6:Rel D w (Ae ((Ji mv M O).map Aa.v) ρ w) (.c (.pointer (some ad))) (cvs.getD 6 undef) noF:=A 6 (by show 6<7;omega)
 have e1:cvs.getD 1 undef=ρ 2:=IY a1.1 (sz:=1) rfl;have e2:cvs.getD 2 undef=ρ 0:=IY a2.1 (sz:=1) rfl;have e5:cvs.getD 5 undef=ρ 1:=IY a5.1 (sz:=1) rfl;have e6:cvs.getD 6 undef=.pointer (some ad):=a6.1
 have kc:KC 0 1 2 C c o (cvs.getD 3 undef) (cvs.getD 4 undef) ad (V2 cvs):=by
  refine⟨λb hb=>⟨wr.Dlt b hb,fun⟨i,hi⟩=>wr.dD i b hi hb⟩,Rel.clean _ _ _ _ _ (Nn _ _) a3,Rel.clean _ _ _ _ _ (Nn _ _) a4,hsp,hDa,hcell,?_,(⟨by omega,by omega,by omega⟩:0<3/\1<3/\2<3)⟩
  unfold V2;rw[e1,e2,e5,e6]
 have hs0:AA C 40 (st55 i mv c o ad M O).den {tmps:=cvs++Array.replicate (f55.ntmps-cvs.size) undef,defers:=[]} w:=
  QQ (n:=f55.ntmps) ⟨rfl,rfl,rfl,rfl,rfl,rfl⟩ (λy hy r=>by
   simp only[ys55,mem_cons,List.not_mem_nil,or_false]at hy;rcases hy with rfl|rfl|rfl|rfl|rfl|rfl|rfl<;>rfl) wr (by kernel_rfl) Z A
 refine calls_of_wp_defers (fn:=f55) (c:=b55) func55 (by kernel_rfl) ?_
 rw[s55];refine wp_seq ?_;unfold Ab0 at U;refine Dl (E:=E55 3) (Mi 3) mixed (le_refl _) c0 _ _ u _ _ w hs0 U λe s1 a1 w1 k1 hs1 B=>?_
 cases e with
 |exit id=>cases B
 |goto l=>cases B
 |ret=>cases B
 |panic ch=>cases B
 |outgrown=>cases B
 |normal=>
 have t1:s1.t 6=.one (.raw (.pointer (some ad)) rfl):=by rw[k1.t 6 (by kernel_rfl) rfl];rfl
 show(Code.seq cA _).wp prog _ a1 w1;refine wp_seq ?_;refine Dl (E:=E55 3) (Mi 3) mixed (le_refl _) cA _ _ u _ _ w1 hs1 B λe s2 a2 w2 k2 hs2 B=>?_
 have t2:s2.t 6=.one (.raw (.pointer (some ad)) rfl):=by rw[k2.t 6 (by kernel_rfl) (by rw[t1];rfl)];exact t1
 cases e with
 |exit id=>cases B
 |goto l=>cases B
 |panic ch=>cases B
 |outgrown=>cases B
 |ret=>
  show Leaves prog f55 a2.tmps _ a2.defers .returning w2;have hd:a2.defers=[]:=hs2.1;rw[hd];exact AcV hC hs2 B
 |normal=>
 show(Code.seq r5 _).wp prog _ a2 w2;refine wp_seq ?_;rw[s5];refine wp_region_list ?_;rw[l5];refine Bp (by kernel_rfl) (C4 (E:=(E55 3).toEnv) (Mi 3) hs2 B λs3 a3 w3 k3 hs3 B=>Bp (by kernel_rfl) ?_)
 have t3:s3.t 6=.one (.raw (.pointer (some ad)) rfl):=by rw[k3.t 6 (by kernel_rfl) (by rw[t2];rfl)];exact t2
 cases hc5:chk5 s3 with
 |false=>rw[hc5]at B;cases B
 |true=>
 rw[hc5,cond_true]at B;obtain⟨c1,c2⟩:=Ac5 hc5;refine Aan (h:=⟨40,[],3⟩) (y:=25) (ats:=#[]) hs3 (by kernel_rfl) (by kernel_rfl) c1 rfl rfl c2 λC' a4 w4 kd hs4=>?_
 show(Code.seq r6 _).wp prog _ a4 w4;refine wp_seq ?_;have kc':=kc.dc kd;refine QR (y:=26) (x:=28) (d:=29) (ats:=#[3]) Y kc' (by rw[kd.m];exact le_refl _) s6 l6 ⟨by kernel_rfl,by kernel_rfl,by kernel_rfl,by kernel_rfl⟩ ⟨by kernel_rfl,by kernel_rfl⟩ ⟨by kernel_rfl,by kernel_rfl⟩ (by decide) ⟨by kernel_rfl,by kernel_rfl,by kernel_rfl,by kernel_rfl⟩ hs4 t3 B λs5 a5 w5 t5 hs5 B=>?_
 show(Code.seq r7 _).wp prog _ a5 w5;refine wp_seq ?_;refine Dl (E:=E55 4) (Mi 4) mixed (by rw[kd.m];exact le_refl _) r7 _ _ u _ _ w5 hs5 B λe s6' a6 w6 k6 hs6 B=>?_
 cases e with
 |exit id=>cases B
 |goto l=>cases B
 |ret=>cases B
 |panic ch=>cases B
 |outgrown=>cases B
 |normal=>
 have t6:s6'.t 6=.one (.raw (.pointer (some ad)) rfl):=by rw[k6.t 6 (by kernel_rfl) (by rw[t5];rfl)];exact t5
 show r8.wp prog _ a6 w6;refine QR (y:=36) (x:=38) (d:=39) (ats:=#[3]) Y kc' (by rw[kd.m];exact le_refl _) s8 l8 ⟨by kernel_rfl,by kernel_rfl,by kernel_rfl,by kernel_rfl⟩ ⟨by kernel_rfl,by kernel_rfl⟩ ⟨by kernel_rfl,by kernel_rfl⟩ (by decide) ⟨by kernel_rfl,by kernel_rfl,by kernel_rfl,by kernel_rfl⟩ hs6 t6 B λs7 a7 w7 _ hs7 B=>?_
 exact AcU kd rfl hC hs7 B
noncomputable def Gch(c:Ca)(o:LLB):Nat->Y1
 |0=>λ_ _ _ _=>none
 |n+1=>G55 (Gch c o n) c o
def Abv{c:Ca}{o:LLB}:∀n,CHok (Gch c o n) c o
 |0=>λ_ _ _ _ _ h=>by cases h
 |n+1=>G55_ok (Abv n)
end Go.Ve.D

