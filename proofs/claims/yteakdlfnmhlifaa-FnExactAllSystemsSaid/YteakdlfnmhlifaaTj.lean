/- The typed machine: a store, in memory. -/
import Derived.Test.YteakdlfnmhlifaaTi
open Nat(beq ble beq_refl lt_or_ge)
open List(mem_singleton getElem?_eq_none length_map map_map range)
set_option linter.all false
namespace Go.Ve
variable{P p q:AI}{x:Aa}{r r':List Aa}{l:List V}{i id id' k:Nat}{R:Type}{G:V->V}
abbrev Mv:=List (Nat×List Nat)
variable{j:Mv}
def hit(id:Nat)(ks:List Nat)(j:Mv)(id':Nat)(q:AI):Bool:=(beq id' id&&pre ks q)||j.any λx=>beq id' x.1&&pre x.2 q
def Cl.kill(id:Nat)(ks:List Nat)(j:Mv):Cl->Cl
 |.rf id' q=>bif hit id ks j id' q then .dead else .rf id' q
 |.rs id' q off len=>bif hit id ks j id' q then .dead else .rs id' q off len
 |.rp id' q i k=>bif hit id ks j id' q then .dead else .rp id' q i k
 |.rm id' q=>bif hit id ks j id' q then .dead else .rm id' q
 |y=>y
def Sl.kill(id:Nat)(ks:List Nat)(j:Mv):Sl->Sl
 |.one y=>.one (y.kill id ks j)
 |.new l=>.new l
 |.agg l=>.agg (l.map (Cl.kill id ks j))
 |.pk t l=>.pk t (l.map (Cl.kill id ks j))
 |.tup l=>.tup (l.map λp=>(p.1,p.2.map (Cl.kill id ks j)))
structure GOK(G:V->V)(id:Nat)(ks:List Nat)(j:Mv):Prop where
 m:A9 G
 rs:∀id' q off len,hit id ks j id' q=false->G (.rs id' q off len)=.rs id' q off len
 rp:∀id' q i k,hit id ks j id' q=false->G (.rp id' q i k)=.rp id' q i k
 rm:∀id' q,hit id ks j id' q=false->G (.rm id' q)=.rm id' q
theorem CI(h:hit id (P.map (·.2)) j id' q=false):¬ (id'=id/\AN P q=true)/\∀A Q,(A,Q.map (·.2))∈j->¬ (id'=A/\AN Q q=true):=by
 unfold hit at h;rw[Bool.or_eq_false_iff,Bool.and_eq_false_iff]at h;refine⟨fun⟨F,B⟩=>?_,λA Q hj=>?_⟩
 .rcases h.1 with h'|h'
  .simp_all
  .rw[Lw B]at h';grind
 .rintro ⟨rfl,B⟩
  have:=(List.any_eq_false.1 h.2) _ hj;simp[Lw B,not_true_eq_false]at this
theorem GOK.kill:GOK (AF id P) id (P.map (·.2)) []:=
 ⟨A5 _ _,λid' q off len h=>if_neg (CI h).1,λid' q i k h=>if_neg (CI h).1,λid' q h=>if_neg (CI h).1⟩
def GOK.idf:GOK (λv=>v) id (P.map (·.2)) []:=
 ⟨⟨λ_=>rfl,rfl,λ_ _ _ _ _=>rfl,λ_ _=>rfl,λ_ _ _=>rfl⟩,λ_ _ _ _ _=>rfl,λ_ _ _ _ _=>rfl,λ_ _ _=>rfl⟩
theorem GOK.move{j:Nat}:GOK (AY id P j) id (P.map (·.2)) [(j,[])]:=by
 have hj:∀id' q,hit id (P.map (·.2)) [(j,[])] id' q=false->id'≠j:=λid' q h e=>(CI h).2 j [] (mem_singleton.2 rfl) ⟨e,rfl⟩
 refine⟨CE _ _ _,λid' q off len h=>?_,λid' q i k h=>?_,λid' q h=>?_⟩
 .simp[AY,if_neg (hj _ _ h),if_neg (CI h).1]
 .simp[AY,if_neg (hj _ _ h),if_neg (CI h).1]
 .simp[AY,if_neg (hj _ _ h),if_neg (CI h).1]
def A9.comp{H:V->V}(A:A9 G)(hH:A9 H):A9 λv=>G (H v):=
 ⟨λv=>by rw[hH.c,A.c],by rw[hH.dead,A.dead],λ_ _ _ _ _=>by rw[hH.nd,A.nd],λ_ _=>by rw[hH.mp,A.mp],λ_ _ _=>by rw[hH.many,A.many]⟩
theorem GOK.cut{j m:Nat}{Q:AI}:GOK (λv=>AY id P m (rrV j Q m v)) id (P.map (·.2)) [(j,Q.map (·.2)),(m,[])]:=by
 have hj:∀id' q,hit id (P.map (·.2)) [(j,Q.map (·.2)),(m,[])] id' q=false->id'≠m/\¬ (id'=j/\AN Q q=true):=λid' q h=>⟨λe=>(CI h).2 m [] (by simp) ⟨e,rfl⟩,(CI h).2 j Q (by simp)⟩
 refine⟨A9.comp (CE _ _ _) (C6 _ _ _),λid' q off len h=>?_,λid' q i k h=>?_,λid' q h=>?_⟩
 .simp[rrV,if_neg (hj _ _ h).2,AY,if_neg (hj _ _ h).1,if_neg (CI h).1]
 .simp[rrV,if_neg (hj _ _ h).2,AY,if_neg (hj _ _ h).1,if_neg (CI h).1]
 .simp[rrV,if_neg (hj _ _ h).2,AY,if_neg (hj _ _ h).1,if_neg (CI h).1]
def A9.tyV0{G:V->V}(A:A9 G):∀(t:Ty) (x:t.T),∀v∈tyV t 0 x,G v=v
 |.int _,_,v,h=>by simp[tyV]at h;subst h;exact A.c _
 |.bool,_,v,h=>by simp[tyV]at h;subst h;exact A.c _
 |.str,_,v,h=>by simp[tyV]at h;subst h;exact A.c _
 |.sl _,_,v,h=>by simp[tyV,mem_singleton]at h;subst h;exact A.nd _ _ _ _ _
 |.ptr _,_,v,h=>by simp[tyV,mem_singleton]at h;subst h;exact A.nd _ _ _ _ _
 |.unit,_,v,h=>by trivial
 |.mp _ _,_,v,h=>by simp only[tyV,mem_singleton]at h;subst h;exact A.mp _ _
 |.pair a b,x,v,h=>by
  simp only[tyV,List.mem_append]at h;exact h.elim (A.tyV0 a x.1 v) (A.tyV0 b x.2 v)
 |.osl _,x,v,h=>by
  simp only[tyV,mem_singleton]at h;subst h;cases x with
  |none=>exact A.dead
  |some xs=>exact A.nd _ _ _ _ _
 |.clo g t,x,v,h=>by
  simp only[tyV,mem_singleton]at h;subst h;rw[A.many]
  congr 1
  funext k
  by_cases B:k<(tyV t 0 x).length
  .rw[gDE,gEE B]
   exact A.tyV0 t x _ (List.getElem_mem B)
  .rw[gDE,getElem?_eq_none (by omega)];exact A.dead
def A9.clo{G:V->V}(A:A9 G){g d:Nat}{u:Ty}{x:u.T}:G (cV (.clo g u) d x)=cV (.clo g u) d x:=A.tyV0 (.clo g u) x _ (mem_singleton.2 rfl)
def A9.osl{G:V->V}(A:A9 G){d:Nat}{u:Ty}{x:Option (List u.T)}:G (cV (.osl u) d x)=cV (.osl u) d x:=by
 cases x with
 |none=>exact A.dead
 |some xs=>exact A.nd _ _ _ _ _
theorem Cl.kill_v{ks:List Nat}(A:GOK G id ks j)(F:∀id' q,hit id ks j id' q=false->(Ac r' id' q).len=(Ac r id' q).len)(y:Cl):Ak (G (y.v r)) ((y.kill id ks j).v r'):=by
 cases y with
 |dead=>exact Ak.dead _
 |nil=>show Ak (G (.c _)) (.c _);rw[A.m.c];exact Ak.refl _
 |nilp=>show Ak (G (.c _)) (.c _);rw[A.m.c];exact Ak.refl _
 |nilf=>show Ak (G (.c _)) (.c _);rw[A.m.c];exact Ak.refl _
 |nilm=>show Ak (G (.c _)) (.c _);rw[A.m.c];exact Ak.refl _
 |raw _ _=>show Ak (G (.c _)) (.c _);rw[A.m.c];exact Ak.refl _
 |c t d x=>
  show Ak (G (cV t d x)) (cV t d x)
  have:G (cV t d x)=cV t d x:=by
   cases t with
   |sl t=>exact A.m.nd _ _ _ _ _
   |ptr t=>exact A.m.nd _ _ _ _ _
   |unit=>exact A.m.dead
   |pair a b=>exact A.m.dead
   |clo g u=>exact A.m.clo
   |osl u=>exact A.m.osl
   |mp a b=>exact A.m.mp _ _
   |_=>exact A.m.c _
  rw[this];exact Ak.refl _
 |rm id' q=>
  show Ak (G (.rm id' q)) ((bif hit id ks j id' q then Cl.dead else .rm id' q).v r');cases B:hit id ks j id' q with
  |true=>exact Ak.dead _
  |false=>rw[A.rm _ _ B];exact Ak.refl _
 |rf id' q=>
  show Ak (G (.rs id' q 0 (Ac r id' q).len)) ((bif hit id ks j id' q then Cl.dead else .rf id' q).v r');cases B:hit id ks j id' q with
  |true=>exact Ak.dead _
  |false=>
   rw[A.rs _ _ _ _ B];show Ak _ (V.rs id' q 0 (Ac r' id' q).len);rw[F _ _ B];exact Ak.refl _
 |rs id' q off len=>
  show Ak (G (.rs id' q off len)) ((bif hit id ks j id' q then Cl.dead else .rs id' q off len).v r');cases B:hit id ks j id' q with
  |true=>exact Ak.dead _
  |false=>rw[A.rs _ _ _ _ B];exact Ak.refl _
 |rp id' q i k=>
  show Ak (G (.rp id' q i k)) ((bif hit id ks j id' q then Cl.dead else .rp id' q i k).v r');cases B:hit id ks j id' q with
  |true=>exact Ak.dead _
  |false=>rw[A.rp _ _ _ _ B];exact Ak.refl _
theorem Adt(A:A9 G):G (Ah l)=Ah (l.map G):=by
 unfold Ah;rw[A.many,length_map]
 congr 1
 funext k
 rw[Bo A.dead]
theorem AaB(A:A9 G):G (Dj l)=Dj (l.map G):=by
 unfold Dj;rw[A.many,length_map]
 congr 1
 funext k
 rw[Bo A.dead]
theorem G_pk(A:A9 G){t:Tg}:G (pkL t l)=pkL t (l.map G):=by
 unfold pkL;rw[A.many,length_map]
 congr 1
 funext k
 rw[Bo A.dead]
theorem Sl.kill_v{r r':List Aa}{G:V->V}{id:Nat}{ks:List Nat}{j:Mv}(A:GOK G id ks j)(B:∀id' q,hit id ks j id' q=false->(Ac r' id' q).len=(Ac r id' q).len)(y:Sl):Ak (G (y.v r)) ((y.kill id ks j).v r'):=by
 have agg:∀l:List Cl,Ak (G (Ah (l.map (Cl.v r)))) (Ah ((l.map (Cl.kill id ks j)).map (Cl.v r'))):=by
  intro l;rw[Adt A.m];refine Ak.mk (by simp) λk _=>?_
  rw[map_map,map_map];exact BA A.m.dead rfl (λy=>Cl.kill_v A B y) k
 cases y with
 |one c=>exact Cl.kill_v A B c
 |new l=>show Ak (G (A3 true _)) (A3 true _);rw[show G (A3 true (l.map Cl.v0))=A3 true (l.map Cl.v0)from A.m.nd _ _ _ _ _];exact Ak.refl _
 |agg l=>exact agg l
 |pk t l=>
  show Ak (G (pkL t (l.map (Cl.v r)))) (pkL t ((l.map (Cl.kill id ks j)).map (Cl.v r')));rw[G_pk A.m];refine Ak.pk (by simp) λk _=>?_
  rw[map_map,map_map];exact BA (f:=λy=>G (y.v r)) A.m.dead rfl (λy=>Cl.kill_v A B y) k
 |tup l=>
  show Ak (G (Dj _)) (Dj _);rw[AaB A.m];refine Ak.tup (by simp) λk F=>?_
  have F:k<l.length:=by simpa using F
  simp only[gDE,List.getElem?_map,gEE F,Option.map_some,Option.getD_some];generalize l[k]=p;obtain⟨b,m⟩:=p;cases b with
  |true=>exact agg m
  |false=>
   cases m with
   |nil=>exact Ak.dead _
   |cons y m=>exact Cl.kill_v A B y
def Nm(r:Aa)(q:AI):Option Aa:=match q with
 |[(i,k)]=>match r with
  |.obj false l=>r.setAt [] i k .dead
  |.arr false (.osl t) d xs=>bif beq k 0 then some (.arr false (.osl t) d (setX xs i none))else none
  |_=>none
 |_=>none
theorem Kz{r F:Aa}(h:Nm r q=some F):Sub (upd q r.v .dead) F.v/\∀A,pre (q.map (·.2)) A=false->(F.at' A).len=(r.at' A).len:=by
 unfold Nm at h;split at h
 case h_2=>cases h
 rename_i i k;split at h
 case h_3=>cases h
 .exact⟨Iq [] _ _ h,λA H=>Kf [] _ _ h A H⟩
 .rename_i t d xs
  obtain⟨Y,h⟩:=A1 h;cases h;have Y:=bqE Y;subst Y;constructor
  .show Sub (upd [(i,0)] (arr true (Ty.osl t).w (tyV (.osl t) d) (Ty.osl t).dflt xs) .dead) (arr true (Ty.osl t).w (tyV (.osl t) d) (Ty.osl t).dflt (xs.set i none))
   unfold arr;rw[List.length_set];refine⟨_,rfl,λi' k' hi W=>?_⟩
   have U:k'=0:=by have:k'<1:=W;omega
   subst U;by_cases B:i'=i
   .subst B
    have e:(xs.set i' none).getD i' (Ty.osl t).dflt=none:=by simp[hi]
    show Sub (if i'=i'/\0=0 then V.dead else _) ((tyV (.osl t) d ((xs.set i' none).getD i' (Ty.osl t).dflt)).getD 0 .dead)
    rw[e,if_pos ⟨rfl,rfl⟩];exact Sub.refl _
   .have e:(xs.set i none).getD i' (Ty.osl t).dflt=xs.getD i' (Ty.osl t).dflt:=by simp only[gDE,List.getElem?_set_ne (Ne.symm B)]
    show Sub (if i'=i/\0=0 then V.dead else(tyV (.osl t) d (xs.getD i' (Ty.osl t).dflt)).getD 0 .dead) ((tyV (.osl t) d ((xs.set i none).getD i' (Ty.osl t).dflt)).getD 0 .dead)
    rw[e,if_neg (λh=>B h.1)]
    exact Sub.refl _
  .intro A H
   cases A with
   |nil=>show(xs.set i none).length=xs.length;simp
   |cons a A=>
    obtain⟨Z,k1⟩:=a;cases k1 with
    |zero=>simp[pre]at H
    |succ k1=>
     rfl
def nrm:Aa->AI->Nat->Cl->Cl
 |.obj _ l,[],k,.nil=>match l.getD k .dead with
  |.c (.sl t) d _=>.c (.sl t) (bif beq d 0 then 0 else t.dep+1) []
  |_=>.nil
 |_,_,_,y=>y
def nrm_v{r:Aa}{y:Cl}:Sub y.v0 (nrm r p k y).v0:=by
 unfold nrm;split
 .split
  .exact .inr ⟨rfl,_,_,_,rfl⟩
  .exact Sub.refl _
 .exact Sub.refl _
def Pv(id:Nat)(p:AI)(i k:Nat)(c:Cl)(r:List Aa):Option (List Aa×Mv):=match c with
 |.rf j []=>bif beq j id then none else match r.getD j .dead with
  |.arr false t d xs=>match(r.getD id .dead).setAt p i k (.c (.sl t) (d+1) xs)with
   |some A=>some ((r.set id A).set j .dead,[(j,[])])
   |none=>none
  |_=>none
 |.rf j (a::q)=>bif beq j id then none else match Ac r j (a::q)with
  |.arr false t d xs=>match Nm (r.getD j .dead) (a::q),(r.getD id .dead).setAt p i k (.c (.sl t) (d+1) xs)with
   |some r1,some A=>some ((r.set j r1++[Aa.dead]).set id A,[(j,(a::q).map (·.2)),(r.length,[])])
   |_,_=>none
  |_=>none
 |.rm j []=>bif beq j id then none else match r.getD j .dead with
  |.mp false kt B xs=>match(r.getD id .dead).setAt p i k (.c (.mp kt B) 1 xs)with
   |some A=>some ((r.set id A).set j .dead,[(j,[])])
   |none=>none
  |_=>none
 |y=>bif y.imm then(match(r.getD id .dead).setAt p i k (nrm (r.getD id .dead) p k y)with
  |some A=>some (r.set id A,[])
  |none=>none)else none
def Zf(id:Nat)(p:AI)(i:Nat):Nat->Nat->List Cl->St->Option St
 |_,_,[],s=>some s
 |0,_,_::_,_=>none
 |m+1,k,c::cs,s=>match Pv id p i k c s.r with
  |some (r',j)=>Zf id p i m (k+1) (cs.map (Cl.kill id ((p++[(i,k)]).map (·.2)) j)) ⟨λx=>(s.t x).kill id ((p++[(i,k)]).map (·.2)) j,r'⟩
  |none=>none
def IV(s:St):Option TI->Option Sl->Option Sl->Option St
 |some i,some (.one (.rp id p j k)),some y=>match y.cells with
  |some l=>bif beq l.length i.ty.w&&ble (k+i.ty.w) (Ac s.r id p).w&&(Ac s.r id p).live then Zf id p j l.length k l s else none
  |none=>none
 |_,_,_=>none
def ZA{R:Type}(id:Nat)(s:St)(K:St->Option R):Option R:=match s.r.getD id .dead with
 |.arr ro t d xs=>DO (some xs) λys=>K ⟨s.t,s.r.set id (.arr ro t d ys)⟩
 |_=>K s
theorem QX(id:Nat)(s:St)(K:St->Option R):ZA id s K=K s:=by
 unfold ZA;split
 .rename_i ro t d xs h
  show K ⟨s.t,s.r.set id (.arr ro t d xs)⟩=K s;have e:s.r.set id (.arr ro t d xs)=s.r:=by
   apply List.ext_getElem?
   grind
  rw[e]
 rfl
def QY{R:Type}(id:Nat)(s:St)(K:St->Option R):Option R:=bif ble 3 (s.r.getD id .dead).w then ZA id s K else K s
def N9(id:Nat)(s:St)(K:St->Option R):QY id s K=K s:=by
 unfold QY;rw[QX];simp
def Abj:Cl->List Nat
 |.rf id (_::_)=>[id]
 |_=>[]
def argIds:Option Sl->List Nat
 |some (.one y)=>Abj y
 |some (.agg l)=>l.flatMap Abj
 |_=>[]
def QZ{R:Type}:List Nat->St->(St->Option R)->Option R
 |[],s,K=>K s
 |id::l,s,K=>QY id s λs'=>QZ l s' K
def Oa{R:Type}:∀(l:List Nat) (s:St) (K:St->Option R),QZ l s K=K s
 |[],_,_=>rfl
 |id::l,s,K=>by
  unfold QZ;rw[N9];exact Oa l s K
def Zd{R:Type}(id:Nat)(p:AI)(i:Nat):Nat->Nat->List Cl->St->(St->Option R)->Option R
 |_,_,[],s,K=>K s
 |0,_,_::_,_,_=>none
 |m+1,k,c::cs,s,K=>match Pv id p i k c s.r with
  |some (r',j)=>ZA id ⟨λx=>(s.t x).kill id ((p++[(i,k)]).map (·.2)) j,r'⟩ λs'=>Zd id p i m (k+1) (cs.map (Cl.kill id ((p++[(i,k)]).map (·.2)) j)) s' K
  |none=>none
def QG{R:Type}{id:Nat}{p:AI}{i:Nat}{K:St->Option R}:∀(m k:Nat) (cs:List Cl) (s:St),Zd id p i m k cs s K=match Zf id p i m k cs s with
  |some s'=>K s'
  |none=>none
 |m,_,[],s=>by cases m<;>rfl
 |0,_,_::_,_=>rfl
 |m+1,k,c::cs,s=>by
  unfold Zd Zf;cases Pv id p i k c s.r with
  |none=>rfl
  |some x=>
   simp[QX];exact QG m (k+1) _ _
def Pu{R:Type}(s:St)(A:Option TI)(x v:Option Sl)(K:St->Option R):Option R:=match A,x,v with
 |some i,some (.one (.rp id p j k)),some y=>bif ble 3 i.ty.w then(match y.cells with
  |some l=>bif beq l.length i.ty.w&&ble (k+i.ty.w) (Ac s.r id p).w&&(Ac s.r id p).live then Zd id p j l.length k l s K else none
  |none=>none)else(match IV s A x v with
  |some s'=>QY id s' K
  |none=>none)
 |_,_,_=>match IV s A x v with
  |some s'=>K s'
  |none=>none
theorem U3(s:St)(A:Option TI)(x v:Option Sl)(K:St->Option R):Pu s A x v K=match IV s A x v with
  |some s'=>K s'
  |none=>none:=by
 unfold Pu;split
 .rename_i i id p j k y
  cases ble 3 i.ty.w with
  |false=>
   cases IV s (some i) (some (.one (.rp id p j k))) (some y)with
   |none=>rfl
   |some s'=>exact N9 _ _ _
  |true=>
   show _=match(match y.cells with
    |some l=>bif beq l.length i.ty.w&&ble (k+i.ty.w) (Ac s.r id p).w&&(Ac s.r id p).live then Zf id p j l.length k l s else none
    |none=>none)with
    |some s'=>K s'
    |none=>none
   generalize y.cells=yc;cases yc with
   |none=>rfl
   |some l=>
    simp;generalize (beq l.length i.ty.w&&ble (k+i.ty.w) (Ac s.r id p).w&&(Ac s.r id p).live)=b;cases b with
    |false=>rfl
    |true=>
     exact QG _ _ _ _
 rfl
theorem D7{A:Aa}{x:V}(F:Sub x A.v)(i:Nat):Sub (((r.map Aa.v).set id x).getD i .dead) (((r.set id A).map Aa.v).getD i .dead):=by
 rw[List.map_set];by_cases B:id=i
 .by_cases H:id<r.length
  .grind
  .rw[List.set_eq_of_length_le (by grind),List.set_eq_of_length_le (by grind)];exact Sub.refl _
 .rw[Ad B,Ad B];exact Sub.refl _
theorem Bd(h:id'≠id):Ac (r.set id x) id' q=Ac r id' q:=by
 unfold Ac
 grind
theorem BI(h:id<r.length):Ac (r.set id x) id q=x.at' q:=by
 unfold Ac
 grind
def WL{c:Cl}(h:Pv id p i k c r=some (r',j))(cs:List V):
  ∃(σ':List V) (G:V->V),MQ id p i k (c.v r) cs (r.map Aa.v) (λcs' σ2 G2=>cs'=cs.map G/\σ2=σ'/\G2=G)/\GOK G id ((p++[(i,k)]).map (·.2)) j/\σ'.length=r'.length/\r.length<=r'.length/\
   (∀x,Sub (σ'.getD x .dead) ((r'.map Aa.v).getD x .dead))/\(∀id' q,hit id ((p++[(i,k)]).map (·.2)) j id' q=false->(Ac r' id' q).len=(Ac r id' q).len):=by
 have F:∀(y:Cl) (W:Aa),(r.getD id .dead).setAt p i k y=some W->∀id' q,¬ (id'=id/\pre ((p++[(i,k)]).map (·.2)) q=true)->(Ac (r.set id W) id' q).len=(Ac r id' q).len:=by
  intro y W Z id' q hn;by_cases he:id'=id
  .subst he
   have Y:pre ((p++[(i,k)]).map (·.2)) q=false:=by
    cases hp:pre ((p++[(i,k)]).map (·.2)) q with
    |false=>rfl
    |true=>exact absurd ⟨rfl,hp⟩ hn
   by_cases hl:id'<r.length
   .rw[BI hl]
    exact Kf p _ _ Z q Y
   .rw[List.set_eq_of_length_le (by omega)]
  .rw[Bd he]
 have U:∀(j:Mv) id' q,hit id ((p++[(i,k)]).map (·.2)) j id' q=false->¬ (id'=id/\pre ((p++[(i,k)]).map (·.2)) q=true):=by
  intro j id' q hh ⟨h1,h2⟩;unfold hit at hh;rw[h1,beq_refl,h2]at hh;cases hh
 unfold Pv at h;split at h
 .rename_i B
  cases H:beq B id with
  |true=>rw[H]at h;cases h
  |false=>
   rw[H]at h;have hne:B≠id:=λe=>by rw[e,beq_refl]at H;cases H
   simp only[cond_false]at h;split at h
   case h_2=>cases h
   rename_i t d xs hj;split at h
   case h_2=>cases h
   rename_i W Z;cases h;refine⟨(((r.map Aa.v).set id (upd (p++[(i,k)]) ((r.map Aa.v).getD id .dead) ((r.map Aa.v).getD B .dead))).set B .dead),AY id (p++[(i,k)]) B,?_,GOK.move,by simp,by simp,λx=>?_,λid' q Y=>?_⟩
   .show MQ id p i k (V.rs B [] 0 (Ac r B []).len) cs _ _
    unfold MQ;have e:Ac r B []=.arr false t d xs:=hj
    have e2:sub [] ((r.map Aa.v).getD B .dead)=arr true t.w (tyV t d) t.dflt xs:=by
     show(r.map Aa.v).getD B .dead=_;rw[Ai,hj];rfl
    simp only[e2,e,arr];rw[if_neg (λh=>hne h.1)]
    refine⟨⟨?_,?_,hne⟩,?_,?_,?_⟩<;>first|rfl|trivial
   .rw[List.map_set]
    by_cases hx:B=x
    .subst hx
     have hl:B<r.length:=by
      rcases lt_or_ge B r.length with h|h
      .exact h
      .rw[gDE,getElem?_eq_none h]at hj;cases hj
     rw[Ag (by simpa using hl),Ag (by simpa using hl)];exact Sub.refl _
    .rw[Ad hx,Ad hx]
     refine D7 ?_ x;have:=Iq p _ _ Z;rw[Ai,Ai,hj];exact this
   .have h1:id'≠B:=λe=>(CI Y).2 B [] (mem_singleton.2 rfl) ⟨e,rfl⟩
    rw[Bd h1];exact F _ _ Z id' q (U _ _ _ Y)
 .rename_i B a q1
  cases H:beq B id with
  |true=>rw[H]at h;cases h
  |false=>
   rw[H]at h;have hne:B≠id:=λe=>by rw[e,beq_refl]at H;cases H
   simp only[cond_false]at h;split at h
   case h_2=>cases h
   rename_i t d xs hj;split at h
   case h_2=>cases h
   rename_i r1 W hcut Z;cases h;obtain⟨Q,hQ⟩:∃Q,Q=a::q1:=⟨_,rfl⟩;have hl:B<r.length:=by
    rcases lt_or_ge B r.length with h|h
    .exact h
    .unfold Ac at hj
     rw[gDE,getElem?_eq_none h]at hj;have:=Dt (a::q1);simp only[Option.getD_none]at hj;rw[this]at hj;cases hj
   have hid:id<r.length:=by
    rcases lt_or_ge id r.length with h|h
    .exact h
    .rw[gDE,getElem?_eq_none h]at Z
     exact absurd rfl (ME Z)
   obtain⟨hcv,hcl⟩:=Kz hcut;have hv1:(V.nd true true t.w xs.length (λi k=>((tyV t d (xs.getD i t.dflt)).getD k .dead)))=arr true t.w (tyV t d) t.dflt xs:=rfl
   have hnode:sub (a::q1) ((r.map Aa.v).getD B .dead)=arr true t.w (tyV t d) t.dflt xs:=by
    rw[AV (by rw[hj];simp),hj];rfl
   refine⟨(((r.map Aa.v).set B (upd (a::q1) ((r.map Aa.v).getD B .dead) .dead)++[arr true t.w (tyV t d) t.dflt xs]).set id (upd (p++[(i,k)]) ((r.map Aa.v).getD id .dead) (arr true t.w (tyV t d) t.dflt xs))).set (r.map Aa.v).length .dead,
    (λv=>AY id (p++[(i,k)]) (r.map Aa.v).length (rrV B (a::q1) (r.map Aa.v).length v)),?_,?_,by simp,by simp,λx=>?_,λid' q Y=>?_⟩
   .show MQ id p i k (V.rs B (a::q1) 0 (Ac r B (a::q1)).len) cs _ _
    unfold MQ;simp only[hnode,hj,arr];rw[if_neg (λh=>hne h.1)]
    refine⟨⟨?_,?_,hne⟩,?_,?_,?_⟩<;>first|rfl|trivial|(rw[map_map];rfl)
   .rw[length_map];exact GOK.cut
   .have e0:(((r.set B r1++[Aa.dead]).set id W).map Aa.v)=((r.map Aa.v).set B r1.v++[V.dead]).set id W.v:=by
     rw[List.map_set,List.map_append,List.map_set];rfl
    rw[e0];by_cases hx:x=r.length
    .subst hx
     have:((((r.map Aa.v).set B (upd (a::q1) ((r.map Aa.v).getD B .dead) .dead)++[arr true t.w (tyV t d) t.dflt xs]).set id (upd (p++[(i,k)]) ((r.map Aa.v).getD id .dead) (arr true t.w (tyV t d) t.dflt xs))).set (r.map Aa.v).length .dead).getD r.length .dead=.dead:=by
      have e:(r.map Aa.v).length=r.length:=length_map ..;rw[e];exact Ag (by simp)
     rw[this]
     have:(((r.map Aa.v).set B r1.v++[V.dead]).set id W.v).getD r.length .dead=.dead:=by
      rw[Ad (by omega)]
      simp[gAR]
     rw[this];exact Sub.refl _
    .rw[Ad (by simpa using Ne.symm hx)]
     by_cases hxi:id=x
     .subst hxi
      rw[Ag (by simp;omega),Ag (by simp;omega)]
      have:=Iq p _ _ Z;rw[Ai];exact this
     .rw[Ad hxi,Ad hxi]
      by_cases hxl:x<r.length
      .rw[Az (by simpa using hxl),Az (by simpa using hxl)]
       by_cases hxj:B=x
       .subst hxj
        rw[Ag (by simpa using hl),Ag (by simpa using hl),Ai]
        exact hcv
       .rw[Ad hxj,Ad hxj];exact Sub.refl _
      .have e1:∀(A:List V) (v:V),A.length=r.length->(A++[v]).getD x .dead=.dead:=by
        intro A v hA;rw[gDE,getElem?_eq_none (by simp;omega)];rfl
       rw[e1 _ _ (by simp),e1 _ _ (by simp)];exact Sub.refl _
   .have h1:=(CI Y).2 B (a::q1) (by simp)
    have h2:=(CI Y).2 r.length [] (by simp)
    have h2:id'≠r.length:=λe=>h2 ⟨e,rfl⟩
    have hpre:id'=B->pre ((a::q1).map (·.2)) q=false:=by
     intro e;have:=Y;unfold hit at this;rw[Bool.or_eq_false_iff]at this;have:=(List.any_eq_false.1 this.2) (B,(a::q1).map (·.2)) (by simp)
     rw[e,beq_refl,Bool.true_and]at this;simpa using this
    have eN:∀(A:List Aa) (y:Aa),A.length=r.length->id'<r.length->Ac (A++[y]) id' q=Ac A id' q:=by
     intro A y hA hlt;unfold Ac;rw[gDE,gAL (by omega),<-gDE]
    by_cases hxl:id'<r.length
    .by_cases hxi:id'=id
     .subst hxi
      have h3:=F _ _ Z id' q (U _ _ _ Y);rw[BI (by simpa using hxl)]at h3
      rw[BI (by simp;omega)]
      exact h3
     .rw[Bd hxi,eN _ _ (by simp) hxl]
      by_cases hxj:id'=B
      .subst hxj
       rw[BI hl];exact hcl q (hpre rfl)
      .rw[Bd hxj]
    .have hd:∀A:List Aa,A.length=r.length+1->Ac A id' q=(Aa.dead).at' q:=by
      intro A hA;unfold Ac;rw[gDE,getElem?_eq_none (by omega)];rfl
     rw[hd _ (by simp)]
     unfold Ac;rw[gDE,getElem?_eq_none (by omega)];rfl
 .rename_i B
  cases H:beq B id with
  |true=>rw[H]at h;cases h
  |false=>
   rw[H]at h;have hne:B≠id:=λe=>by rw[e,beq_refl]at H;cases H
   simp only[cond_false]at h;split at h
   case h_2=>cases h
   rename_i kt vt xs hj;split at h
   case h_2=>cases h
   rename_i W Z;cases h;refine⟨(((r.map Aa.v).set id (upd (p++[(i,k)]) ((r.map Aa.v).getD id .dead) ((r.map Aa.v).getD B .dead))).set B .dead),AY id (p++[(i,k)]) B,?_,GOK.move,by simp,by simp,λx=>?_,λid' q Y=>?_⟩
   .show MQ id p i k (V.rm B []) cs _ _
    unfold MQ
    have e2:sub [] ((r.map Aa.v).getD B .dead)=mpV true kt vt xs:=by
     show(r.map Aa.v).getD B .dead=_;rw[Ai,hj];rfl
    simp only[e2,mpV];refine⟨hne,?_,?_,?_⟩<;>first|rfl|trivial
   .rw[List.map_set]
    by_cases hx:B=x
    .subst hx
     have hl:B<r.length:=by
      rcases lt_or_ge B r.length with h|h
      .exact h
      .rw[gDE,getElem?_eq_none h]at hj;cases hj
     rw[Ag (by simpa using hl),Ag (by simpa using hl)];exact Sub.refl _
    .rw[Ad hx,Ad hx]
     refine D7 ?_ x;have:=Iq p _ _ Z;rw[Ai,Ai,hj];exact this
   .have h1:id'≠B:=λe=>(CI Y).2 B [] (mem_singleton.2 rfl) ⟨e,rfl⟩
    rw[Bd h1];exact F _ _ Z id' q (U _ _ _ Y)
 .rename_i hy
  obtain⟨H,h⟩:=A1 h;split at h
  case h_2=>cases h
  rename_i W Z;cases h;obtain⟨_,hv0⟩:=Qc (r:=r) H
  have sub:∀x,Sub (((r.map Aa.v).set id (upd (p++[(i,k)]) ((r.map Aa.v).getD id .dead) (c.v r))).getD x .dead) (((r.set id W).map Aa.v).getD x .dead):=λx=>by
   refine D7 ?_ x;rw[hv0,Ai];exact HD nrm_v p _ _ Z
  have cc:∀v,c.v r=.c v->∃(σ':List V) (G:V->V),MQ id p i k (c.v r) cs (r.map Aa.v) (λcs' σ2 G2=>cs'=cs.map G/\σ2=σ'/\G2=G)/\GOK G id ((p++[(i,k)]).map (·.2)) []/\σ'.length=(r.set id W).length/\r.length<=(r.set id W).length/\
    (∀x,Sub (σ'.getD x .dead) (((r.set id W).map Aa.v).getD x .dead))/\(∀id' q,hit id ((p++[(i,k)]).map (·.2)) [] id' q=false->(Ac (r.set id W) id' q).len=(Ac r id' q).len):=by
   intro v hv;cases hN:isN (Co (r.map Aa.v) id p i k)with
   |true=>
    refine⟨_,AF id (p++[(i,k)]),?_,GOK.kill,?_,by simp,sub,λid' q Y=>F _ _ Z id' q (U _ _ _ Y)⟩
    .rw[hv];unfold MQ;simp only[hN];refine⟨?_,?_,?_⟩<;>first|rfl|trivial
    .simp
   |false=>
    refine⟨_,λv=>v,?_,GOK.idf,?_,by simp,sub,λid' q Y=>F _ _ Z id' q (U _ _ _ Y)⟩
    .rw[hv];unfold MQ;simp only[hN];refine⟨?_,?_,?_⟩<;>first|rfl|trivial|simp
    .simp
  have cn:∀s sz n f,c.v r=.nd s false sz n f->∃(σ':List V) (G:V->V),MQ id p i k (c.v r) cs (r.map Aa.v) (λcs' σ2 G2=>cs'=cs.map G/\σ2=σ'/\G2=G)/\GOK G id ((p++[(i,k)]).map (·.2)) []/\σ'.length=(r.set id W).length/\r.length<=(r.set id W).length/\
    (∀x,Sub (σ'.getD x .dead) (((r.set id W).map Aa.v).getD x .dead))/\(∀id' q,hit id ((p++[(i,k)]).map (·.2)) [] id' q=false->(Ac (r.set id W) id' q).len=(Ac r id' q).len):=by
   intro s sz n f hv;refine⟨_,AF id (p++[(i,k)]),?_,GOK.kill,?_,by simp,sub,λid' q Y=>F _ _ Z id' q (U _ _ _ Y)⟩
   .rw[hv];unfold MQ;exact⟨rfl,rfl,rfl⟩
   .simp
  cases c with
  |nil=>exact cc _ rfl
  |nilp=>exact cc _ rfl
  |nilf=>exact cc _ rfl
  |nilm=>exact cc _ rfl
  |raw _ _=>exact cc _ rfl
  |c t d x=>
   cases t with
   |int k=>exact cc _ rfl
   |bool=>exact cc _ rfl
   |str=>exact cc _ rfl
   |sl t=>cases d with
    |zero=>exact cn _ _ _ _ rfl
    |succ d=>cases H
   |ptr t=>cases d with
    |zero=>exact cn _ _ _ _ rfl
    |succ d=>cases H
   |unit=>cases H
   |clo g u=>cases H
   |osl u=>cases H
   |mp a b=>cases H
   |pair a b=>cases H
  |_=>cases H
section mem
variable {P:Program}{C:Ctx}{D:Nat->Prop}
theorem U4{N:Nat}{id:Nat}{p:AI}{i k0:Nat}{ct:List Value}{b0 U:Nat}:
  ∀(m:Nat) (cs:List Cl) (H:List Value) (j:Nat) (s s':St) (w:World) (ρ:Nat->Value) (F:Nat->Nat->Prop),
  CR C s.den.σ ((range N).map s.den.t++ .rp id p i k0::cs.map (Cl.v s.r)) (ct++ .pointer (some ⟨b0,U+k0,none⟩)::H).toArray w D ρ F->ct.length=N->(∀x,N<=x->s.den.t x=.dead)->H.length=cs.length->k0+j+cs.length<=AW s.den.σ id p->
  Zf id p i m (k0+j) cs s=some s'->
  ∃w',(storeCells ⟨b0,U+k0,none⟩ H j).run P w=.ok () w'/\(∀x,N<=x->s'.den.t x=.dead)/\Wi C s'.den.σ ((range N).map s'.den.t) ct.toArray w':=by
 intro m
 induction m with
 |zero=>
  intro cs H j s s' w ρ F hcr hl hdd hlc _ h;cases cs with
  |nil=>
   cases h;cases H with
   |cons=>simp at hlc
   |nil=>exact⟨w,rfl,hdd,D,ρ,F,hcr.left (by simpa using hl)⟩
  |cons c cs=>cases h
 |succ m ih=>
  intro cs H j s s' w ρ F hcr hl hdd hlc hsz h;cases cs with
  |nil=>
   cases h;cases H with
   |cons=>simp at hlc
   |nil=>exact⟨w,rfl,hdd,D,ρ,F,hcr.left (by simpa using hl)⟩
  |cons c cs=>
   cases H with
   |nil=>simp at hlc
   |cons cx H=>
    simp only[List.length_cons]at hsz;unfold Zf at h;split at h
    case h_2=>cases h
    rename_i r' mv h1;obtain⟨σ',G,hput,hG,hσl,hrl,hsub,Y⟩:=WL h1 (cs.map (Cl.v s.r));obtain⟨G2,σ2,b,off,ρ1,F1,⟨y,hy⟩,hfz,h1c,⟨ofs,had,hoff⟩,hGm,⟨hcs,hσ2,hGG⟩,hns,hcr1⟩:=Iw hcr (by simpa using hl) (by omega) hput
    subst hσ2;subst hGG;simp only[Value.pointer.injEq,Option.some.injEq,Addr.mk.injEq,and_true]at had;obtain⟨rfl,had⟩:=had;obtain rfl:U=ofs:=by omega
    -- the typed state
    obtain⟨ks,hks⟩:∃ks,ks=((p++[(i,k0+j)]).map (·.2)):=⟨_,rfl⟩
    rw[<-hks]at h hG Y;obtain⟨s1,hs1⟩:∃s1:St,s1=⟨λx=>(s.t x).kill id ks mv,r'⟩:=⟨_,rfl⟩
    rw[<-hs1]at h;obtain⟨cs1,W⟩:∃cs1,cs1=cs.map (Cl.kill id ks mv):=⟨_,rfl⟩;rw[<-W]at h;have hst:s1.t=λx=>(s.t x).kill id ks mv:=by rw[hs1]
    have Z:s1.r=r':=by rw[hs1]
    have hcr2:CR C s1.den.σ ((range N).map s1.den.t++ .rp id p i k0::cs1.map (Cl.v s1.r)) (ct++ .pointer (some ⟨b0,U+k0,none⟩)::H).toArray (w.setCell ⟨b0,off,none⟩ cx) D ρ1 F1:=by
     refine hcr1.sub (by show(s1.r.map Aa.v).length=_;rw[length_map,hσl,Z]) (λx _=>by show Sub _ ((s1.r.map Aa.v).getD x .dead);rw[Z];exact hsub x) (by rw[W];simp) λx hx=>?_
     by_cases hxN:x<N
     .rw[Az (by simpa using hxN),Az (by simpa using hxN),map_map]
      have e1:((range N).map (G2∘s.den.t)).getD x .dead=G2 (s.den.t x):=by simp[hxN]
      have e2:((range N).map s1.den.t).getD x .dead=((s.t x).kill id ks mv).v r':=by
       rw[Ay hxN];show(s1.t x).v s1.r=_;rw[hst,Z]
      rw[e1,e2];exact Sl.kill_v hG Y _
     .obtain⟨l,rfl⟩:∃l,x=N+l:=⟨x-N,by omega⟩
      have e1:∀(A B:List V),A.length=N->(A++B).getD (N+l) .dead=B.getD l .dead:=by
       intro A B hA;simp only[gDE];rw[gAR (by omega),hA,Nat.add_sub_cancel_left]
      rw[e1 _ _ (by simp),e1 _ _ (by simp)]
      cases l with
      |zero=>exact Ak.refl _
      |succ l=>
       simp only[List.getD_cons_succ];rw[W,Z,map_map,map_map];exact BA (f:=λy=>G2 (y.v s.r)) (g:=λy=>(y.kill id ks mv).v r') hG.m.dead rfl (λy=>Cl.kill_v hG Y y) l
    have hdd2:∀x,N<=x->s1.den.t x=.dead:=by
     intro x hx;have h1:=Sl.kill_v hG Y (s.t x);have h2:(s.t x).v s.r=.dead:=hdd x hx;rw[h2,hG.m.dead]at h1;show(s1.t x).v s1.r=_;rw[hst,Z];rcases h1 with h|h
     .exact h
     .exact h
    have hnsz:k0+(j+1)+cs1.length<=AW s1.den.σ id p:=by
     have h0:=hns
     -- the size is that of the small machine's tree
     have h2:AW s1.den.σ id p=AW σ2 id p:=by
      have hp0:Ae σ2 ρ1 (w.setCell ⟨b0,off,none⟩ cx) (.rp id p i k0) (.pointer (some ⟨b0,U+k0,none⟩)):=by
       have h1:=hcr1.tm N (by simp)
       have e1:(((range N).map s.den.t).map G2++V.rp id p i k0::(cs.map (Cl.v s.r)).map G2).getD N .dead=.rp id p i k0:=by
        simp only[gDE];rw[gAR (by simp)]
        simp
       have e2:(ct++Value.pointer (some ⟨b0,U+k0,none⟩)::H).toArray.getD N undef=.pointer (some ⟨b0,U+k0,none⟩):=by simp[<-hl]
       rw[e1,e2]at h1;exact h1.1
      obtain⟨hid,s1',sz,n,f,b1,o1,cap,ha,_⟩:=hp0;obtain⟨f',ha'⟩:=At.sub' (hsub id) ha;have e0:s1.den.σ=r'.map Aa.v:=by show s1.r.map Aa.v=_;rw[Z]
      rw[e0];unfold AW;rw[<-At.sub ha,<-At.sub ha']
     rw[h2,h0,W,length_map];omega
    have hlc':H.length=cs1.length:=by rw[W,length_map];simpa using hlc
    rw[Nat.add_assoc k0 j 1]at h;clear hks hs1 W;obtain⟨w2,hrun,hd2,hcr3⟩:=ih cs1 H (j+1) s1 s' _ ρ1 F1 hcr2 hl hdd2 hlc' hnsz h;refine⟨w2,?_,hd2,hcr3⟩;have ea:(⟨b0,U+k0,none⟩:Addr).add j=⟨b0,off,none⟩:=by rw[AZ rfl,hoff,<-Nat.add_assoc]
    simp only[storeCells,Sem.run_bind,ea];rw[run_store P w _ cx .plain h1c,hy];simp only[hfz,Bool.false_eq_true,if_false];exact hrun
end mem
end Go.Ve

