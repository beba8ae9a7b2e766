/- The typed machine: a store, in memory. -/
import Derived.Test.YteakdlfnmhlifaaTi
open Nat(beq ble beq_refl lt_or_ge)
open List(mem_singleton getElem?_eq_none length_map map_map map_set range)
set_option linter.all false
namespace Go.Ve
variable{P p q:AG}{x:Ab}{r r':List Ab}{l:List V}{i id id' k:Nat}{R:Type}{G:V->V}
abbrev Mv:=List (Nat×List Nat)
variable{j:Mv}
def hit(id:Nat)(ks:List Nat)(j:Mv)(id':Nat)(q:AG):Bool:=(beq id' id&&pre ks q)||j.any λx=>beq id' x.1&&pre x.2 q
def Cl.kill(id:Nat)(ks:List Nat)(j:Mv):Cl->Cl
 |.rf id' q=>bif hit id ks j id' q then .dead else .rf id' q
 |.rs id' q off len=>bif hit id ks j id' q then .dead else .rs id' q off len
 |.rp id' q i k=>bif hit id ks j id' q then .dead else .rp id' q i k
 |.rm id' q=>bif hit id ks j id' q then .dead else .rm id' q
 |y=>y
def Sl.kill(id:Nat)(ks:List Nat)(j:Mv):Sl->Sl
 |.one y=>.one (y.kill id ks j)
 |.new l=>.new l
 |.agg l=>.agg (l.map (Cl.kill id ks j))
 |.pk t l=>.pk t (l.map (Cl.kill id ks j))
 |.tup l=>.tup (l.map λp=>(p.1,p.2.map (Cl.kill id ks j)))
structure GOK(G:V->V)(id:Nat)(ks:List Nat)(j:Mv):Prop where
 m:Bc G
 rs:∀id' q off len,hit id ks j id' q=false->G (.rs id' q off len)=.rs id' q off len
 rp:∀id' q i k,hit id ks j id' q=false->G (.rp id' q i k)=.rp id' q i k
 rm:∀id' q,hit id ks j id' q=false->G (.rm id' q)=.rm id' q
theorem CP(h:hit id (P.map (·.2)) j id' q=false):¬ (id'=id/\AR P q=true)/\∀e Q,(e,Q.map (·.2))∈j->¬ (id'=e/\AR Q q=true):=by
 unfold hit at h;rw[Bool.or_eq_false_iff,Bool.and_eq_false_iff]at h;refine⟨fun⟨A,u⟩=>?_,λe Q hj=>?_⟩
 .rcases h.1 with h'|h'
  .simp_all
  .rw[LG u]at h';grind
 .rintro ⟨rfl,u⟩
  have:=(List.any_eq_false.1 h.2) _ hj;simp[LG u,not_true_eq_false]at this
theorem GOK.kill:GOK (AI id P) id (P.map (·.2)) []:=
 ⟨Ba _ _,λid' q off len h=>if_neg (CP h).1,λid' q i k h=>if_neg (CP h).1,λid' q h=>if_neg (CP h).1⟩
def GOK.idf:GOK (λv=>v) id (P.map (·.2)) []:=
 ⟨⟨λ_=>rfl,rfl,λ_ _ _ _ _=>rfl,λ_ _=>rfl,λ_ _ _=>rfl⟩,λ_ _ _ _ _=>rfl,λ_ _ _ _ _=>rfl,λ_ _ _=>rfl⟩
theorem GOK.move{j:Nat}:GOK (A2 id P j) id (P.map (·.2)) [(j,[])]:=by
 have hj:∀id' q,hit id (P.map (·.2)) [(j,[])] id' q=false->id'≠j:=λid' q h e=>(CP h).2 j [] (mem_singleton.2 rfl) ⟨e,rfl⟩
 refine⟨CL _ _ _,λid' q off len h=>?_,λid' q i k h=>?_,λid' q h=>?_⟩
 .simp[A2,if_neg (hj _ _ h),if_neg (CP h).1]
 .simp[A2,if_neg (hj _ _ h),if_neg (CP h).1]
 .simp[A2,if_neg (hj _ _ h),if_neg (CP h).1]
def Bc.comp{H:V->V}(e:Bc G)(hH:Bc H):Bc λv=>G (H v):=
 ⟨λv=>by rw[hH.c,e.c],by rw[hH.dead,e.dead],λ_ _ _ _ _=>by rw[hH.nd,e.nd],λ_ _=>by rw[hH.mp,e.mp],λ_ _ _=>by rw[hH.many,e.many]⟩
theorem GOK.cut{j m:Nat}{Q:AG}:GOK (λv=>A2 id P m (rrV j Q m v)) id (P.map (·.2)) [(j,Q.map (·.2)),(m,[])]:=by
 have hj:∀id' q,hit id (P.map (·.2)) [(j,Q.map (·.2)),(m,[])] id' q=false->id'≠m/\¬ (id'=j/\AR Q q=true):=λid' q h=>⟨λe=>(CP h).2 m [] (by simp) ⟨e,rfl⟩,(CP h).2 j Q (by simp)⟩
 refine⟨Bc.comp (CL _ _ _) (Dc _ _ _),λid' q off len h=>?_,λid' q i k h=>?_,λid' q h=>?_⟩
 .simp[rrV,if_neg (hj _ _ h).2,A2,if_neg (hj _ _ h).1,if_neg (CP h).1]
 .simp[rrV,if_neg (hj _ _ h).2,A2,if_neg (hj _ _ h).1,if_neg (CP h).1]
 .simp[rrV,if_neg (hj _ _ h).2,A2,if_neg (hj _ _ h).1,if_neg (CP h).1]
def Bc.tyV0{G:V->V}(e:Bc G):∀(t:Ty) (x:t.T),∀v∈tyV t 0 x,G v=v
 |.int _,_,v,h=>by simp[tyV]at h;subst h;exact e.c _
 |.bool,_,v,h=>by simp[tyV]at h;subst h;exact e.c _
 |.str,_,v,h=>by simp[tyV]at h;subst h;exact e.c _
 |.sl _,_,v,h=>by simp[tyV,mem_singleton]at h;subst h;exact e.nd _ _ _ _ _
 |.ptr _,_,v,h=>by simp[tyV,mem_singleton]at h;subst h;exact e.nd _ _ _ _ _
 |.unit,_,v,h=>by trivial
 |.mp _ _,_,v,h=>by simp only[tyV,mem_singleton]at h;subst h;exact e.mp _ _
 |.pair a b,x,v,h=>by
  simp only[tyV,List.mem_append]at h;exact h.elim (e.tyV0 a x.1 v) (e.tyV0 b x.2 v)
 |.osl _,x,v,h=>by
  simp only[tyV,mem_singleton]at h;subst h;cases x with
  |none=>exact e.dead
  |some xs=>exact e.nd _ _ _ _ _
 |.clo g t,x,v,h=>by
  simp only[tyV,mem_singleton]at h;subst h;rw[e.many]
  congr 1
  funext k
  by_cases u:k<(tyV t 0 x).length
  .rw[gDE,gEE u]
   exact e.tyV0 t x _ (List.getElem_mem u)
  .rw[gDE,getElem?_eq_none (by omega)];exact e.dead
def Bc.clo{G:V->V}(e:Bc G){g d:Nat}{u:Ty}{x:u.T}:G (cV (.clo g u) d x)=cV (.clo g u) d x:=e.tyV0 (.clo g u) x _ (mem_singleton.2 rfl)
def Bc.osl{G:V->V}(e:Bc G){d:Nat}{u:Ty}{x:Option (List u.T)}:G (cV (.osl u) d x)=cV (.osl u) d x:=by
 cases x with
 |none=>exact e.dead
 |some xs=>exact e.nd _ _ _ _ _
theorem Cl.kill_v{ks:List Nat}(e:GOK G id ks j)(B:∀id' q,hit id ks j id' q=false->(Ac r' id' q).len=(Ac r id' q).len)(y:Cl):An (G (y.v r)) ((y.kill id ks j).v r'):=by
 cases y with
 |dead=>exact An.dead _
 |nil=>show An (G (.c _)) (.c _);rw[e.m.c];exact An.refl _
 |nilp=>show An (G (.c _)) (.c _);rw[e.m.c];exact An.refl _
 |nilf=>show An (G (.c _)) (.c _);rw[e.m.c];exact An.refl _
 |nilm=>show An (G (.c _)) (.c _);rw[e.m.c];exact An.refl _
 |c t d x=>
  show An (G (cV t d x)) (cV t d x)
  have:G (cV t d x)=cV t d x:=by
   cases t with
   |sl t=>exact e.m.nd _ _ _ _ _
   |ptr t=>exact e.m.nd _ _ _ _ _
   |unit=>exact e.m.dead
   |pair a b=>exact e.m.dead
   |clo g u=>exact e.m.clo
   |osl u=>exact e.m.osl
   |mp a b=>exact e.m.mp _ _
   |_=>exact e.m.c _
  rw[this];exact An.refl _
 |rm id' q=>
  show An (G (.rm id' q)) ((bif hit id ks j id' q then Cl.dead else .rm id' q).v r');cases A:hit id ks j id' q with
  |true=>exact An.dead _
  |false=>rw[e.rm _ _ A];exact An.refl _
 |rf id' q=>
  show An (G (.rs id' q 0 (Ac r id' q).len)) ((bif hit id ks j id' q then Cl.dead else .rf id' q).v r');cases A:hit id ks j id' q with
  |true=>exact An.dead _
  |false=>
   rw[e.rs _ _ _ _ A];show An _ (V.rs id' q 0 (Ac r' id' q).len);rw[B _ _ A];exact An.refl _
 |rs id' q off len=>
  show An (G (.rs id' q off len)) ((bif hit id ks j id' q then Cl.dead else .rs id' q off len).v r');cases A:hit id ks j id' q with
  |true=>exact An.dead _
  |false=>rw[e.rs _ _ _ _ A];exact An.refl _
 |rp id' q i k=>
  show An (G (.rp id' q i k)) ((bif hit id ks j id' q then Cl.dead else .rp id' q i k).v r');cases A:hit id ks j id' q with
  |true=>exact An.dead _
  |false=>rw[e.rp _ _ _ _ A];exact An.refl _
theorem AdX(e:Bc G):G (Ag l)=Ag (l.map G):=by
 unfold Ag;rw[e.many,length_map]
 congr 1
 funext k
 rw[Bp e.dead]
theorem Aa9(e:Bc G):G (Dq l)=Dq (l.map G):=by
 unfold Dq;rw[e.many,length_map]
 congr 1
 funext k
 rw[Bp e.dead]
theorem G_pk(e:Bc G){t:Tg}:G (pkL t l)=pkL t (l.map G):=by
 unfold pkL;rw[e.many,length_map]
 congr 1
 funext k
 rw[Bp e.dead]
theorem Sl.kill_v{r r':List Ab}{G:V->V}{id:Nat}{ks:List Nat}{j:Mv}(e:GOK G id ks j)(u:∀id' q,hit id ks j id' q=false->(Ac r' id' q).len=(Ac r id' q).len)(y:Sl):An (G (y.v r)) ((y.kill id ks j).v r'):=by
 have agg:∀l:List Cl,An (G (Ag (l.map (Cl.v r)))) (Ag ((l.map (Cl.kill id ks j)).map (Cl.v r'))):=by
  intro l;rw[AdX e.m];refine An.mk (by simp) λk _=>?_
  rw[map_map,map_map];exact BJ e.m.dead rfl (λy=>Cl.kill_v e u y) k
 cases y with
 |one c=>exact Cl.kill_v e u c
 |new l=>show An (G (A8 true _)) (A8 true _);rw[show G (A8 true (l.map Cl.v0))=A8 true (l.map Cl.v0)from e.m.nd _ _ _ _ _];exact An.refl _
 |agg l=>exact agg l
 |pk t l=>
  show An (G (pkL t (l.map (Cl.v r)))) (pkL t ((l.map (Cl.kill id ks j)).map (Cl.v r')));rw[G_pk e.m];refine An.pk (by simp) λk _=>?_
  rw[map_map,map_map];exact BJ (f:=λy=>G (y.v r)) e.m.dead rfl (λy=>Cl.kill_v e u y) k
 |tup l=>
  show An (G (Dq _)) (Dq _);rw[Aa9 e.m];refine An.tup (by simp) λk A=>?_
  have A:k<l.length:=by simpa using A
  simp only[gDE,List.getElem?_map,gEE A,Option.map_some,Option.getD_some];generalize l[k]=p;obtain⟨b,m⟩:=p;cases b with
  |true=>exact agg m
  |false=>
   cases m with
   |nil=>exact An.dead _
   |cons y m=>exact Cl.kill_v e u y
def Nz(r:Ab)(q:AG):Option Ab:=match q with
 |[(i,k)]=>match r with
  |.obj false l=>r.setAt [] i k .dead
  |.arr false (.osl t) d xs=>bif beq k 0 then some (.arr false (.osl t) d (setX xs i none))else none
  |_=>none
 |_=>none
theorem KJ{r B:Ab}(h:Nz r q=some B):Sub (upd q r.v .dead) B.v/\∀u,pre (q.map (·.2)) u=false->(B.at' u).len=(r.at' u).len:=by
 unfold Nz at h;split at h
 case h_2=>cases h
 rename_i i k;split at h
 case h_3=>cases h
 .exact⟨Hx [] _ _ h,λu E=>Jb [] _ _ h u E⟩
 .rename_i t d xs
  obtain⟨J,h⟩:=A1 h;cases h;have J:=bqE J;subst J;constructor
  .show Sub (upd [(i,0)] (arr true (Ty.osl t).w (tyV (.osl t) d) (Ty.osl t).dflt xs) .dead) (arr true (Ty.osl t).w (tyV (.osl t) d) (Ty.osl t).dflt (xs.set i none))
   unfold arr;rw[List.length_set];refine⟨_,rfl,λi' k' hi H=>?_⟩
   have F:k'=0:=by have:k'<1:=H;omega
   subst F;by_cases A:i'=i
   .subst A
    have e:(xs.set i' none).getD i' (Ty.osl t).dflt=none:=by simp[hi]
    show Sub (if i'=i'/\0=0 then V.dead else _) ((tyV (.osl t) d ((xs.set i' none).getD i' (Ty.osl t).dflt)).getD 0 .dead)
    rw[e,if_pos ⟨rfl,rfl⟩];exact Sub.refl _
   .have e:(xs.set i none).getD i' (Ty.osl t).dflt=xs.getD i' (Ty.osl t).dflt:=by simp only[gDE,List.getElem?_set_ne (Ne.symm A)]
    show Sub (if i'=i/\0=0 then V.dead else(tyV (.osl t) d (xs.getD i' (Ty.osl t).dflt)).getD 0 .dead) ((tyV (.osl t) d ((xs.set i none).getD i' (Ty.osl t).dflt)).getD 0 .dead)
    rw[e,if_neg (λh=>A h.1)]
    exact Sub.refl _
  .intro u E
   cases u with
   |nil=>show(xs.set i none).length=xs.length;simp
   |cons a u=>
    obtain⟨O,k1⟩:=a;cases k1 with
    |zero=>simp[pre]at E
    |succ k1=>
     rfl
def nrm:Ab->AG->Nat->Cl->Cl
 |.obj _ l,[],k,.nil=>match l.getD k .dead with
  |.c (.sl t) d _=>.c (.sl t) (bif beq d 0 then 0 else t.dep+1) []
  |_=>.nil
 |_,_,_,y=>y
def nrm_v{r:Ab}{y:Cl}:Sub y.v0 (nrm r p k y).v0:=by
 unfold nrm;split
 .split
  .exact .inr ⟨rfl,_,_,_,rfl⟩
  .exact Sub.refl _
 .exact Sub.refl _
def PQ(id:Nat)(p:AG)(i k:Nat)(c:Cl)(r:List Ab):Option (List Ab×Mv):=match c with
 |.rf j []=>bif beq j id then none else match r.getD j .dead with
  |.arr false t d xs=>match(r.getD id .dead).setAt p i k (.c (.sl t) (d+1) xs)with
   |some r0=>some ((r.set id r0).set j .dead,[(j,[])])
   |none=>none
  |_=>none
 |.rf j (a::q)=>bif beq j id then none else match Ac r j (a::q)with
  |.arr false t d xs=>match Nz (r.getD j .dead) (a::q),(r.getD id .dead).setAt p i k (.c (.sl t) (d+1) xs)with
   |some r1,some r0=>some ((r.set j r1++[Ab.dead]).set id r0,[(j,(a::q).map (·.2)),(r.length,[])])
   |_,_=>none
  |_=>none
 |.rm j []=>bif beq j id then none else match r.getD j .dead with
  |.mp false kt e xs=>match(r.getD id .dead).setAt p i k (.c (.mp kt e) 1 xs)with
   |some r0=>some ((r.set id r0).set j .dead,[(j,[])])
   |none=>none
  |_=>none
 |y=>bif y.imm then(match(r.getD id .dead).setAt p i k (nrm (r.getD id .dead) p k y)with
  |some r0=>some (r.set id r0,[])
  |none=>none)else none
def ZQ(id:Nat)(p:AG)(i:Nat):Nat->Nat->List Cl->St->Option St
 |_,_,[],s=>some s
 |0,_,_::_,_=>none
 |m+1,k,c::cs,s=>match PQ id p i k c s.r with
  |some (r',j)=>ZQ id p i m (k+1) (cs.map (Cl.kill id ((p++[(i,k)]).map (·.2)) j)) ⟨λx=>(s.t x).kill id ((p++[(i,k)]).map (·.2)) j,r'⟩
  |none=>none
def I2(s:St):Option TI->Option Sl->Option Sl->Option St
 |some i,some (.one (.rp id p j k)),some y=>match y.cells with
  |some l=>bif beq l.length i.ty.w&&ble (k+i.ty.w) (Ac s.r id p).w&&(Ac s.r id p).live then ZQ id p j l.length k l s else none
  |none=>none
 |_,_,_=>none
def Z8{R:Type}(id:Nat)(s:St)(K:St->Option R):Option R:=match s.r.getD id .dead with
 |.arr ro t d xs=>II (some xs) λys=>K ⟨s.t,s.r.set id (.arr ro t d ys)⟩
 |_=>K s
theorem Un(id:Nat)(s:St)(K:St->Option R):Z8 id s K=K s:=by
 unfold Z8;split
 .rename_i ro t d xs h
  show K ⟨s.t,s.r.set id (.arr ro t d xs)⟩=K s;have e:s.r.set id (.arr ro t d xs)=s.r:=by
   apply List.ext_getElem?
   grind
  rw[e]
 rfl
def Uo{R:Type}(id:Nat)(s:St)(K:St->Option R):Option R:=bif ble 3 (s.r.getD id .dead).w then Z8 id s K else K s
def Ok(id:Nat)(s:St)(K:St->Option R):Uo id s K=K s:=by
 unfold Uo;rw[Un];simp
def AbO:Cl->List Nat
 |.rf id (_::_)=>[id]
 |_=>[]
def argIds:Option Sl->List Nat
 |some (.one y)=>AbO y
 |some (.agg l)=>l.flatMap AbO
 |_=>[]
def Up{R:Type}:List Nat->St->(St->Option R)->Option R
 |[],s,K=>K s
 |id::l,s,K=>Uo id s λs'=>Up l s' K
def Ol{R:Type}:∀(l:List Nat) (s:St) (K:St->Option R),Up l s K=K s
 |[],_,_=>rfl
 |id::l,s,K=>by
  unfold Up;rw[Ok];exact Ol l s K
def ZO{R:Type}(id:Nat)(p:AG)(i:Nat):Nat->Nat->List Cl->St->(St->Option R)->Option R
 |_,_,[],s,K=>K s
 |0,_,_::_,_,_=>none
 |m+1,k,c::cs,s,K=>match PQ id p i k c s.r with
  |some (r',j)=>Z8 id ⟨λx=>(s.t x).kill id ((p++[(i,k)]).map (·.2)) j,r'⟩ λs'=>ZO id p i m (k+1) (cs.map (Cl.kill id ((p++[(i,k)]).map (·.2)) j)) s' K
  |none=>none
def Q8{R:Type}{id:Nat}{p:AG}{i:Nat}{K:St->Option R}:∀(m k:Nat) (cs:List Cl) (s:St),ZO id p i m k cs s K=match ZQ id p i m k cs s with
  |some s'=>K s'
  |none=>none
 |m,_,[],s=>by cases m<;>rfl
 |0,_,_::_,_=>rfl
 |m+1,k,c::cs,s=>by
  unfold ZO ZQ;cases PQ id p i k c s.r with
  |none=>rfl
  |some x=>
   simp[Un];exact Q8 m (k+1) _ _
def PP{R:Type}(s:St)(e:Option TI)(x v:Option Sl)(K:St->Option R):Option R:=match e,x,v with
 |some i,some (.one (.rp id p j k)),some y=>bif ble 3 i.ty.w then(match y.cells with
  |some l=>bif beq l.length i.ty.w&&ble (k+i.ty.w) (Ac s.r id p).w&&(Ac s.r id p).live then ZO id p j l.length k l s K else none
  |none=>none)else(match I2 s e x v with
  |some s'=>Uo id s' K
  |none=>none)
 |_,_,_=>match I2 s e x v with
  |some s'=>K s'
  |none=>none
theorem Vs(s:St)(e:Option TI)(x v:Option Sl)(K:St->Option R):PP s e x v K=match I2 s e x v with
  |some s'=>K s'
  |none=>none:=by
 unfold PP;split
 .rename_i i id p j k y
  cases ble 3 i.ty.w with
  |false=>
   cases I2 s (some i) (some (.one (.rp id p j k))) (some y)with
   |none=>rfl
   |some s'=>exact Ok _ _ _
  |true=>
   show _=match(match y.cells with
    |some l=>bif beq l.length i.ty.w&&ble (k+i.ty.w) (Ac s.r id p).w&&(Ac s.r id p).live then ZQ id p j l.length k l s else none
    |none=>none)with
    |some s'=>K s'
    |none=>none
   generalize y.cells=yc;cases yc with
   |none=>rfl
   |some l=>
    simp;generalize (beq l.length i.ty.w&&ble (k+i.ty.w) (Ac s.r id p).w&&(Ac s.r id p).live)=b;cases b with
    |false=>rfl
    |true=>
     exact Q8 _ _ _ _
 rfl
theorem CD{r0:Ab}{x:V}(u:Sub x r0.v)(i:Nat):Sub (((r.map Ab.v).set id x).getD i .dead) (((r.set id r0).map Ab.v).getD i .dead):=by
 rw[map_set];by_cases e:id=i
 .by_cases A:id<r.length
  .grind
  .rw[List.set_eq_of_length_le (by grind),List.set_eq_of_length_le (by grind)];exact Sub.refl _
 .rw[Ad e,Ad e];exact Sub.refl _
theorem A9(h:id'≠id):Ac (r.set id x) id' q=Ac r id' q:=by
 unfold Ac
 grind
theorem Bz(h:id<r.length):Ac (r.set id x) id q=x.at' q:=by
 unfold Ac
 grind
def Xe{c:Cl}(h:PQ id p i k c r=some (r',j))(cs:List V):
  ∃(σ':List V) (G:V->V),MX id p i k (c.v r) cs (r.map Ab.v) (λcs' Z G2=>cs'=cs.map G/\Z=σ'/\G2=G)/\GOK G id ((p++[(i,k)]).map (·.2)) j/\σ'.length=r'.length/\r.length<=r'.length/\
   (∀x,Sub (σ'.getD x .dead) ((r'.map Ab.v).getD x .dead))/\(∀id' q,hit id ((p++[(i,k)]).map (·.2)) j id' q=false->(Ac r' id' q).len=(Ac r id' q).len):=by
 have E:∀(y:Cl) (r0:Ab),(r.getD id .dead).setAt p i k y=some r0->∀id' q,¬ (id'=id/\pre ((p++[(i,k)]).map (·.2)) q=true)->(Ac (r.set id r0) id' q).len=(Ac r id' q).len:=by
  intro y r0 O id' q hn;by_cases he:id'=id
  .subst he
   have J:pre ((p++[(i,k)]).map (·.2)) q=false:=by
    cases hp:pre ((p++[(i,k)]).map (·.2)) q with
    |false=>rfl
    |true=>exact absurd ⟨rfl,hp⟩ hn
   by_cases hl:id'<r.length
   .rw[Bz hl]
    exact Jb p _ _ O q J
   .rw[List.set_eq_of_length_le (by omega)]
  .rw[A9 he]
 have H:∀(j:Mv) id' q,hit id ((p++[(i,k)]).map (·.2)) j id' q=false->¬ (id'=id/\pre ((p++[(i,k)]).map (·.2)) q=true):=by
  intro j id' q hh ⟨h1,h2⟩;unfold hit at hh;rw[h1,beq_refl,h2]at hh;cases hh
 unfold PQ at h;split at h
 .rename_i B
  cases F:beq B id with
  |true=>rw[F]at h;cases h
  |false=>
   rw[F]at h;have U:B≠id:=λe=>by rw[e,beq_refl]at F;cases F
   simp only[cond_false]at h;split at h
   case h_2=>cases h
   rename_i t d xs hj;split at h
   case h_2=>cases h
   rename_i r0 O;cases h;refine⟨(((r.map Ab.v).set id (upd (p++[(i,k)]) ((r.map Ab.v).getD id .dead) ((r.map Ab.v).getD B .dead))).set B .dead),A2 id (p++[(i,k)]) B,?_,GOK.move,by simp,by simp,λx=>?_,λid' q J=>?_⟩
   .show MX id p i k (V.rs B [] 0 (Ac r B []).len) cs _ _
    unfold MX;have e:Ac r B []=.arr false t d xs:=hj
    have e2:sub [] ((r.map Ab.v).getD B .dead)=arr true t.w (tyV t d) t.dflt xs:=by
     show(r.map Ab.v).getD B .dead=_;rw[Ak,hj];rfl
    simp only[e2,e,arr];rw[if_neg (λh=>U h.1)]
    refine⟨⟨?_,?_,U⟩,?_,?_,?_⟩<;>first|rfl|trivial
   .rw[map_set]
    by_cases hx:B=x
    .subst hx
     have hl:B<r.length:=by
      rcases lt_or_ge B r.length with h|h
      .exact h
      .rw[gDE,getElem?_eq_none h]at hj;cases hj
     rw[Ae (by simpa using hl),Ae (by simpa using hl)];exact Sub.refl _
    .rw[Ad hx,Ad hx]
     refine CD ?_ x;have:=Hx p _ _ O;rw[Ak,Ak,hj];exact this
   .have h1:id'≠B:=λe=>(CP J).2 B [] (mem_singleton.2 rfl) ⟨e,rfl⟩
    rw[A9 h1];exact E _ _ O id' q (H _ _ _ J)
 .rename_i B a q1
  cases F:beq B id with
  |true=>rw[F]at h;cases h
  |false=>
   rw[F]at h;have U:B≠id:=λe=>by rw[e,beq_refl]at F;cases F
   simp only[cond_false]at h;split at h
   case h_2=>cases h
   rename_i t d xs hj;split at h
   case h_2=>cases h
   rename_i r1 r0 hcut O;cases h;obtain⟨Q,hQ⟩:∃Q,Q=a::q1:=⟨_,rfl⟩;have hl:B<r.length:=by
    rcases lt_or_ge B r.length with h|h
    .exact h
    .unfold Ac at hj
     rw[gDE,getElem?_eq_none h]at hj;have:=CT (a::q1);simp only[Option.getD_none]at hj;rw[this]at hj;cases hj
   have hid:id<r.length:=by
    rcases lt_or_ge id r.length with h|h
    .exact h
    .rw[gDE,getElem?_eq_none h]at O
     exact absurd rfl (ML O)
   obtain⟨hcv,hcl⟩:=KJ hcut;have hv1:(V.nd true true t.w xs.length (λi k=>((tyV t d (xs.getD i t.dflt)).getD k .dead)))=arr true t.w (tyV t d) t.dflt xs:=rfl
   have hnode:sub (a::q1) ((r.map Ab.v).getD B .dead)=arr true t.w (tyV t d) t.dflt xs:=by
    rw[AS (by rw[hj];simp),hj];rfl
   refine⟨(((r.map Ab.v).set B (upd (a::q1) ((r.map Ab.v).getD B .dead) .dead)++[arr true t.w (tyV t d) t.dflt xs]).set id (upd (p++[(i,k)]) ((r.map Ab.v).getD id .dead) (arr true t.w (tyV t d) t.dflt xs))).set (r.map Ab.v).length .dead,
    (λv=>A2 id (p++[(i,k)]) (r.map Ab.v).length (rrV B (a::q1) (r.map Ab.v).length v)),?_,?_,by simp,by simp,λx=>?_,λid' q J=>?_⟩
   .show MX id p i k (V.rs B (a::q1) 0 (Ac r B (a::q1)).len) cs _ _
    unfold MX;simp only[hnode,hj,arr];rw[if_neg (λh=>U h.1)]
    refine⟨⟨?_,?_,U⟩,?_,?_,?_⟩<;>first|rfl|trivial|(rw[map_map];rfl)
   .rw[length_map];exact GOK.cut
   .have e0:(((r.set B r1++[Ab.dead]).set id r0).map Ab.v)=((r.map Ab.v).set B r1.v++[V.dead]).set id r0.v:=by
     rw[map_set,List.map_append,map_set];rfl
    rw[e0];by_cases hx:x=r.length
    .subst hx
     have:((((r.map Ab.v).set B (upd (a::q1) ((r.map Ab.v).getD B .dead) .dead)++[arr true t.w (tyV t d) t.dflt xs]).set id (upd (p++[(i,k)]) ((r.map Ab.v).getD id .dead) (arr true t.w (tyV t d) t.dflt xs))).set (r.map Ab.v).length .dead).getD r.length .dead=.dead:=by
      have e:(r.map Ab.v).length=r.length:=length_map ..;rw[e];exact Ae (by simp)
     rw[this]
     have:(((r.map Ab.v).set B r1.v++[V.dead]).set id r0.v).getD r.length .dead=.dead:=by
      rw[Ad (by omega)]
      simp[gAR]
     rw[this];exact Sub.refl _
    .rw[Ad (by simpa using Ne.symm hx)]
     by_cases Y:id=x
     .subst Y
      rw[Ae (by simp;omega),Ae (by simp;omega)]
      have:=Hx p _ _ O;rw[Ak];exact this
     .rw[Ad Y,Ad Y]
      by_cases hxl:x<r.length
      .rw[AB (by simpa using hxl),AB (by simpa using hxl)]
       by_cases W:B=x
       .subst W
        rw[Ae (by simpa using hl),Ae (by simpa using hl),Ak]
        exact hcv
       .rw[Ad W,Ad W];exact Sub.refl _
      .have e1:∀(A:List V) (v:V),A.length=r.length->(A++[v]).getD x .dead=.dead:=by
        intro A v hA;rw[gDE,getElem?_eq_none (by simp;omega)];rfl
       rw[e1 _ _ (by simp),e1 _ _ (by simp)];exact Sub.refl _
   .have h1:=(CP J).2 B (a::q1) (by simp)
    have h2:=(CP J).2 r.length [] (by simp)
    have h2:id'≠r.length:=λe=>h2 ⟨e,rfl⟩
    have hpre:id'=B->pre ((a::q1).map (·.2)) q=false:=by
     intro e;have:=J;unfold hit at this;rw[Bool.or_eq_false_iff]at this;have:=(List.any_eq_false.1 this.2) (B,(a::q1).map (·.2)) (by simp)
     rw[e,beq_refl,Bool.true_and]at this;simpa using this
    have eN:∀(A:List Ab) (y:Ab),A.length=r.length->id'<r.length->Ac (A++[y]) id' q=Ac A id' q:=by
     intro A y hA hlt;unfold Ac;rw[gDE,gAL (by omega),<-gDE]
    by_cases hxl:id'<r.length
    .by_cases Y:id'=id
     .subst Y
      have h3:=E _ _ O id' q (H _ _ _ J);rw[Bz (by simpa using hxl)]at h3
      rw[Bz (by simp;omega)]
      exact h3
     .rw[A9 Y,eN _ _ (by simp) hxl]
      by_cases W:id'=B
      .subst W
       rw[Bz hl];exact hcl q (hpre rfl)
      .rw[A9 W]
    .have hd:∀A:List Ab,A.length=r.length+1->Ac A id' q=(Ab.dead).at' q:=by
      intro A hA;unfold Ac;rw[gDE,getElem?_eq_none (by omega)];rfl
     rw[hd _ (by simp)]
     unfold Ac;rw[gDE,getElem?_eq_none (by omega)];rfl
 .rename_i B
  cases F:beq B id with
  |true=>rw[F]at h;cases h
  |false=>
   rw[F]at h;have U:B≠id:=λe=>by rw[e,beq_refl]at F;cases F
   simp only[cond_false]at h;split at h
   case h_2=>cases h
   rename_i kt vt xs hj;split at h
   case h_2=>cases h
   rename_i r0 O;cases h;refine⟨(((r.map Ab.v).set id (upd (p++[(i,k)]) ((r.map Ab.v).getD id .dead) ((r.map Ab.v).getD B .dead))).set B .dead),A2 id (p++[(i,k)]) B,?_,GOK.move,by simp,by simp,λx=>?_,λid' q J=>?_⟩
   .show MX id p i k (V.rm B []) cs _ _
    unfold MX
    have e2:sub [] ((r.map Ab.v).getD B .dead)=mpV true kt vt xs:=by
     show(r.map Ab.v).getD B .dead=_;rw[Ak,hj];rfl
    simp only[e2,mpV];refine⟨U,?_,?_,?_⟩<;>first|rfl|trivial
   .rw[map_set]
    by_cases hx:B=x
    .subst hx
     have hl:B<r.length:=by
      rcases lt_or_ge B r.length with h|h
      .exact h
      .rw[gDE,getElem?_eq_none h]at hj;cases hj
     rw[Ae (by simpa using hl),Ae (by simpa using hl)];exact Sub.refl _
    .rw[Ad hx,Ad hx]
     refine CD ?_ x;have:=Hx p _ _ O;rw[Ak,Ak,hj];exact this
   .have h1:id'≠B:=λe=>(CP J).2 B [] (mem_singleton.2 rfl) ⟨e,rfl⟩
    rw[A9 h1];exact E _ _ O id' q (H _ _ _ J)
 .rename_i hy
  obtain⟨F,h⟩:=A1 h;split at h
  case h_2=>cases h
  rename_i r0 O;cases h;obtain⟨_,hv0⟩:=QA (r:=r) F
  have sub:∀x,Sub (((r.map Ab.v).set id (upd (p++[(i,k)]) ((r.map Ab.v).getD id .dead) (c.v r))).getD x .dead) (((r.set id r0).map Ab.v).getD x .dead):=λx=>by
   refine CD ?_ x;rw[hv0,Ak];exact HS nrm_v p _ _ O
  have cc:∀v,c.v r=.c v->∃(σ':List V) (G:V->V),MX id p i k (c.v r) cs (r.map Ab.v) (λcs' Z G2=>cs'=cs.map G/\Z=σ'/\G2=G)/\GOK G id ((p++[(i,k)]).map (·.2)) []/\σ'.length=(r.set id r0).length/\r.length<=(r.set id r0).length/\
    (∀x,Sub (σ'.getD x .dead) (((r.set id r0).map Ab.v).getD x .dead))/\(∀id' q,hit id ((p++[(i,k)]).map (·.2)) [] id' q=false->(Ac (r.set id r0) id' q).len=(Ac r id' q).len):=by
   intro v hv;cases hN:isN (Cs (r.map Ab.v) id p i k)with
   |true=>
    refine⟨_,AI id (p++[(i,k)]),?_,GOK.kill,?_,by simp,sub,λid' q J=>E _ _ O id' q (H _ _ _ J)⟩
    .rw[hv];unfold MX;simp only[hN];refine⟨?_,?_,?_⟩<;>first|rfl|trivial
    .simp
   |false=>
    refine⟨_,λv=>v,?_,GOK.idf,?_,by simp,sub,λid' q J=>E _ _ O id' q (H _ _ _ J)⟩
    .rw[hv];unfold MX;simp only[hN];refine⟨?_,?_,?_⟩<;>first|rfl|trivial|simp
    .simp
  have cn:∀s sz n f,c.v r=.nd s false sz n f->∃(σ':List V) (G:V->V),MX id p i k (c.v r) cs (r.map Ab.v) (λcs' Z G2=>cs'=cs.map G/\Z=σ'/\G2=G)/\GOK G id ((p++[(i,k)]).map (·.2)) []/\σ'.length=(r.set id r0).length/\r.length<=(r.set id r0).length/\
    (∀x,Sub (σ'.getD x .dead) (((r.set id r0).map Ab.v).getD x .dead))/\(∀id' q,hit id ((p++[(i,k)]).map (·.2)) [] id' q=false->(Ac (r.set id r0) id' q).len=(Ac r id' q).len):=by
   intro s sz n f hv;refine⟨_,AI id (p++[(i,k)]),?_,GOK.kill,?_,by simp,sub,λid' q J=>E _ _ O id' q (H _ _ _ J)⟩
   .rw[hv];unfold MX;exact⟨rfl,rfl,rfl⟩
   .simp
  cases c with
  |nil=>exact cc _ rfl
  |nilp=>exact cc _ rfl
  |nilf=>exact cc _ rfl
  |nilm=>exact cc _ rfl
  |c t d x=>
   cases t with
   |int k=>exact cc _ rfl
   |bool=>exact cc _ rfl
   |str=>exact cc _ rfl
   |sl t=>cases d with
    |zero=>exact cn _ _ _ _ rfl
    |succ d=>cases F
   |ptr t=>cases d with
    |zero=>exact cn _ _ _ _ rfl
    |succ d=>cases F
   |unit=>cases F
   |clo g u=>cases F
   |osl u=>cases F
   |mp a b=>cases F
   |pair a b=>cases F
  |_=>cases F
section mem
variable {P:Program}{C:Ctx}{D:Nat->Prop}
theorem Vt{N:Nat}{id:Nat}{p:AG}{i k0:Nat}{ct:List Value}{W u:Nat}:
  ∀(m:Nat) (cs:List Cl) (e:List Value) (j:Nat) (s s':St) (w:World) (ρ:Nat->Value) (F:Nat->Nat->Prop),
  CR C s.den.σ ((range N).map s.den.t++ .rp id p i k0::cs.map (Cl.v s.r)) (ct++ .pointer (some ⟨W,u+k0,none⟩)::e).toArray w D ρ F->ct.length=N->(∀x,N<=x->s.den.t x=.dead)->e.length=cs.length->k0+j+cs.length<=AY s.den.σ id p->
  ZQ id p i m (k0+j) cs s=some s'->
  ∃w',(storeCells ⟨W,u+k0,none⟩ e j).run P w=.ok () w'/\(∀x,N<=x->s'.den.t x=.dead)/\WK C s'.den.σ ((range N).map s'.den.t) ct.toArray w':=by
 intro m
 induction m with
 |zero=>
  intro cs e j s s' w ρ F hcr hl hdd U _ h;cases cs with
  |nil=>
   cases h;cases e with
   |cons=>simp at U
   |nil=>exact⟨w,rfl,hdd,D,ρ,F,hcr.left (by simpa using hl)⟩
  |cons c cs=>cases h
 |succ m ih=>
  intro cs e j s s' w ρ F hcr hl hdd U hsz h;cases cs with
  |nil=>
   cases h;cases e with
   |cons=>simp at U
   |nil=>exact⟨w,rfl,hdd,D,ρ,F,hcr.left (by simpa using hl)⟩
  |cons c cs=>
   cases e with
   |nil=>simp at U
   |cons cx e=>
    simp only[List.length_cons]at hsz;unfold ZQ at h;split at h
    case h_2=>cases h
    rename_i r' mv h1;obtain⟨σ',G,hput,hG,hσl,hrl,hsub,H⟩:=Xe h1 (cs.map (Cl.v s.r));obtain⟨G2,σ2,b,off,ρ1,F1,⟨y,hy⟩,hfz,h1c,⟨ofs,had,hoff⟩,hGm,⟨hcs,hσ2,hGG⟩,hns,hcr1⟩:=IB hcr (by simpa using hl) (by omega) hput
    subst hσ2;subst hGG;simp only[Value.pointer.injEq,Option.some.injEq,Addr.mk.injEq,and_true]at had;obtain⟨rfl,had⟩:=had;obtain rfl:u=ofs:=by omega
    -- the typed state
    obtain⟨ks,hks⟩:∃ks,ks=((p++[(i,k0+j)]).map (·.2)):=⟨_,rfl⟩
    rw[<-hks]at h hG H;obtain⟨s1,Z⟩:∃s1:St,s1=⟨λx=>(s.t x).kill id ks mv,r'⟩:=⟨_,rfl⟩
    rw[<-Z]at h;obtain⟨O,E⟩:∃O,O=cs.map (Cl.kill id ks mv):=⟨_,rfl⟩;rw[<-E]at h;have hst:s1.t=λx=>(s.t x).kill id ks mv:=by rw[Z]
    have J:s1.r=r':=by rw[Z]
    have hcr2:CR C s1.den.σ ((range N).map s1.den.t++ .rp id p i k0::O.map (Cl.v s1.r)) (ct++ .pointer (some ⟨W,u+k0,none⟩)::e).toArray (w.setCell ⟨W,off,none⟩ cx) D ρ1 F1:=by
     refine hcr1.sub (by show(s1.r.map Ab.v).length=_;rw[length_map,hσl,J]) (λx _=>by show Sub _ ((s1.r.map Ab.v).getD x .dead);rw[J];exact hsub x) (by rw[E];simp) λx hx=>?_
     by_cases Y:x<N
     .rw[AB (by simpa using Y),AB (by simpa using Y),map_map]
      have e1:((range N).map (G2∘s.den.t)).getD x .dead=G2 (s.den.t x):=by simp[Y]
      have e2:((range N).map s1.den.t).getD x .dead=((s.t x).kill id ks mv).v r':=by
       rw[AP Y];show(s1.t x).v s1.r=_;rw[hst,J]
      rw[e1,e2];exact Sl.kill_v hG H _
     .obtain⟨l,rfl⟩:∃l,x=N+l:=⟨x-N,by omega⟩
      have e1:∀(A B:List V),A.length=N->(A++B).getD (N+l) .dead=B.getD l .dead:=by
       intro A B hA;simp only[gDE];rw[gAR (by omega),hA,Nat.add_sub_cancel_left]
      rw[e1 _ _ (by simp),e1 _ _ (by simp)]
      cases l with
      |zero=>exact An.refl _
      |succ l=>
       simp only[List.getD_cons_succ];rw[E,J,map_map,map_map];exact BJ (f:=λy=>G2 (y.v s.r)) (g:=λy=>(y.kill id ks mv).v r') hG.m.dead rfl (λy=>Cl.kill_v hG H y) l
    have hdd2:∀x,N<=x->s1.den.t x=.dead:=by
     intro x hx;have h1:=Sl.kill_v hG H (s.t x);have h2:(s.t x).v s.r=.dead:=hdd x hx;rw[h2,hG.m.dead]at h1;show(s1.t x).v s1.r=_;rw[hst,J];rcases h1 with h|h
     .exact h
     .exact h
    have hnsz:k0+(j+1)+O.length<=AY s1.den.σ id p:=by
     have h0:=hns
     -- the size is that of the small machine's tree
     have h2:AY s1.den.σ id p=AY σ2 id p:=by
      have hp0:Ai σ2 ρ1 (w.setCell ⟨W,off,none⟩ cx) (.rp id p i k0) (.pointer (some ⟨W,u+k0,none⟩)):=by
       have h1:=hcr1.tm N (by simp)
       have e1:(((range N).map s.den.t).map G2++V.rp id p i k0::(cs.map (Cl.v s.r)).map G2).getD N .dead=.rp id p i k0:=by
        simp only[gDE];rw[gAR (by simp)]
        simp
       have e2:(ct++Value.pointer (some ⟨W,u+k0,none⟩)::e).toArray.getD N undef=.pointer (some ⟨W,u+k0,none⟩):=by simp[<-hl]
       rw[e1,e2]at h1;exact h1.1
      obtain⟨hid,s1',sz,n,f,b1,o1,cap,ha,_⟩:=hp0;obtain⟨f',ha'⟩:=At.sub' (hsub id) ha;have e0:s1.den.σ=r'.map Ab.v:=by show s1.r.map Ab.v=_;rw[J]
      rw[e0];unfold AY;rw[<-At.sub ha,<-At.sub ha']
     rw[h2,h0,E,length_map];omega
    have hlc':e.length=O.length:=by rw[E,length_map];simpa using U
    rw[Nat.add_assoc k0 j 1]at h;clear hks Z E;obtain⟨w2,hrun,hd2,hcr3⟩:=ih O e (j+1) s1 s' _ ρ1 F1 hcr2 hl hdd2 hlc' hnsz h;refine⟨w2,?_,hd2,hcr3⟩;have ea:(⟨W,u+k0,none⟩:Addr).add j=⟨W,off,none⟩:=by rw[A3 rfl,hoff,<-Nat.add_assoc]
    simp only[storeCells,Sem.run_bind,ea];rw[run_store P w _ cx .plain h1c,hy];simp only[hfz,Bool.false_eq_true,if_false];exact hrun
end mem
end Go.Ve

