/- The typed machine: a store, in memory. -/
import Derived.Test.YtmmmafnkggaknaaGreatTi
set_option linter.all false
namespace Go.Ve
variable{P p q:AZ}{x:Af}{r r':List Af}{l:List V}{i id id' k:Nat}{R:Type}{G:V->V}
abbrev Mv:=List (Nat×List Nat)
variable{j:Mv}
def hit(id:Nat)(ks:List Nat)(j:Mv)(id':Nat)(q:AZ):Bool:=(Nat.beq id' id&&pre ks q)||j.any λx=>Nat.beq id' x.1&&pre x.2 q
def Cl.kill(id:Nat)(ks:List Nat)(j:Mv):Cl->Cl
 |.rf id' q=>bif hit id ks j id' q then .dead else .rf id' q
 |.rs id' q off len=>bif hit id ks j id' q then .dead else .rs id' q off len
 |.rp id' q i k=>bif hit id ks j id' q then .dead else .rp id' q i k
 |y=>y
def Sl.kill(id:Nat)(ks:List Nat)(j:Mv):Sl->Sl
 |.one y=>.one (y.kill id ks j)
 |.new l=>.new l
 |.agg l=>.agg (l.map (Cl.kill id ks j))
 |.pk t l=>.pk t (l.map (Cl.kill id ks j))
 |.tup l=>.tup (l.map λp=>(p.1,p.2.map (Cl.kill id ks j)))
structure GOK(G:V->V)(id:Nat)(ks:List Nat)(j:Mv):Prop where
 m:Ba G
 rs:∀id' q off len,hit id ks j id' q=false->G (.rs id' q off len)=.rs id' q off len
 rp:∀id' q i k,hit id ks j id' q=false->G (.rp id' q i k)=.rp id' q i k
theorem Dh(h:hit id (P.map (·.2)) j id' q=false):¬ (id'=id/\A9 P q=true)/\∀e Q,(e,Q.map (·.2))∈j->¬ (id'=e/\A9 Q q=true):=by
 unfold hit at h;rw[Bool.or_eq_false_iff,Bool.and_eq_false_iff]at h;refine⟨fun⟨B,u⟩=>?_,λe Q A=>?_⟩
 .rcases h.1 with h'|h'
  .simp_all
  .rw[MX u]at h';grind
 .rintro ⟨rfl,u⟩
  have:=(List.any_eq_false.1 h.2) _ A;simp[MX u,not_true_eq_false]at this
theorem GOK.kill:GOK (AQ id P) id (P.map (·.2)) []:=
 ⟨Bg _ _,λid' q off len h=>if_neg (Dh h).1,λid' q i k h=>if_neg (Dh h).1⟩
def GOK.idf:GOK (λv=>v) id (P.map (·.2)) []:=
 ⟨⟨λ_=>rfl,rfl,λ_ _ _ _ _=>rfl,λ_ _ _=>rfl⟩,λ_ _ _ _ _=>rfl,λ_ _ _ _ _=>rfl⟩
theorem GOK.move{j:Nat}:GOK (Bm id P j) id (P.map (·.2)) [(j,[])]:=by
 have u:∀id' q,hit id (P.map (·.2)) [(j,[])] id' q=false->id'≠j:=λid' q h e=>(Dh h).2 j [] (List.mem_singleton.2 rfl) ⟨e,rfl⟩
 refine⟨C3 _ _ _,λid' q off len h=>?_,λid' q i k h=>?_⟩
 .simp[Bm,if_neg (u _ _ h),if_neg (Dh h).1]
 .simp[Bm,if_neg (u _ _ h),if_neg (Dh h).1]
def Ba.comp{H:V->V}(e:Ba G)(hH:Ba H):Ba λv=>G (H v):=
 ⟨λv=>by rw[hH.c,e.c],by rw[hH.dead,e.dead],λ_ _ _ _ _=>by rw[hH.nd,e.nd],λ_ _ _=>by rw[hH.many,e.many]⟩
theorem GOK.cut{j m:Nat}{Q:AZ}:GOK (λv=>Bm id P m (rrV j Q m v)) id (P.map (·.2)) [(j,Q.map (·.2)),(m,[])]:=by
 have u:∀id' q,hit id (P.map (·.2)) [(j,Q.map (·.2)),(m,[])] id' q=false->id'≠m/\¬ (id'=j/\A9 Q q=true):=λid' q h=>⟨λe=>(Dh h).2 m [] (by simp) ⟨e,rfl⟩,(Dh h).2 j Q (by simp)⟩
 refine⟨Ba.comp (C3 _ _ _) (Db _ _ _),λid' q off len h=>?_,λid' q i k h=>?_⟩
 .simp[rrV,if_neg (u _ _ h).2,Bm,if_neg (u _ _ h).1,if_neg (Dh h).1]
 .simp[rrV,if_neg (u _ _ h).2,Bm,if_neg (u _ _ h).1,if_neg (Dh h).1]
def Ba.tyV0{G:V->V}(e:Ba G):∀(t:Ty) (x:t.T),∀v∈tyV t 0 x,G v=v
 |.int _,_,v,h=>by simp[tyV]at h;subst h;exact e.c _
 |.bool,_,v,h=>by simp[tyV]at h;subst h;exact e.c _
 |.str,_,v,h=>by simp[tyV]at h;subst h;exact e.c _
 |.sl _,_,v,h=>by simp[tyV,List.mem_singleton]at h;subst h;exact e.nd _ _ _ _ _
 |.ptr _,_,v,h=>by simp[tyV,List.mem_singleton]at h;subst h;exact e.nd _ _ _ _ _
 |.unit,_,v,h=>by trivial
 |.pair a b,x,v,h=>by
  simp only[tyV,List.mem_append]at h;exact h.elim (e.tyV0 a x.1 v) (e.tyV0 b x.2 v)
 |.osl _,x,v,h=>by
  simp only[tyV,List.mem_singleton]at h;subst h;cases x with
  |none=>exact e.dead
  |some xs=>exact e.nd _ _ _ _ _
 |.clo g t,x,v,h=>by
  simp only[tyV,List.mem_singleton]at h;subst h;rw[e.many]
  congr 1
  funext k
  by_cases u:k<(tyV t 0 x).length
  .rw[gDE,gEE u]
   exact e.tyV0 t x _ (List.getElem_mem u)
  .rw[gDE,List.getElem?_eq_none (by omega)];exact e.dead
def Ba.clo{G:V->V}(e:Ba G){g d:Nat}{u:Ty}{x:u.T}:G (cV (.clo g u) d x)=cV (.clo g u) d x:=e.tyV0 (.clo g u) x _ (List.mem_singleton.2 rfl)
def Ba.osl{G:V->V}(e:Ba G){d:Nat}{u:Ty}{x:Option (List u.T)}:G (cV (.osl u) d x)=cV (.osl u) d x:=by
 cases x with
 |none=>exact e.dead
 |some xs=>exact e.nd _ _ _ _ _
theorem Cl.kill_v{ks:List Nat}(e:GOK G id ks j)(B:∀id' q,hit id ks j id' q=false->(Ai r' id' q).len=(Ai r id' q).len)(y:Cl):Ax (G (y.v r)) ((y.kill id ks j).v r'):=by
 cases y with
 |dead=>exact Ax.dead _
 |nil=>show Ax (G (.c _)) (.c _);rw[e.m.c];exact Ax.refl _
 |nilp=>show Ax (G (.c _)) (.c _);rw[e.m.c];exact Ax.refl _
 |nilf=>show Ax (G (.c _)) (.c _);rw[e.m.c];exact Ax.refl _
 |c t d x=>
  show Ax (G (cV t d x)) (cV t d x)
  have:G (cV t d x)=cV t d x:=by
   cases t with
   |sl t=>exact e.m.nd _ _ _ _ _
   |ptr t=>exact e.m.nd _ _ _ _ _
   |unit=>exact e.m.dead
   |pair a b=>exact e.m.dead
   |clo g u=>exact e.m.clo
   |osl u=>exact e.m.osl
   |_=>exact e.m.c _
  rw[this];exact Ax.refl _
 |rf id' q=>
  show Ax (G (.rs id' q 0 (Ai r id' q).len)) ((bif hit id ks j id' q then Cl.dead else .rf id' q).v r');cases A:hit id ks j id' q with
  |true=>exact Ax.dead _
  |false=>
   rw[e.rs _ _ _ _ A];show Ax _ (V.rs id' q 0 (Ai r' id' q).len);rw[B _ _ A];exact Ax.refl _
 |rs id' q off len=>
  show Ax (G (.rs id' q off len)) ((bif hit id ks j id' q then Cl.dead else .rs id' q off len).v r');cases A:hit id ks j id' q with
  |true=>exact Ax.dead _
  |false=>rw[e.rs _ _ _ _ A];exact Ax.refl _
 |rp id' q i k=>
  show Ax (G (.rp id' q i k)) ((bif hit id ks j id' q then Cl.dead else .rp id' q i k).v r');cases A:hit id ks j id' q with
  |true=>exact Ax.dead _
  |false=>rw[e.rp _ _ _ _ A];exact Ax.refl _
theorem G_mk(e:Ba G):G (An l)=An (l.map G):=by
 unfold An;rw[e.many,List.length_map]
 congr 1
 funext k
 rw[Bn e.dead]
theorem G_tup(e:Ba G):G (Do l)=Do (l.map G):=by
 unfold Do;rw[e.many,List.length_map]
 congr 1
 funext k
 rw[Bn e.dead]
theorem G_pk(e:Ba G){t:Tg}:G (pkL t l)=pkL t (l.map G):=by
 unfold pkL;rw[e.many,List.length_map]
 congr 1
 funext k
 rw[Bn e.dead]
theorem Sl.kill_v{r r':List Af}{G:V->V}{id:Nat}{ks:List Nat}{j:Mv}(e:GOK G id ks j)(u:∀id' q,hit id ks j id' q=false->(Ai r' id' q).len=(Ai r id' q).len)(y:Sl):Ax (G (y.v r)) ((y.kill id ks j).v r'):=by
 have agg:∀l:List Cl,Ax (G (An (l.map (Cl.v r)))) (An ((l.map (Cl.kill id ks j)).map (Cl.v r'))):=by
  intro l;rw[G_mk e.m];refine Ax.mk (by simp) λk _=>?_
  rw[List.map_map,List.map_map];exact BV e.m.dead rfl (λy=>Cl.kill_v e u y) k
 cases y with
 |one c=>exact Cl.kill_v e u c
 |new l=>show Ax (G (Bj true _)) (Bj true _);rw[show G (Bj true (l.map Cl.v0))=Bj true (l.map Cl.v0)from e.m.nd _ _ _ _ _];exact Ax.refl _
 |agg l=>exact agg l
 |pk t l=>
  show Ax (G (pkL t (l.map (Cl.v r)))) (pkL t ((l.map (Cl.kill id ks j)).map (Cl.v r')));rw[G_pk e.m];refine Ax.pk (by simp) λk _=>?_
  rw[List.map_map,List.map_map];exact BV (f:=λy=>G (y.v r)) e.m.dead rfl (λy=>Cl.kill_v e u y) k
 |tup l=>
  show Ax (G (Do _)) (Do _);rw[G_tup e.m];refine Ax.tup (by simp) λk A=>?_
  have A:k<l.length:=by simpa using A
  simp only[gDE,List.getElem?_map,gEE A,Option.map_some,Option.getD_some];generalize l[k]=p;obtain⟨b,m⟩:=p;cases b with
  |true=>exact agg m
  |false=>
   cases m with
   |nil=>exact Ax.dead _
   |cons y m=>exact Cl.kill_v e u y
def LN(r:Af)(q:AZ):Option Af:=match q with
 |[(i,k)]=>match r with
  |.obj false l=>r.setAt [] i k .dead
  |.arr false (.osl t) d xs=>bif Nat.beq k 0 then some (.arr false (.osl t) d (setX xs i none))else none
  |_=>none
 |_=>none
theorem JI{r B:Af}(h:LN r q=some B):Sub (upd q r.v .dead) B.v/\∀u,pre (q.map (·.2)) u=false->(B.at' u).len=(r.at' u).len:=by
 unfold LN at h;split at h
 case h_2=>cases h
 rename_i i k;split at h
 case h_3=>cases h
 .exact⟨Ld [] _ _ h,λu E=>Kx [] _ _ h u E⟩
 .rename_i t d xs
  obtain⟨W,h⟩:=Bb h;cases h;have W:=bqE W;subst W;constructor
  .show Sub (upd [(i,0)] (arr true (Ty.osl t).w (tyV (.osl t) d) (Ty.osl t).dflt xs) .dead) (arr true (Ty.osl t).w (tyV (.osl t) d) (Ty.osl t).dflt (xs.set i none))
   unfold arr;rw[List.length_set];refine⟨_,rfl,λi' k' Z U=>?_⟩
   have J:k'=0:=by have:k'<1:=U;omega
   subst J;by_cases A:i'=i
   .subst A
    have e:(xs.set i' none).getD i' (Ty.osl t).dflt=none:=by simp[Z]
    show Sub (if i'=i'/\0=0 then V.dead else _) ((tyV (.osl t) d ((xs.set i' none).getD i' (Ty.osl t).dflt)).getD 0 .dead)
    rw[e,if_pos ⟨rfl,rfl⟩];exact Sub.refl _
   .have e:(xs.set i none).getD i' (Ty.osl t).dflt=xs.getD i' (Ty.osl t).dflt:=by simp only[gDE,List.getElem?_set_ne (Ne.symm A)]
    show Sub (if i'=i/\0=0 then V.dead else(tyV (.osl t) d (xs.getD i' (Ty.osl t).dflt)).getD 0 .dead) ((tyV (.osl t) d ((xs.set i none).getD i' (Ty.osl t).dflt)).getD 0 .dead)
    rw[e,if_neg (λh=>A h.1)]
    exact Sub.refl _
  .intro u E
   cases u with
   |nil=>show(xs.set i none).length=xs.length;simp
   |cons a u=>
    obtain⟨i1,k1⟩:=a;cases k1 with
    |zero=>simp[pre]at E
    |succ k1=>
     rfl
def nrm:Af->AZ->Nat->Cl->Cl
 |.obj _ l,[],k,.nil=>match l.getD k .dead with
  |.c (.sl t) d _=>.c (.sl t) (bif Nat.beq d 0 then 0 else t.dep+1) []
  |_=>.nil
 |_,_,_,y=>y
def nrm_v{r:Af}{y:Cl}:Sub y.v0 (nrm r p k y).v0:=by
 unfold nrm;split
 .split
  .exact .inr ⟨rfl,_,_,_,rfl⟩
  .exact Sub.refl _
 .exact Sub.refl _
def NQ(id:Nat)(p:AZ)(i k:Nat)(c:Cl)(r:List Af):Option (List Af×Mv):=match c with
 |.rf j []=>bif Nat.beq j id then none else match r.getD j .dead with
  |.arr false t d xs=>match(r.getD id .dead).setAt p i k (.c (.sl t) (d+1) xs)with
   |some e=>some ((r.set id e).set j .dead,[(j,[])])
   |none=>none
  |_=>none
 |.rf j (a::q)=>bif Nat.beq j id then none else match Ai r j (a::q)with
  |.arr false t d xs=>match LN (r.getD j .dead) (a::q),(r.getD id .dead).setAt p i k (.c (.sl t) (d+1) xs)with
   |some r1,some e=>some ((r.set j r1++[Af.dead]).set id e,[(j,(a::q).map (·.2)),(r.length,[])])
   |_,_=>none
  |_=>none
 |y=>bif y.imm then(match(r.getD id .dead).setAt p i k (nrm (r.getD id .dead) p k y)with
  |some e=>some (r.set id e,[])
  |none=>none)else none
def W1(id:Nat)(p:AZ)(i:Nat):Nat->Nat->List Cl->St->Option St
 |_,_,[],s=>some s
 |0,_,_::_,_=>none
 |m+1,k,c::cs,s=>match NQ id p i k c s.r with
  |some (r',j)=>W1 id p i m (k+1) (cs.map (Cl.kill id ((p++[(i,k)]).map (·.2)) j)) ⟨λx=>(s.t x).kill id ((p++[(i,k)]).map (·.2)) j,r'⟩
  |none=>none
def Iq(s:St):Option TI->Option Sl->Option Sl->Option St
 |some i,some (.one (.rp id p j k)),some y=>match y.cells with
  |some l=>bif Nat.beq l.length i.ty.w&&Nat.ble (k+i.ty.w) (Ai s.r id p).w&&(Ai s.r id p).live then W1 id p j l.length k l s else none
  |none=>none
 |_,_,_=>none
def Xe{R:Type}(id:Nat)(s:St)(K:St->Option R):Option R:=match s.r.getD id .dead with
 |.arr ro t d xs=>ID (some xs) λys=>K ⟨s.t,s.r.set id (.arr ro t d ys)⟩
 |_=>K s
theorem O2(id:Nat)(s:St)(K:St->Option R):Xe id s K=K s:=by
 unfold Xe;split
 .rename_i ro t d xs h
  show K ⟨s.t,s.r.set id (.arr ro t d xs)⟩=K s;have e:s.r.set id (.arr ro t d xs)=s.r:=by
   apply List.ext_getElem?
   grind
  rw[e]
 rfl
def O3{R:Type}(id:Nat)(s:St)(K:St->Option R):Option R:=bif Nat.ble 3 (s.r.getD id .dead).w then Xe id s K else K s
def MA(id:Nat)(s:St)(K:St->Option R):O3 id s K=K s:=by
 unfold O3;rw[O2];simp
def YJ:Cl->List Nat
 |.rf id (_::_)=>[id]
 |_=>[]
def argIds:Option Sl->List Nat
 |some (.one y)=>YJ y
 |some (.agg l)=>l.flatMap YJ
 |_=>[]
def O4{R:Type}:List Nat->St->(St->Option R)->Option R
 |[],s,K=>K s
 |id::l,s,K=>O3 id s λs'=>O4 l s' K
def MB{R:Type}:∀(l:List Nat) (s:St) (K:St->Option R),O4 l s K=K s
 |[],_,_=>rfl
 |id::l,s,K=>by
  unfold O4;rw[MA];exact MB l s K
def WZ{R:Type}(id:Nat)(p:AZ)(i:Nat):Nat->Nat->List Cl->St->(St->Option R)->Option R
 |_,_,[],s,K=>K s
 |0,_,_::_,_,_=>none
 |m+1,k,c::cs,s,K=>match NQ id p i k c s.r with
  |some (r',j)=>Xe id ⟨λx=>(s.t x).kill id ((p++[(i,k)]).map (·.2)) j,r'⟩ λs'=>WZ id p i m (k+1) (cs.map (Cl.kill id ((p++[(i,k)]).map (·.2)) j)) s' K
  |none=>none
def OQ{R:Type}{id:Nat}{p:AZ}{i:Nat}{K:St->Option R}:∀(m k:Nat) (cs:List Cl) (s:St),WZ id p i m k cs s K=match W1 id p i m k cs s with
  |some s'=>K s'
  |none=>none
 |m,_,[],s=>by cases m<;>rfl
 |0,_,_::_,_=>rfl
 |m+1,k,c::cs,s=>by
  unfold WZ W1;cases NQ id p i k c s.r with
  |none=>rfl
  |some x=>
   simp[O2];exact OQ m (k+1) _ _
def NP{R:Type}(s:St)(e:Option TI)(x v:Option Sl)(K:St->Option R):Option R:=match e,x,v with
 |some i,some (.one (.rp id p j k)),some y=>bif Nat.ble 3 i.ty.w then(match y.cells with
  |some l=>bif Nat.beq l.length i.ty.w&&Nat.ble (k+i.ty.w) (Ai s.r id p).w&&(Ai s.r id p).live then WZ id p j l.length k l s K else none
  |none=>none)else(match Iq s e x v with
  |some s'=>O3 id s' K
  |none=>none)
 |_,_,_=>match Iq s e x v with
  |some s'=>K s'
  |none=>none
theorem PV(s:St)(e:Option TI)(x v:Option Sl)(K:St->Option R):NP s e x v K=match Iq s e x v with
  |some s'=>K s'
  |none=>none:=by
 unfold NP;split
 .rename_i i id p j k y
  cases Nat.ble 3 i.ty.w with
  |false=>
   cases Iq s (some i) (some (.one (.rp id p j k))) (some y)with
   |none=>rfl
   |some s'=>exact MA _ _ _
  |true=>
   show _=match(match y.cells with
    |some l=>bif Nat.beq l.length i.ty.w&&Nat.ble (k+i.ty.w) (Ai s.r id p).w&&(Ai s.r id p).live then W1 id p j l.length k l s else none
    |none=>none)with
    |some s'=>K s'
    |none=>none
   generalize y.cells=yc;cases yc with
   |none=>rfl
   |some l=>
    simp;generalize (Nat.beq l.length i.ty.w&&Nat.ble (k+i.ty.w) (Ai s.r id p).w&&(Ai s.r id p).live)=b;cases b with
    |false=>rfl
    |true=>
     exact OQ _ _ _ _
 rfl
theorem HY{e:Af}{x:V}(hs:Sub x e.v)(i:Nat):Sub (((r.map Af.v).set id x).getD i .dead) (((r.set id e).map Af.v).getD i .dead):=by
 rw[List.map_set];by_cases u:id=i
 .by_cases A:id<r.length
  .grind
  .rw[List.set_eq_of_length_le (by grind),List.set_eq_of_length_le (by grind)];exact Sub.refl _
 .rw[Ao u,Ao u];exact Sub.refl _
theorem Bs(h:id'≠id):Ai (r.set id x) id' q=Ai r id' q:=by
 unfold Ai
 grind
theorem Cb(h:id<r.length):Ai (r.set id x) id q=x.at' q:=by
 unfold Ai
 grind
def UB{c:Cl}(h:NQ id p i k c r=some (r',j))(cs:List V):
  ∃(σ':List V) (G:V->V),MV id p i k (c.v r) cs (r.map Af.v) (λcs' σ2 G2=>cs'=cs.map G/\σ2=σ'/\G2=G)/\GOK G id ((p++[(i,k)]).map (·.2)) j/\σ'.length=r'.length/\r.length<=r'.length/\
   (∀x,Sub (σ'.getD x .dead) ((r'.map Af.v).getD x .dead))/\(∀id' q,hit id ((p++[(i,k)]).map (·.2)) j id' q=false->(Ai r' id' q).len=(Ai r id' q).len):=by
 have E:∀(y:Cl) (J:Af),(r.getD id .dead).setAt p i k y=some J->∀id' q,¬ (id'=id/\pre ((p++[(i,k)]).map (·.2)) q=true)->(Ai (r.set id J) id' q).len=(Ai r id' q).len:=by
  intro y J hs id' q hn;by_cases he:id'=id
  .subst he
   have Z:pre ((p++[(i,k)]).map (·.2)) q=false:=by
    cases hp:pre ((p++[(i,k)]).map (·.2)) q with
    |false=>rfl
    |true=>exact absurd ⟨rfl,hp⟩ hn
   by_cases hl:id'<r.length
   .rw[Cb hl]
    exact Kx p _ _ hs q Z
   .rw[List.set_eq_of_length_le (by omega)]
  .rw[Bs he]
 have W:∀(j:Mv) id' q,hit id ((p++[(i,k)]).map (·.2)) j id' q=false->¬ (id'=id/\pre ((p++[(i,k)]).map (·.2)) q=true):=by
  intro j id' q hh ⟨h1,h2⟩;unfold hit at hh;rw[h1,Nat.beq_refl,h2]at hh;cases hh
 unfold NQ at h;split at h
 .rename_i B
  cases U:Nat.beq B id with
  |true=>rw[U]at h;cases h
  |false=>
   rw[U]at h;have hne:B≠id:=λe=>by rw[e,Nat.beq_refl]at U;cases U
   simp only[cond_false]at h;split at h
   case h_2=>cases h
   rename_i t d xs hj;split at h
   case h_2=>cases h
   rename_i J hs;cases h;refine⟨(((r.map Af.v).set id (upd (p++[(i,k)]) ((r.map Af.v).getD id .dead) ((r.map Af.v).getD B .dead))).set B .dead),Bm id (p++[(i,k)]) B,?_,GOK.move,by simp,by simp,λx=>?_,λid' q Z=>?_⟩
   .show MV id p i k (V.rs B [] 0 (Ai r B []).len) cs _ _
    unfold MV;have e:Ai r B []=.arr false t d xs:=hj
    have e2:sub [] ((r.map Af.v).getD B .dead)=arr true t.w (tyV t d) t.dflt xs:=by
     show(r.map Af.v).getD B .dead=_;rw[AA,hj];rfl
    simp only[e2,e,arr];rw[if_neg (λh=>hne h.1)]
    refine⟨⟨?_,?_,hne⟩,?_,?_,?_⟩<;>first|rfl|trivial
   .rw[List.map_set]
    by_cases hx:B=x
    .subst hx
     have hl:B<r.length:=by
      rcases Nat.lt_or_ge B r.length with h|h
      .exact h
      .rw[gDE,List.getElem?_eq_none h]at hj;cases hj
     rw[Aq (by simpa using hl),Aq (by simpa using hl)];exact Sub.refl _
    .rw[Ao hx,Ao hx]
     refine HY ?_ x;have:=Ld p _ _ hs;rw[AA,AA,hj];exact this
   .have h1:id'≠B:=λe=>(Dh Z).2 B [] (List.mem_singleton.2 rfl) ⟨e,rfl⟩
    rw[Bs h1];exact E _ _ hs id' q (W _ _ _ Z)
 .rename_i B a q1
  cases U:Nat.beq B id with
  |true=>rw[U]at h;cases h
  |false=>
   rw[U]at h;have hne:B≠id:=λe=>by rw[e,Nat.beq_refl]at U;cases U
   simp only[cond_false]at h;split at h
   case h_2=>cases h
   rename_i t d xs hj;split at h
   case h_2=>cases h
   rename_i r1 J hcut hs;cases h;obtain⟨Q,hQ⟩:∃Q,Q=a::q1:=⟨_,rfl⟩;have hl:B<r.length:=by
    rcases Nat.lt_or_ge B r.length with h|h
    .exact h
    .unfold Ai at hj
     rw[gDE,List.getElem?_eq_none h]at hj;have:=DI (a::q1);simp only[Option.getD_none]at hj;rw[this]at hj;cases hj
   have hid:id<r.length:=by
    rcases Nat.lt_or_ge id r.length with h|h
    .exact h
    .rw[gDE,List.getElem?_eq_none h]at hs
     exact absurd rfl (OW hs)
   obtain⟨hcv,hcl⟩:=JI hcut;have hv1:(V.nd true true t.w xs.length (λi k=>((tyV t d (xs.getD i t.dflt)).getD k .dead)))=arr true t.w (tyV t d) t.dflt xs:=rfl
   have hnode:sub (a::q1) ((r.map Af.v).getD B .dead)=arr true t.w (tyV t d) t.dflt xs:=by
    rw[A1 (by rw[hj];simp),hj];rfl
   refine⟨(((r.map Af.v).set B (upd (a::q1) ((r.map Af.v).getD B .dead) .dead)++[arr true t.w (tyV t d) t.dflt xs]).set id (upd (p++[(i,k)]) ((r.map Af.v).getD id .dead) (arr true t.w (tyV t d) t.dflt xs))).set (r.map Af.v).length .dead,
    (λv=>Bm id (p++[(i,k)]) (r.map Af.v).length (rrV B (a::q1) (r.map Af.v).length v)),?_,?_,by simp,by simp,λx=>?_,λid' q Z=>?_⟩
   .show MV id p i k (V.rs B (a::q1) 0 (Ai r B (a::q1)).len) cs _ _
    unfold MV;simp only[hnode,hj,arr];rw[if_neg (λh=>hne h.1)]
    refine⟨⟨?_,?_,hne⟩,?_,?_,?_⟩<;>first|rfl|trivial|(rw[List.map_map];rfl)
   .rw[List.length_map];exact GOK.cut
   .have e0:(((r.set B r1++[Af.dead]).set id J).map Af.v)=((r.map Af.v).set B r1.v++[V.dead]).set id J.v:=by
     rw[List.map_set,List.map_append,List.map_set];rfl
    rw[e0];by_cases hx:x=r.length
    .subst hx
     have:((((r.map Af.v).set B (upd (a::q1) ((r.map Af.v).getD B .dead) .dead)++[arr true t.w (tyV t d) t.dflt xs]).set id (upd (p++[(i,k)]) ((r.map Af.v).getD id .dead) (arr true t.w (tyV t d) t.dflt xs))).set (r.map Af.v).length .dead).getD r.length .dead=.dead:=by
      have e:(r.map Af.v).length=r.length:=List.length_map ..;rw[e];exact Aq (by simp)
     rw[this]
     have:(((r.map Af.v).set B r1.v++[V.dead]).set id J.v).getD r.length .dead=.dead:=by
      rw[Ao (by omega)]
      simp[gAR]
     rw[this];exact Sub.refl _
    .rw[Ao (by simpa using Ne.symm hx)]
     by_cases hxi:id=x
     .subst hxi
      rw[Aq (by simp;omega),Aq (by simp;omega)]
      have:=Ld p _ _ hs;rw[AA];exact this
     .rw[Ao hxi,Ao hxi]
      by_cases hxl:x<r.length
      .rw[AG (by simpa using hxl),AG (by simpa using hxl)]
       by_cases hxj:B=x
       .subst hxj
        rw[Aq (by simpa using hl),Aq (by simpa using hl),AA]
        exact hcv
       .rw[Ao hxj,Ao hxj];exact Sub.refl _
      .have e1:∀(A:List V) (v:V),A.length=r.length->(A++[v]).getD x .dead=.dead:=by
        intro A v hA;rw[gDE,List.getElem?_eq_none (by simp;omega)];rfl
       rw[e1 _ _ (by simp),e1 _ _ (by simp)];exact Sub.refl _
   .have h1:=(Dh Z).2 B (a::q1) (by simp)
    have h2:=(Dh Z).2 r.length [] (by simp)
    have h2:id'≠r.length:=λe=>h2 ⟨e,rfl⟩
    have hpre:id'=B->pre ((a::q1).map (·.2)) q=false:=by
     intro e;have:=Z;unfold hit at this;rw[Bool.or_eq_false_iff]at this;have:=(List.any_eq_false.1 this.2) (B,(a::q1).map (·.2)) (by simp)
     rw[e,Nat.beq_refl,Bool.true_and]at this;simpa using this
    have eN:∀(A:List Af) (y:Af),A.length=r.length->id'<r.length->Ai (A++[y]) id' q=Ai A id' q:=by
     intro A y hA hlt;unfold Ai;rw[gDE,gAL (by omega),<-gDE]
    by_cases hxl:id'<r.length
    .by_cases hxi:id'=id
     .subst hxi
      have h3:=E _ _ hs id' q (W _ _ _ Z);rw[Cb (by simpa using hxl)]at h3
      rw[Cb (by simp;omega)]
      exact h3
     .rw[Bs hxi,eN _ _ (by simp) hxl]
      by_cases hxj:id'=B
      .subst hxj
       rw[Cb hl];exact hcl q (hpre rfl)
      .rw[Bs hxj]
    .have hd:∀A:List Af,A.length=r.length+1->Ai A id' q=(Af.dead).at' q:=by
      intro A hA;unfold Ai;rw[gDE,List.getElem?_eq_none (by omega)];rfl
     rw[hd _ (by simp)]
     unfold Ai;rw[gDE,List.getElem?_eq_none (by omega)];rfl
 .rename_i hy
  obtain⟨U,h⟩:=Bb h;split at h
  case h_2=>cases h
  rename_i J hs;cases h;obtain⟨_,hv0⟩:=Oq (r:=r) U
  have sub:∀x,Sub (((r.map Af.v).set id (upd (p++[(i,k)]) ((r.map Af.v).getD id .dead) (c.v r))).getD x .dead) (((r.set id J).map Af.v).getD x .dead):=λx=>by
   refine HY ?_ x;rw[hv0,AA];exact Hn nrm_v p _ _ hs
  have cc:∀v,c.v r=.c v->∃(σ':List V) (G:V->V),MV id p i k (c.v r) cs (r.map Af.v) (λcs' σ2 G2=>cs'=cs.map G/\σ2=σ'/\G2=G)/\GOK G id ((p++[(i,k)]).map (·.2)) []/\σ'.length=(r.set id J).length/\r.length<=(r.set id J).length/\
    (∀x,Sub (σ'.getD x .dead) (((r.set id J).map Af.v).getD x .dead))/\(∀id' q,hit id ((p++[(i,k)]).map (·.2)) [] id' q=false->(Ai (r.set id J) id' q).len=(Ai r id' q).len):=by
   intro v hv;cases hN:isN (Cq (r.map Af.v) id p i k)with
   |true=>
    refine⟨_,AQ id (p++[(i,k)]),?_,GOK.kill,?_,by simp,sub,λid' q Z=>E _ _ hs id' q (W _ _ _ Z)⟩
    .rw[hv];unfold MV;simp only[hN];refine⟨?_,?_,?_⟩<;>first|rfl|trivial
    .simp
   |false=>
    refine⟨_,λv=>v,?_,GOK.idf,?_,by simp,sub,λid' q Z=>E _ _ hs id' q (W _ _ _ Z)⟩
    .rw[hv];unfold MV;simp only[hN];refine⟨?_,?_,?_⟩<;>first|rfl|trivial|simp
    .simp
  have cn:∀s sz n f,c.v r=.nd s false sz n f->∃(σ':List V) (G:V->V),MV id p i k (c.v r) cs (r.map Af.v) (λcs' σ2 G2=>cs'=cs.map G/\σ2=σ'/\G2=G)/\GOK G id ((p++[(i,k)]).map (·.2)) []/\σ'.length=(r.set id J).length/\r.length<=(r.set id J).length/\
    (∀x,Sub (σ'.getD x .dead) (((r.set id J).map Af.v).getD x .dead))/\(∀id' q,hit id ((p++[(i,k)]).map (·.2)) [] id' q=false->(Ai (r.set id J) id' q).len=(Ai r id' q).len):=by
   intro s sz n f hv;refine⟨_,AQ id (p++[(i,k)]),?_,GOK.kill,?_,by simp,sub,λid' q Z=>E _ _ hs id' q (W _ _ _ Z)⟩
   .rw[hv];unfold MV;exact⟨rfl,rfl,rfl⟩
   .simp
  cases c with
  |nil=>exact cc _ rfl
  |nilp=>exact cc _ rfl
  |nilf=>exact cc _ rfl
  |c t d x=>
   cases t with
   |int k=>exact cc _ rfl
   |bool=>exact cc _ rfl
   |str=>exact cc _ rfl
   |sl t=>cases d with
    |zero=>exact cn _ _ _ _ rfl
    |succ d=>cases U
   |ptr t=>cases d with
    |zero=>exact cn _ _ _ _ rfl
    |succ d=>cases U
   |unit=>cases U
   |clo g u=>cases U
   |osl u=>cases U
   |pair a b=>cases U
  |_=>cases U
section mem
variable {P:Program}{C:Ctx}{D:Nat->Prop}
theorem PW{N:Nat}{id:Nat}{p:AZ}{i k0:Nat}{ct:List Value}{b0 u:Nat}:
  ∀(m:Nat) (cs:List Cl) (e:List Value) (j:Nat) (s s':St) (w:World) (ρ:Nat->Value) (F:Nat->Nat->Prop),
  CR C s.den.σ ((List.range N).map s.den.t++ .rp id p i k0::cs.map (Cl.v s.r)) (ct++ .pointer (some ⟨b0,u+k0,none⟩)::e).toArray w D ρ F->ct.length=N->(∀x,N<=x->s.den.t x=.dead)->e.length=cs.length->k0+j+cs.length<=AT s.den.σ id p->
  W1 id p i m (k0+j) cs s=some s'->
  ∃w',(storeCells ⟨b0,u+k0,none⟩ e j).run P w=.ok () w'/\(∀x,N<=x->s'.den.t x=.dead)/\Wy C s'.den.σ ((List.range N).map s'.den.t) ct.toArray w':=by
 intro m
 induction m with
 |zero=>
  intro cs e j s s' w ρ F hcr hl hdd Z _ h;cases cs with
  |nil=>
   cases h;cases e with
   |cons=>simp at Z
   |nil=>exact⟨w,rfl,hdd,D,ρ,F,hcr.left (by simpa using hl)⟩
  |cons c cs=>cases h
 |succ m ih=>
  intro cs e j s s' w ρ F hcr hl hdd Z hsz h;cases cs with
  |nil=>
   cases h;cases e with
   |cons=>simp at Z
   |nil=>exact⟨w,rfl,hdd,D,ρ,F,hcr.left (by simpa using hl)⟩
  |cons c cs=>
   cases e with
   |nil=>simp at Z
   |cons cx e=>
    simp only[List.length_cons]at hsz;unfold W1 at h;split at h
    case h_2=>cases h
    rename_i r' mv h1;obtain⟨σ',G,hput,hG,hσl,hrl,hsub,J⟩:=UB h1 (cs.map (Cl.v s.r));obtain⟨G2,σ2,b,off,ρ1,F1,⟨y,hy⟩,hfz,h1c,⟨ofs,had,hoff⟩,hGm,⟨hcs,hσ2,hGG⟩,hns,hcr1⟩:=H2 hcr (by simpa using hl) (by omega) hput
    subst hσ2;subst hGG;simp only[Value.pointer.injEq,Option.some.injEq,Addr.mk.injEq,and_true]at had;obtain⟨rfl,had⟩:=had;obtain rfl:u=ofs:=by omega
    -- the typed state
    obtain⟨ks,hks⟩:∃ks,ks=((p++[(i,k0+j)]).map (·.2)):=⟨_,rfl⟩
    rw[<-hks]at h hG J;obtain⟨s1,hs1⟩:∃s1:St,s1=⟨λx=>(s.t x).kill id ks mv,r'⟩:=⟨_,rfl⟩
    rw[<-hs1]at h;obtain⟨W,E⟩:∃W,W=cs.map (Cl.kill id ks mv):=⟨_,rfl⟩;rw[<-E]at h;have hst:s1.t=λx=>(s.t x).kill id ks mv:=by rw[hs1]
    have U:s1.r=r':=by rw[hs1]
    have hcr2:CR C s1.den.σ ((List.range N).map s1.den.t++ .rp id p i k0::W.map (Cl.v s1.r)) (ct++ .pointer (some ⟨b0,u+k0,none⟩)::e).toArray (w.setCell ⟨b0,off,none⟩ cx) D ρ1 F1:=by
     refine hcr1.sub (by show(s1.r.map Af.v).length=_;rw[List.length_map,hσl,U]) (λx _=>by show Sub _ ((s1.r.map Af.v).getD x .dead);rw[U];exact hsub x) (by rw[E];simp) λx hx=>?_
     by_cases hxN:x<N
     .rw[AG (by simpa using hxN),AG (by simpa using hxN),List.map_map]
      have e1:((List.range N).map (G2∘s.den.t)).getD x .dead=G2 (s.den.t x):=by simp[hxN]
      have e2:((List.range N).map s1.den.t).getD x .dead=((s.t x).kill id ks mv).v r':=by
       rw[AV hxN];show(s1.t x).v s1.r=_;rw[hst,U]
      rw[e1,e2];exact Sl.kill_v hG J _
     .obtain⟨l,rfl⟩:∃l,x=N+l:=⟨x-N,by omega⟩
      have e1:∀(A B:List V),A.length=N->(A++B).getD (N+l) .dead=B.getD l .dead:=by
       intro A B hA;simp only[gDE];rw[gAR (by omega),hA,Nat.add_sub_cancel_left]
      rw[e1 _ _ (by simp),e1 _ _ (by simp)]
      cases l with
      |zero=>exact Ax.refl _
      |succ l=>
       simp only[List.getD_cons_succ];rw[E,U,List.map_map,List.map_map];exact BV (f:=λy=>G2 (y.v s.r)) (g:=λy=>(y.kill id ks mv).v r') hG.m.dead rfl (λy=>Cl.kill_v hG J y) l
    have hdd2:∀x,N<=x->s1.den.t x=.dead:=by
     intro x hx;have h1:=Sl.kill_v hG J (s.t x);have h2:(s.t x).v s.r=.dead:=hdd x hx;rw[h2,hG.m.dead]at h1;show(s1.t x).v s1.r=_;rw[hst,U];rcases h1 with h|h
     .exact h
     .exact h
    have hnsz:k0+(j+1)+W.length<=AT s1.den.σ id p:=by
     have h0:=hns
     -- the size is that of the small machine's tree
     have h2:AT s1.den.σ id p=AT σ2 id p:=by
      have hp0:Au σ2 ρ1 (w.setCell ⟨b0,off,none⟩ cx) (.rp id p i k0) (.pointer (some ⟨b0,u+k0,none⟩)):=by
       have h1:=hcr1.tm N (by simp)
       have e1:(((List.range N).map s.den.t).map G2++V.rp id p i k0::(cs.map (Cl.v s.r)).map G2).getD N .dead=.rp id p i k0:=by
        simp only[gDE];rw[gAR (by simp)]
        simp
       have e2:(ct++Value.pointer (some ⟨b0,u+k0,none⟩)::e).toArray.getD N undef=.pointer (some ⟨b0,u+k0,none⟩):=by simp[<-hl]
       rw[e1,e2]at h1;exact h1.1
      obtain⟨hid,s1',sz,n,f,b1,o1,cap,ha,_⟩:=hp0;obtain⟨f',ha'⟩:=At.sub' (hsub id) ha;have e0:s1.den.σ=r'.map Af.v:=by show s1.r.map Af.v=_;rw[U]
      rw[e0];unfold AT;rw[<-At.sub ha,<-At.sub ha']
     rw[h2,h0,E,List.length_map];omega
    have hlc':e.length=W.length:=by rw[E,List.length_map];simpa using Z
    rw[Nat.add_assoc k0 j 1]at h;clear hks hs1 E;obtain⟨w2,hrun,hd2,hcr3⟩:=ih W e (j+1) s1 s' _ ρ1 F1 hcr2 hl hdd2 hlc' hnsz h;refine⟨w2,?_,hd2,hcr3⟩;have ea:(⟨b0,u+k0,none⟩:Addr).add j=⟨b0,off,none⟩:=by rw[AX rfl,hoff,<-Nat.add_assoc]
    simp only[storeCells,Sem.run_bind,ea];rw[run_store P w _ cx .plain h1c,hy];simp only[hfz,Bool.false_eq_true,if_false];exact hrun
end mem
end Go.Ve

