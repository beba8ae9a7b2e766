/- The typed machine: a store, in memory. -/
import Derived.Test.YtojjlnbnneemaaaTi
set_option linter.all false
namespace Go.Ve
variable{P p q:AW}{x:Ac}{r r':List Ac}{l:List V}{i id id' k:Nat}{R:Type}{G:V->V}
abbrev Mv:=List (Nat×List Nat)
variable{j:Mv}
def hit(id:Nat)(ks:List Nat)(j:Mv)(id':Nat)(q:AW):Bool:=(Nat.beq id' id&&pre ks q)||j.any λx=>Nat.beq id' x.1&&pre x.2 q
def Cl.kill(id:Nat)(ks:List Nat)(j:Mv):Cl->Cl
 |.rf id' q=>bif hit id ks j id' q then .dead else .rf id' q
 |.rs id' q off len=>bif hit id ks j id' q then .dead else .rs id' q off len
 |.rp id' q i k=>bif hit id ks j id' q then .dead else .rp id' q i k
 |.rm id' q=>bif hit id ks j id' q then .dead else .rm id' q
 |y=>y
def Sl.kill(id:Nat)(ks:List Nat)(j:Mv):Sl->Sl
 |.one y=>.one (y.kill id ks j)
 |.new l=>.new l
 |.agg l=>.agg (l.map (Cl.kill id ks j))
 |.pk t l=>.pk t (l.map (Cl.kill id ks j))
 |.tup l=>.tup (l.map λp=>(p.1,p.2.map (Cl.kill id ks j)))
structure GOK(G:V->V)(id:Nat)(ks:List Nat)(j:Mv):Prop where
 m:Bg G
 rs:∀id' q off len,hit id ks j id' q=false->G (.rs id' q off len)=.rs id' q off len
 rp:∀id' q i k,hit id ks j id' q=false->G (.rp id' q i k)=.rp id' q i k
 rm:∀id' q,hit id ks j id' q=false->G (.rm id' q)=.rm id' q
theorem CY(h:hit id (P.map (·.2)) j id' q=false):¬ (id'=id/\A1 P q=true)/\∀e Q,(e,Q.map (·.2))∈j->¬ (id'=e/\A1 Q q=true):=by
 unfold hit at h;rw[Bool.or_eq_false_iff,Bool.and_eq_false_iff]at h;refine⟨fun⟨E,A⟩=>?_,λe Q B=>?_⟩
 .rcases h.1 with h'|h'
  .simp_all
  .rw[Oi A]at h';grind
 .rintro ⟨rfl,A⟩
  have:=(List.any_eq_false.1 h.2) _ B;simp[Oi A,not_true_eq_false]at this
theorem GOK.kill:GOK (AP id P) id (P.map (·.2)) []:=
 ⟨Be _ _,λid' q off len h=>if_neg (CY h).1,λid' q i k h=>if_neg (CY h).1,λid' q h=>if_neg (CY h).1⟩
def GOK.idf:GOK (λv=>v) id (P.map (·.2)) []:=
 ⟨⟨λ_=>rfl,rfl,λ_ _ _ _ _=>rfl,λ_ _=>rfl,λ_ _ _=>rfl⟩,λ_ _ _ _ _=>rfl,λ_ _ _ _ _=>rfl,λ_ _ _=>rfl⟩
theorem GOK.move{j:Nat}:GOK (Bc id P j) id (P.map (·.2)) [(j,[])]:=by
 have A:∀id' q,hit id (P.map (·.2)) [(j,[])] id' q=false->id'≠j:=λid' q h e=>(CY h).2 j [] (List.mem_singleton.2 rfl) ⟨e,rfl⟩
 refine⟨Dl _ _ _,λid' q off len h=>?_,λid' q i k h=>?_,λid' q h=>?_⟩
 .simp[Bc,if_neg (A _ _ h),if_neg (CY h).1]
 .simp[Bc,if_neg (A _ _ h),if_neg (CY h).1]
 .simp[Bc,if_neg (A _ _ h),if_neg (CY h).1]
def Bg.comp{H:V->V}(e:Bg G)(hH:Bg H):Bg λv=>G (H v):=
 ⟨λv=>by rw[hH.c,e.c],by rw[hH.dead,e.dead],λ_ _ _ _ _=>by rw[hH.nd,e.nd],λ_ _=>by rw[hH.mp,e.mp],λ_ _ _=>by rw[hH.many,e.many]⟩
theorem GOK.cut{j m:Nat}{Q:AW}:GOK (λv=>Bc id P m (rrV j Q m v)) id (P.map (·.2)) [(j,Q.map (·.2)),(m,[])]:=by
 have A:∀id' q,hit id (P.map (·.2)) [(j,Q.map (·.2)),(m,[])] id' q=false->id'≠m/\¬ (id'=j/\A1 Q q=true):=λid' q h=>⟨λe=>(CY h).2 m [] (by simp) ⟨e,rfl⟩,(CY h).2 j Q (by simp)⟩
 refine⟨Bg.comp (Dl _ _ _) (Dw _ _ _),λid' q off len h=>?_,λid' q i k h=>?_,λid' q h=>?_⟩
 .simp[rrV,if_neg (A _ _ h).2,Bc,if_neg (A _ _ h).1,if_neg (CY h).1]
 .simp[rrV,if_neg (A _ _ h).2,Bc,if_neg (A _ _ h).1,if_neg (CY h).1]
 .simp[rrV,if_neg (A _ _ h).2,Bc,if_neg (A _ _ h).1,if_neg (CY h).1]
def Bg.tyV0{G:V->V}(e:Bg G):∀(t:Ty) (x:t.T),∀v∈tyV t 0 x,G v=v
 |.int _,_,v,h=>by simp[tyV]at h;subst h;exact e.c _
 |.bool,_,v,h=>by simp[tyV]at h;subst h;exact e.c _
 |.str,_,v,h=>by simp[tyV]at h;subst h;exact e.c _
 |.sl _,_,v,h=>by simp[tyV,List.mem_singleton]at h;subst h;exact e.nd _ _ _ _ _
 |.ptr _,_,v,h=>by simp[tyV,List.mem_singleton]at h;subst h;exact e.nd _ _ _ _ _
 |.unit,_,v,h=>by trivial
 |.mp _ _,_,v,h=>by simp only[tyV,List.mem_singleton]at h;subst h;exact e.mp _ _
 |.pair a b,x,v,h=>by
  simp only[tyV,List.mem_append]at h;exact h.elim (e.tyV0 a x.1 v) (e.tyV0 b x.2 v)
 |.osl _,x,v,h=>by
  simp only[tyV,List.mem_singleton]at h;subst h;cases x with
  |none=>exact e.dead
  |some xs=>exact e.nd _ _ _ _ _
 |.clo g t,x,v,h=>by
  simp only[tyV,List.mem_singleton]at h;subst h;rw[e.many]
  congr 1
  funext k
  by_cases A:k<(tyV t 0 x).length
  .rw[gDE,gEE A]
   exact e.tyV0 t x _ (List.getElem_mem A)
  .rw[gDE,List.getElem?_eq_none (by omega)];exact e.dead
def Bg.clo{G:V->V}(e:Bg G){g d:Nat}{u:Ty}{x:u.T}:G (cV (.clo g u) d x)=cV (.clo g u) d x:=e.tyV0 (.clo g u) x _ (List.mem_singleton.2 rfl)
def Bg.osl{G:V->V}(e:Bg G){d:Nat}{u:Ty}{x:Option (List u.T)}:G (cV (.osl u) d x)=cV (.osl u) d x:=by
 cases x with
 |none=>exact e.dead
 |some xs=>exact e.nd _ _ _ _ _
theorem Cl.kill_v{ks:List Nat}(e:GOK G id ks j)(B:∀id' q,hit id ks j id' q=false->(Ae r' id' q).len=(Ae r id' q).len)(y:Cl):As (G (y.v r)) ((y.kill id ks j).v r'):=by
 cases y with
 |dead=>exact As.dead _
 |nil=>show As (G (.c _)) (.c _);rw[e.m.c];exact As.refl _
 |nilp=>show As (G (.c _)) (.c _);rw[e.m.c];exact As.refl _
 |nilf=>show As (G (.c _)) (.c _);rw[e.m.c];exact As.refl _
 |nilm=>show As (G (.c _)) (.c _);rw[e.m.c];exact As.refl _
 |c t d x=>
  show As (G (cV t d x)) (cV t d x)
  have:G (cV t d x)=cV t d x:=by
   cases t with
   |sl t=>exact e.m.nd _ _ _ _ _
   |ptr t=>exact e.m.nd _ _ _ _ _
   |unit=>exact e.m.dead
   |pair a b=>exact e.m.dead
   |clo g u=>exact e.m.clo
   |osl u=>exact e.m.osl
   |mp a b=>exact e.m.mp _ _
   |_=>exact e.m.c _
  rw[this];exact As.refl _
 |rm id' q=>
  show As (G (.rm id' q)) ((bif hit id ks j id' q then Cl.dead else .rm id' q).v r');cases A:hit id ks j id' q with
  |true=>exact As.dead _
  |false=>rw[e.rm _ _ A];exact As.refl _
 |rf id' q=>
  show As (G (.rs id' q 0 (Ae r id' q).len)) ((bif hit id ks j id' q then Cl.dead else .rf id' q).v r');cases A:hit id ks j id' q with
  |true=>exact As.dead _
  |false=>
   rw[e.rs _ _ _ _ A];show As _ (V.rs id' q 0 (Ae r' id' q).len);rw[B _ _ A];exact As.refl _
 |rs id' q off len=>
  show As (G (.rs id' q off len)) ((bif hit id ks j id' q then Cl.dead else .rs id' q off len).v r');cases A:hit id ks j id' q with
  |true=>exact As.dead _
  |false=>rw[e.rs _ _ _ _ A];exact As.refl _
 |rp id' q i k=>
  show As (G (.rp id' q i k)) ((bif hit id ks j id' q then Cl.dead else .rp id' q i k).v r');cases A:hit id ks j id' q with
  |true=>exact As.dead _
  |false=>rw[e.rp _ _ _ _ A];exact As.refl _
theorem G_mk(e:Bg G):G (Aj l)=Aj (l.map G):=by
 unfold Aj;rw[e.many,List.length_map]
 congr 1
 funext k
 rw[Br e.dead]
theorem Acn(e:Bg G):G (DH l)=DH (l.map G):=by
 unfold DH;rw[e.many,List.length_map]
 congr 1
 funext k
 rw[Br e.dead]
theorem G_pk(e:Bg G){t:Tg}:G (pkL t l)=pkL t (l.map G):=by
 unfold pkL;rw[e.many,List.length_map]
 congr 1
 funext k
 rw[Br e.dead]
theorem Sl.kill_v{r r':List Ac}{G:V->V}{id:Nat}{ks:List Nat}{j:Mv}(e:GOK G id ks j)(A:∀id' q,hit id ks j id' q=false->(Ae r' id' q).len=(Ae r id' q).len)(y:Sl):As (G (y.v r)) ((y.kill id ks j).v r'):=by
 have agg:∀l:List Cl,As (G (Aj (l.map (Cl.v r)))) (Aj ((l.map (Cl.kill id ks j)).map (Cl.v r'))):=by
  intro l;rw[G_mk e.m];refine As.mk (by simp) λk _=>?_
  rw[List.map_map,List.map_map];exact BJ e.m.dead rfl (λy=>Cl.kill_v e A y) k
 cases y with
 |one c=>exact Cl.kill_v e A c
 |new l=>show As (G (Bi true _)) (Bi true _);rw[show G (Bi true (l.map Cl.v0))=Bi true (l.map Cl.v0)from e.m.nd _ _ _ _ _];exact As.refl _
 |agg l=>exact agg l
 |pk t l=>
  show As (G (pkL t (l.map (Cl.v r)))) (pkL t ((l.map (Cl.kill id ks j)).map (Cl.v r')));rw[G_pk e.m];refine As.pk (by simp) λk _=>?_
  rw[List.map_map,List.map_map];exact BJ (f:=λy=>G (y.v r)) e.m.dead rfl (λy=>Cl.kill_v e A y) k
 |tup l=>
  show As (G (DH _)) (DH _);rw[Acn e.m];refine As.tup (by simp) λk B=>?_
  have B:k<l.length:=by simpa using B
  simp only[gDE,List.getElem?_map,gEE B,Option.map_some,Option.getD_some];generalize l[k]=p;obtain⟨b,m⟩:=p;cases b with
  |true=>exact agg m
  |false=>
   cases m with
   |nil=>exact As.dead _
   |cons y m=>exact Cl.kill_v e A y
def M4(r:Ac)(q:AW):Option Ac:=match q with
 |[(i,k)]=>match r with
  |.obj false l=>r.setAt [] i k .dead
  |.arr false (.osl t) d xs=>bif Nat.beq k 0 then some (.arr false (.osl t) d (setX xs i none))else none
  |_=>none
 |_=>none
theorem Kr{r E:Ac}(h:M4 r q=some E):Sub (upd q r.v .dead) E.v/\∀A,pre (q.map (·.2)) A=false->(E.at' A).len=(r.at' A).len:=by
 unfold M4 at h;split at h
 case h_2=>cases h
 rename_i i k;split at h
 case h_3=>cases h
 .exact⟨Iu [] _ _ h,λA F=>Ka [] _ _ h A F⟩
 .rename_i t d xs
  obtain⟨M,h⟩:=A7 h;cases h;have M:=bqE M;subst M;constructor
  .show Sub (upd [(i,0)] (arr true (Ty.osl t).w (tyV (.osl t) d) (Ty.osl t).dflt xs) .dead) (arr true (Ty.osl t).w (tyV (.osl t) d) (Ty.osl t).dflt (xs.set i none))
   unfold arr;rw[List.length_set];refine⟨_,rfl,λi' k' O L=>?_⟩
   have J:k'=0:=by have:k'<1:=L;omega
   subst J;by_cases B:i'=i
   .subst B
    have e:(xs.set i' none).getD i' (Ty.osl t).dflt=none:=by simp[O]
    show Sub (if i'=i'/\0=0 then V.dead else _) ((tyV (.osl t) d ((xs.set i' none).getD i' (Ty.osl t).dflt)).getD 0 .dead)
    rw[e,if_pos ⟨rfl,rfl⟩];exact Sub.refl _
   .have e:(xs.set i none).getD i' (Ty.osl t).dflt=xs.getD i' (Ty.osl t).dflt:=by simp only[gDE,List.getElem?_set_ne (Ne.symm B)]
    show Sub (if i'=i/\0=0 then V.dead else(tyV (.osl t) d (xs.getD i' (Ty.osl t).dflt)).getD 0 .dead) ((tyV (.osl t) d ((xs.set i none).getD i' (Ty.osl t).dflt)).getD 0 .dead)
    rw[e,if_neg (λh=>B h.1)]
    exact Sub.refl _
  .intro A F
   cases A with
   |nil=>show(xs.set i none).length=xs.length;simp
   |cons a A=>
    obtain⟨U,k1⟩:=a;cases k1 with
    |zero=>simp[pre]at F
    |succ k1=>
     rfl
def nrm:Ac->AW->Nat->Cl->Cl
 |.obj _ l,[],k,.nil=>match l.getD k .dead with
  |.c (.sl t) d _=>.c (.sl t) (bif Nat.beq d 0 then 0 else t.dep+1) []
  |_=>.nil
 |_,_,_,y=>y
def nrm_v{r:Ac}{y:Cl}:Sub y.v0 (nrm r p k y).v0:=by
 unfold nrm;split
 .split
  .exact .inr ⟨rfl,_,_,_,rfl⟩
  .exact Sub.refl _
 .exact Sub.refl _
def Pj(id:Nat)(p:AW)(i k:Nat)(c:Cl)(r:List Ac):Option (List Ac×Mv):=match c with
 |.rf j []=>bif Nat.beq j id then none else match r.getD j .dead with
  |.arr false t d xs=>match(r.getD id .dead).setAt p i k (.c (.sl t) (d+1) xs)with
   |some r0=>some ((r.set id r0).set j .dead,[(j,[])])
   |none=>none
  |_=>none
 |.rf j (a::q)=>bif Nat.beq j id then none else match Ae r j (a::q)with
  |.arr false t d xs=>match M4 (r.getD j .dead) (a::q),(r.getD id .dead).setAt p i k (.c (.sl t) (d+1) xs)with
   |some r1,some r0=>some ((r.set j r1++[Ac.dead]).set id r0,[(j,(a::q).map (·.2)),(r.length,[])])
   |_,_=>none
  |_=>none
 |.rm j []=>bif Nat.beq j id then none else match r.getD j .dead with
  |.mp false kt e xs=>match(r.getD id .dead).setAt p i k (.c (.mp kt e) 1 xs)with
   |some r0=>some ((r.set id r0).set j .dead,[(j,[])])
   |none=>none
  |_=>none
 |y=>bif y.imm then(match(r.getD id .dead).setAt p i k (nrm (r.getD id .dead) p k y)with
  |some r0=>some (r.set id r0,[])
  |none=>none)else none
def Yt(id:Nat)(p:AW)(i:Nat):Nat->Nat->List Cl->St->Option St
 |_,_,[],s=>some s
 |0,_,_::_,_=>none
 |m+1,k,c::cs,s=>match Pj id p i k c s.r with
  |some (r',j)=>Yt id p i m (k+1) (cs.map (Cl.kill id ((p++[(i,k)]).map (·.2)) j)) ⟨λx=>(s.t x).kill id ((p++[(i,k)]).map (·.2)) j,r'⟩
  |none=>none
def I3(s:St):Option TI->Option Sl->Option Sl->Option St
 |some i,some (.one (.rp id p j k)),some y=>match y.cells with
  |some l=>bif Nat.beq l.length i.ty.w&&Nat.ble (k+i.ty.w) (Ae s.r id p).w&&(Ae s.r id p).live then Yt id p j l.length k l s else none
  |none=>none
 |_,_,_=>none
def YH{R:Type}(id:Nat)(s:St)(K:St->Option R):Option R:=match s.r.getD id .dead with
 |.arr ro t d xs=>II (some xs) λys=>K ⟨s.t,s.r.set id (.arr ro t d ys)⟩
 |_=>K s
theorem Qt(id:Nat)(s:St)(K:St->Option R):YH id s K=K s:=by
 unfold YH;split
 .rename_i ro t d xs h
  show K ⟨s.t,s.r.set id (.arr ro t d xs)⟩=K s;have e:s.r.set id (.arr ro t d xs)=s.r:=by
   apply List.ext_getElem?
   grind
  rw[e]
 rfl
def Qu{R:Type}(id:Nat)(s:St)(K:St->Option R):Option R:=bif Nat.ble 3 (s.r.getD id .dead).w then YH id s K else K s
def NS(id:Nat)(s:St)(K:St->Option R):Qu id s K=K s:=by
 unfold Qu;rw[Qt];simp
def Aat:Cl->List Nat
 |.rf id (_::_)=>[id]
 |_=>[]
def argIds:Option Sl->List Nat
 |some (.one y)=>Aat y
 |some (.agg l)=>l.flatMap Aat
 |_=>[]
def Qv{R:Type}:List Nat->St->(St->Option R)->Option R
 |[],s,K=>K s
 |id::l,s,K=>Qu id s λs'=>Qv l s' K
def NT{R:Type}:∀(l:List Nat) (s:St) (K:St->Option R),Qv l s K=K s
 |[],_,_=>rfl
 |id::l,s,K=>by
  unfold Qv;rw[NS];exact NT l s K
def Yr{R:Type}(id:Nat)(p:AW)(i:Nat):Nat->Nat->List Cl->St->(St->Option R)->Option R
 |_,_,[],s,K=>K s
 |0,_,_::_,_,_=>none
 |m+1,k,c::cs,s,K=>match Pj id p i k c s.r with
  |some (r',j)=>YH id ⟨λx=>(s.t x).kill id ((p++[(i,k)]).map (·.2)) j,r'⟩ λs'=>Yr id p i m (k+1) (cs.map (Cl.kill id ((p++[(i,k)]).map (·.2)) j)) s' K
  |none=>none
def Qh{R:Type}{id:Nat}{p:AW}{i:Nat}{K:St->Option R}:∀(m k:Nat) (cs:List Cl) (s:St),Yr id p i m k cs s K=match Yt id p i m k cs s with
  |some s'=>K s'
  |none=>none
 |m,_,[],s=>by cases m<;>rfl
 |0,_,_::_,_=>rfl
 |m+1,k,c::cs,s=>by
  unfold Yr Yt;cases Pj id p i k c s.r with
  |none=>rfl
  |some x=>
   simp[Qt];exact Qh m (k+1) _ _
def Pi{R:Type}(s:St)(e:Option TI)(x v:Option Sl)(K:St->Option R):Option R:=match e,x,v with
 |some i,some (.one (.rp id p j k)),some y=>bif Nat.ble 3 i.ty.w then(match y.cells with
  |some l=>bif Nat.beq l.length i.ty.w&&Nat.ble (k+i.ty.w) (Ae s.r id p).w&&(Ae s.r id p).live then Yr id p j l.length k l s K else none
  |none=>none)else(match I3 s e x v with
  |some s'=>Qu id s' K
  |none=>none)
 |_,_,_=>match I3 s e x v with
  |some s'=>K s'
  |none=>none
theorem Uu(s:St)(e:Option TI)(x v:Option Sl)(K:St->Option R):Pi s e x v K=match I3 s e x v with
  |some s'=>K s'
  |none=>none:=by
 unfold Pi;split
 .rename_i i id p j k y
  cases Nat.ble 3 i.ty.w with
  |false=>
   cases I3 s (some i) (some (.one (.rp id p j k))) (some y)with
   |none=>rfl
   |some s'=>exact NS _ _ _
  |true=>
   show _=match(match y.cells with
    |some l=>bif Nat.beq l.length i.ty.w&&Nat.ble (k+i.ty.w) (Ae s.r id p).w&&(Ae s.r id p).live then Yt id p j l.length k l s else none
    |none=>none)with
    |some s'=>K s'
    |none=>none
   generalize y.cells=yc;cases yc with
   |none=>rfl
   |some l=>
    simp;generalize (Nat.beq l.length i.ty.w&&Nat.ble (k+i.ty.w) (Ae s.r id p).w&&(Ae s.r id p).live)=b;cases b with
    |false=>rfl
    |true=>
     exact Qh _ _ _ _
 rfl
theorem CH{r0:Ac}{x:V}(A:Sub x r0.v)(i:Nat):Sub (((r.map Ac.v).set id x).getD i .dead) (((r.set id r0).map Ac.v).getD i .dead):=by
 rw[List.map_set];by_cases e:id=i
 .by_cases B:id<r.length
  .grind
  .rw[List.set_eq_of_length_le (by grind),List.set_eq_of_length_le (by grind)];exact Sub.refl _
 .rw[Af e,Af e];exact Sub.refl _
theorem Bk(h:id'≠id):Ae (r.set id x) id' q=Ae r id' q:=by
 unfold Ae
 grind
theorem BR(h:id<r.length):Ae (r.set id x) id q=x.at' q:=by
 unfold Ae
 grind
def Wb{c:Cl}(h:Pj id p i k c r=some (r',j))(cs:List V):
  ∃(σ':List V) (G:V->V),Mx id p i k (c.v r) cs (r.map Ac.v) (λcs' Z G2=>cs'=cs.map G/\Z=σ'/\G2=G)/\GOK G id ((p++[(i,k)]).map (·.2)) j/\σ'.length=r'.length/\r.length<=r'.length/\
   (∀x,Sub (σ'.getD x .dead) ((r'.map Ac.v).getD x .dead))/\(∀id' q,hit id ((p++[(i,k)]).map (·.2)) j id' q=false->(Ae r' id' q).len=(Ae r id' q).len):=by
 have E:∀(y:Cl) (r0:Ac),(r.getD id .dead).setAt p i k y=some r0->∀id' q,¬ (id'=id/\pre ((p++[(i,k)]).map (·.2)) q=true)->(Ae (r.set id r0) id' q).len=(Ae r id' q).len:=by
  intro y r0 O id' q hn;by_cases he:id'=id
  .subst he
   have M:pre ((p++[(i,k)]).map (·.2)) q=false:=by
    cases hp:pre ((p++[(i,k)]).map (·.2)) q with
    |false=>rfl
    |true=>exact absurd ⟨rfl,hp⟩ hn
   by_cases hl:id'<r.length
   .rw[BR hl]
    exact Ka p _ _ O q M
   .rw[List.set_eq_of_length_le (by omega)]
  .rw[Bk he]
 have J:∀(j:Mv) id' q,hit id ((p++[(i,k)]).map (·.2)) j id' q=false->¬ (id'=id/\pre ((p++[(i,k)]).map (·.2)) q=true):=by
  intro j id' q hh ⟨h1,h2⟩;unfold hit at hh;rw[h1,Nat.beq_refl,h2]at hh;cases hh
 unfold Pj at h;split at h
 .rename_i B
  cases F:Nat.beq B id with
  |true=>rw[F]at h;cases h
  |false=>
   rw[F]at h;have U:B≠id:=λe=>by rw[e,Nat.beq_refl]at F;cases F
   simp only[cond_false]at h;split at h
   case h_2=>cases h
   rename_i t d xs L;split at h
   case h_2=>cases h
   rename_i r0 O;cases h;refine⟨(((r.map Ac.v).set id (upd (p++[(i,k)]) ((r.map Ac.v).getD id .dead) ((r.map Ac.v).getD B .dead))).set B .dead),Bc id (p++[(i,k)]) B,?_,GOK.move,by simp,by simp,λx=>?_,λid' q M=>?_⟩
   .show Mx id p i k (V.rs B [] 0 (Ae r B []).len) cs _ _
    unfold Mx;have e:Ae r B []=.arr false t d xs:=L
    have e2:sub [] ((r.map Ac.v).getD B .dead)=arr true t.w (tyV t d) t.dflt xs:=by
     show(r.map Ac.v).getD B .dead=_;rw[Aq,L];rfl
    simp only[e2,e,arr];rw[if_neg (λh=>U h.1)]
    refine⟨⟨?_,?_,U⟩,?_,?_,?_⟩<;>first|rfl|trivial
   .rw[List.map_set]
    by_cases hx:B=x
    .subst hx
     have hl:B<r.length:=by
      rcases Nat.lt_or_ge B r.length with h|h
      .exact h
      .rw[gDE,List.getElem?_eq_none h]at L;cases L
     rw[Ag (by simpa using hl),Ag (by simpa using hl)];exact Sub.refl _
    .rw[Af hx,Af hx]
     refine CH ?_ x;have:=Iu p _ _ O;rw[Aq,Aq,L];exact this
   .have h1:id'≠B:=λe=>(CY M).2 B [] (List.mem_singleton.2 rfl) ⟨e,rfl⟩
    rw[Bk h1];exact E _ _ O id' q (J _ _ _ M)
 .rename_i B a q1
  cases F:Nat.beq B id with
  |true=>rw[F]at h;cases h
  |false=>
   rw[F]at h;have U:B≠id:=λe=>by rw[e,Nat.beq_refl]at F;cases F
   simp only[cond_false]at h;split at h
   case h_2=>cases h
   rename_i t d xs L;split at h
   case h_2=>cases h
   rename_i r1 r0 hcut O;cases h;obtain⟨Q,hQ⟩:∃Q,Q=a::q1:=⟨_,rfl⟩;have hl:B<r.length:=by
    rcases Nat.lt_or_ge B r.length with h|h
    .exact h
    .unfold Ae at L
     rw[gDE,List.getElem?_eq_none h]at L;have:=C1 (a::q1);simp only[Option.getD_none]at L;rw[this]at L;cases L
   have hid:id<r.length:=by
    rcases Nat.lt_or_ge id r.length with h|h
    .exact h
    .rw[gDE,List.getElem?_eq_none h]at O
     exact absurd rfl (Qo O)
   obtain⟨hcv,hcl⟩:=Kr hcut;have hv1:(V.nd true true t.w xs.length (λi k=>((tyV t d (xs.getD i t.dflt)).getD k .dead)))=arr true t.w (tyV t d) t.dflt xs:=rfl
   have hnode:sub (a::q1) ((r.map Ac.v).getD B .dead)=arr true t.w (tyV t d) t.dflt xs:=by
    rw[A5 (by rw[L];simp),L];rfl
   refine⟨(((r.map Ac.v).set B (upd (a::q1) ((r.map Ac.v).getD B .dead) .dead)++[arr true t.w (tyV t d) t.dflt xs]).set id (upd (p++[(i,k)]) ((r.map Ac.v).getD id .dead) (arr true t.w (tyV t d) t.dflt xs))).set (r.map Ac.v).length .dead,
    (λv=>Bc id (p++[(i,k)]) (r.map Ac.v).length (rrV B (a::q1) (r.map Ac.v).length v)),?_,?_,by simp,by simp,λx=>?_,λid' q M=>?_⟩
   .show Mx id p i k (V.rs B (a::q1) 0 (Ae r B (a::q1)).len) cs _ _
    unfold Mx;simp only[hnode,L,arr];rw[if_neg (λh=>U h.1)]
    refine⟨⟨?_,?_,U⟩,?_,?_,?_⟩<;>first|rfl|trivial|(rw[List.map_map];rfl)
   .rw[List.length_map];exact GOK.cut
   .have e0:(((r.set B r1++[Ac.dead]).set id r0).map Ac.v)=((r.map Ac.v).set B r1.v++[V.dead]).set id r0.v:=by
     rw[List.map_set,List.map_append,List.map_set];rfl
    rw[e0];by_cases hx:x=r.length
    .subst hx
     have:((((r.map Ac.v).set B (upd (a::q1) ((r.map Ac.v).getD B .dead) .dead)++[arr true t.w (tyV t d) t.dflt xs]).set id (upd (p++[(i,k)]) ((r.map Ac.v).getD id .dead) (arr true t.w (tyV t d) t.dflt xs))).set (r.map Ac.v).length .dead).getD r.length .dead=.dead:=by
      have e:(r.map Ac.v).length=r.length:=List.length_map ..;rw[e];exact Ag (by simp)
     rw[this]
     have:(((r.map Ac.v).set B r1.v++[V.dead]).set id r0.v).getD r.length .dead=.dead:=by
      rw[Af (by omega)]
      simp[gAR]
     rw[this];exact Sub.refl _
    .rw[Af (by simpa using Ne.symm hx)]
     by_cases Y:id=x
     .subst Y
      rw[Ag (by simp;omega),Ag (by simp;omega)]
      have:=Iu p _ _ O;rw[Aq];exact this
     .rw[Af Y,Af Y]
      by_cases hxl:x<r.length
      .rw[AE (by simpa using hxl),AE (by simpa using hxl)]
       by_cases W:B=x
       .subst W
        rw[Ag (by simpa using hl),Ag (by simpa using hl),Aq]
        exact hcv
       .rw[Af W,Af W];exact Sub.refl _
      .have e1:∀(A:List V) (v:V),A.length=r.length->(A++[v]).getD x .dead=.dead:=by
        intro A v hA;rw[gDE,List.getElem?_eq_none (by simp;omega)];rfl
       rw[e1 _ _ (by simp),e1 _ _ (by simp)];exact Sub.refl _
   .have h1:=(CY M).2 B (a::q1) (by simp)
    have h2:=(CY M).2 r.length [] (by simp)
    have h2:id'≠r.length:=λe=>h2 ⟨e,rfl⟩
    have hpre:id'=B->pre ((a::q1).map (·.2)) q=false:=by
     intro e;have:=M;unfold hit at this;rw[Bool.or_eq_false_iff]at this;have:=(List.any_eq_false.1 this.2) (B,(a::q1).map (·.2)) (by simp)
     rw[e,Nat.beq_refl,Bool.true_and]at this;simpa using this
    have eN:∀(A:List Ac) (y:Ac),A.length=r.length->id'<r.length->Ae (A++[y]) id' q=Ae A id' q:=by
     intro A y hA hlt;unfold Ae;rw[gDE,gAL (by omega),<-gDE]
    by_cases hxl:id'<r.length
    .by_cases Y:id'=id
     .subst Y
      have h3:=E _ _ O id' q (J _ _ _ M);rw[BR (by simpa using hxl)]at h3
      rw[BR (by simp;omega)]
      exact h3
     .rw[Bk Y,eN _ _ (by simp) hxl]
      by_cases W:id'=B
      .subst W
       rw[BR hl];exact hcl q (hpre rfl)
      .rw[Bk W]
    .have hd:∀A:List Ac,A.length=r.length+1->Ae A id' q=(Ac.dead).at' q:=by
      intro A hA;unfold Ae;rw[gDE,List.getElem?_eq_none (by omega)];rfl
     rw[hd _ (by simp)]
     unfold Ae;rw[gDE,List.getElem?_eq_none (by omega)];rfl
 .rename_i B
  cases F:Nat.beq B id with
  |true=>rw[F]at h;cases h
  |false=>
   rw[F]at h;have U:B≠id:=λe=>by rw[e,Nat.beq_refl]at F;cases F
   simp only[cond_false]at h;split at h
   case h_2=>cases h
   rename_i kt vt xs L;split at h
   case h_2=>cases h
   rename_i r0 O;cases h;refine⟨(((r.map Ac.v).set id (upd (p++[(i,k)]) ((r.map Ac.v).getD id .dead) ((r.map Ac.v).getD B .dead))).set B .dead),Bc id (p++[(i,k)]) B,?_,GOK.move,by simp,by simp,λx=>?_,λid' q M=>?_⟩
   .show Mx id p i k (V.rm B []) cs _ _
    unfold Mx
    have e2:sub [] ((r.map Ac.v).getD B .dead)=mpV true kt vt xs:=by
     show(r.map Ac.v).getD B .dead=_;rw[Aq,L];rfl
    simp only[e2,mpV];refine⟨U,?_,?_,?_⟩<;>first|rfl|trivial
   .rw[List.map_set]
    by_cases hx:B=x
    .subst hx
     have hl:B<r.length:=by
      rcases Nat.lt_or_ge B r.length with h|h
      .exact h
      .rw[gDE,List.getElem?_eq_none h]at L;cases L
     rw[Ag (by simpa using hl),Ag (by simpa using hl)];exact Sub.refl _
    .rw[Af hx,Af hx]
     refine CH ?_ x;have:=Iu p _ _ O;rw[Aq,Aq,L];exact this
   .have h1:id'≠B:=λe=>(CY M).2 B [] (List.mem_singleton.2 rfl) ⟨e,rfl⟩
    rw[Bk h1];exact E _ _ O id' q (J _ _ _ M)
 .rename_i hy
  obtain⟨F,h⟩:=A7 h;split at h
  case h_2=>cases h
  rename_i r0 O;cases h;obtain⟨_,hv0⟩:=PW (r:=r) F
  have sub:∀x,Sub (((r.map Ac.v).set id (upd (p++[(i,k)]) ((r.map Ac.v).getD id .dead) (c.v r))).getD x .dead) (((r.set id r0).map Ac.v).getD x .dead):=λx=>by
   refine CH ?_ x;rw[hv0,Aq];exact HM nrm_v p _ _ O
  have cc:∀v,c.v r=.c v->∃(σ':List V) (G:V->V),Mx id p i k (c.v r) cs (r.map Ac.v) (λcs' Z G2=>cs'=cs.map G/\Z=σ'/\G2=G)/\GOK G id ((p++[(i,k)]).map (·.2)) []/\σ'.length=(r.set id r0).length/\r.length<=(r.set id r0).length/\
    (∀x,Sub (σ'.getD x .dead) (((r.set id r0).map Ac.v).getD x .dead))/\(∀id' q,hit id ((p++[(i,k)]).map (·.2)) [] id' q=false->(Ae (r.set id r0) id' q).len=(Ae r id' q).len):=by
   intro v hv;cases hN:isN (Cx (r.map Ac.v) id p i k)with
   |true=>
    refine⟨_,AP id (p++[(i,k)]),?_,GOK.kill,?_,by simp,sub,λid' q M=>E _ _ O id' q (J _ _ _ M)⟩
    .rw[hv];unfold Mx;simp only[hN];refine⟨?_,?_,?_⟩<;>first|rfl|trivial
    .simp
   |false=>
    refine⟨_,λv=>v,?_,GOK.idf,?_,by simp,sub,λid' q M=>E _ _ O id' q (J _ _ _ M)⟩
    .rw[hv];unfold Mx;simp only[hN];refine⟨?_,?_,?_⟩<;>first|rfl|trivial|simp
    .simp
  have cn:∀s sz n f,c.v r=.nd s false sz n f->∃(σ':List V) (G:V->V),Mx id p i k (c.v r) cs (r.map Ac.v) (λcs' Z G2=>cs'=cs.map G/\Z=σ'/\G2=G)/\GOK G id ((p++[(i,k)]).map (·.2)) []/\σ'.length=(r.set id r0).length/\r.length<=(r.set id r0).length/\
    (∀x,Sub (σ'.getD x .dead) (((r.set id r0).map Ac.v).getD x .dead))/\(∀id' q,hit id ((p++[(i,k)]).map (·.2)) [] id' q=false->(Ae (r.set id r0) id' q).len=(Ae r id' q).len):=by
   intro s sz n f hv;refine⟨_,AP id (p++[(i,k)]),?_,GOK.kill,?_,by simp,sub,λid' q M=>E _ _ O id' q (J _ _ _ M)⟩
   .rw[hv];unfold Mx;exact⟨rfl,rfl,rfl⟩
   .simp
  cases c with
  |nil=>exact cc _ rfl
  |nilp=>exact cc _ rfl
  |nilf=>exact cc _ rfl
  |nilm=>exact cc _ rfl
  |c t d x=>
   cases t with
   |int k=>exact cc _ rfl
   |bool=>exact cc _ rfl
   |str=>exact cc _ rfl
   |sl t=>cases d with
    |zero=>exact cn _ _ _ _ rfl
    |succ d=>cases F
   |ptr t=>cases d with
    |zero=>exact cn _ _ _ _ rfl
    |succ d=>cases F
   |unit=>cases F
   |clo g u=>cases F
   |osl u=>cases F
   |mp a b=>cases F
   |pair a b=>cases F
  |_=>cases F
section mem
variable {P:Program}{C:Ctx}{D:Nat->Prop}
theorem Uv{N:Nat}{id:Nat}{p:AW}{i k0:Nat}{ct:List Value}{W E:Nat}:
  ∀(m:Nat) (cs:List Cl) (e:List Value) (j:Nat) (s s':St) (w:World) (ρ:Nat->Value) (F:Nat->Nat->Prop),
  CR C s.den.σ ((List.range N).map s.den.t++ .rp id p i k0::cs.map (Cl.v s.r)) (ct++ .pointer (some ⟨W,E+k0,none⟩)::e).toArray w D ρ F->ct.length=N->(∀x,N<=x->s.den.t x=.dead)->e.length=cs.length->k0+j+cs.length<=A6 s.den.σ id p->
  Yt id p i m (k0+j) cs s=some s'->
  ∃w',(storeCells ⟨W,E+k0,none⟩ e j).run P w=.ok () w'/\(∀x,N<=x->s'.den.t x=.dead)/\X1 C s'.den.σ ((List.range N).map s'.den.t) ct.toArray w':=by
 intro m
 induction m with
 |zero=>
  intro cs e j s s' w ρ F hcr hl hdd U _ h;cases cs with
  |nil=>
   cases h;cases e with
   |cons=>simp at U
   |nil=>exact⟨w,rfl,hdd,D,ρ,F,hcr.left (by simpa using hl)⟩
  |cons c cs=>cases h
 |succ m ih=>
  intro cs e j s s' w ρ F hcr hl hdd U hsz h;cases cs with
  |nil=>
   cases h;cases e with
   |cons=>simp at U
   |nil=>exact⟨w,rfl,hdd,D,ρ,F,hcr.left (by simpa using hl)⟩
  |cons c cs=>
   cases e with
   |nil=>simp at U
   |cons cx e=>
    simp only[List.length_cons]at hsz;unfold Yt at h;split at h
    case h_2=>cases h
    rename_i r' mv h1;obtain⟨σ',G,hput,hG,hσl,hrl,hsub,L⟩:=Wb h1 (cs.map (Cl.v s.r));obtain⟨G2,σ2,b,off,ρ1,F1,⟨y,hy⟩,hfz,h1c,⟨ofs,had,hoff⟩,hGm,⟨hcs,hσ2,hGG⟩,hns,hcr1⟩:=IA hcr (by simpa using hl) (by omega) hput
    subst hσ2;subst hGG;simp only[Value.pointer.injEq,Option.some.injEq,Addr.mk.injEq,and_true]at had;obtain⟨rfl,had⟩:=had;obtain rfl:E=ofs:=by omega
    -- the typed state
    obtain⟨ks,hks⟩:∃ks,ks=((p++[(i,k0+j)]).map (·.2)):=⟨_,rfl⟩
    rw[<-hks]at h hG L;obtain⟨s1,Z⟩:∃s1:St,s1=⟨λx=>(s.t x).kill id ks mv,r'⟩:=⟨_,rfl⟩
    rw[<-Z]at h;obtain⟨O,J⟩:∃O,O=cs.map (Cl.kill id ks mv):=⟨_,rfl⟩;rw[<-J]at h;have hst:s1.t=λx=>(s.t x).kill id ks mv:=by rw[Z]
    have M:s1.r=r':=by rw[Z]
    have hcr2:CR C s1.den.σ ((List.range N).map s1.den.t++ .rp id p i k0::O.map (Cl.v s1.r)) (ct++ .pointer (some ⟨W,E+k0,none⟩)::e).toArray (w.setCell ⟨W,off,none⟩ cx) D ρ1 F1:=by
     refine hcr1.sub (by show(s1.r.map Ac.v).length=_;rw[List.length_map,hσl,M]) (λx _=>by show Sub _ ((s1.r.map Ac.v).getD x .dead);rw[M];exact hsub x) (by rw[J];simp) λx hx=>?_
     by_cases Y:x<N
     .rw[AE (by simpa using Y),AE (by simpa using Y),List.map_map]
      have e1:((List.range N).map (G2∘s.den.t)).getD x .dead=G2 (s.den.t x):=by simp[Y]
      have e2:((List.range N).map s1.den.t).getD x .dead=((s.t x).kill id ks mv).v r':=by
       rw[AX Y];show(s1.t x).v s1.r=_;rw[hst,M]
      rw[e1,e2];exact Sl.kill_v hG L _
     .obtain⟨l,rfl⟩:∃l,x=N+l:=⟨x-N,by omega⟩
      have e1:∀(A B:List V),A.length=N->(A++B).getD (N+l) .dead=B.getD l .dead:=by
       intro A B hA;simp only[gDE];rw[gAR (by omega),hA,Nat.add_sub_cancel_left]
      rw[e1 _ _ (by simp),e1 _ _ (by simp)]
      cases l with
      |zero=>exact As.refl _
      |succ l=>
       simp only[List.getD_cons_succ];rw[J,M,List.map_map,List.map_map];exact BJ (f:=λy=>G2 (y.v s.r)) (g:=λy=>(y.kill id ks mv).v r') hG.m.dead rfl (λy=>Cl.kill_v hG L y) l
    have hdd2:∀x,N<=x->s1.den.t x=.dead:=by
     intro x hx;have h1:=Sl.kill_v hG L (s.t x);have h2:(s.t x).v s.r=.dead:=hdd x hx;rw[h2,hG.m.dead]at h1;show(s1.t x).v s1.r=_;rw[hst,M];rcases h1 with h|h
     .exact h
     .exact h
    have hnsz:k0+(j+1)+O.length<=A6 s1.den.σ id p:=by
     have h0:=hns
     -- the size is that of the small machine's tree
     have h2:A6 s1.den.σ id p=A6 σ2 id p:=by
      have hp0:Am σ2 ρ1 (w.setCell ⟨W,off,none⟩ cx) (.rp id p i k0) (.pointer (some ⟨W,E+k0,none⟩)):=by
       have h1:=hcr1.tm N (by simp)
       have e1:(((List.range N).map s.den.t).map G2++V.rp id p i k0::(cs.map (Cl.v s.r)).map G2).getD N .dead=.rp id p i k0:=by
        simp only[gDE];rw[gAR (by simp)]
        simp
       have e2:(ct++Value.pointer (some ⟨W,E+k0,none⟩)::e).toArray.getD N undef=.pointer (some ⟨W,E+k0,none⟩):=by simp[<-hl]
       rw[e1,e2]at h1;exact h1.1
      obtain⟨hid,s1',sz,n,f,b1,o1,cap,ha,_⟩:=hp0;obtain⟨f',ha'⟩:=At.sub' (hsub id) ha;have e0:s1.den.σ=r'.map Ac.v:=by show s1.r.map Ac.v=_;rw[M]
      rw[e0];unfold A6;rw[<-At.sub ha,<-At.sub ha']
     rw[h2,h0,J,List.length_map];omega
    have hlc':e.length=O.length:=by rw[J,List.length_map];simpa using U
    rw[Nat.add_assoc k0 j 1]at h;clear hks Z J;obtain⟨w2,hrun,hd2,hcr3⟩:=ih O e (j+1) s1 s' _ ρ1 F1 hcr2 hl hdd2 hlc' hnsz h;refine⟨w2,?_,hd2,hcr3⟩;have ea:(⟨W,E+k0,none⟩:Addr).add j=⟨W,off,none⟩:=by rw[A9 rfl,hoff,<-Nat.add_assoc]
    simp only[storeCells,Sem.run_bind,ea];rw[run_store P w _ cx .plain h1c,hy];simp only[hfz,Bool.false_eq_true,if_false];exact hrun
end mem
end Go.Ve

