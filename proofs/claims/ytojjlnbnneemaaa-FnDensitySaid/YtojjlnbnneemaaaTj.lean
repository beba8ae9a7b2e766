/- The typed machine: a store, in memory. -/
import Derived.Test.YtojjlnbnneemaaaTi
open Nat(beq ble beq_refl lt_or_ge)
open List(mem_singleton getElem?_eq_none length_map map_map map_set range)
set_option linter.all false
namespace Go.Ve
variable{P p q:AX}{x:Ae}{r r':List Ae}{l:List V}{i id id' k:Nat}{R:Type}{G:V->V}
abbrev Mv:=List (Nat×List Nat)
variable{j:Mv}
def hit(id:Nat)(ks:List Nat)(j:Mv)(id':Nat)(q:AX):Bool:=(beq id' id&&pre ks q)||j.any λx=>beq id' x.1&&pre x.2 q
def Cl.kill(id:Nat)(ks:List Nat)(j:Mv):Cl->Cl
 |.rf id' q=>bif hit id ks j id' q then .dead else .rf id' q
 |.rs id' q off len=>bif hit id ks j id' q then .dead else .rs id' q off len
 |.rp id' q i k=>bif hit id ks j id' q then .dead else .rp id' q i k
 |.rm id' q=>bif hit id ks j id' q then .dead else .rm id' q
 |y=>y
def Sl.kill(id:Nat)(ks:List Nat)(j:Mv):Sl->Sl
 |.one y=>.one (y.kill id ks j)
 |.new l=>.new l
 |.agg l=>.agg (l.map (Cl.kill id ks j))
 |.pk t l=>.pk t (l.map (Cl.kill id ks j))
 |.tup l=>.tup (l.map λp=>(p.1,p.2.map (Cl.kill id ks j)))
structure GOK(G:V->V)(id:Nat)(ks:List Nat)(j:Mv):Prop where
 m:Bb G
 rs:∀id' q off len,hit id ks j id' q=false->G (.rs id' q off len)=.rs id' q off len
 rp:∀id' q i k,hit id ks j id' q=false->G (.rp id' q i k)=.rp id' q i k
 rm:∀id' q,hit id ks j id' q=false->G (.rm id' q)=.rm id' q
theorem CN(h:hit id (P.map (·.2)) j id' q=false):¬ (id'=id/\AT P q=true)/\∀u Q,(u,Q.map (·.2))∈j->¬ (id'=u/\AT Q q=true):=by
 unfold hit at h;rw[Bool.or_eq_false_iff,Bool.and_eq_false_iff]at h;refine⟨fun⟨E,A⟩=>?_,λu Q B=>?_⟩
 .rcases h.1 with h'|h'
  .simp_all
  .rw[NI A]at h';grind
 .rintro ⟨rfl,A⟩
  have:=(List.any_eq_false.1 h.2) _ B;simp[NI A,not_true_eq_false]at this
theorem GOK.kill:GOK (AJ id P) id (P.map (·.2)) []:=
 ⟨Ba _ _,λid' q off len h=>if_neg (CN h).1,λid' q i k h=>if_neg (CN h).1,λid' q h=>if_neg (CN h).1⟩
def GOK.idf:GOK (λv=>v) id (P.map (·.2)) []:=
 ⟨⟨λ_=>rfl,rfl,λ_ _ _ _ _=>rfl,λ_ _=>rfl,λ_ _ _=>rfl⟩,λ_ _ _ _ _=>rfl,λ_ _ _ _ _=>rfl,λ_ _ _=>rfl⟩
theorem GOK.move{j:Nat}:GOK (A9 id P j) id (P.map (·.2)) [(j,[])]:=by
 have u:∀id' q,hit id (P.map (·.2)) [(j,[])] id' q=false->id'≠j:=λid' q h e=>(CN h).2 j [] (mem_singleton.2 rfl) ⟨e,rfl⟩
 refine⟨De _ _ _,λid' q off len h=>?_,λid' q i k h=>?_,λid' q h=>?_⟩
 .simp[A9,if_neg (u _ _ h),if_neg (CN h).1]
 .simp[A9,if_neg (u _ _ h),if_neg (CN h).1]
 .simp[A9,if_neg (u _ _ h),if_neg (CN h).1]
def Bb.comp{H:V->V}(u:Bb G)(hH:Bb H):Bb λv=>G (H v):=
 ⟨λv=>by rw[hH.c,u.c],by rw[hH.dead,u.dead],λ_ _ _ _ _=>by rw[hH.nd,u.nd],λ_ _=>by rw[hH.mp,u.mp],λ_ _ _=>by rw[hH.many,u.many]⟩
theorem GOK.cut{j m:Nat}{Q:AX}:GOK (λv=>A9 id P m (rrV j Q m v)) id (P.map (·.2)) [(j,Q.map (·.2)),(m,[])]:=by
 have u:∀id' q,hit id (P.map (·.2)) [(j,Q.map (·.2)),(m,[])] id' q=false->id'≠m/\¬ (id'=j/\AT Q q=true):=λid' q h=>⟨λe=>(CN h).2 m [] (by simp) ⟨e,rfl⟩,(CN h).2 j Q (by simp)⟩
 refine⟨Bb.comp (De _ _ _) (Do _ _ _),λid' q off len h=>?_,λid' q i k h=>?_,λid' q h=>?_⟩
 .simp[rrV,if_neg (u _ _ h).2,A9,if_neg (u _ _ h).1,if_neg (CN h).1]
 .simp[rrV,if_neg (u _ _ h).2,A9,if_neg (u _ _ h).1,if_neg (CN h).1]
 .simp[rrV,if_neg (u _ _ h).2,A9,if_neg (u _ _ h).1,if_neg (CN h).1]
def Bb.tyV0{G:V->V}(u:Bb G):∀(t:Ty) (x:t.T),∀v∈tyV t 0 x,G v=v
 |.int _,_,v,h=>by simp[tyV]at h;subst h;exact u.c _
 |.bool,_,v,h=>by simp[tyV]at h;subst h;exact u.c _
 |.str,_,v,h=>by simp[tyV]at h;subst h;exact u.c _
 |.sl _,_,v,h=>by simp[tyV,mem_singleton]at h;subst h;exact u.nd _ _ _ _ _
 |.ptr _,_,v,h=>by simp[tyV,mem_singleton]at h;subst h;exact u.nd _ _ _ _ _
 |.unit,_,v,h=>by trivial
 |.mp _ _,_,v,h=>by simp only[tyV,mem_singleton]at h;subst h;exact u.mp _ _
 |.pair a b,x,v,h=>by
  simp only[tyV,List.mem_append]at h;exact h.elim (u.tyV0 a x.1 v) (u.tyV0 b x.2 v)
 |.osl _,x,v,h=>by
  simp only[tyV,mem_singleton]at h;subst h;cases x with
  |none=>exact u.dead
  |some xs=>exact u.nd _ _ _ _ _
 |.clo g t,x,v,h=>by
  simp only[tyV,mem_singleton]at h;subst h;rw[u.many]
  congr 1
  funext k
  by_cases A:k<(tyV t 0 x).length
  .rw[gDE,gEE A]
   exact u.tyV0 t x _ (List.getElem_mem A)
  .rw[gDE,getElem?_eq_none (by omega)];exact u.dead
def Bb.clo{G:V->V}(A:Bb G){g d:Nat}{u:Ty}{x:u.T}:G (cV (.clo g u) d x)=cV (.clo g u) d x:=A.tyV0 (.clo g u) x _ (mem_singleton.2 rfl)
def Bb.osl{G:V->V}(A:Bb G){d:Nat}{u:Ty}{x:Option (List u.T)}:G (cV (.osl u) d x)=cV (.osl u) d x:=by
 cases x with
 |none=>exact A.dead
 |some xs=>exact A.nd _ _ _ _ _
theorem Cl.kill_v{ks:List Nat}(A:GOK G id ks j)(E:∀id' q,hit id ks j id' q=false->(Ag r' id' q).len=(Ag r id' q).len)(y:Cl):Ay (G (y.v r)) ((y.kill id ks j).v r'):=by
 cases y with
 |dead=>exact Ay.dead _
 |nil=>show Ay (G (.c _)) (.c _);rw[A.m.c];exact Ay.refl _
 |nilp=>show Ay (G (.c _)) (.c _);rw[A.m.c];exact Ay.refl _
 |nilf=>show Ay (G (.c _)) (.c _);rw[A.m.c];exact Ay.refl _
 |nilm=>show Ay (G (.c _)) (.c _);rw[A.m.c];exact Ay.refl _
 |c t d x=>
  show Ay (G (cV t d x)) (cV t d x)
  have:G (cV t d x)=cV t d x:=by
   cases t with
   |sl t=>exact A.m.nd _ _ _ _ _
   |ptr t=>exact A.m.nd _ _ _ _ _
   |unit=>exact A.m.dead
   |pair a b=>exact A.m.dead
   |clo g u=>exact A.m.clo
   |osl u=>exact A.m.osl
   |mp a b=>exact A.m.mp _ _
   |_=>exact A.m.c _
  rw[this];exact Ay.refl _
 |rm id' q=>
  show Ay (G (.rm id' q)) ((bif hit id ks j id' q then Cl.dead else .rm id' q).v r');cases B:hit id ks j id' q with
  |true=>exact Ay.dead _
  |false=>rw[A.rm _ _ B];exact Ay.refl _
 |rf id' q=>
  show Ay (G (.rs id' q 0 (Ag r id' q).len)) ((bif hit id ks j id' q then Cl.dead else .rf id' q).v r');cases B:hit id ks j id' q with
  |true=>exact Ay.dead _
  |false=>
   rw[A.rs _ _ _ _ B];show Ay _ (V.rs id' q 0 (Ag r' id' q).len);rw[E _ _ B];exact Ay.refl _
 |rs id' q off len=>
  show Ay (G (.rs id' q off len)) ((bif hit id ks j id' q then Cl.dead else .rs id' q off len).v r');cases B:hit id ks j id' q with
  |true=>exact Ay.dead _
  |false=>rw[A.rs _ _ _ _ B];exact Ay.refl _
 |rp id' q i k=>
  show Ay (G (.rp id' q i k)) ((bif hit id ks j id' q then Cl.dead else .rp id' q i k).v r');cases B:hit id ks j id' q with
  |true=>exact Ay.dead _
  |false=>rw[A.rp _ _ _ _ B];exact Ay.refl _
theorem G_mk(u:Bb G):G (Am l)=Am (l.map G):=by
 unfold Am;rw[u.many,length_map]
 congr 1
 funext k
 rw[Br u.dead]
theorem G_tup(u:Bb G):G (DC l)=DC (l.map G):=by
 unfold DC;rw[u.many,length_map]
 congr 1
 funext k
 rw[Br u.dead]
theorem G_pk(u:Bb G){t:Tg}:G (pkL t l)=pkL t (l.map G):=by
 unfold pkL;rw[u.many,length_map]
 congr 1
 funext k
 rw[Br u.dead]
theorem Sl.kill_v{r r':List Ae}{G:V->V}{id:Nat}{ks:List Nat}{j:Mv}(u:GOK G id ks j)(A:∀id' q,hit id ks j id' q=false->(Ag r' id' q).len=(Ag r id' q).len)(y:Sl):Ay (G (y.v r)) ((y.kill id ks j).v r'):=by
 have agg:∀l:List Cl,Ay (G (Am (l.map (Cl.v r)))) (Am ((l.map (Cl.kill id ks j)).map (Cl.v r'))):=by
  intro l;rw[G_mk u.m];refine Ay.mk (by simp) λk _=>?_
  rw[map_map,map_map];exact Bz u.m.dead rfl (λy=>Cl.kill_v u A y) k
 cases y with
 |one c=>exact Cl.kill_v u A c
 |new l=>show Ay (G (Bp true _)) (Bp true _);rw[show G (Bp true (l.map Cl.v0))=Bp true (l.map Cl.v0)from u.m.nd _ _ _ _ _];exact Ay.refl _
 |agg l=>exact agg l
 |pk t l=>
  show Ay (G (pkL t (l.map (Cl.v r)))) (pkL t ((l.map (Cl.kill id ks j)).map (Cl.v r')));rw[G_pk u.m];refine Ay.pk (by simp) λk _=>?_
  rw[map_map,map_map];exact Bz (f:=λy=>G (y.v r)) u.m.dead rfl (λy=>Cl.kill_v u A y) k
 |tup l=>
  show Ay (G (DC _)) (DC _);rw[G_tup u.m];refine Ay.tup (by simp) λk B=>?_
  have B:k<l.length:=by simpa using B
  simp only[gDE,List.getElem?_map,gEE B,Option.map_some,Option.getD_some];generalize l[k]=p;obtain⟨b,m⟩:=p;cases b with
  |true=>exact agg m
  |false=>
   cases m with
   |nil=>exact Ay.dead _
   |cons y m=>exact Cl.kill_v u A y
def MB(r:Ae)(q:AX):Option Ae:=match q with
 |[(i,k)]=>match r with
  |.obj false l=>r.setAt [] i k .dead
  |.arr false (.osl t) d xs=>bif beq k 0 then some (.arr false (.osl t) d (setX xs i none))else none
  |_=>none
 |_=>none
theorem JX{r B:Ae}(h:MB r q=some B):Sub (upd q r.v .dead) B.v/\∀u,pre (q.map (·.2)) u=false->(B.at' u).len=(r.at' u).len:=by
 unfold MB at h;split at h
 case h_2=>cases h
 rename_i i k;split at h
 case h_3=>cases h
 .exact⟨H9 [] _ _ h,λu E=>JF [] _ _ h u E⟩
 .rename_i t d xs
  obtain⟨U,h⟩:=Bc h;cases h;have U:=bqE U;subst U;constructor
  .show Sub (upd [(i,0)] (arr true (Ty.osl t).w (tyV (.osl t) d) (Ty.osl t).dflt xs) .dead) (arr true (Ty.osl t).w (tyV (.osl t) d) (Ty.osl t).dflt (xs.set i none))
   unfold arr;rw[List.length_set];refine⟨_,rfl,λi' k' W O=>?_⟩
   have J:k'=0:=by have:k'<1:=O;omega
   subst J;by_cases A:i'=i
   .subst A
    have e:(xs.set i' none).getD i' (Ty.osl t).dflt=none:=by simp[W]
    show Sub (if i'=i'/\0=0 then V.dead else _) ((tyV (.osl t) d ((xs.set i' none).getD i' (Ty.osl t).dflt)).getD 0 .dead)
    rw[e,if_pos ⟨rfl,rfl⟩];exact Sub.refl _
   .have e:(xs.set i none).getD i' (Ty.osl t).dflt=xs.getD i' (Ty.osl t).dflt:=by simp only[gDE,List.getElem?_set_ne (Ne.symm A)]
    show Sub (if i'=i/\0=0 then V.dead else(tyV (.osl t) d (xs.getD i' (Ty.osl t).dflt)).getD 0 .dead) ((tyV (.osl t) d ((xs.set i none).getD i' (Ty.osl t).dflt)).getD 0 .dead)
    rw[e,if_neg (λh=>A h.1)]
    exact Sub.refl _
  .intro u E
   cases u with
   |nil=>show(xs.set i none).length=xs.length;simp
   |cons a u=>
    obtain⟨Y,k1⟩:=a;cases k1 with
    |zero=>simp[pre]at E
    |succ k1=>
     rfl
def nrm:Ae->AX->Nat->Cl->Cl
 |.obj _ l,[],k,.nil=>match l.getD k .dead with
  |.c (.sl t) d _=>.c (.sl t) (bif beq d 0 then 0 else t.dep+1) []
  |_=>.nil
 |_,_,_,y=>y
def nrm_v{r:Ae}{y:Cl}:Sub y.v0 (nrm r p k y).v0:=by
 unfold nrm;split
 .split
  .exact .inr ⟨rfl,_,_,_,rfl⟩
  .exact Sub.refl _
 .exact Sub.refl _
def OI(id:Nat)(p:AX)(i k:Nat)(c:Cl)(r:List Ae):Option (List Ae×Mv):=match c with
 |.rf j []=>bif beq j id then none else match r.getD j .dead with
  |.arr false t d xs=>match(r.getD id .dead).setAt p i k (.c (.sl t) (d+1) xs)with
   |some r0=>some ((r.set id r0).set j .dead,[(j,[])])
   |none=>none
  |_=>none
 |.rf j (a::q)=>bif beq j id then none else match Ag r j (a::q)with
  |.arr false t d xs=>match MB (r.getD j .dead) (a::q),(r.getD id .dead).setAt p i k (.c (.sl t) (d+1) xs)with
   |some r1,some r0=>some ((r.set j r1++[Ae.dead]).set id r0,[(j,(a::q).map (·.2)),(r.length,[])])
   |_,_=>none
  |_=>none
 |.rm j []=>bif beq j id then none else match r.getD j .dead with
  |.mp false kt u xs=>match(r.getD id .dead).setAt p i k (.c (.mp kt u) 1 xs)with
   |some r0=>some ((r.set id r0).set j .dead,[(j,[])])
   |none=>none
  |_=>none
 |y=>bif y.imm then(match(r.getD id .dead).setAt p i k (nrm (r.getD id .dead) p k y)with
  |some r0=>some (r.set id r0,[])
  |none=>none)else none
def Yp(id:Nat)(p:AX)(i:Nat):Nat->Nat->List Cl->St->Option St
 |_,_,[],s=>some s
 |0,_,_::_,_=>none
 |m+1,k,c::cs,s=>match OI id p i k c s.r with
  |some (r',j)=>Yp id p i m (k+1) (cs.map (Cl.kill id ((p++[(i,k)]).map (·.2)) j)) ⟨λx=>(s.t x).kill id ((p++[(i,k)]).map (·.2)) j,r'⟩
  |none=>none
def IA(s:St):Option TI->Option Sl->Option Sl->Option St
 |some i,some (.one (.rp id p j k)),some y=>match y.cells with
  |some l=>bif beq l.length i.ty.w&&ble (k+i.ty.w) (Ag s.r id p).w&&(Ag s.r id p).live then Yp id p j l.length k l s else none
  |none=>none
 |_,_,_=>none
def YF{R:Type}(id:Nat)(s:St)(K:St->Option R):Option R:=match s.r.getD id .dead with
 |.arr ro t d xs=>IR (some xs) λys=>K ⟨s.t,s.r.set id (.arr ro t d ys)⟩
 |_=>K s
theorem P7(id:Nat)(s:St)(K:St->Option R):YF id s K=K s:=by
 unfold YF;split
 .rename_i ro t d xs h
  show K ⟨s.t,s.r.set id (.arr ro t d xs)⟩=K s;have e:s.r.set id (.arr ro t d xs)=s.r:=by
   apply List.ext_getElem?
   grind
  rw[e]
 rfl
def P8{R:Type}(id:Nat)(s:St)(K:St->Option R):Option R:=bif ble 3 (s.r.getD id .dead).w then YF id s K else K s
def Nn(id:Nat)(s:St)(K:St->Option R):P8 id s K=K s:=by
 unfold P8;rw[P7];simp
def Aaq:Cl->List Nat
 |.rf id (_::_)=>[id]
 |_=>[]
def argIds:Option Sl->List Nat
 |some (.one y)=>Aaq y
 |some (.agg l)=>l.flatMap Aaq
 |_=>[]
def P9{R:Type}:List Nat->St->(St->Option R)->Option R
 |[],s,K=>K s
 |id::l,s,K=>P8 id s λs'=>P9 l s' K
def Np{R:Type}:∀(l:List Nat) (s:St) (K:St->Option R),P9 l s K=K s
 |[],_,_=>rfl
 |id::l,s,K=>by
  unfold P9;rw[Nn];exact Np l s K
def Yn{R:Type}(id:Nat)(p:AX)(i:Nat):Nat->Nat->List Cl->St->(St->Option R)->Option R
 |_,_,[],s,K=>K s
 |0,_,_::_,_,_=>none
 |m+1,k,c::cs,s,K=>match OI id p i k c s.r with
  |some (r',j)=>YF id ⟨λx=>(s.t x).kill id ((p++[(i,k)]).map (·.2)) j,r'⟩ λs'=>Yn id p i m (k+1) (cs.map (Cl.kill id ((p++[(i,k)]).map (·.2)) j)) s' K
  |none=>none
def PO{R:Type}{id:Nat}{p:AX}{i:Nat}{K:St->Option R}:∀(m k:Nat) (cs:List Cl) (s:St),Yn id p i m k cs s K=match Yp id p i m k cs s with
  |some s'=>K s'
  |none=>none
 |m,_,[],s=>by cases m<;>rfl
 |0,_,_::_,_=>rfl
 |m+1,k,c::cs,s=>by
  unfold Yn Yp;cases OI id p i k c s.r with
  |none=>rfl
  |some x=>
   simp[P7];exact PO m (k+1) _ _
def OH{R:Type}(s:St)(u:Option TI)(x v:Option Sl)(K:St->Option R):Option R:=match u,x,v with
 |some i,some (.one (.rp id p j k)),some y=>bif ble 3 i.ty.w then(match y.cells with
  |some l=>bif beq l.length i.ty.w&&ble (k+i.ty.w) (Ag s.r id p).w&&(Ag s.r id p).live then Yn id p j l.length k l s K else none
  |none=>none)else(match IA s u x v with
  |some s'=>P8 id s' K
  |none=>none)
 |_,_,_=>match IA s u x v with
  |some s'=>K s'
  |none=>none
theorem Q3(s:St)(u:Option TI)(x v:Option Sl)(K:St->Option R):OH s u x v K=match IA s u x v with
  |some s'=>K s'
  |none=>none:=by
 unfold OH;split
 .rename_i i id p j k y
  cases ble 3 i.ty.w with
  |false=>
   cases IA s (some i) (some (.one (.rp id p j k))) (some y)with
   |none=>rfl
   |some s'=>exact Nn _ _ _
  |true=>
   show _=match(match y.cells with
    |some l=>bif beq l.length i.ty.w&&ble (k+i.ty.w) (Ag s.r id p).w&&(Ag s.r id p).live then Yp id p j l.length k l s else none
    |none=>none)with
    |some s'=>K s'
    |none=>none
   generalize y.cells=yc;cases yc with
   |none=>rfl
   |some l=>
    simp;generalize (beq l.length i.ty.w&&ble (k+i.ty.w) (Ag s.r id p).w&&(Ag s.r id p).live)=b;cases b with
    |false=>rfl
    |true=>
     exact PO _ _ _ _
 rfl
theorem CD{r0:Ae}{x:V}(A:Sub x r0.v)(i:Nat):Sub (((r.map Ae.v).set id x).getD i .dead) (((r.set id r0).map Ae.v).getD i .dead):=by
 rw[map_set];by_cases u:id=i
 .by_cases B:id<r.length
  .grind
  .rw[List.set_eq_of_length_le (by grind),List.set_eq_of_length_le (by grind)];exact Sub.refl _
 .rw[Ai u,Ai u];exact Sub.refl _
theorem Bn(h:id'≠id):Ag (r.set id x) id' q=Ag r id' q:=by
 unfold Ag
 grind
theorem BR(h:id<r.length):Ag (r.set id x) id q=x.at' q:=by
 unfold Ag
 grind
def VL{c:Cl}(h:OI id p i k c r=some (r',j))(cs:List V):
  ∃(σ':List V) (G:V->V),LY id p i k (c.v r) cs (r.map Ae.v) (λcs' σ2 G2=>cs'=cs.map G/\σ2=σ'/\G2=G)/\GOK G id ((p++[(i,k)]).map (·.2)) j/\σ'.length=r'.length/\r.length<=r'.length/\
   (∀x,Sub (σ'.getD x .dead) ((r'.map Ae.v).getD x .dead))/\(∀id' q,hit id ((p++[(i,k)]).map (·.2)) j id' q=false->(Ag r' id' q).len=(Ag r id' q).len):=by
 have E:∀(y:Cl) (r0:Ae),(r.getD id .dead).setAt p i k y=some r0->∀id' q,¬ (id'=id/\pre ((p++[(i,k)]).map (·.2)) q=true)->(Ag (r.set id r0) id' q).len=(Ag r id' q).len:=by
  intro y r0 Y id' q hn;by_cases he:id'=id
  .subst he
   have W:pre ((p++[(i,k)]).map (·.2)) q=false:=by
    cases hp:pre ((p++[(i,k)]).map (·.2)) q with
    |false=>rfl
    |true=>exact absurd ⟨rfl,hp⟩ hn
   by_cases hl:id'<r.length
   .rw[BR hl]
    exact JF p _ _ Y q W
   .rw[List.set_eq_of_length_le (by omega)]
  .rw[Bn he]
 have O:∀(j:Mv) id' q,hit id ((p++[(i,k)]).map (·.2)) j id' q=false->¬ (id'=id/\pre ((p++[(i,k)]).map (·.2)) q=true):=by
  intro j id' q hh ⟨h1,h2⟩;unfold hit at hh;rw[h1,beq_refl,h2]at hh;cases hh
 unfold OI at h;split at h
 .rename_i B
  cases J:beq B id with
  |true=>rw[J]at h;cases h
  |false=>
   rw[J]at h;have Z:B≠id:=λe=>by rw[e,beq_refl]at J;cases J
   simp only[cond_false]at h;split at h
   case h_2=>cases h
   rename_i t d xs U;split at h
   case h_2=>cases h
   rename_i r0 Y;cases h;refine⟨(((r.map Ae.v).set id (upd (p++[(i,k)]) ((r.map Ae.v).getD id .dead) ((r.map Ae.v).getD B .dead))).set B .dead),A9 id (p++[(i,k)]) B,?_,GOK.move,by simp,by simp,λx=>?_,λid' q W=>?_⟩
   .show LY id p i k (V.rs B [] 0 (Ag r B []).len) cs _ _
    unfold LY;have e:Ag r B []=.arr false t d xs:=U
    have e2:sub [] ((r.map Ae.v).getD B .dead)=arr true t.w (tyV t d) t.dflt xs:=by
     show(r.map Ae.v).getD B .dead=_;rw[Ax,U];rfl
    simp only[e2,e,arr];rw[if_neg (λh=>Z h.1)]
    refine⟨⟨?_,?_,Z⟩,?_,?_,?_⟩<;>first|rfl|trivial
   .rw[map_set]
    by_cases hx:B=x
    .subst hx
     have hl:B<r.length:=by
      rcases lt_or_ge B r.length with h|h
      .exact h
      .rw[gDE,getElem?_eq_none h]at U;cases U
     rw[Aj (by simpa using hl),Aj (by simpa using hl)];exact Sub.refl _
    .rw[Ai hx,Ai hx]
     refine CD ?_ x;have:=H9 p _ _ Y;rw[Ax,Ax,U];exact this
   .have h1:id'≠B:=λe=>(CN W).2 B [] (mem_singleton.2 rfl) ⟨e,rfl⟩
    rw[Bn h1];exact E _ _ Y id' q (O _ _ _ W)
 .rename_i B a q1
  cases J:beq B id with
  |true=>rw[J]at h;cases h
  |false=>
   rw[J]at h;have Z:B≠id:=λe=>by rw[e,beq_refl]at J;cases J
   simp only[cond_false]at h;split at h
   case h_2=>cases h
   rename_i t d xs U;split at h
   case h_2=>cases h
   rename_i r1 r0 hcut Y;cases h;obtain⟨Q,hQ⟩:∃Q,Q=a::q1:=⟨_,rfl⟩;have hl:B<r.length:=by
    rcases lt_or_ge B r.length with h|h
    .exact h
    .unfold Ag at U
     rw[gDE,getElem?_eq_none h]at U;have:=CQ (a::q1);simp only[Option.getD_none]at U;rw[this]at U;cases U
   have hid:id<r.length:=by
    rcases lt_or_ge id r.length with h|h
    .exact h
    .rw[gDE,getElem?_eq_none h]at Y
     exact absurd rfl (PZ Y)
   obtain⟨hcv,hcl⟩:=JX hcut;have hv1:(V.nd true true t.w xs.length (λi k=>((tyV t d (xs.getD i t.dflt)).getD k .dead)))=arr true t.w (tyV t d) t.dflt xs:=rfl
   have hnode:sub (a::q1) ((r.map Ae.v).getD B .dead)=arr true t.w (tyV t d) t.dflt xs:=by
    rw[AV (by rw[U];simp),U];rfl
   refine⟨(((r.map Ae.v).set B (upd (a::q1) ((r.map Ae.v).getD B .dead) .dead)++[arr true t.w (tyV t d) t.dflt xs]).set id (upd (p++[(i,k)]) ((r.map Ae.v).getD id .dead) (arr true t.w (tyV t d) t.dflt xs))).set (r.map Ae.v).length .dead,
    (λv=>A9 id (p++[(i,k)]) (r.map Ae.v).length (rrV B (a::q1) (r.map Ae.v).length v)),?_,?_,by simp,by simp,λx=>?_,λid' q W=>?_⟩
   .show LY id p i k (V.rs B (a::q1) 0 (Ag r B (a::q1)).len) cs _ _
    unfold LY;simp only[hnode,U,arr];rw[if_neg (λh=>Z h.1)]
    refine⟨⟨?_,?_,Z⟩,?_,?_,?_⟩<;>first|rfl|trivial|(rw[map_map];rfl)
   .rw[length_map];exact GOK.cut
   .have e0:(((r.set B r1++[Ae.dead]).set id r0).map Ae.v)=((r.map Ae.v).set B r1.v++[V.dead]).set id r0.v:=by
     rw[map_set,List.map_append,map_set];rfl
    rw[e0];by_cases hx:x=r.length
    .subst hx
     have:((((r.map Ae.v).set B (upd (a::q1) ((r.map Ae.v).getD B .dead) .dead)++[arr true t.w (tyV t d) t.dflt xs]).set id (upd (p++[(i,k)]) ((r.map Ae.v).getD id .dead) (arr true t.w (tyV t d) t.dflt xs))).set (r.map Ae.v).length .dead).getD r.length .dead=.dead:=by
      have e:(r.map Ae.v).length=r.length:=length_map ..;rw[e];exact Aj (by simp)
     rw[this]
     have:(((r.map Ae.v).set B r1.v++[V.dead]).set id r0.v).getD r.length .dead=.dead:=by
      rw[Ai (by omega)]
      simp[gAR]
     rw[this];exact Sub.refl _
    .rw[Ai (by simpa using Ne.symm hx)]
     by_cases hxi:id=x
     .subst hxi
      rw[Aj (by simp;omega),Aj (by simp;omega)]
      have:=H9 p _ _ Y;rw[Ax];exact this
     .rw[Ai hxi,Ai hxi]
      by_cases hxl:x<r.length
      .rw[AD (by simpa using hxl),AD (by simpa using hxl)]
       by_cases hxj:B=x
       .subst hxj
        rw[Aj (by simpa using hl),Aj (by simpa using hl),Ax]
        exact hcv
       .rw[Ai hxj,Ai hxj];exact Sub.refl _
      .have e1:∀(A:List V) (v:V),A.length=r.length->(A++[v]).getD x .dead=.dead:=by
        intro A v hA;rw[gDE,getElem?_eq_none (by simp;omega)];rfl
       rw[e1 _ _ (by simp),e1 _ _ (by simp)];exact Sub.refl _
   .have h1:=(CN W).2 B (a::q1) (by simp)
    have h2:=(CN W).2 r.length [] (by simp)
    have h2:id'≠r.length:=λe=>h2 ⟨e,rfl⟩
    have hpre:id'=B->pre ((a::q1).map (·.2)) q=false:=by
     intro e;have:=W;unfold hit at this;rw[Bool.or_eq_false_iff]at this;have:=(List.any_eq_false.1 this.2) (B,(a::q1).map (·.2)) (by simp)
     rw[e,beq_refl,Bool.true_and]at this;simpa using this
    have eN:∀(A:List Ae) (y:Ae),A.length=r.length->id'<r.length->Ag (A++[y]) id' q=Ag A id' q:=by
     intro A y hA hlt;unfold Ag;rw[gDE,gAL (by omega),<-gDE]
    by_cases hxl:id'<r.length
    .by_cases hxi:id'=id
     .subst hxi
      have h3:=E _ _ Y id' q (O _ _ _ W);rw[BR (by simpa using hxl)]at h3
      rw[BR (by simp;omega)]
      exact h3
     .rw[Bn hxi,eN _ _ (by simp) hxl]
      by_cases hxj:id'=B
      .subst hxj
       rw[BR hl];exact hcl q (hpre rfl)
      .rw[Bn hxj]
    .have hd:∀A:List Ae,A.length=r.length+1->Ag A id' q=(Ae.dead).at' q:=by
      intro A hA;unfold Ag;rw[gDE,getElem?_eq_none (by omega)];rfl
     rw[hd _ (by simp)]
     unfold Ag;rw[gDE,getElem?_eq_none (by omega)];rfl
 .rename_i B
  cases J:beq B id with
  |true=>rw[J]at h;cases h
  |false=>
   rw[J]at h;have Z:B≠id:=λe=>by rw[e,beq_refl]at J;cases J
   simp only[cond_false]at h;split at h
   case h_2=>cases h
   rename_i kt vt xs U;split at h
   case h_2=>cases h
   rename_i r0 Y;cases h;refine⟨(((r.map Ae.v).set id (upd (p++[(i,k)]) ((r.map Ae.v).getD id .dead) ((r.map Ae.v).getD B .dead))).set B .dead),A9 id (p++[(i,k)]) B,?_,GOK.move,by simp,by simp,λx=>?_,λid' q W=>?_⟩
   .show LY id p i k (V.rm B []) cs _ _
    unfold LY
    have e2:sub [] ((r.map Ae.v).getD B .dead)=mpV true kt vt xs:=by
     show(r.map Ae.v).getD B .dead=_;rw[Ax,U];rfl
    simp only[e2,mpV];refine⟨Z,?_,?_,?_⟩<;>first|rfl|trivial
   .rw[map_set]
    by_cases hx:B=x
    .subst hx
     have hl:B<r.length:=by
      rcases lt_or_ge B r.length with h|h
      .exact h
      .rw[gDE,getElem?_eq_none h]at U;cases U
     rw[Aj (by simpa using hl),Aj (by simpa using hl)];exact Sub.refl _
    .rw[Ai hx,Ai hx]
     refine CD ?_ x;have:=H9 p _ _ Y;rw[Ax,Ax,U];exact this
   .have h1:id'≠B:=λe=>(CN W).2 B [] (mem_singleton.2 rfl) ⟨e,rfl⟩
    rw[Bn h1];exact E _ _ Y id' q (O _ _ _ W)
 .rename_i hy
  obtain⟨J,h⟩:=Bc h;split at h
  case h_2=>cases h
  rename_i r0 Y;cases h;obtain⟨_,hv0⟩:=Pm (r:=r) J
  have sub:∀x,Sub (((r.map Ae.v).set id (upd (p++[(i,k)]) ((r.map Ae.v).getD id .dead) (c.v r))).getD x .dead) (((r.set id r0).map Ae.v).getD x .dead):=λx=>by
   refine CD ?_ x;rw[hv0,Ax];exact Hu nrm_v p _ _ Y
  have cc:∀v,c.v r=.c v->∃(σ':List V) (G:V->V),LY id p i k (c.v r) cs (r.map Ae.v) (λcs' σ2 G2=>cs'=cs.map G/\σ2=σ'/\G2=G)/\GOK G id ((p++[(i,k)]).map (·.2)) []/\σ'.length=(r.set id r0).length/\r.length<=(r.set id r0).length/\
    (∀x,Sub (σ'.getD x .dead) (((r.set id r0).map Ae.v).getD x .dead))/\(∀id' q,hit id ((p++[(i,k)]).map (·.2)) [] id' q=false->(Ag (r.set id r0) id' q).len=(Ag r id' q).len):=by
   intro v hv;cases hN:isN (Cw (r.map Ae.v) id p i k)with
   |true=>
    refine⟨_,AJ id (p++[(i,k)]),?_,GOK.kill,?_,by simp,sub,λid' q W=>E _ _ Y id' q (O _ _ _ W)⟩
    .rw[hv];unfold LY;simp only[hN];refine⟨?_,?_,?_⟩<;>first|rfl|trivial
    .simp
   |false=>
    refine⟨_,λv=>v,?_,GOK.idf,?_,by simp,sub,λid' q W=>E _ _ Y id' q (O _ _ _ W)⟩
    .rw[hv];unfold LY;simp only[hN];refine⟨?_,?_,?_⟩<;>first|rfl|trivial|simp
    .simp
  have cn:∀s sz n f,c.v r=.nd s false sz n f->∃(σ':List V) (G:V->V),LY id p i k (c.v r) cs (r.map Ae.v) (λcs' σ2 G2=>cs'=cs.map G/\σ2=σ'/\G2=G)/\GOK G id ((p++[(i,k)]).map (·.2)) []/\σ'.length=(r.set id r0).length/\r.length<=(r.set id r0).length/\
    (∀x,Sub (σ'.getD x .dead) (((r.set id r0).map Ae.v).getD x .dead))/\(∀id' q,hit id ((p++[(i,k)]).map (·.2)) [] id' q=false->(Ag (r.set id r0) id' q).len=(Ag r id' q).len):=by
   intro s sz n f hv;refine⟨_,AJ id (p++[(i,k)]),?_,GOK.kill,?_,by simp,sub,λid' q W=>E _ _ Y id' q (O _ _ _ W)⟩
   .rw[hv];unfold LY;exact⟨rfl,rfl,rfl⟩
   .simp
  cases c with
  |nil=>exact cc _ rfl
  |nilp=>exact cc _ rfl
  |nilf=>exact cc _ rfl
  |nilm=>exact cc _ rfl
  |c t d x=>
   cases t with
   |int k=>exact cc _ rfl
   |bool=>exact cc _ rfl
   |str=>exact cc _ rfl
   |sl t=>cases d with
    |zero=>exact cn _ _ _ _ rfl
    |succ d=>cases J
   |ptr t=>cases d with
    |zero=>exact cn _ _ _ _ rfl
    |succ d=>cases J
   |unit=>cases J
   |clo g u=>cases J
   |osl u=>cases J
   |mp a b=>cases J
   |pair a b=>cases J
  |_=>cases J
section mem
variable {P:Program}{C:Ctx}{D:Nat->Prop}
theorem Q4{N:Nat}{id:Nat}{p:AX}{i k0:Nat}{ct:List Value}{Z E:Nat}:
  ∀(m:Nat) (cs:List Cl) (u:List Value) (j:Nat) (s s':St) (w:World) (ρ:Nat->Value) (F:Nat->Nat->Prop),
  CR C s.den.σ ((range N).map s.den.t++ .rp id p i k0::cs.map (Cl.v s.r)) (ct++ .pointer (some ⟨Z,E+k0,none⟩)::u).toArray w D ρ F->ct.length=N->(∀x,N<=x->s.den.t x=.dead)->u.length=cs.length->k0+j+cs.length<=AW s.den.σ id p->
  Yp id p i m (k0+j) cs s=some s'->
  ∃w',(storeCells ⟨Z,E+k0,none⟩ u j).run P w=.ok () w'/\(∀x,N<=x->s'.den.t x=.dead)/\XX C s'.den.σ ((range N).map s'.den.t) ct.toArray w':=by
 intro m
 induction m with
 |zero=>
  intro cs u j s s' w ρ F hcr hl hdd Y _ h;cases cs with
  |nil=>
   cases h;cases u with
   |cons=>simp at Y
   |nil=>exact⟨w,rfl,hdd,D,ρ,F,hcr.left (by simpa using hl)⟩
  |cons c cs=>cases h
 |succ m ih=>
  intro cs u j s s' w ρ F hcr hl hdd Y hsz h;cases cs with
  |nil=>
   cases h;cases u with
   |cons=>simp at Y
   |nil=>exact⟨w,rfl,hdd,D,ρ,F,hcr.left (by simpa using hl)⟩
  |cons c cs=>
   cases u with
   |nil=>simp at Y
   |cons cx u=>
    simp only[List.length_cons]at hsz;unfold Yp at h;split at h
    case h_2=>cases h
    rename_i r' mv h1;obtain⟨σ',G,hput,hG,hσl,hrl,hsub,O⟩:=VL h1 (cs.map (Cl.v s.r));obtain⟨G2,σ2,b,off,ρ1,F1,⟨y,hy⟩,hfz,h1c,⟨ofs,had,hoff⟩,hGm,⟨hcs,hσ2,hGG⟩,hns,hcr1⟩:=Id hcr (by simpa using hl) (by omega) hput
    subst hσ2;subst hGG;simp only[Value.pointer.injEq,Option.some.injEq,Addr.mk.injEq,and_true]at had;obtain⟨rfl,had⟩:=had;obtain rfl:E=ofs:=by omega
    -- the typed state
    obtain⟨ks,hks⟩:∃ks,ks=((p++[(i,k0+j)]).map (·.2)):=⟨_,rfl⟩
    rw[<-hks]at h hG O;obtain⟨s1,hs1⟩:∃s1:St,s1=⟨λx=>(s.t x).kill id ks mv,r'⟩:=⟨_,rfl⟩
    rw[<-hs1]at h;obtain⟨W,J⟩:∃W,W=cs.map (Cl.kill id ks mv):=⟨_,rfl⟩;rw[<-J]at h;have hst:s1.t=λx=>(s.t x).kill id ks mv:=by rw[hs1]
    have U:s1.r=r':=by rw[hs1]
    have hcr2:CR C s1.den.σ ((range N).map s1.den.t++ .rp id p i k0::W.map (Cl.v s1.r)) (ct++ .pointer (some ⟨Z,E+k0,none⟩)::u).toArray (w.setCell ⟨Z,off,none⟩ cx) D ρ1 F1:=by
     refine hcr1.sub (by show(s1.r.map Ae.v).length=_;rw[length_map,hσl,U]) (λx _=>by show Sub _ ((s1.r.map Ae.v).getD x .dead);rw[U];exact hsub x) (by rw[J];simp) λx hx=>?_
     by_cases hxN:x<N
     .rw[AD (by simpa using hxN),AD (by simpa using hxN),map_map]
      have e1:((range N).map (G2∘s.den.t)).getD x .dead=G2 (s.den.t x):=by simp[hxN]
      have e2:((range N).map s1.den.t).getD x .dead=((s.t x).kill id ks mv).v r':=by
       rw[AY hxN];show(s1.t x).v s1.r=_;rw[hst,U]
      rw[e1,e2];exact Sl.kill_v hG O _
     .obtain⟨l,rfl⟩:∃l,x=N+l:=⟨x-N,by omega⟩
      have e1:∀(A B:List V),A.length=N->(A++B).getD (N+l) .dead=B.getD l .dead:=by
       intro A B hA;simp only[gDE];rw[gAR (by omega),hA,Nat.add_sub_cancel_left]
      rw[e1 _ _ (by simp),e1 _ _ (by simp)]
      cases l with
      |zero=>exact Ay.refl _
      |succ l=>
       simp only[List.getD_cons_succ];rw[J,U,map_map,map_map];exact Bz (f:=λy=>G2 (y.v s.r)) (g:=λy=>(y.kill id ks mv).v r') hG.m.dead rfl (λy=>Cl.kill_v hG O y) l
    have hdd2:∀x,N<=x->s1.den.t x=.dead:=by
     intro x hx;have h1:=Sl.kill_v hG O (s.t x);have h2:(s.t x).v s.r=.dead:=hdd x hx;rw[h2,hG.m.dead]at h1;show(s1.t x).v s1.r=_;rw[hst,U];rcases h1 with h|h
     .exact h
     .exact h
    have hnsz:k0+(j+1)+W.length<=AW s1.den.σ id p:=by
     have h0:=hns
     -- the size is that of the small machine's tree
     have h2:AW s1.den.σ id p=AW σ2 id p:=by
      have hp0:Aq σ2 ρ1 (w.setCell ⟨Z,off,none⟩ cx) (.rp id p i k0) (.pointer (some ⟨Z,E+k0,none⟩)):=by
       have h1:=hcr1.tm N (by simp)
       have e1:(((range N).map s.den.t).map G2++V.rp id p i k0::(cs.map (Cl.v s.r)).map G2).getD N .dead=.rp id p i k0:=by
        simp only[gDE];rw[gAR (by simp)]
        simp
       have e2:(ct++Value.pointer (some ⟨Z,E+k0,none⟩)::u).toArray.getD N undef=.pointer (some ⟨Z,E+k0,none⟩):=by simp[<-hl]
       rw[e1,e2]at h1;exact h1.1
      obtain⟨hid,s1',sz,n,f,b1,o1,cap,ha,_⟩:=hp0;obtain⟨f',ha'⟩:=At.sub' (hsub id) ha;have e0:s1.den.σ=r'.map Ae.v:=by show s1.r.map Ae.v=_;rw[U]
      rw[e0];unfold AW;rw[<-At.sub ha,<-At.sub ha']
     rw[h2,h0,J,length_map];omega
    have hlc':u.length=W.length:=by rw[J,length_map];simpa using Y
    rw[Nat.add_assoc k0 j 1]at h;clear hks hs1 J;obtain⟨w2,hrun,hd2,hcr3⟩:=ih W u (j+1) s1 s' _ ρ1 F1 hcr2 hl hdd2 hlc' hnsz h;refine⟨w2,?_,hd2,hcr3⟩;have ea:(⟨Z,E+k0,none⟩:Addr).add j=⟨Z,off,none⟩:=by rw[AZ rfl,hoff,<-Nat.add_assoc]
    simp only[storeCells,Sem.run_bind,ea];rw[run_store P w _ cx .plain h1c,hy];simp only[hfz,Bool.false_eq_true,if_false];exact hrun
end mem
end Go.Ve

