/- The typed machine: a store, in memory. -/
import Derived.Test.YtcpgmjbppfdjbaaDoorTi
namespace Go.Ve
variable{P p q:AR}{x:Aa}{r r':List Aa}{l:List V}{i id id' k:Nat}{R:Type}{G:V->V}
abbrev Mv:=List (Nat×List Nat)
variable{j:Mv}
def hit(id:Nat)(ks:List Nat)(j:Mv)(id':Nat)(q:AR):Bool:=(Nat.beq id' id&&pre ks q)||j.any λx=>Nat.beq id' x.1&&pre x.2 q
def Cl.kill(id:Nat)(ks:List Nat)(j:Mv):Cl->Cl
 | .rf id' q=>bif hit id ks j id' q then .dead else .rf id' q
 | .rs id' q off len=>bif hit id ks j id' q then .dead else .rs id' q off len
 | .rp id' q i k=>bif hit id ks j id' q then .dead else .rp id' q i k
 |y=>y
def Sl.kill(id:Nat)(ks:List Nat)(j:Mv):Sl->Sl
 | .one y=>.one (y.kill id ks j)
 | .new l=>.new l
 | .agg l=>.agg (l.map (Cl.kill id ks j))
 | .pk t l=>.pk t (l.map (Cl.kill id ks j))
 | .tup l=>.tup (l.map λp=>(p.1,p.2.map (Cl.kill id ks j)))
structure GOK(G:V->V)(id:Nat)(ks:List Nat)(j:Mv):Prop where
 m:A2 G
 rs: ∀id' q off len,hit id ks j id' q=false->G (.rs id' q off len)= .rs id' q off len
 rp: ∀id' q i k,hit id ks j id' q=false->G (.rp id' q i k)= .rp id' q i k
theorem C7(h:hit id (P.map (·.2)) j id' q=false): ¬ (id'=id/\AW P q=true)/\∀j' Q,(j',Q.map (·.2))∈j->¬ (id'=j'/\AW Q q=true):=by
 unfold hit at h;rw [Bool.or_eq_false_iff,Bool.and_eq_false_iff]at h;refine⟨fun⟨h1,h2⟩=>?_,λj' Q hj=>?_⟩
 ·rcases h.1 with h'|h'
  ·simp_all
  ·rw [KB h2]at h';grind
 ·rintro ⟨rfl,h2⟩
  have:=(List.any_eq_false.1 h.2) _ hj;simp [KB h2,not_true_eq_false]at this
theorem GOK.kill:GOK (AK id P) id (P.map (·.2)) []:=
 ⟨Ba _ _,λid' q off len h=>if_neg (C7 h).1,λid' q i k h=>if_neg (C7 h).1⟩
theorem GOK.idf:GOK (λv=>v) id (P.map (·.2)) []:=
 ⟨⟨λ_=>rfl,rfl,λ_ _ _ _ _=>rfl,λ_ _ _=>rfl⟩,λ_ _ _ _ _=>rfl,λ_ _ _ _ _=>rfl⟩
theorem GOK.move{j:Nat}:GOK (A5 id P j) id (P.map (·.2)) [(j,[])]:=by
 have hj: ∀id' q,hit id (P.map (·.2)) [(j,[])] id' q=false->id'≠j:=λid' q h e=>(C7 h).2 j [] (List.mem_singleton.2 rfl) ⟨e,rfl⟩
 refine⟨Cq _ _ _,λid' q off len h=>?_,λid' q i k h=>?_⟩
 ·simp [A5,if_neg (hj _ _ h),if_neg (C7 h).1]
 ·simp [A5,if_neg (hj _ _ h),if_neg (C7 h).1]
theorem A2.comp{H:V->V}(hG:A2 G)(hH:A2 H):A2 λv=>G (H v):=
 ⟨λv=>by rw [hH.c,hG.c],by rw [hH.dead,hG.dead],λ_ _ _ _ _=>by rw [hH.nd,hG.nd],λ_ _ _=>by rw [hH.many,hG.many]⟩
theorem GOK.cut{j m:Nat}{Q:AR}:GOK (λv=>A5 id P m (rrV j Q m v)) id (P.map (·.2)) [(j,Q.map (·.2)),(m,[])]:=by
 have hj: ∀id' q,hit id (P.map (·.2)) [(j,Q.map (·.2)),(m,[])] id' q=false->id'≠m/\¬ (id'=j/\AW Q q=true):=λid' q h=>⟨λe=>(C7 h).2 m [] (by simp) ⟨e,rfl⟩,(C7 h).2 j Q (by simp)⟩
 refine⟨A2.comp (Cq _ _ _) (CL _ _ _),λid' q off len h=>?_,λid' q i k h=>?_⟩
 ·simp [rrV,if_neg (hj _ _ h).2,A5,if_neg (hj _ _ h).1,if_neg (C7 h).1]
 ·simp [rrV,if_neg (hj _ _ h).2,A5,if_neg (hj _ _ h).1,if_neg (C7 h).1]
theorem A2.tyV0{G:V->V}(hG:A2 G): ∀ (t:Ty) (x:t.T),∀v∈tyV t 0 x,G v=v
 | .int _,_,v,h=>by simp [tyV]at h;subst h;exact hG.c _
 | .bool,_,v,h=>by simp [tyV]at h;subst h;exact hG.c _
 | .str,_,v,h=>by simp [tyV]at h;subst h;exact hG.c _
 | .sl _,_,v,h=>by simp [tyV,List.mem_singleton]at h;subst h;exact hG.nd _ _ _ _ _
 | .ptr _,_,v,h=>by simp [tyV,List.mem_singleton]at h;subst h;exact hG.nd _ _ _ _ _
 | .unit,_,v,h=>by trivial
 | .pair a b,x,v,h=>by
  simp only [tyV,List.mem_append]at h;exact h.elim (hG.tyV0 a x.1 v) (hG.tyV0 b x.2 v)
 | .osl _,x,v,h=>by
  simp only [tyV,List.mem_singleton]at h;subst h;cases x with
  |none=>exact hG.dead
  |some xs=>exact hG.nd _ _ _ _ _
 | .clo g t,x,v,h=>by
  simp only [tyV,List.mem_singleton]at h;subst h;rw [hG.many]
  congr 1
  funext k
  by_cases hk:k<(tyV t 0 x).length
  ·rw [gDE,gEE hk]
   exact hG.tyV0 t x _ (List.getElem_mem hk)
  ·rw [gDE,List.getElem?_eq_none (by omega)];exact hG.dead
theorem A2.clo{G:V->V}(hG:A2 G){g d:Nat}{u:Ty}{x:u.T}:G (cV (.clo g u) d x)=cV (.clo g u) d x:=hG.tyV0 (.clo g u) x _ (List.mem_singleton.2 rfl)
theorem A2.osl{G:V->V}(hG:A2 G){d:Nat}{u:Ty}{x:Option (List u.T)}:G (cV (.osl u) d x)=cV (.osl u) d x:=by
 cases x with
 |none=>exact hG.dead
 |some xs=>exact hG.nd _ _ _ _ _
theorem Cl.kill_v{ks:List Nat}(hG:GOK G id ks j)(hr: ∀id' q,hit id ks j id' q=false->(Ab r' id' q).len=(Ab r id' q).len)(y:Cl):Ao (G (y.v r)) ((y.kill id ks j).v r'):=by
 cases y with
 |dead=>exact Ao.dead _
 |nil=>show Ao (G (.c _)) (.c _);rw [hG.m.c];exact Ao.refl _
 |nilp=>show Ao (G (.c _)) (.c _);rw [hG.m.c];exact Ao.refl _
 |nilf=>show Ao (G (.c _)) (.c _);rw [hG.m.c];exact Ao.refl _
 |c t d x=>
  show Ao (G (cV t d x)) (cV t d x)
  have:G (cV t d x)=cV t d x:=by
   cases t with
   |sl t=>exact hG.m.nd _ _ _ _ _
   |ptr t=>exact hG.m.nd _ _ _ _ _
   |unit=>exact hG.m.dead
   |pair a b=>exact hG.m.dead
   |clo g u=>exact hG.m.clo
   |osl u=>exact hG.m.osl
   |_=>exact hG.m.c _
  rw [this];exact Ao.refl _
 |rf id' q=>
  show Ao (G (.rs id' q 0 (Ab r id' q).len)) ((bif hit id ks j id' q then Cl.dead else .rf id' q).v r');cases hb:hit id ks j id' q with
  |true=>exact Ao.dead _
  |false=>
   rw [hG.rs _ _ _ _ hb];show Ao _ (V.rs id' q 0 (Ab r' id' q).len);rw [hr _ _ hb];exact Ao.refl _
 |rs id' q off len=>
  show Ao (G (.rs id' q off len)) ((bif hit id ks j id' q then Cl.dead else .rs id' q off len).v r');cases hb:hit id ks j id' q with
  |true=>exact Ao.dead _
  |false=>rw [hG.rs _ _ _ _ hb];exact Ao.refl _
 |rp id' q i k=>
  show Ao (G (.rp id' q i k)) ((bif hit id ks j id' q then Cl.dead else .rp id' q i k).v r');cases hb:hit id ks j id' q with
  |true=>exact Ao.dead _
  |false=>rw [hG.rp _ _ _ _ hb];exact Ao.refl _
theorem G_mk(hG:A2 G):G (Ac l)=Ac (l.map G):=by
 unfold Ac;rw [hG.many,List.length_map]
 congr 1
 funext k
 rw [Bh hG.dead]
theorem AaD(hG:A2 G):G (C8 l)=C8 (l.map G):=by
 unfold C8;rw [hG.many,List.length_map]
 congr 1
 funext k
 rw [Bh hG.dead]
theorem G_pk(hG:A2 G){t:Tg}:G (pkL t l)=pkL t (l.map G):=by
 unfold pkL;rw [hG.many,List.length_map]
 congr 1
 funext k
 rw [Bh hG.dead]
theorem Sl.kill_v{r r':List Aa}{G:V->V}{id:Nat}{ks:List Nat}{j:Mv}(hG:GOK G id ks j)(hr: ∀id' q,hit id ks j id' q=false->(Ab r' id' q).len=(Ab r id' q).len)(y:Sl):Ao (G (y.v r)) ((y.kill id ks j).v r'):=by
 have agg: ∀l:List Cl,Ao (G (Ac (l.map (Cl.v r)))) (Ac ((l.map (Cl.kill id ks j)).map (Cl.v r'))):=by
  intro l;rw [G_mk hG.m];refine Ao.mk (by simp) λk _=>?_
  rw [List.map_map,List.map_map];exact BM hG.m.dead rfl (λy=>Cl.kill_v hG hr y) k
 cases y with
 |one c=>exact Cl.kill_v hG hr c
 |new l=>show Ao (G (A7 true _)) (A7 true _);rw [show G (A7 true (l.map Cl.v0))=A7 true (l.map Cl.v0)from hG.m.nd _ _ _ _ _];exact Ao.refl _
 |agg l=>exact agg l
 |pk t l=>
  show Ao (G (pkL t (l.map (Cl.v r)))) (pkL t ((l.map (Cl.kill id ks j)).map (Cl.v r')));rw [G_pk hG.m];refine Ao.pk (by simp) λk _=>?_
  rw [List.map_map,List.map_map];exact BM (f:=λy=>G (y.v r)) hG.m.dead rfl (λy=>Cl.kill_v hG hr y) k
 |tup l=>
  show Ao (G (C8 _)) (C8 _);rw [AaD hG.m];refine Ao.tup (by simp) λk hk=>?_
  have hk:k<l.length:=by simpa using hk
  simp only [gDE,List.getElem?_map,gEE hk,Option.map_some,Option.getD_some];generalize l[k]=p;obtain⟨b,m⟩:=p;cases b with
  |true=>exact agg m
  |false=>
   cases m with
   |nil=>exact Ao.dead _
   |cons y m=>exact Cl.kill_v hG hr y
def Me(r:Aa)(q:AR):Option Aa:=match q with
 | [(i,k)]=>match r with
  | .obj false l=>r.setAt [] i k .dead
  | .arr false (.osl t) d xs=>bif Nat.beq k 0 then some (.arr false (.osl t) d (setX xs i none))else none
  |_=>none
 |_=>none
theorem JR{r r1:Aa}(h:Me r q=some r1):Sub (upd q r.v .dead) r1.v/\∀q',pre (q.map (·.2)) q'=false->(r1.at' q').len=(r.at' q').len:=by
 unfold Me at h;split at h
 case h_2=>cases h
 rename_i i k;split at h
 case h_3=>cases h
 ·exact⟨Jd [] _ _ h,λq' hq=>JA [] _ _ h q' hq⟩
 ·rename_i t d xs
  obtain⟨hk,h⟩:=A1 h;cases h;have hk:=bqE hk;subst hk;constructor
  ·show Sub (upd [(i,0)] (arr true (Ty.osl t).w (tyV (.osl t) d) (Ty.osl t).dflt xs) .dead) (arr true (Ty.osl t).w (tyV (.osl t) d) (Ty.osl t).dflt (xs.set i none))
   unfold arr;rw [List.length_set];refine⟨_,rfl,λi' k' hi hk'=>?_⟩
   have hk0:k'=0:=by have:k'<1:=hk';omega
   subst hk0;by_cases hii:i'=i
   ·subst hii
    have e:(xs.set i' none).getD i' (Ty.osl t).dflt=none:=by simp [hi]
    show Sub (if i'=i'/\0=0 then V.dead else _) ((tyV (.osl t) d ((xs.set i' none).getD i' (Ty.osl t).dflt)).getD 0 .dead)
    rw [e,if_pos ⟨rfl,rfl⟩];exact Sub.refl _
   ·have e:(xs.set i none).getD i' (Ty.osl t).dflt=xs.getD i' (Ty.osl t).dflt:=by simp only [gDE,List.getElem?_set_ne (Ne.symm hii)]
    show Sub (if i'=i/\0=0 then V.dead else(tyV (.osl t) d (xs.getD i' (Ty.osl t).dflt)).getD 0 .dead) ((tyV (.osl t) d ((xs.set i none).getD i' (Ty.osl t).dflt)).getD 0 .dead)
    rw [e,if_neg (λh=>hii h.1)]
    exact Sub.refl _
  ·intro q' hq
   cases q' with
   |nil=>show(xs.set i none).length=xs.length;simp
   |cons a q'=>
    obtain⟨i1,k1⟩:=a;cases k1 with
    |zero=>simp [pre]at hq
    |succ k1=>
     rfl
def nrm:Aa->AR->Nat->Cl->Cl
 | .obj _ l,[],k,.nil=>match l.getD k .dead with
  | .c (.sl t) d _=>.c (.sl t) (bif Nat.beq d 0 then 0 else t.dep+1) []
  |_=>.nil
 |_,_,_,y=>y
theorem nrm_v{r:Aa}{y:Cl}:Sub y.v0 (nrm r p k y).v0:=by
 unfold nrm;split
 ·split
  ·exact .inr ⟨rfl,_,_,_,rfl⟩
  ·exact Sub.refl _
 ·exact Sub.refl _
def Oj(id:Nat)(p:AR)(i k:Nat)(c:Cl)(r:List Aa):Option (List Aa×Mv):=match c with
 | .rf j []=>bif Nat.beq j id then none else match r.getD j .dead with
  | .arr false t d xs=>match(r.getD id .dead).setAt p i k (.c (.sl t) (d+1) xs)with
   |some r0=>some ((r.set id r0).set j .dead,[(j,[])])
   |none=>none
  |_=>none
 | .rf j (a::q)=>bif Nat.beq j id then none else match Ab r j (a::q)with
  | .arr false t d xs=>match Me (r.getD j .dead) (a::q),(r.getD id .dead).setAt p i k (.c (.sl t) (d+1) xs)with
   |some r1,some r0=>some ((r.set j r1++ [Aa.dead]).set id r0,[(j,(a::q).map (·.2)),(r.length,[])])
   |_,_=>none
  |_=>none
 |y=>bif y.imm then(match(r.getD id .dead).setAt p i k (nrm (r.getD id .dead) p k y)with
  |some r0=>some (r.set id r0,[])
  |none=>none)else none
def Xv(id:Nat)(p:AR)(i:Nat):Nat->Nat->List Cl->St->Option St
 |_,_,[],s=>some s
 |0,_,_::_,_=>none
 |m+1,k,c::cs,s=>match Oj id p i k c s.r with
  |some (r',j)=>Xv id p i m (k+1) (cs.map (Cl.kill id ((p++ [(i,k)]).map (·.2)) j)) ⟨λx=>(s.t x).kill id ((p++ [(i,k)]).map (·.2)) j,r'⟩
  |none=>none
def Ij(s:St):Option TI->Option Sl->Option Sl->Option St
 |some i,some (.one (.rp id p j k)),some y=>match y.cells with
  |some l=>bif Nat.beq l.length i.ty.w&&Nat.ble (k+i.ty.w) (Ab s.r id p).w&&(Ab s.r id p).live then Xv id p j l.length k l s else none
  |none=>none
 |_,_,_=>none
def XL{R:Type}(id:Nat)(s:St)(K:St->Option R):Option R:=match s.r.getD id .dead with
 | .arr ro t d xs=>H1 (some xs) λys=>K ⟨s.t,s.r.set id (.arr ro t d ys)⟩
 |_=>K s
theorem Px(id:Nat)(s:St)(K:St->Option R):XL id s K=K s:=by
 unfold XL;split
 ·rename_i ro t d xs h
  show K ⟨s.t,s.r.set id (.arr ro t d xs)⟩=K s;have e:s.r.set id (.arr ro t d xs)=s.r:=by
   apply List.ext_getElem?
   grind
  rw [e]
 rfl
def Py{R:Type}(id:Nat)(s:St)(K:St->Option R):Option R:=bif Nat.ble 3 (s.r.getD id .dead).w then XL id s K else K s
theorem MW(id:Nat)(s:St)(K:St->Option R):Py id s K=K s:=by
 unfold Py;rw [Px];simp
def Y7:Cl->List Nat
 | .rf id (_::_)=>[id]
 |_=>[]
def argIds:Option Sl->List Nat
 |some (.one y)=>Y7 y
 |some (.agg l)=>l.flatMap Y7
 |_=>[]
def Pz{R:Type}:List Nat->St->(St->Option R)->Option R
 | [],s,K=>K s
 |id::l,s,K=>Py id s λs'=>Pz l s' K
theorem MX{R:Type}: ∀ (l:List Nat) (s:St) (K:St->Option R),Pz l s K=K s
 | [],_,_=>rfl
 |id::l,s,K=>by
  unfold Pz;rw [MW];exact MX l s K
def Xt{R:Type}(id:Nat)(p:AR)(i:Nat):Nat->Nat->List Cl->St->(St->Option R)->Option R
 |_,_,[],s,K=>K s
 |0,_,_::_,_,_=>none
 |m+1,k,c::cs,s,K=>match Oj id p i k c s.r with
  |some (r',j)=>XL id ⟨λx=>(s.t x).kill id ((p++ [(i,k)]).map (·.2)) j,r'⟩ λs'=>Xt id p i m (k+1) (cs.map (Cl.kill id ((p++ [(i,k)]).map (·.2)) j)) s' K
  |none=>none
theorem Po{R:Type}{id:Nat}{p:AR}{i:Nat}{K:St->Option R}: ∀ (m k:Nat) (cs:List Cl) (s:St),Xt id p i m k cs s K=match Xv id p i m k cs s with
  |some s'=>K s'
  |none=>none
 |m,_,[],s=>by cases m<;>rfl
 |0,_,_::_,_=>rfl
 |m+1,k,c::cs,s=>by
  unfold Xt Xv;cases Oj id p i k c s.r with
  |none=>rfl
  |some x=>
   simp [Px];exact Po m (k+1) _ _
def Oi{R:Type}(s:St)(ti:Option TI)(x v:Option Sl)(K:St->Option R):Option R:=match ti,x,v with
 |some i,some (.one (.rp id p j k)),some y=>bif Nat.ble 3 i.ty.w then(match y.cells with
  |some l=>bif Nat.beq l.length i.ty.w&&Nat.ble (k+i.ty.w) (Ab s.r id p).w&&(Ab s.r id p).live then Xt id p j l.length k l s K else none
  |none=>none)else(match Ij s ti x v with
  |some s'=>Py id s' K
  |none=>none)
 |_,_,_=>match Ij s ti x v with
  |some s'=>K s'
  |none=>none
theorem Qz(s:St)(ti:Option TI)(x v:Option Sl)(K:St->Option R):Oi s ti x v K=match Ij s ti x v with
  |some s'=>K s'
  |none=>none:=by
 unfold Oi;split
 ·rename_i i id p j k y
  cases Nat.ble 3 i.ty.w with
  |false=>
   cases Ij s (some i) (some (.one (.rp id p j k))) (some y)with
   |none=>rfl
   |some s'=>exact MW _ _ _
  |true=>
   show _=match(match y.cells with
    |some l=>bif Nat.beq l.length i.ty.w&&Nat.ble (k+i.ty.w) (Ab s.r id p).w&&(Ab s.r id p).live then Xv id p j l.length k l s else none
    |none=>none)with
    |some s'=>K s'
    |none=>none
   generalize y.cells=yc;cases yc with
   |none=>rfl
   |some l=>
    simp;generalize (Nat.beq l.length i.ty.w&&Nat.ble (k+i.ty.w) (Ab s.r id p).w&&(Ab s.r id p).live)=b;cases b with
    |false=>rfl
    |true=>
     exact Po _ _ _ _
 rfl
theorem HL{r0:Aa}{x:V}(hs:Sub x r0.v)(i:Nat):Sub (((r.map Aa.v).set id x).getD i .dead) (((r.set id r0).map Aa.v).getD i .dead):=by
 rw [List.map_set];by_cases he:id=i
 ·by_cases hl:id<r.length
  ·grind
  ·rw [List.set_eq_of_length_le (by grind),List.set_eq_of_length_le (by grind)];exact Sub.refl _
 ·rw [Ad he,Ad he];exact Sub.refl _
theorem Bg(h:id'≠id):Ab (r.set id x) id' q=Ab r id' q:=by
 unfold Ab
 grind
theorem BA(h:id<r.length):Ab (r.set id x) id q=x.at' q:=by
 unfold Ab
 grind
theorem U9{c:Cl}(h:Oj id p i k c r=some (r',j))(cs:List V):
  ∃ (σ':List V) (G:V->V),Nk id p i k (c.v r) cs (r.map Aa.v) (λcs' σ2 G2=>cs'=cs.map G/\σ2=σ'/\G2=G)/\GOK G id ((p++ [(i,k)]).map (·.2)) j/\σ'.length=r'.length/\r.length<=r'.length/\
   (∀x,Sub (σ'.getD x .dead) ((r'.map Aa.v).getD x .dead))/\(∀id' q,hit id ((p++ [(i,k)]).map (·.2)) j id' q=false->(Ab r' id' q).len=(Ab r id' q).len):=by
 have lenOne: ∀ (y:Cl) (r0:Aa),(r.getD id .dead).setAt p i k y=some r0->∀id' q,¬ (id'=id/\pre ((p++ [(i,k)]).map (·.2)) q=true)->(Ab (r.set id r0) id' q).len=(Ab r id' q).len:=by
  intro y r0 hs id' q hn;by_cases he:id'=id
  ·subst he
   have hq:pre ((p++ [(i,k)]).map (·.2)) q=false:=by
    cases hp:pre ((p++ [(i,k)]).map (·.2)) q with
    |false=>rfl
    |true=>exact absurd ⟨rfl,hp⟩ hn
   by_cases hl:id'<r.length
   ·rw [BA hl]
    exact JA p _ _ hs q hq
   ·rw [List.set_eq_of_length_le (by omega)]
  ·rw [Bg he]
 have hitn: ∀ (j:Mv) id' q,hit id ((p++ [(i,k)]).map (·.2)) j id' q=false->¬ (id'=id/\pre ((p++ [(i,k)]).map (·.2)) q=true):=by
  intro j id' q hh ⟨h1,h2⟩;unfold hit at hh;rw [h1,Nat.beq_refl,h2]at hh;cases hh
 unfold Oj at h;split at h
 ·rename_i j'
  cases hb:Nat.beq j' id with
  |true=>rw [hb]at h;cases h
  |false=>
   rw [hb]at h;have hne:j'≠id:=λe=>by rw [e,Nat.beq_refl]at hb;cases hb
   simp only [cond_false]at h;split at h
   case h_2=>cases h
   rename_i t d xs hj;split at h
   case h_2=>cases h
   rename_i r0 hs;cases h;refine⟨(((r.map Aa.v).set id (upd (p++ [(i,k)]) ((r.map Aa.v).getD id .dead) ((r.map Aa.v).getD j' .dead))).set j' .dead),A5 id (p++ [(i,k)]) j',?_,GOK.move,by simp,by simp,λx=>?_,λid' q hq=>?_⟩
   ·show Nk id p i k (V.rs j' [] 0 (Ab r j' []).len) cs _ _
    unfold Nk;have e:Ab r j' []= .arr false t d xs:=hj
    have e2:sub [] ((r.map Aa.v).getD j' .dead)=arr true t.w (tyV t d) t.dflt xs:=by
     show(r.map Aa.v).getD j' .dead=_;rw [An,hj];rfl
    simp only [e2,e,arr];rw [if_neg (λh=>hne h.1)]
    refine⟨⟨?_,?_,hne⟩,?_,?_,?_⟩<;>first|rfl|trivial
   ·rw [List.map_set]
    by_cases hx:j'=x
    ·subst hx
     have hl:j'<r.length:=by
      rcases Nat.lt_or_ge j' r.length with h|h
      ·exact h
      ·rw [gDE,List.getElem?_eq_none h]at hj;cases hj
     rw [Af (by simpa using hl),Af (by simpa using hl)];exact Sub.refl _
    ·rw [Ad hx,Ad hx]
     refine HL ?_ x;have:=Jd p _ _ hs;rw [An,An,hj];exact this
   ·have h1:id'≠j':=λe=>(C7 hq).2 j' [] (List.mem_singleton.2 rfl) ⟨e,rfl⟩
    rw [Bg h1];exact lenOne _ _ hs id' q (hitn _ _ _ hq)
 ·rename_i j' a q1
  cases hb:Nat.beq j' id with
  |true=>rw [hb]at h;cases h
  |false=>
   rw [hb]at h;have hne:j'≠id:=λe=>by rw [e,Nat.beq_refl]at hb;cases hb
   simp only [cond_false]at h;split at h
   case h_2=>cases h
   rename_i t d xs hj;split at h
   case h_2=>cases h
   rename_i r1 r0 hcut hs;cases h;obtain⟨Q,hQ⟩: ∃Q,Q=a::q1:=⟨_,rfl⟩;have hl:j'<r.length:=by
    rcases Nat.lt_or_ge j' r.length with h|h
    ·exact h
    ·unfold Ab at hj
     rw [gDE,List.getElem?_eq_none h]at hj;have:=Dv (a::q1);simp only [Option.getD_none]at hj;rw [this]at hj;cases hj
   have hid:id<r.length:=by
    rcases Nat.lt_or_ge id r.length with h|h
    ·exact h
    ·rw [gDE,List.getElem?_eq_none h]at hs
     exact absurd rfl (Lz hs)
   obtain⟨hcv,hcl⟩:=JR hcut;have hv1:(V.nd true true t.w xs.length (λi k=>((tyV t d (xs.getD i t.dflt)).getD k .dead)))=arr true t.w (tyV t d) t.dflt xs:=rfl
   have hnode:sub (a::q1) ((r.map Aa.v).getD j' .dead)=arr true t.w (tyV t d) t.dflt xs:=by
    rw [AP (by rw [hj];simp),hj];rfl
   refine⟨(((r.map Aa.v).set j' (upd (a::q1) ((r.map Aa.v).getD j' .dead) .dead)++ [arr true t.w (tyV t d) t.dflt xs]).set id (upd (p++ [(i,k)]) ((r.map Aa.v).getD id .dead) (arr true t.w (tyV t d) t.dflt xs))).set (r.map Aa.v).length .dead,
    (λv=>A5 id (p++ [(i,k)]) (r.map Aa.v).length (rrV j' (a::q1) (r.map Aa.v).length v)),?_,?_,by simp,by simp,λx=>?_,λid' q hq=>?_⟩
   ·show Nk id p i k (V.rs j' (a::q1) 0 (Ab r j' (a::q1)).len) cs _ _
    unfold Nk;simp only [hnode,hj,arr];rw [if_neg (λh=>hne h.1)]
    refine⟨⟨?_,?_,hne⟩,?_,?_,?_⟩<;>first|rfl|trivial|(rw [List.map_map];rfl)
   ·rw [List.length_map];exact GOK.cut
   ·have e0:(((r.set j' r1++ [Aa.dead]).set id r0).map Aa.v)=((r.map Aa.v).set j' r1.v++ [V.dead]).set id r0.v:=by
     rw [List.map_set,List.map_append,List.map_set];rfl
    rw [e0];by_cases hx:x=r.length
    ·subst hx
     have:((((r.map Aa.v).set j' (upd (a::q1) ((r.map Aa.v).getD j' .dead) .dead)++ [arr true t.w (tyV t d) t.dflt xs]).set id (upd (p++ [(i,k)]) ((r.map Aa.v).getD id .dead) (arr true t.w (tyV t d) t.dflt xs))).set (r.map Aa.v).length .dead).getD r.length .dead= .dead:=by
      have e:(r.map Aa.v).length=r.length:=List.length_map ..;rw [e];exact Af (by simp)
     rw [this]
     have:(((r.map Aa.v).set j' r1.v++ [V.dead]).set id r0.v).getD r.length .dead= .dead:=by
      rw [Ad (by omega)]
      simp [gAR]
     rw [this];exact Sub.refl _
    ·rw [Ad (by simpa using Ne.symm hx)]
     by_cases hxi:id=x
     ·subst hxi
      rw [Af (by simp;omega),Af (by simp;omega)]
      have:=Jd p _ _ hs;rw [An];exact this
     ·rw [Ad hxi,Ad hxi]
      by_cases hxl:x<r.length
      ·rw [Aw (by simpa using hxl),Aw (by simpa using hxl)]
       by_cases hxj:j'=x
       ·subst hxj
        rw [Af (by simpa using hl),Af (by simpa using hl),An]
        exact hcv
       ·rw [Ad hxj,Ad hxj];exact Sub.refl _
      ·have e1: ∀ (A:List V) (v:V),A.length=r.length->(A++ [v]).getD x .dead= .dead:=by
        intro A v hA;rw [gDE,List.getElem?_eq_none (by simp;omega)];rfl
       rw [e1 _ _ (by simp),e1 _ _ (by simp)];exact Sub.refl _
   ·have h1:=(C7 hq).2 j' (a::q1) (by simp)
    have h2:=(C7 hq).2 r.length [] (by simp)
    have h2:id'≠r.length:=λe=>h2 ⟨e,rfl⟩
    have hpre:id'=j'->pre ((a::q1).map (·.2)) q=false:=by
     intro e;have:=hq;unfold hit at this;rw [Bool.or_eq_false_iff]at this;have:=(List.any_eq_false.1 this.2) (j',(a::q1).map (·.2)) (by simp)
     rw [e,Nat.beq_refl,Bool.true_and]at this;simpa using this
    have eN: ∀ (A:List Aa) (y:Aa),A.length=r.length->id'<r.length->Ab (A++ [y]) id' q=Ab A id' q:=by
     intro A y hA hlt;unfold Ab;rw [gDE,gAL (by omega),<-gDE]
    by_cases hxl:id'<r.length
    ·by_cases hxi:id'=id
     ·subst hxi
      have h3:=lenOne _ _ hs id' q (hitn _ _ _ hq);rw [BA (by simpa using hxl)]at h3
      rw [BA (by simp;omega)]
      exact h3
     ·rw [Bg hxi,eN _ _ (by simp) hxl]
      by_cases hxj:id'=j'
      ·subst hxj
       rw [BA hl];exact hcl q (hpre rfl)
      ·rw [Bg hxj]
    ·have hd: ∀A:List Aa,A.length=r.length+1->Ab A id' q=(Aa.dead).at' q:=by
      intro A hA;unfold Ab;rw [gDE,List.getElem?_eq_none (by omega)];rfl
     rw [hd _ (by simp)]
     unfold Ab;rw [gDE,List.getElem?_eq_none (by omega)];rfl
 ·rename_i hy
  obtain⟨hb,h⟩:=A1 h;split at h
  case h_2=>cases h
  rename_i r0 hs;cases h;obtain⟨_,hv0⟩:=OW (r:=r) hb
  have sub: ∀x,Sub (((r.map Aa.v).set id (upd (p++ [(i,k)]) ((r.map Aa.v).getD id .dead) (c.v r))).getD x .dead) (((r.set id r0).map Aa.v).getD x .dead):=λx=>by
   refine HL ?_ x;rw [hv0,An];exact D7 nrm_v p _ _ hs
  have cc: ∀v,c.v r= .c v->∃ (σ':List V) (G:V->V),Nk id p i k (c.v r) cs (r.map Aa.v) (λcs' σ2 G2=>cs'=cs.map G/\σ2=σ'/\G2=G)/\GOK G id ((p++ [(i,k)]).map (·.2)) []/\σ'.length=(r.set id r0).length/\r.length<=(r.set id r0).length/\
    (∀x,Sub (σ'.getD x .dead) (((r.set id r0).map Aa.v).getD x .dead))/\(∀id' q,hit id ((p++ [(i,k)]).map (·.2)) [] id' q=false->(Ab (r.set id r0) id' q).len=(Ab r id' q).len):=by
   intro v hv;cases hN:isN (B7 (r.map Aa.v) id p i k)with
   |true=>
    refine⟨_,AK id (p++ [(i,k)]),?_,GOK.kill,?_,by simp,sub,λid' q hq=>lenOne _ _ hs id' q (hitn _ _ _ hq)⟩
    ·rw [hv];unfold Nk;simp only [hN];refine⟨?_,?_,?_⟩<;>first|rfl|trivial
    ·simp
   |false=>
    refine⟨_,λv=>v,?_,GOK.idf,?_,by simp,sub,λid' q hq=>lenOne _ _ hs id' q (hitn _ _ _ hq)⟩
    ·rw [hv];unfold Nk;simp only [hN];refine⟨?_,?_,?_⟩<;>first|rfl|trivial|simp
    ·simp
  have cn: ∀s sz n f,c.v r= .nd s false sz n f->∃ (σ':List V) (G:V->V),Nk id p i k (c.v r) cs (r.map Aa.v) (λcs' σ2 G2=>cs'=cs.map G/\σ2=σ'/\G2=G)/\GOK G id ((p++ [(i,k)]).map (·.2)) []/\σ'.length=(r.set id r0).length/\r.length<=(r.set id r0).length/\
    (∀x,Sub (σ'.getD x .dead) (((r.set id r0).map Aa.v).getD x .dead))/\(∀id' q,hit id ((p++ [(i,k)]).map (·.2)) [] id' q=false->(Ab (r.set id r0) id' q).len=(Ab r id' q).len):=by
   intro s sz n f hv;refine⟨_,AK id (p++ [(i,k)]),?_,GOK.kill,?_,by simp,sub,λid' q hq=>lenOne _ _ hs id' q (hitn _ _ _ hq)⟩
   ·rw [hv];unfold Nk;exact⟨rfl,rfl,rfl⟩
   ·simp
  cases c with
  |nil=>exact cc _ rfl
  |nilp=>exact cc _ rfl
  |nilf=>exact cc _ rfl
  |c t d x=>
   cases t with
   |int k=>exact cc _ rfl
   |bool=>exact cc _ rfl
   |str=>exact cc _ rfl
   |sl t=>cases d with
    |zero=>exact cn _ _ _ _ rfl
    |succ d=>cases hb
   |ptr t=>cases d with
    |zero=>exact cn _ _ _ _ rfl
    |succ d=>cases hb
   |unit=>cases hb
   |clo g u=>cases hb
   |osl u=>cases hb
   |pair a b=>cases hb
  |_=>cases hb
section mem
variable {P:Program} {C:Ctx} {D:Nat->Prop}
theorem QA{N:Nat}{id:Nat}{p:AR}{i k0:Nat}{ct:List Value}{b0 ofs0:Nat}:
  ∀ (m:Nat) (cs:List Cl) (ccs:List Value) (j:Nat) (s s':St) (w:World) (ρ:Nat->Value) (F:Nat->Nat->Prop),
  CR C s.den.σ ((List.range N).map s.den.t++ .rp id p i k0::cs.map (Cl.v s.r)) (ct++ .pointer (some ⟨b0,ofs0+k0,none⟩)::ccs).toArray w D ρ F->ct.length=N->(∀x,N<=x->s.den.t x= .dead)->ccs.length=cs.length->k0+j+cs.length<=AS s.den.σ id p->
  Xv id p i m (k0+j) cs s=some s'->
  ∃w',(storeCells ⟨b0,ofs0+k0,none⟩ ccs j).run P w= .ok () w'/\(∀x,N<=x->s'.den.t x= .dead)/\UK C s'.den.σ ((List.range N).map s'.den.t) ct.toArray w':=by
 intro m
 induction m with
 |zero=>
  intro cs ccs j s s' w ρ F hcr hl hdd hlc _ h;cases cs with
  |nil=>
   cases h;cases ccs with
   |cons=>simp at hlc
   |nil=>exact⟨w,rfl,hdd,D,ρ,F,hcr.left (by simpa using hl)⟩
  |cons c cs=>cases h
 |succ m ih=>
  intro cs ccs j s s' w ρ F hcr hl hdd hlc hsz h;cases cs with
  |nil=>
   cases h;cases ccs with
   |cons=>simp at hlc
   |nil=>exact⟨w,rfl,hdd,D,ρ,F,hcr.left (by simpa using hl)⟩
  |cons c cs=>
   cases ccs with
   |nil=>simp at hlc
   |cons cx ccs=>
    simp only [List.length_cons]at hsz;unfold Xv at h;split at h
    case h_2=>cases h
    rename_i r' mv h1;obtain⟨σ',G,hput,hG,hσl,hrl,hsub,hlen⟩:=U9 h1 (cs.map (Cl.v s.r));obtain⟨G2,σ2,b,off,ρ1,F1,⟨y,hy⟩,hfz,h1c,⟨ofs,had,hoff⟩,hGm,⟨hcs,hσ2,hGG⟩,hns,hcr1⟩:=HT hcr (by simpa using hl) (by omega) hput
    subst hσ2;subst hGG;simp only [Value.pointer.injEq,Option.some.injEq,Addr.mk.injEq,and_true]at had;obtain⟨rfl,had⟩:=had;obtain rfl:ofs0=ofs:=by omega
    -- the typed state
    obtain⟨ks,hks⟩: ∃ks,ks=((p++ [(i,k0+j)]).map (·.2)):=⟨_,rfl⟩
    rw [<-hks]at h hG hlen;obtain⟨s1,hs1⟩: ∃s1:St,s1=⟨λx=>(s.t x).kill id ks mv,r'⟩:=⟨_,rfl⟩
    rw [<-hs1]at h;obtain⟨cs1,hcs1⟩: ∃cs1,cs1=cs.map (Cl.kill id ks mv):=⟨_,rfl⟩;rw [<-hcs1]at h;have hst:s1.t=λx=>(s.t x).kill id ks mv:=by rw [hs1]
    have hsr:s1.r=r':=by rw [hs1]
    have hcr2:CR C s1.den.σ ((List.range N).map s1.den.t++ .rp id p i k0::cs1.map (Cl.v s1.r)) (ct++ .pointer (some ⟨b0,ofs0+k0,none⟩)::ccs).toArray (w.setCell ⟨b0,off,none⟩ cx) D ρ1 F1:=by
     refine hcr1.sub (by show(s1.r.map Aa.v).length=_;rw [List.length_map,hσl,hsr]) (λx _=>by show Sub _ ((s1.r.map Aa.v).getD x .dead);rw [hsr];exact hsub x) (by rw [hcs1];simp) λx hx=>?_
     by_cases hxN:x<N
     ·rw [Aw (by simpa using hxN),Aw (by simpa using hxN),List.map_map]
      have e1:((List.range N).map (G2∘s.den.t)).getD x .dead=G2 (s.den.t x):=by simp [hxN]
      have e2:((List.range N).map s1.den.t).getD x .dead=((s.t x).kill id ks mv).v r':=by
       rw [AV hxN];show(s1.t x).v s1.r=_;rw [hst,hsr]
      rw [e1,e2];exact Sl.kill_v hG hlen _
     ·obtain⟨l,rfl⟩: ∃l,x=N+l:=⟨x-N,by omega⟩
      have e1: ∀ (A B:List V),A.length=N->(A++B).getD (N+l) .dead=B.getD l .dead:=by
       intro A B hA;simp only [gDE];rw [gAR (by omega),hA,Nat.add_sub_cancel_left]
      rw [e1 _ _ (by simp),e1 _ _ (by simp)]
      cases l with
      |zero=>exact Ao.refl _
      |succ l=>
       simp only [List.getD_cons_succ];rw [hcs1,hsr,List.map_map,List.map_map];exact BM (f:=λy=>G2 (y.v s.r)) (g:=λy=>(y.kill id ks mv).v r') hG.m.dead rfl (λy=>Cl.kill_v hG hlen y) l
    have hdd2: ∀x,N<=x->s1.den.t x= .dead:=by
     intro x hx;have h1:=Sl.kill_v hG hlen (s.t x);have h2:(s.t x).v s.r= .dead:=hdd x hx;rw [h2,hG.m.dead]at h1;show(s1.t x).v s1.r=_;rw [hst,hsr];rcases h1 with h|h
     ·exact h
     ·exact h
    have hnsz:k0+(j+1)+cs1.length<=AS s1.den.σ id p:=by
     have h0:=hns
     -- the size is that of the small machine's tree
     have h2:AS s1.den.σ id p=AS σ2 id p:=by
      have hp0:Ag σ2 ρ1 (w.setCell ⟨b0,off,none⟩ cx) (.rp id p i k0) (.pointer (some ⟨b0,ofs0+k0,none⟩)):=by
       have h1:=hcr1.tm N (by simp)
       have e1:(((List.range N).map s.den.t).map G2++V.rp id p i k0::(cs.map (Cl.v s.r)).map G2).getD N .dead= .rp id p i k0:=by
        simp only [gDE];rw [gAR (by simp)]
        simp
       have e2:(ct++Value.pointer (some ⟨b0,ofs0+k0,none⟩)::ccs).toArray.getD N undef= .pointer (some ⟨b0,ofs0+k0,none⟩):=by simp [<-hl]
       rw [e1,e2]at h1;exact h1.1
      obtain⟨hid,s1',sz,n,f,b1,o1,cap,ha,_⟩:=hp0;obtain⟨f',ha'⟩:=At.sub' (hsub id) ha;have e0:s1.den.σ=r'.map Aa.v:=by show s1.r.map Aa.v=_;rw [hsr]
      rw [e0];unfold AS;rw [<-At.sub ha,<-At.sub ha']
     rw [h2,h0,hcs1,List.length_map];omega
    have hlc':ccs.length=cs1.length:=by rw [hcs1,List.length_map];simpa using hlc
    rw [Nat.add_assoc k0 j 1]at h;clear hks hs1 hcs1;obtain⟨w2,hrun,hd2,hcr3⟩:=ih cs1 ccs (j+1) s1 s' _ ρ1 F1 hcr2 hl hdd2 hlc' hnsz h;refine⟨w2,?_,hd2,hcr3⟩;have ea:(⟨b0,ofs0+k0,none⟩:Addr).add j=⟨b0,off,none⟩:=by rw [AT rfl,hoff,<-Nat.add_assoc]
    simp only [storeCells,Sem.run_bind,ea];rw [run_store P w _ cx .plain h1c,hy];simp only [hfz,Bool.false_eq_true,if_false];exact hrun
end mem
end Go.Ve

