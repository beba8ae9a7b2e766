/- The typed machine: a store, in memory. -/
import Derived.Test.YtgobokfkomalhaaTi
namespace Go.Ve
variable{P p q:A1}{x:Ae}{r r':List Ae}{l:List V}{i id id' k:Nat}{R:Type}{G:V->V}
abbrev Mv:=List (Nat×List Nat)
variable{j:Mv}
def hit(id:Nat)(ks:List Nat)(j:Mv)(id':Nat)(q:A1):Bool:=(Nat.beq id' id&&pre ks q)||j.any λx=>Nat.beq id' x.1&&pre x.2 q
def Cl.kill(id:Nat)(ks:List Nat)(j:Mv):Cl->Cl
 | .rf id' q=>bif hit id ks j id' q then .dead else .rf id' q
 | .rs id' q off len=>bif hit id ks j id' q then .dead else .rs id' q off len
 | .rp id' q i k=>bif hit id ks j id' q then .dead else .rp id' q i k
 |y=>y
def Sl.kill(id:Nat)(ks:List Nat)(j:Mv):Sl->Sl
 | .one y=>.one (y.kill id ks j)
 | .new l=>.new l
 | .agg l=>.agg (l.map (Cl.kill id ks j))
 | .pk t l=>.pk t (l.map (Cl.kill id ks j))
 | .tup l=>.tup (l.map λp=>(p.1,p.2.map (Cl.kill id ks j)))
structure GOK(G:V->V)(id:Nat)(ks:List Nat)(j:Mv):Prop where
 m:Bg G
 rs: ∀id' q off len,hit id ks j id' q=false->G (.rs id' q off len)= .rs id' q off len
 rp: ∀id' q i k,hit id ks j id' q=false->G (.rp id' q i k)= .rp id' q i k
theorem Dp(h:hit id (P.map (·.2)) j id' q=false): ¬ (id'=id/\Bf P q=true)/\∀j' Q,(j',Q.map (·.2))∈j->¬ (id'=j'/\Bf Q q=true):=by
 unfold hit at h;rw [Bool.or_eq_false_iff,Bool.and_eq_false_iff]at h;refine⟨fun⟨h1,h2⟩=>?_,λj' Q hj=>?_⟩
 ·rcases h.1 with h'|h'
  ·simp_all
  ·rw [Nw h2]at h';grind
 ·rintro ⟨rfl,h2⟩
  have:=(List.any_eq_false.1 h.2) _ hj;simp [Nw h2,not_true_eq_false]at this
theorem GOK.kill:GOK (AY id P) id (P.map (·.2)) []:=
 ⟨Bu _ _,λid' q off len h=>if_neg (Dp h).1,λid' q i k h=>if_neg (Dp h).1⟩
theorem GOK.idf:GOK (λv=>v) id (P.map (·.2)) []:=
 ⟨⟨λ_=>rfl,rfl,λ_ _ _ _ _=>rfl,λ_ _ _=>rfl⟩,λ_ _ _ _ _=>rfl,λ_ _ _ _ _=>rfl⟩
theorem GOK.move{j:Nat}:GOK (Bs id P j) id (P.map (·.2)) [(j,[])]:=by
 have hj: ∀id' q,hit id (P.map (·.2)) [(j,[])] id' q=false->id'≠j:=λid' q h e=>(Dp h).2 j [] (List.mem_singleton.2 rfl) ⟨e,rfl⟩
 refine⟨C4 _ _ _,λid' q off len h=>?_,λid' q i k h=>?_⟩
 ·simp [Bs,if_neg (hj _ _ h),if_neg (Dp h).1]
 ·simp [Bs,if_neg (hj _ _ h),if_neg (Dp h).1]
theorem Bg.comp{H:V->V}(hG:Bg G)(hH:Bg H):Bg λv=>G (H v):=
 ⟨λv=>by rw [hH.c,hG.c],by rw [hH.dead,hG.dead],λ_ _ _ _ _=>by rw [hH.nd,hG.nd],λ_ _ _=>by rw [hH.many,hG.many]⟩
theorem GOK.cut{j m:Nat}{Q:A1}:GOK (λv=>Bs id P m (rrV j Q m v)) id (P.map (·.2)) [(j,Q.map (·.2)),(m,[])]:=by
 have hj: ∀id' q,hit id (P.map (·.2)) [(j,Q.map (·.2)),(m,[])] id' q=false->id'≠m/\¬ (id'=j/\Bf Q q=true):=λid' q h=>⟨λe=>(Dp h).2 m [] (by simp) ⟨e,rfl⟩,(Dp h).2 j Q (by simp)⟩
 refine⟨Bg.comp (C4 _ _ _) (Dh _ _ _),λid' q off len h=>?_,λid' q i k h=>?_⟩
 ·simp [rrV,if_neg (hj _ _ h).2,Bs,if_neg (hj _ _ h).1,if_neg (Dp h).1]
 ·simp [rrV,if_neg (hj _ _ h).2,Bs,if_neg (hj _ _ h).1,if_neg (Dp h).1]
theorem Bg.tyV0{G:V->V}(hG:Bg G): ∀ (t:Ty) (x:t.T),∀v∈tyV t 0 x,G v=v
 | .int _,_,v,h=>by simp [tyV]at h;subst h;exact hG.c _
 | .bool,_,v,h=>by simp [tyV]at h;subst h;exact hG.c _
 | .str,_,v,h=>by simp [tyV]at h;subst h;exact hG.c _
 | .sl _,_,v,h=>by simp [tyV,List.mem_singleton]at h;subst h;exact hG.nd _ _ _ _ _
 | .ptr _,_,v,h=>by simp [tyV,List.mem_singleton]at h;subst h;exact hG.nd _ _ _ _ _
 | .unit,_,v,h=>by trivial
 | .pair a b,x,v,h=>by
  simp only [tyV,List.mem_append]at h;exact h.elim (hG.tyV0 a x.1 v) (hG.tyV0 b x.2 v)
 | .osl _,x,v,h=>by
  simp only [tyV,List.mem_singleton]at h;subst h;cases x with
  |none=>exact hG.dead
  |some xs=>exact hG.nd _ _ _ _ _
 | .clo g t,x,v,h=>by
  simp only [tyV,List.mem_singleton]at h;subst h;rw [hG.many]
  congr 1
  funext k
  by_cases hk:k<(tyV t 0 x).length
  ·rw [gDE,gEE hk]
   exact hG.tyV0 t x _ (List.getElem_mem hk)
  ·rw [gDE,List.getElem?_eq_none (by omega)];exact hG.dead
theorem Bg.clo{G:V->V}(hG:Bg G){g d:Nat}{u:Ty}{x:u.T}:G (cV (.clo g u) d x)=cV (.clo g u) d x:=hG.tyV0 (.clo g u) x _ (List.mem_singleton.2 rfl)
theorem Bg.osl{G:V->V}(hG:Bg G){d:Nat}{u:Ty}{x:Option (List u.T)}:G (cV (.osl u) d x)=cV (.osl u) d x:=by
 cases x with
 |none=>exact hG.dead
 |some xs=>exact hG.nd _ _ _ _ _
theorem Cl.kill_v{ks:List Nat}(hG:GOK G id ks j)(hr: ∀id' q,hit id ks j id' q=false->(Ag r' id' q).len=(Ag r id' q).len)(y:Cl):Az (G (y.v r)) ((y.kill id ks j).v r'):=by
 cases y with
 |dead=>exact Az.dead _
 |nil=>show Az (G (.c _)) (.c _);rw [hG.m.c];exact Az.refl _
 |nilp=>show Az (G (.c _)) (.c _);rw [hG.m.c];exact Az.refl _
 |nilf=>show Az (G (.c _)) (.c _);rw [hG.m.c];exact Az.refl _
 |c t d x=>
  show Az (G (cV t d x)) (cV t d x)
  have:G (cV t d x)=cV t d x:=by
   cases t with
   |sl t=>exact hG.m.nd _ _ _ _ _
   |ptr t=>exact hG.m.nd _ _ _ _ _
   |unit=>exact hG.m.dead
   |pair a b=>exact hG.m.dead
   |clo g u=>exact hG.m.clo
   |osl u=>exact hG.m.osl
   |_=>exact hG.m.c _
  rw [this];exact Az.refl _
 |rf id' q=>
  show Az (G (.rs id' q 0 (Ag r id' q).len)) ((bif hit id ks j id' q then Cl.dead else .rf id' q).v r');cases hb:hit id ks j id' q with
  |true=>exact Az.dead _
  |false=>
   rw [hG.rs _ _ _ _ hb];show Az _ (V.rs id' q 0 (Ag r' id' q).len);rw [hr _ _ hb];exact Az.refl _
 |rs id' q off len=>
  show Az (G (.rs id' q off len)) ((bif hit id ks j id' q then Cl.dead else .rs id' q off len).v r');cases hb:hit id ks j id' q with
  |true=>exact Az.dead _
  |false=>rw [hG.rs _ _ _ _ hb];exact Az.refl _
 |rp id' q i k=>
  show Az (G (.rp id' q i k)) ((bif hit id ks j id' q then Cl.dead else .rp id' q i k).v r');cases hb:hit id ks j id' q with
  |true=>exact Az.dead _
  |false=>rw [hG.rp _ _ _ _ hb];exact Az.refl _
theorem G_mk(hG:Bg G):G (Aj l)=Aj (l.map G):=by
 unfold Aj;rw [hG.many,List.length_map]
 congr 1
 funext k
 rw [Bv hG.dead]
theorem G_tup(hG:Bg G):G (Dx l)=Dx (l.map G):=by
 unfold Dx;rw [hG.many,List.length_map]
 congr 1
 funext k
 rw [Bv hG.dead]
theorem G_pk(hG:Bg G){t:Tg}:G (pkL t l)=pkL t (l.map G):=by
 unfold pkL;rw [hG.many,List.length_map]
 congr 1
 funext k
 rw [Bv hG.dead]
theorem Sl.kill_v{r r':List Ae}{G:V->V}{id:Nat}{ks:List Nat}{j:Mv}(hG:GOK G id ks j)(hr: ∀id' q,hit id ks j id' q=false->(Ag r' id' q).len=(Ag r id' q).len)(y:Sl):Az (G (y.v r)) ((y.kill id ks j).v r'):=by
 have agg: ∀l:List Cl,Az (G (Aj (l.map (Cl.v r)))) (Aj ((l.map (Cl.kill id ks j)).map (Cl.v r'))):=by
  intro l;rw [G_mk hG.m];refine Az.mk (by simp) λk _=>?_
  rw [List.map_map,List.map_map];exact BW hG.m.dead rfl (λy=>Cl.kill_v hG hr y) k
 cases y with
 |one c=>exact Cl.kill_v hG hr c
 |new l=>show Az (G (Br true _)) (Br true _);rw [show G (Br true (l.map Cl.v0))=Br true (l.map Cl.v0)from hG.m.nd _ _ _ _ _];exact Az.refl _
 |agg l=>exact agg l
 |pk t l=>
  show Az (G (pkL t (l.map (Cl.v r)))) (pkL t ((l.map (Cl.kill id ks j)).map (Cl.v r')));rw [G_pk hG.m];refine Az.pk (by simp) λk _=>?_
  rw [List.map_map,List.map_map];exact BW (f:=λy=>G (y.v r)) hG.m.dead rfl (λy=>Cl.kill_v hG hr y) k
 |tup l=>
  show Az (G (Dx _)) (Dx _);rw [G_tup hG.m];refine Az.tup (by simp) λk hk=>?_
  have hk:k<l.length:=by simpa using hk
  simp only [gDE,List.getElem?_map,gEE hk,Option.map_some,Option.getD_some];generalize l[k]=p;obtain⟨b,m⟩:=p;cases b with
  |true=>exact agg m
  |false=>
   cases m with
   |nil=>exact Az.dead _
   |cons y m=>exact Cl.kill_v hG hr y
def Mk(r:Ae)(q:A1):Option Ae:=match q with
 | [(i,k)]=>match r with
  | .obj false l=>r.setAt [] i k .dead
  | .arr false (.osl t) d xs=>bif Nat.beq k 0 then some (.arr false (.osl t) d (setX xs i none))else none
  |_=>none
 |_=>none
theorem JV{r r1:Ae}(h:Mk r q=some r1):Sub (upd q r.v .dead) r1.v/\∀q',pre (q.map (·.2)) q'=false->(r1.at' q').len=(r.at' q').len:=by
 unfold Mk at h;split at h
 case h_2=>cases h
 rename_i i k;split at h
 case h_3=>cases h
 ·exact⟨LA [] _ _ h,λq' hq=>NQ [] _ _ h q' hq⟩
 ·rename_i t d xs
  cases hk:Nat.beq k 0 with
  |false=>rw [hk]at h;cases h
  |true=>
   rw [hk]at h;cases h;have hk:=bqE hk;subst hk;constructor
   ·show Sub (upd [(i,0)] (arr true (Ty.osl t).w (tyV (.osl t) d) (Ty.osl t).dflt xs) .dead) (arr true (Ty.osl t).w (tyV (.osl t) d) (Ty.osl t).dflt (xs.set i none))
    unfold arr;rw [List.length_set];refine⟨_,rfl,λi' k' hi hk'=>?_⟩
    have hk0:k'=0:=by have:k'<1:=hk';omega
    subst hk0;by_cases hii:i'=i
    ·subst hii
     have e:(xs.set i' none).getD i' (Ty.osl t).dflt=none:=by simp [hi]
     show Sub (if i'=i'/\0=0 then V.dead else _) ((tyV (.osl t) d ((xs.set i' none).getD i' (Ty.osl t).dflt)).getD 0 .dead)
     rw [e,if_pos ⟨rfl,rfl⟩];exact Sub.refl _
    ·have e:(xs.set i none).getD i' (Ty.osl t).dflt=xs.getD i' (Ty.osl t).dflt:=by simp only [gDE,List.getElem?_set_ne (Ne.symm hii)]
     show Sub (if i'=i/\0=0 then V.dead else(tyV (.osl t) d (xs.getD i' (Ty.osl t).dflt)).getD 0 .dead) ((tyV (.osl t) d ((xs.set i none).getD i' (Ty.osl t).dflt)).getD 0 .dead)
     rw [e,if_neg (λh=>hii h.1)]
     exact Sub.refl _
   ·intro q' hq
    cases q' with
    |nil=>show(xs.set i none).length=xs.length;simp
    |cons a q'=>
     obtain⟨i1,k1⟩:=a;cases k1 with
     |zero=>simp [pre]at hq
     |succ k1=>
      rfl
def nrm:Ae->A1->Nat->Cl->Cl
 | .obj _ l,[],k,.nil=>match l.getD k .dead with
  | .c (.sl t) _ _=>.c (.sl t) (t.dep+1) []
  |_=>.nil
 |_,_,_,y=>y
theorem nrm_v{r:Ae}{y:Cl}:Sub y.v0 (nrm r p k y).v0:=by
 unfold nrm;split
 ·split
  ·exact .inr ⟨rfl,_,_,_,rfl⟩
  ·exact Sub.refl _
 ·exact Sub.refl _
def Om(id:Nat)(p:A1)(i k:Nat)(c:Cl)(r:List Ae):Option (List Ae×Mv):=match c with
 | .rf j []=>bif Nat.beq j id then none else match r.getD j .dead with
  | .arr false t d xs=>match(r.getD id .dead).setAt p i k (.c (.sl t) (d+1) xs)with
   |some r0=>some ((r.set id r0).set j .dead,[(j,[])])
   |none=>none
  |_=>none
 | .rf j (a::q)=>bif Nat.beq j id then none else match Ag r j (a::q)with
  | .arr false t d xs=>match Mk (r.getD j .dead) (a::q),(r.getD id .dead).setAt p i k (.c (.sl t) (d+1) xs)with
   |some r1,some r0=>some ((r.set j r1++ [Ae.dead]).set id r0,[(j,(a::q).map (·.2)),(r.length,[])])
   |_,_=>none
  |_=>none
 |y=>bif y.imm then(match(r.getD id .dead).setAt p i k (nrm (r.getD id .dead) p k y)with
  |some r0=>some (r.set id r0,[])
  |none=>none)else none
def Xo(id:Nat)(p:A1)(i:Nat):Nat->Nat->List Cl->St->Option St
 |_,_,[],s=>some s
 |0,_,_::_,_=>none
 |m+1,k,c::cs,s=>match Om id p i k c s.r with
  |some (r',j)=>Xo id p i m (k+1) (cs.map (Cl.kill id ((p++ [(i,k)]).map (·.2)) j)) ⟨λx=>(s.t x).kill id ((p++ [(i,k)]).map (·.2)) j,r'⟩
  |none=>none
def Iy(s:St):Option TI->Option Sl->Option Sl->Option St
 |some i,some (.one (.rp id p j k)),some y=>match y.cells with
  |some l=>bif Nat.beq l.length i.ty.w&&Nat.ble (k+i.ty.w) (Ag s.r id p).w&&(Ag s.r id p).live then Xo id p j l.length k l s else none
  |none=>none
 |_,_,_=>none
def XA{R:Type}(id:Nat)(s:St)(K:St->Option R):Option R:=match s.r.getD id .dead with
 | .arr ro t d xs=>Il (some xs) λys=>K ⟨s.t,s.r.set id (.arr ro t d ys)⟩
 |_=>K s
theorem Pt(id:Nat)(s:St)(K:St->Option R):XA id s K=K s:=by
 unfold XA;split
 ·rename_i ro t d xs h
  show K ⟨s.t,s.r.set id (.arr ro t d xs)⟩=K s;have e:s.r.set id (.arr ro t d xs)=s.r:=by
   apply List.ext_getElem?
   grind
  rw [e]
 rfl
def Pu{R:Type}(id:Nat)(s:St)(K:St->Option R):Option R:=bif Nat.ble 3 (s.r.getD id .dead).w then XA id s K else K s
theorem M6(id:Nat)(s:St)(K:St->Option R):Pu id s K=K s:=by
 unfold Pu;rw [Pt];simp
def Y4:Cl->List Nat
 | .rf id (_::_)=>[id]
 |_=>[]
def argIds:Option Sl->List Nat
 |some (.one y)=>Y4 y
 |some (.agg l)=>l.flatMap Y4
 |_=>[]
def Pv{R:Type}:List Nat->St->(St->Option R)->Option R
 | [],s,K=>K s
 |id::l,s,K=>Pu id s λs'=>Pv l s' K
theorem M7{R:Type}: ∀ (l:List Nat) (s:St) (K:St->Option R),Pv l s K=K s
 | [],_,_=>rfl
 |id::l,s,K=>by
  unfold Pv;rw [M6];exact M7 l s K
def Xm{R:Type}(id:Nat)(p:A1)(i:Nat):Nat->Nat->List Cl->St->(St->Option R)->Option R
 |_,_,[],s,K=>K s
 |0,_,_::_,_,_=>none
 |m+1,k,c::cs,s,K=>match Om id p i k c s.r with
  |some (r',j)=>XA id ⟨λx=>(s.t x).kill id ((p++ [(i,k)]).map (·.2)) j,r'⟩ λs'=>Xm id p i m (k+1) (cs.map (Cl.kill id ((p++ [(i,k)]).map (·.2)) j)) s' K
  |none=>none
theorem Pj{R:Type}{id:Nat}{p:A1}{i:Nat}{K:St->Option R}: ∀ (m k:Nat) (cs:List Cl) (s:St),Xm id p i m k cs s K=match Xo id p i m k cs s with
  |some s'=>K s'
  |none=>none
 |m,_,[],s=>by cases m<;>rfl
 |0,_,_::_,_=>rfl
 |m+1,k,c::cs,s=>by
  unfold Xm Xo;cases Om id p i k c s.r with
  |none=>rfl
  |some x=>
   simp [Pt];exact Pj m (k+1) _ _
def Ol{R:Type}(s:St)(ti:Option TI)(x v:Option Sl)(K:St->Option R):Option R:=match ti,x,v with
 |some i,some (.one (.rp id p j k)),some y=>bif Nat.ble 3 i.ty.w then(match y.cells with
  |some l=>bif Nat.beq l.length i.ty.w&&Nat.ble (k+i.ty.w) (Ag s.r id p).w&&(Ag s.r id p).live then Xm id p j l.length k l s K else none
  |none=>none)else(match Iy s ti x v with
  |some s'=>Pu id s' K
  |none=>none)
 |_,_,_=>match Iy s ti x v with
  |some s'=>K s'
  |none=>none
theorem Qn(s:St)(ti:Option TI)(x v:Option Sl)(K:St->Option R):Ol s ti x v K=match Iy s ti x v with
  |some s'=>K s'
  |none=>none:=by
 unfold Ol;split
 ·rename_i i id p j k y
  cases Nat.ble 3 i.ty.w with
  |false=>
   cases Iy s (some i) (some (.one (.rp id p j k))) (some y)with
   |none=>rfl
   |some s'=>exact M6 _ _ _
  |true=>
   show _=match(match y.cells with
    |some l=>bif Nat.beq l.length i.ty.w&&Nat.ble (k+i.ty.w) (Ag s.r id p).w&&(Ag s.r id p).live then Xo id p j l.length k l s else none
    |none=>none)with
    |some s'=>K s'
    |none=>none
   generalize y.cells=yc;cases yc with
   |none=>rfl
   |some l=>
    simp;generalize (Nat.beq l.length i.ty.w&&Nat.ble (k+i.ty.w) (Ag s.r id p).w&&(Ag s.r id p).live)=b;cases b with
    |false=>rfl
    |true=>
     exact Pj _ _ _ _
 rfl
theorem H7{r0:Ae}{x:V}(hs:Sub x r0.v)(i:Nat):Sub (((r.map Ae.v).set id x).getD i .dead) (((r.set id r0).map Ae.v).getD i .dead):=by
 rw [List.map_set];by_cases he:id=i
 ·by_cases hl:id<r.length
  ·grind
  ·rw [List.set_eq_of_length_le (by grind),List.set_eq_of_length_le (by grind)];exact Sub.refl _
 ·rw [Au he,Au he];exact Sub.refl _
theorem BJ(h:id'≠id):Ag (r.set id x) id' q=Ag r id' q:=by
 unfold Ag
 grind
theorem Cd(h:id<r.length):Ag (r.set id x) id q=x.at' q:=by
 unfold Ag
 grind
theorem U2{c:Cl}(h:Om id p i k c r=some (r',j))(cs:List V):
  ∃ (σ':List V) (G:V->V),Nu id p i k (c.v r) cs (r.map Ae.v) (λcs' σ2 G2=>cs'=cs.map G/\σ2=σ'/\G2=G)/\GOK G id ((p++ [(i,k)]).map (·.2)) j/\σ'.length=r'.length/\r.length<=r'.length/\
   (∀x,Sub (σ'.getD x .dead) ((r'.map Ae.v).getD x .dead))/\(∀id' q,hit id ((p++ [(i,k)]).map (·.2)) j id' q=false->(Ag r' id' q).len=(Ag r id' q).len):=by
 have lenOne: ∀ (y:Cl) (r0:Ae),(r.getD id .dead).setAt p i k y=some r0->∀id' q,¬ (id'=id/\pre ((p++ [(i,k)]).map (·.2)) q=true)->(Ag (r.set id r0) id' q).len=(Ag r id' q).len:=by
  intro y r0 hs id' q hn;by_cases he:id'=id
  ·subst he
   have hq:pre ((p++ [(i,k)]).map (·.2)) q=false:=by
    cases hp:pre ((p++ [(i,k)]).map (·.2)) q with
    |false=>rfl
    |true=>exact absurd ⟨rfl,hp⟩ hn
   by_cases hl:id'<r.length
   ·rw [Cd hl]
    exact NQ p _ _ hs q hq
   ·rw [List.set_eq_of_length_le (by omega)]
  ·rw [BJ he]
 have hitn: ∀ (j:Mv) id' q,hit id ((p++ [(i,k)]).map (·.2)) j id' q=false->¬ (id'=id/\pre ((p++ [(i,k)]).map (·.2)) q=true):=by
  intro j id' q hh ⟨h1,h2⟩;unfold hit at hh;rw [h1,Nat.beq_refl,h2]at hh;cases hh
 unfold Om at h;split at h
 ·rename_i j'
  cases hb:Nat.beq j' id with
  |true=>rw [hb]at h;cases h
  |false=>
   rw [hb]at h;have hne:j'≠id:=λe=>by rw [e,Nat.beq_refl]at hb;cases hb
   simp only [cond_false]at h;split at h
   case h_2=>cases h
   rename_i t d xs hj;split at h
   case h_2=>cases h
   rename_i r0 hs;cases h;refine⟨(((r.map Ae.v).set id (upd (p++ [(i,k)]) ((r.map Ae.v).getD id .dead) ((r.map Ae.v).getD j' .dead))).set j' .dead),Bs id (p++ [(i,k)]) j',?_,GOK.move,by simp,by simp,λx=>?_,λid' q hq=>?_⟩
   ·show Nu id p i k (V.rs j' [] 0 (Ag r j' []).len) cs _ _
    unfold Nu;have e:Ag r j' []= .arr false t d xs:=hj
    have e2:sub [] ((r.map Ae.v).getD j' .dead)=arr true t.w (tyV t d) t.dflt xs:=by
     show(r.map Ae.v).getD j' .dead=_;rw [AG,hj];rfl
    simp only [e2,e,arr];rw [if_neg (λh=>hne h.1)]
    refine⟨⟨?_,?_,hne⟩,?_,?_,?_⟩<;>first|rfl|trivial
   ·rw [List.map_set]
    by_cases hx:j'=x
    ·subst hx
     have hl:j'<r.length:=by
      rcases Nat.lt_or_ge j' r.length with h|h
      ·exact h
      ·rw [gDE,List.getElem?_eq_none h]at hj;cases hj
     rw [Aw (by simpa using hl),Aw (by simpa using hl)];exact Sub.refl _
    ·rw [Au hx,Au hx]
     refine H7 ?_ x;have:=LA p _ _ hs;rw [AG,AG,hj];exact this
   ·have h1:id'≠j':=λe=>(Dp hq).2 j' [] (List.mem_singleton.2 rfl) ⟨e,rfl⟩
    rw [BJ h1];exact lenOne _ _ hs id' q (hitn _ _ _ hq)
 ·rename_i j' a q1
  cases hb:Nat.beq j' id with
  |true=>rw [hb]at h;cases h
  |false=>
   rw [hb]at h;have hne:j'≠id:=λe=>by rw [e,Nat.beq_refl]at hb;cases hb
   simp only [cond_false]at h;split at h
   case h_2=>cases h
   rename_i t d xs hj;split at h
   case h_2=>cases h
   rename_i r1 r0 hcut hs;cases h;obtain⟨Q,hQ⟩: ∃Q,Q=a::q1:=⟨_,rfl⟩;have hl:j'<r.length:=by
    rcases Nat.lt_or_ge j' r.length with h|h
    ·exact h
    ·unfold Ag at hj
     rw [gDE,List.getElem?_eq_none h]at hj;have:=DQ (a::q1);simp only [Option.getD_none]at hj;rw [this]at hj;cases hj
   have hid:id<r.length:=by
    rcases Nat.lt_or_ge id r.length with h|h
    ·exact h
    ·rw [gDE,List.getElem?_eq_none h]at hs
     exact absurd rfl (LB hs)
   obtain⟨hcv,hcl⟩:=JV hcut;have hv1:(V.nd true true t.w xs.length (λi k=>((tyV t d (xs.getD i t.dflt)).getD k .dead)))=arr true t.w (tyV t d) t.dflt xs:=rfl
   have hnode:sub (a::q1) ((r.map Ae.v).getD j' .dead)=arr true t.w (tyV t d) t.dflt xs:=by
    rw [A4 (by rw [hj];simp),hj];rfl
   refine⟨(((r.map Ae.v).set j' (upd (a::q1) ((r.map Ae.v).getD j' .dead) .dead)++ [arr true t.w (tyV t d) t.dflt xs]).set id (upd (p++ [(i,k)]) ((r.map Ae.v).getD id .dead) (arr true t.w (tyV t d) t.dflt xs))).set (r.map Ae.v).length .dead,
    (λv=>Bs id (p++ [(i,k)]) (r.map Ae.v).length (rrV j' (a::q1) (r.map Ae.v).length v)),?_,?_,by simp,by simp,λx=>?_,λid' q hq=>?_⟩
   ·show Nu id p i k (V.rs j' (a::q1) 0 (Ag r j' (a::q1)).len) cs _ _
    unfold Nu;simp only [hnode,hj,arr];rw [if_neg (λh=>hne h.1)]
    refine⟨⟨?_,?_,hne⟩,?_,?_,?_⟩<;>first|rfl|trivial|(rw [List.map_map];rfl)
   ·rw [List.length_map];exact GOK.cut
   ·have e0:(((r.set j' r1++ [Ae.dead]).set id r0).map Ae.v)=((r.map Ae.v).set j' r1.v++ [V.dead]).set id r0.v:=by
     rw [List.map_set,List.map_append,List.map_set];rfl
    rw [e0];by_cases hx:x=r.length
    ·subst hx
     have:((((r.map Ae.v).set j' (upd (a::q1) ((r.map Ae.v).getD j' .dead) .dead)++ [arr true t.w (tyV t d) t.dflt xs]).set id (upd (p++ [(i,k)]) ((r.map Ae.v).getD id .dead) (arr true t.w (tyV t d) t.dflt xs))).set (r.map Ae.v).length .dead).getD r.length .dead= .dead:=by
      have e:(r.map Ae.v).length=r.length:=List.length_map ..;rw [e];exact Aw (by simp)
     rw [this]
     have:(((r.map Ae.v).set j' r1.v++ [V.dead]).set id r0.v).getD r.length .dead= .dead:=by
      rw [Au (by omega)]
      simp [gAR]
     rw [this];exact Sub.refl _
    ·rw [Au (by simpa using Ne.symm hx)]
     by_cases hxi:id=x
     ·subst hxi
      rw [Aw (by simp;omega),Aw (by simp;omega)]
      have:=LA p _ _ hs;rw [AG];exact this
     ·rw [Au hxi,Au hxi]
      by_cases hxl:x<r.length
      ·rw [AI (by simpa using hxl),AI (by simpa using hxl)]
       by_cases hxj:j'=x
       ·subst hxj
        rw [Aw (by simpa using hl),Aw (by simpa using hl),AG]
        exact hcv
       ·rw [Au hxj,Au hxj];exact Sub.refl _
      ·have e1: ∀ (A:List V) (v:V),A.length=r.length->(A++ [v]).getD x .dead= .dead:=by
        intro A v hA;rw [gDE,List.getElem?_eq_none (by simp;omega)];rfl
       rw [e1 _ _ (by simp),e1 _ _ (by simp)];exact Sub.refl _
   ·have h1:=(Dp hq).2 j' (a::q1) (by simp)
    have h2:=(Dp hq).2 r.length [] (by simp)
    have h2:id'≠r.length:=λe=>h2 ⟨e,rfl⟩
    have hpre:id'=j'->pre ((a::q1).map (·.2)) q=false:=by
     intro e;have:=hq;unfold hit at this;rw [Bool.or_eq_false_iff]at this;have:=(List.any_eq_false.1 this.2) (j',(a::q1).map (·.2)) (by simp)
     rw [e,Nat.beq_refl,Bool.true_and]at this;simpa using this
    have eN: ∀ (A:List Ae) (y:Ae),A.length=r.length->id'<r.length->Ag (A++ [y]) id' q=Ag A id' q:=by
     intro A y hA hlt;unfold Ag;rw [gDE,gAL (by omega),<-gDE]
    by_cases hxl:id'<r.length
    ·by_cases hxi:id'=id
     ·subst hxi
      have h3:=lenOne _ _ hs id' q (hitn _ _ _ hq);rw [Cd (by simpa using hxl)]at h3
      rw [Cd (by simp;omega)]
      exact h3
     ·rw [BJ hxi,eN _ _ (by simp) hxl]
      by_cases hxj:id'=j'
      ·subst hxj
       rw [Cd hl];exact hcl q (hpre rfl)
      ·rw [BJ hxj]
    ·have hd: ∀A:List Ae,A.length=r.length+1->Ag A id' q=(Ae.dead).at' q:=by
      intro A hA;unfold Ag;rw [gDE,List.getElem?_eq_none (by omega)];rfl
     rw [hd _ (by simp)]
     unfold Ag;rw [gDE,List.getElem?_eq_none (by omega)];rfl
 ·rename_i hy
  cases hb:c.imm with
  |false=>rw [hb]at h;cases h
  |true=>
   rw [hb]at h;simp only [cond_true]at h;split at h
   case h_2=>cases h
   rename_i r0 hs;cases h;obtain⟨_,hv0⟩:=OW (r:=r) hb
   have sub: ∀x,Sub (((r.map Ae.v).set id (upd (p++ [(i,k)]) ((r.map Ae.v).getD id .dead) (c.v r))).getD x .dead) (((r.set id r0).map Ae.v).getD x .dead):=λx=>by
    refine H7 ?_ x;rw [hv0,AG];exact Hu nrm_v p _ _ hs
   have cc: ∀v,c.v r= .c v->∃ (σ':List V) (G:V->V),Nu id p i k (c.v r) cs (r.map Ae.v) (λcs' σ2 G2=>cs'=cs.map G/\σ2=σ'/\G2=G)/\GOK G id ((p++ [(i,k)]).map (·.2)) []/\σ'.length=(r.set id r0).length/\r.length<=(r.set id r0).length/\
     (∀x,Sub (σ'.getD x .dead) (((r.set id r0).map Ae.v).getD x .dead))/\(∀id' q,hit id ((p++ [(i,k)]).map (·.2)) [] id' q=false->(Ag (r.set id r0) id' q).len=(Ag r id' q).len):=by
    intro v hv;cases hN:isN (Cq (r.map Ae.v) id p i k)with
    |true=>
     refine⟨_,AY id (p++ [(i,k)]),?_,GOK.kill,?_,by simp,sub,λid' q hq=>lenOne _ _ hs id' q (hitn _ _ _ hq)⟩
     ·rw [hv];unfold Nu;simp only [hN];refine⟨?_,?_,?_⟩<;>first|rfl|trivial
     ·simp
    |false=>
     refine⟨_,λv=>v,?_,GOK.idf,?_,by simp,sub,λid' q hq=>lenOne _ _ hs id' q (hitn _ _ _ hq)⟩
     ·rw [hv];unfold Nu;simp only [hN];refine⟨?_,?_,?_⟩<;>first|rfl|trivial|simp
     ·simp
   have cn: ∀s sz n f,c.v r= .nd s false sz n f->∃ (σ':List V) (G:V->V),Nu id p i k (c.v r) cs (r.map Ae.v) (λcs' σ2 G2=>cs'=cs.map G/\σ2=σ'/\G2=G)/\GOK G id ((p++ [(i,k)]).map (·.2)) []/\σ'.length=(r.set id r0).length/\r.length<=(r.set id r0).length/\
     (∀x,Sub (σ'.getD x .dead) (((r.set id r0).map Ae.v).getD x .dead))/\(∀id' q,hit id ((p++ [(i,k)]).map (·.2)) [] id' q=false->(Ag (r.set id r0) id' q).len=(Ag r id' q).len):=by
    intro s sz n f hv;refine⟨_,AY id (p++ [(i,k)]),?_,GOK.kill,?_,by simp,sub,λid' q hq=>lenOne _ _ hs id' q (hitn _ _ _ hq)⟩
    ·rw [hv];unfold Nu;exact⟨rfl,rfl,rfl⟩
    ·simp
   cases c with
   |nil=>exact cc _ rfl
   |nilp=>exact cc _ rfl
   |nilf=>exact cc _ rfl
   |c t d x=>
    cases t with
    |int k=>exact cc _ rfl
    |bool=>exact cc _ rfl
    |str=>exact cc _ rfl
    |sl t=>cases d with
     |zero=>exact cn _ _ _ _ rfl
     |succ d=>cases hb
    |ptr t=>cases d with
     |zero=>exact cn _ _ _ _ rfl
     |succ d=>cases hb
    |unit=>cases hb
    |clo g u=>cases hb
    |osl u=>cases hb
    |pair a b=>cases hb
   |_=>cases hb
section mem
variable {P:Program} {C:Ctx} {D:Nat->Prop}
theorem Qo{N:Nat}{id:Nat}{p:A1}{i k0:Nat}{ct:List Value}{b0 ofs0:Nat}:
  ∀ (m:Nat) (cs:List Cl) (ccs:List Value) (j:Nat) (s s':St) (w:World) (ρ:Nat->Value) (F:Nat->Nat->Prop),
  CR C s.den.σ ((List.range N).map s.den.t++ .rp id p i k0::cs.map (Cl.v s.r)) (ct++ .pointer (some ⟨b0,ofs0+k0,none⟩)::ccs).toArray w D ρ F->ct.length=N->(∀x,N<=x->s.den.t x= .dead)->ccs.length=cs.length->k0+j+cs.length<=AZ s.den.σ id p->
  Xo id p i m (k0+j) cs s=some s'->
  ∃w',(storeCells ⟨b0,ofs0+k0,none⟩ ccs j).run P w= .ok () w'/\(∀x,N<=x->s'.den.t x= .dead)/\Xc C s'.den.σ ((List.range N).map s'.den.t) ct.toArray w':=by
 intro m
 induction m with
 |zero=>
  intro cs ccs j s s' w ρ F hcr hl hdd hlc _ h;cases cs with
  |nil=>
   cases h;cases ccs with
   |cons=>simp at hlc
   |nil=>exact⟨w,rfl,hdd,D,ρ,F,hcr.left (by simpa using hl)⟩
  |cons c cs=>cases h
 |succ m ih=>
  intro cs ccs j s s' w ρ F hcr hl hdd hlc hsz h;cases cs with
  |nil=>
   cases h;cases ccs with
   |cons=>simp at hlc
   |nil=>exact⟨w,rfl,hdd,D,ρ,F,hcr.left (by simpa using hl)⟩
  |cons c cs=>
   cases ccs with
   |nil=>simp at hlc
   |cons cx ccs=>
    simp only [List.length_cons]at hsz;unfold Xo at h;split at h
    case h_2=>cases h
    rename_i r' mv h1;obtain⟨σ',G,hput,hG,hσl,hrl,hsub,hlen⟩:=U2 h1 (cs.map (Cl.v s.r));obtain⟨G2,σ2,b,off,ρ1,F1,⟨y,hy⟩,hfz,h1c,⟨ofs,had,hoff⟩,hGm,⟨hcs,hσ2,hGG⟩,hns,hcr1⟩:=Ic hcr (by simpa using hl) (by omega) hput
    subst hσ2;subst hGG;simp only [Value.pointer.injEq,Option.some.injEq,Addr.mk.injEq,and_true]at had;obtain⟨rfl,had⟩:=had;obtain rfl:ofs0=ofs:=by omega
    -- the typed state
    obtain⟨ks,hks⟩: ∃ks,ks=((p++ [(i,k0+j)]).map (·.2)):=⟨_,rfl⟩
    rw [<-hks]at h hG hlen;obtain⟨s1,hs1⟩: ∃s1:St,s1=⟨λx=>(s.t x).kill id ks mv,r'⟩:=⟨_,rfl⟩
    rw [<-hs1]at h;obtain⟨cs1,hcs1⟩: ∃cs1,cs1=cs.map (Cl.kill id ks mv):=⟨_,rfl⟩;rw [<-hcs1]at h;have hst:s1.t=λx=>(s.t x).kill id ks mv:=by rw [hs1]
    have hsr:s1.r=r':=by rw [hs1]
    have hcr2:CR C s1.den.σ ((List.range N).map s1.den.t++ .rp id p i k0::cs1.map (Cl.v s1.r)) (ct++ .pointer (some ⟨b0,ofs0+k0,none⟩)::ccs).toArray (w.setCell ⟨b0,off,none⟩ cx) D ρ1 F1:=by
     refine hcr1.sub (by show(s1.r.map Ae.v).length=_;rw [List.length_map,hσl,hsr]) (λx _=>by show Sub _ ((s1.r.map Ae.v).getD x .dead);rw [hsr];exact hsub x) (by rw [hcs1];simp) λx hx=>?_
     by_cases hxN:x<N
     ·rw [AI (by simpa using hxN),AI (by simpa using hxN),List.map_map]
      have e1:((List.range N).map (G2∘s.den.t)).getD x .dead=G2 (s.den.t x):=by simp [hxN]
      have e2:((List.range N).map s1.den.t).getD x .dead=((s.t x).kill id ks mv).v r':=by
       rw [A5 hxN];show(s1.t x).v s1.r=_;rw [hst,hsr]
      rw [e1,e2];exact Sl.kill_v hG hlen _
     ·obtain⟨l,rfl⟩: ∃l,x=N+l:=⟨x-N,by omega⟩
      have e1: ∀ (A B:List V),A.length=N->(A++B).getD (N+l) .dead=B.getD l .dead:=by
       intro A B hA;simp only [gDE];rw [gAR (by omega),hA,Nat.add_sub_cancel_left]
      rw [e1 _ _ (by simp),e1 _ _ (by simp)]
      cases l with
      |zero=>exact Az.refl _
      |succ l=>
       simp only [List.getD_cons_succ];rw [hcs1,hsr,List.map_map,List.map_map];exact BW (f:=λy=>G2 (y.v s.r)) (g:=λy=>(y.kill id ks mv).v r') hG.m.dead rfl (λy=>Cl.kill_v hG hlen y) l
    have hdd2: ∀x,N<=x->s1.den.t x= .dead:=by
     intro x hx;have h1:=Sl.kill_v hG hlen (s.t x);have h2:(s.t x).v s.r= .dead:=hdd x hx;rw [h2,hG.m.dead]at h1;show(s1.t x).v s1.r=_;rw [hst,hsr];rcases h1 with h|h
     ·exact h
     ·exact h
    have hnsz:k0+(j+1)+cs1.length<=AZ s1.den.σ id p:=by
     have h0:=hns
     -- the size is that of the small machine's tree
     have h2:AZ s1.den.σ id p=AZ σ2 id p:=by
      have hp0:Av σ2 ρ1 (w.setCell ⟨b0,off,none⟩ cx) (.rp id p i k0) (.pointer (some ⟨b0,ofs0+k0,none⟩)):=by
       have h1:=hcr1.tm N (by simp)
       have e1:(((List.range N).map s.den.t).map G2++V.rp id p i k0::(cs.map (Cl.v s.r)).map G2).getD N .dead= .rp id p i k0:=by
        simp only [gDE];rw [gAR (by simp)]
        simp
       have e2:(ct++Value.pointer (some ⟨b0,ofs0+k0,none⟩)::ccs).toArray.getD N undef= .pointer (some ⟨b0,ofs0+k0,none⟩):=by simp [<-hl]
       rw [e1,e2]at h1;exact h1.1
      obtain⟨hid,s1',sz,n,f,b1,o1,cap,ha,_⟩:=hp0;obtain⟨f',ha'⟩:=At.sub' (hsub id) ha;have e0:s1.den.σ=r'.map Ae.v:=by show s1.r.map Ae.v=_;rw [hsr]
      rw [e0];unfold AZ;rw [<-At.sub ha,<-At.sub ha']
     rw [h2,h0,hcs1,List.length_map];omega
    have hlc':ccs.length=cs1.length:=by rw [hcs1,List.length_map];simpa using hlc
    rw [Nat.add_assoc k0 j 1]at h;clear hks hs1 hcs1;obtain⟨w2,hrun,hd2,hcr3⟩:=ih cs1 ccs (j+1) s1 s' _ ρ1 F1 hcr2 hl hdd2 hlc' hnsz h;refine⟨w2,?_,hd2,hcr3⟩;have ea:(⟨b0,ofs0+k0,none⟩:Addr).add j=⟨b0,off,none⟩:=by rw [A2 rfl,hoff,<-Nat.add_assoc]
    simp only [storeCells,Sem.run_bind,ea];rw [run_store P w _ cx .plain h1c,hy];simp only [hfz,Bool.false_eq_true,if_false];exact hrun
end mem
end Go.Ve

