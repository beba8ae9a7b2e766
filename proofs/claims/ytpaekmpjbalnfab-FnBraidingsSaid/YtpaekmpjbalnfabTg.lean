/- The typed machine: new trees get their numbers; one quiet operation. -/
import Derived.Test.YtpaekmpjbalnfabTd
import Derived.Test.YtpaekmpjbalnfabVu
import Derived.Test.YtpaekmpjbalnfabVy
namespace Go.Ve
def Cl.prom(m0 m:Nat):Cl->Cl×List Ae
 | .c (.sl t) (d+1) xs=>(.rf m [],[.arr false t d xs])
 | .c (.ptr t) (d+1) x=>bif Nat.blt 0 t.w then(.rp m [] 0 0,[.obj false (Ax t d x)])else(.dead,[])
 | .c (.osl t) (d+1) x=>match x with
  |some xs=>(.rf m [],[.arr false t d xs])
  |none=>(.dead,[])
 |y=>(y.chk m0,[])
def B5(m0:Nat):Nat->List Cl->List Cl×List Ae
 |_,[]=>([],[])
 |m,y::l=>((y.prom m0 m).1::(B5 m0 (m+(y.prom m0 m).2.length) l).1,(y.prom m0 m).2++(B5 m0 (m+(y.prom m0 m).2.length) l).2)
def In(m0 m:Nat)(p:Bool×List Cl):(Bool×List Cl)×List Ae:=
 bif p.1 then((true,(B5 m0 m p.2).1),(B5 m0 m p.2).2)else((false,[((p.2.getD 0 .dead).prom m0 m).1]),((p.2.getD 0 .dead).prom m0 m).2)
def Dv(m0:Nat):Nat->List (Bool×List Cl)->List (Bool×List Cl)×List Ae
 |_,[]=>([],[])
 |m,p::l=>((In m0 m p).1::(Dv m0 (m+(In m0 m p).2.length) l).1,(In m0 m p).2++(Dv m0 (m+(In m0 m p).2.length) l).2)
def Sl.prom(m:Nat):Sl->Sl×List Ae
 | .one y=>(.one (y.prom m m).1,(y.prom m m).2)
 | .new l=>bif Nat.blt 0 l.length then(.one (.rp m [] 0 0),[.obj false l])else(.one .dead,[])
 | .agg l=>(.agg (B5 m m l).1,(B5 m m l).2)
 | .pk t l=>(.pk t (B5 m m l).1,(B5 m m l).2)
 | .tup l=>(.tup (Dv m m l).1,(Dv m m l).2)
def Has(r':List Ae)(m:Nat)(new:List Ae):Prop:=∀j,j<new.length->r'.getD (m+j) .dead=new.getD j .dead
theorem Has.left{r':List Ae}{m:Nat}{a b:List Ae}(h:Has r' m (a++b)):Has r' m a:=fun j hj=>by
 rw [h j (by simp;omega),gDE,gAL hj,<-gDE]
theorem Has.right{r':List Ae}{m:Nat}{a b:List Ae}(h:Has r' m (a++b)):Has r' (m+a.length) b:=fun j hj=>by
 have:=h (a.length+j) (by simp;omega)
 rw [<-Nat.add_assoc]at this;rw [this,gDE,gAR (by omega),<-gDE,Nat.add_sub_cancel_left]
theorem Ug{v:V}(h:AS v=false)(hm: ∀t n f,v≠.many t n f){m:Nat}:Go.Ve.prom v m=(v,[]):=by
 cases v with
 |nd s own sz n f=>cases own with
  |true=>cases h
  |false=>cases s<;>rfl
 |many t n f=>exact absurd rfl (hm t n f)
 |_=>rfl
theorem XZ{f:Nat->V}{n m:Nat}(h: ∀k m,Go.Ve.prom (f k) m=(f k,[])):BL (fun k=>Go.Ve.prom (f k)) n m=((List.range n).map f,[]):=by
 induction n with
 |zero=>rfl
 |succ n ih=>
  show((BL _ n m).1++ [(Go.Ve.prom (f n) _).1],(BL _ n m).2++(Go.Ve.prom (f n) _).2)=_;rw [ih,h,List.range_succ,List.map_append];rfl
theorem HC: ∀ (t:Ty) (x:t.T),∀v∈tyV t 0 x,∀m,Go.Ve.prom v m=(v,[])
 | .int _,_,v,h,m=>by simp [tyV]at h;subst h;rfl
 | .bool,_,v,h,m=>by simp [tyV]at h;subst h;rfl
 | .str,_,v,h,m=>by simp [tyV]at h;subst h;rfl
 | .sl _,_,v,h,m=>by simp only [tyV,List.mem_singleton]at h;subst h;rfl
 | .ptr _,_,v,h,m=>by simp only [tyV,List.mem_singleton]at h;subst h;rfl
 | .unit,_,v,h,m=>by simp [tyV]at h
 | .pair a b,x,v,h,m=>by
  simp only [tyV,List.mem_append]at h;exact h.elim (fun h=>HC a x.1 v h m) fun h=>HC b x.2 v h m
 | .osl _,x,v,h,m=>by
  simp only [tyV,List.mem_singleton]at h;subst h;cases x<;>rfl
 | .clo g t,x,v,h,m=>by
  simp only [tyV,List.mem_singleton]at h;subst h
  have hk: ∀k m,Go.Ve.prom ((tyV t 0 x).getD k .dead) m=((tyV t 0 x).getD k .dead,[]):=by
   intro k m;by_cases hk:k<(tyV t 0 x).length
   ·rw [gDE,gEE hk]
    exact HC t x _ (List.getElem_mem hk) m
   ·rw [gDE,List.getElem?_eq_none (by omega)];rfl
  show(V.many (.cl g) t.w fun k=>(BL (fun k=>Go.Ve.prom ((tyV t 0 x).getD k .dead)) t.w m).1.getD k .dead,(BL (fun k=>Go.Ve.prom ((tyV t 0 x).getD k .dead)) t.w m).2)=_
  rw [XZ hk]
  congr 2
  funext k
  by_cases hk:k<t.w
  ·simp [hk]
  ·have:(tyV t 0 x).length<=k:=by rw [AA];omega
   simp only [gDE];rw [List.getElem?_eq_none (by simpa using Nat.le_of_not_lt hk),List.getElem?_eq_none this]
theorem Nw{l:List V}{m:Nat}:Go.Ve.prom (Bk true l) m=if 0<l.length then(.rp m [] 0 0,[Bk true l])else(.dead,[]):=rfl
theorem Cl.prom_v{r r':List Ae}(hr: ∀id,id<r.length->r'.getD id .dead=r.getD id .dead)(y:Cl)(m:Nat)(hn:Has r' m (y.prom r.length m).2):
  Ay (Go.Ve.prom (y.v r) m).1 ((y.prom r.length m).1.v r')/\(Go.Ve.prom (y.v r) m).2=(y.prom r.length m).2.map Ae.v:=by
 have plain: ∀y:Cl,y.own=false->(∀g u d x,y≠.c (.clo g u) d x)->(y.prom r.length m)=(y.chk r.length,[])->Ay (Go.Ve.prom (y.v r) m).1 ((y.prom r.length m).1.v r')/\(Go.Ve.prom (y.v r) m).2=(y.prom r.length m).2.map Ae.v:=by
  intro y ho hne he
  rw [he,Ug (by rw [Cl.own_v,ho]) (by
   cases y with
   |c t d x=>cases t<;>first|exact absurd rfl (hne _ _ _ _)|(intro _ _ _ h;cases h;done)|(intro _ _ _ h;cases x<;>cases h)
   |_=>intro _ _ _ h;cases h)]
  exact⟨Cl.chk_v hr y,rfl⟩
 cases y with
 |c t d x=>
  cases t with
  |clo g u=>
   have e:Go.Ve.prom (cV (.clo g u) d x) m=(cV (.clo g u) d x,[]):=HC (.clo g u) x _ (List.mem_singleton.2 rfl) m;show Ay (Go.Ve.prom (cV (.clo g u) d x) m).1 _/\(Go.Ve.prom (cV (.clo g u) d x) m).2=_;rw [e];exact⟨Ay.refl _,rfl⟩
  |sl t=>cases d with
   |zero=>exact plain _ rfl (by intro _ _ _ _ h;cases h) rfl
   |succ d=>
    have h0:r'.getD m .dead= .arr false t d x:=hn 0 Nat.one_pos;refine⟨?_,rfl⟩;show Ay (V.rs m [] 0 x.length) (V.rs m [] 0 (Ag r' m []).len);unfold Ag;rw [h0];exact Ay.refl _
  |osl t=>cases d with
   |zero=>exact plain _ rfl (by intro _ _ _ _ h;cases h) rfl
   |succ d=>
    cases x with
    |none=>exact⟨Ay.refl _,rfl⟩
    |some xs=>
     have h0:r'.getD m .dead= .arr false t d xs:=hn 0 Nat.one_pos;refine⟨?_,rfl⟩;show Ay (V.rs m [] 0 xs.length) (V.rs m [] 0 (Ag r' m []).len);unfold Ag;rw [h0];exact Ay.refl _
  |ptr t=>cases d with
   |zero=>exact plain _ rfl (by intro _ _ _ _ h;cases h) rfl
   |succ d=>
    show Ay (Go.Ve.prom (Bk true (tyV t d x)) m).1 _/\(Go.Ve.prom (Bk true (tyV t d x)) m).2=_;rw [Nw];show Ay _ ((bif Nat.blt 0 t.w then(Cl.rp m [] 0 0,[Ae.obj false (Ax t d x)])else(.dead,[])).1.v r')/\_=((bif Nat.blt 0 t.w then(Cl.rp m [] 0 0,[Ae.obj false (Ax t d x)])else(.dead,[])).2).map Ae.v;cases hb:Nat.blt 0 t.w with
    |true=>
     rw [if_pos (by rw [AA];exact Qv hb)]
     refine⟨Ay.refl _,?_⟩;show _= [Bk true ((Ax t d x).map Cl.v0)];rw [BZ]
    |false=>
     rw [if_neg (fun h=>by rw [AA]at h;rw [show Nat.blt 0 t.w=true from Nat.ble_eq_true_of_le h]at hb;cases hb)]
     exact⟨Ay.refl _,rfl⟩
  |_=>exact plain _ rfl (by intro _ _ _ _ h;cases h) rfl
 |_=>exact plain _ rfl (by intro _ _ _ _ h;cases h) rfl
theorem I1{r r':List Ae}(hr: ∀id,id<r.length->r'.getD id .dead=r.getD id .dead): ∀ (l:List Cl) (m:Nat),Has r' m (B5 r.length m l).2->
  (Cc (l.map (Cl.v r)) m).1.length=((B5 r.length m l).1.map (Cl.v r')).length/\(∀k,Ay ((Cc (l.map (Cl.v r)) m).1.getD k .dead) (((B5 r.length m l).1.map (Cl.v r')).getD k .dead))/\(Cc (l.map (Cl.v r)) m).2=(B5 r.length m l).2.map Ae.v
 | [],m,_=>⟨rfl,fun k=>Ay.refl _,rfl⟩
 |y::l,m,hn=>by
  obtain⟨h1,h2⟩:=Cl.prom_v hr y m hn.left;have e:(Go.Ve.prom (y.v r) m).2.length=(y.prom r.length m).2.length:=by rw [h2,List.length_map]
  obtain⟨g1,g2,g3⟩:=I1 hr l (m+(y.prom r.length m).2.length) hn.right;rw [List.map_cons,KE,e];refine⟨by simp only [B5,List.map_cons,List.length_cons];exact congrArg (· +1) g1,fun k=>?_,?_⟩
  ·cases k with
   |zero=>exact h1
   |succ k=>exact g2 k
  ·show _++_=(_++_:List Ae).map Ae.v
   rw [List.map_append,h2,g3]
theorem ZW{r r':List Ae}(hr: ∀id,id<r.length->r'.getD id .dead=r.getD id .dead)(p:Bool×List Cl)(m:Nat)(hn:Has r' m (In r.length m p).2):
  Ay (Go.Ve.prom (if p.1 then Ai (p.2.map (Cl.v r))else(p.2.map (Cl.v r)).getD 0 .dead) m).1 (if(In r.length m p).1.1 then Ai ((In r.length m p).1.2.map (Cl.v r'))else((In r.length m p).1.2.map (Cl.v r')).getD 0 .dead)/\
  (Go.Ve.prom (if p.1 then Ai (p.2.map (Cl.v r))else(p.2.map (Cl.v r)).getD 0 .dead) m).2=(In r.length m p).2.map Ae.v:=by
 obtain⟨b,l⟩:=p;cases b with
 |true=>
  obtain⟨h1,h2,h3⟩:=I1 hr l m hn;show Ay (Go.Ve.prom (Ai _) m).1 (Ai ((B5 r.length m l).1.map (Cl.v r')))/\(Go.Ve.prom (Ai _) m).2=_;rw [VY];exact⟨Ay.mk h1 fun k _=>h2 k,h3⟩
 |false=>
  show Ay (Go.Ve.prom ((l.map (Cl.v r)).getD 0 .dead) m).1 (((l.getD 0 .dead).prom r.length m).1.v r')/\(Go.Ve.prom ((l.map (Cl.v r)).getD 0 .dead) m).2=_;rw [AB (f:=Cl.v r) (a:=.dead) rfl];exact Cl.prom_v hr _ m hn
theorem PQ{r r':List Ae}(hr: ∀id,id<r.length->r'.getD id .dead=r.getD id .dead): ∀ (l:List (Bool×List Cl)) (m:Nat),Has r' m (Dv r.length m l).2->
  (Cc (l.map fun p=>if p.1 then Ai (p.2.map (Cl.v r))else(p.2.map (Cl.v r)).getD 0 .dead) m).1.length=(Dv r.length m l).1.length/\
  (∀k,Ay ((Cc (l.map fun p=>if p.1 then Ai (p.2.map (Cl.v r))else(p.2.map (Cl.v r)).getD 0 .dead) m).1.getD k .dead) (((Dv r.length m l).1.map fun p=>if p.1 then Ai (p.2.map (Cl.v r'))else(p.2.map (Cl.v r')).getD 0 .dead).getD k .dead))/\
  (Cc (l.map fun p=>if p.1 then Ai (p.2.map (Cl.v r))else(p.2.map (Cl.v r)).getD 0 .dead) m).2=(Dv r.length m l).2.map Ae.v
 | [],m,_=>⟨rfl,fun k=>Ay.refl _,rfl⟩
 |p::l,m,hn=>by
  obtain⟨h1,h2⟩:=ZW hr p m hn.left;have e:=congrArg List.length h2;rw [List.length_map]at e;obtain⟨g1,g2,g3⟩:=PQ hr l (m+(In r.length m p).2.length) hn.right;rw [List.map_cons,KE,e];refine⟨by simp only [Dv,List.length_cons];exact congrArg (· +1) g1,fun k=>?_,?_⟩
  ·cases k with
   |zero=>exact h1
   |succ k=>exact g2 k
  ·show _++_=(_++_:List Ae).map Ae.v
   rw [List.map_append,h2,g3]
theorem Sl.prom_v{r:List Ae}(y:Sl):Ay (Go.Ve.prom (y.v r) r.length).1 ((y.prom r.length).1.v (r++(y.prom r.length).2))/\(Go.Ve.prom (y.v r) r.length).2=(y.prom r.length).2.map Ae.v:=by
 have hr: ∀new:List Ae,∀id,id<r.length->(r++new).getD id .dead=r.getD id .dead:=fun new id h=>by
  simp [gDE,gAL h]
 have hn: ∀new:List Ae,Has (r++new) r.length new:=fun new j _=>by
  simp only [gDE];rw [gAR (by omega),Nat.add_sub_cancel_left]
 cases y with
 |one c=>exact Cl.prom_v (hr _) c r.length (hn _)
 |new l=>
  show Ay (Go.Ve.prom (Bk true (l.map Cl.v0)) r.length).1 _/\(Go.Ve.prom (Bk true (l.map Cl.v0)) r.length).2=_;rw [Nw,List.length_map];show Ay _ ((bif Nat.blt 0 l.length then(Sl.one (.rp r.length [] 0 0),[Ae.obj false l])else(.one .dead,[])).1.v (r++((bif Nat.blt 0 l.length then(Sl.one (.rp r.length [] 0 0),[Ae.obj false l])else(.one .dead,[])).2)))/\_=((bif Nat.blt 0 l.length then(Sl.one (.rp r.length [] 0 0),[Ae.obj false l])else(.one .dead,[])).2).map Ae.v;cases hb:Nat.blt 0 l.length with
  |true=>
   rw [if_pos (Qv hb)];exact⟨Ay.refl _,rfl⟩
  |false=>
   rw [if_neg (fun h=>by rw [show Nat.blt 0 l.length=true from Nat.ble_eq_true_of_le h]at hb;cases hb)]
   exact⟨Ay.refl _,rfl⟩
 |agg l=>
  obtain⟨h1,h2,h3⟩:=I1 (hr (B5 r.length r.length l).2) l r.length (hn _);show Ay (Go.Ve.prom (Ai _) r.length).1 (Ai _)/\(Go.Ve.prom (Ai _) r.length).2=_;rw [VY];exact⟨Ay.mk h1 fun k _=>h2 k,h3⟩
 |pk t l=>
  obtain⟨h1,h2,h3⟩:=I1 (hr (B5 r.length r.length l).2) l r.length (hn _);show Ay (Go.Ve.prom (pkL t _) r.length).1 (pkL t _)/\(Go.Ve.prom (pkL t _) r.length).2=_;rw [ZV];exact⟨Ay.pk h1 fun k _=>h2 k,h3⟩
 |tup l=>
  obtain⟨h1,h2,h3⟩:=PQ (hr (Dv r.length r.length l).2) l r.length (hn _);show Ay (Go.Ve.prom (Df _) r.length).1 (Df _)/\(Go.Ve.prom (Df _) r.length).2=_;rw [XY];exact⟨Ay.tup (by rw [h1];simp) fun k _=>h2 k,h3⟩
def AQ(t:Nat->Sl)(d:Nat)(y:Sl):Nat->Sl:=fun i=>bif Nat.beq i d then y else t i
theorem B4{r:List Ae}{t:Nat->Sl}{d:Nat}{y:Sl}:(fun i=>(AQ t d y i).v r)=AV (fun i=>(t i).v r) d (y.v r):=by
 funext i
 unfold AQ AV;cases hb:Nat.beq i d with
 |true=>rw [if_pos (bqE hb)];rfl
 |false=>rw [if_neg (fun h=>by rw [h,Nat.beq_refl]at hb;cases hb)];rfl
def St.add(s:St)(d:Nat)(p:Sl×List Ae):St:=match p.2 with
 | []=>⟨AQ s.t d p.1,s.r⟩
 |q::new=>⟨AQ (fun i=>(s.t i).chk s.r.length) d p.1,s.r++q::new⟩
def St.put(h:CC)(s:St)(d:Option Nat)(y:Sl):Option St:=match d with
 |none=>some s
 |some d=>bif Nat.blt d h.n then(bif h.fz.contains d then(match y.frz with
   |some y'=>some ⟨AQ s.t d y',s.r⟩
   |none=>none)else some (s.add d (y.prom s.r.length)))else none
theorem W9{s:St}{d:Nat}{y:Sl}:(∀i,Ay (AV s.den.t d (Go.Ve.prom (y.v s.r) s.r.length).1 i) ((s.add d (y.prom s.r.length)).den.t i))/\s.den.σ++(Go.Ve.prom (y.v s.r) s.r.length).2=(s.add d (y.prom s.r.length)).den.σ:=by
 obtain⟨h1,h2⟩:=Sl.prom_v (r:=s.r) y;rw [h2];unfold St.add;cases hq:(y.prom s.r.length).2 with
 |nil=>
  rw [hq]at h1;rw [List.append_nil]at h1;refine⟨fun i=>?_,by simp [St.den]⟩
  show Ay _ ((AQ s.t d (y.prom s.r.length).1 i).v s.r);rw [congrFun (B4 (r:=s.r) (t:=s.t) (d:=d) (y:=(y.prom s.r.length).1)) i];unfold AV;split
  ·exact h1
  ·exact Ay.refl _
 |cons q new=>
  rw [hq]at h1;refine⟨fun i=>?_,by simp [St.den]⟩
  show Ay _ ((AQ (fun i=>(s.t i).chk s.r.length) d (y.prom s.r.length).1 i).v (s.r++q::new))
  rw [congrFun (B4 (r:=s.r++q::new) (t:=fun i=>(s.t i).chk s.r.length) (d:=d) (y:=(y.prom s.r.length).1)) i]
  unfold AV;split
  ·exact h1
  ·exact Sl.chk_v (fun id h=>by simp [gDE,gAL h]) _
theorem ZU{h:CC}{s s':St}{d:Option Nat}{y:Sl}(hp:s.put h d y=some s'):(∀i,Ay ((s.den.res h d (y.v s.r)).t i) (s'.den.t i))/\(s.den.res h d (y.v s.r)).σ=s'.den.σ:=by
 unfold St.put at hp;cases d with
 |none=>cases hp;exact⟨fun i=>Ay.refl _,rfl⟩
 |some d=>
  simp only at hp;cases hb:Nat.blt d h.n with
  |false=>rw [hb]at hp;cases hp
  |true=>
   rw [hb]at hp;simp only [cond_true]at hp;have hb:d<h.n:=blE hb;unfold Ms.res;simp only [hb,if_true];cases hf:h.fz.contains d with
   |true=>
    rw [hf]at hp;simp only [cond_true]at hp;split at hp
    ·rename_i y' hy
     cases hp;refine⟨fun i=>?_,rfl⟩
     show Ay (AV s.den.t d (Go.Ve.frz (y.v s.r)) i) ((AQ s.t d y' i).v s.r);rw [congrFun (B4 (r:=s.r) (t:=s.t) (d:=d) (y:=y')) i,Sl.frz_v hy];exact Ay.refl _
    ·cases hp
   |false=>
    rw [hf]at hp;simp only [cond_false,Option.some.injEq]at hp;subst hp;have hl:s.den.σ.length=s.r.length:=by simp [St.den]
    simp only [Bool.false_eq_true,if_false,hl];exact W9
theorem A0.put{C:Ctx}{h:CC}{s s':St}{d:Option Nat}{y:Sl}{a:Act}{w:World}(hp:s.put h d y=some s')(hs:A0 C h.n (s.den.res h d (y.v s.r)) a w):A0 C h.n s'.den a w:=by
 obtain⟨h1,h2⟩:=ZU hp;exact hs.sub (by rw [h2]) (fun i _=>by rw [h2];exact Sub.refl _) h1
theorem QC{P:Program}{C:Ctx}{h:CC}{s s':St}{o:Oper}{y:Sl}{a:Act}{w:World}{next:Act->World->Prop}{Q:Exit->Act->World->Prop}(hq:QS P s o.op y)(hp:s.put h o.dst y=some s')
  (hs:A0 C h.n s.den a w) (hn: ∀a' w',A0 C h.n s'.den a' w'->next a' w'):o.wp P a w next Q:=by
 refine U1 (P:=P) (h:=h) (K:=fun S=>S=s.den.res h o.dst (y.v s.r)) (S:=s.den) ?_ hs fun S' a' w' hS hs'=>hn a' w' (A0.put hp (hS▸hs'))
 have hq':qop P s.den.σ s.den.ev o.op (ResK h o.dst s.den fun S=>S=s.den.res h o.dst (y.v s.r)):=by
  refine Nf hq ?_;intro r0 hr0;exact⟨y.v s.r,hr0,rfl⟩
 unfold vop;split
 ·rename_i t x v ho
  rw [ho]at hq;exact hq.elim
 ·exact hq'
end Go.Ve


namespace Go.Ve
theorem PR.subst{C:Ctx}{N:Nat}{σ:List V}{ρ:Nat->Value}{F:Nat->Nat->Prop}{t t':Nat->V}{a:Act}{w:World}{D:Nat->Prop}{T:Nat->Nat->Prop}(h:PR C N σ ρ F t a w D T)(hs: ∀x,Sub (t x) (t' x)):PR C N σ ρ F t' a w D T:=
 ⟨h.df,h.sz,fun x hx=>by have:=hs x;rw [h.dd x hx]at this;exact this,h.wr,fun x hx=>Rel.sub (hs x) (h.tm x hx),h.tD,h.tF,h.tT,h.tn,h.fr,h.Fn,h.D1,h.D2,h.rt,h.ml,h.tx⟩
theorem LQ.sub{P:Program}{N:Nat}{σ:List V}{Al:Nat->Nat->Prop}{o:Oper}{t:Nat->V}{ys ys':List (Nat×Tk)}{r r':V}(h:LQ P N σ Al o t ys r)(hl: ∀x,Bj ys x≠none->Bj ys' x≠none)(hy: ∀x v,Sub (H8 (Bj ys x) v) (H8 (Bj ys' x) v))(hr:Sub r r'):LQ P N σ Al o t ys' r':=by
 intro C ρ F a w D T t' hag hal hp next Q hn
 refine h C ρ F a w D T t' (fun x hx=>hag x (hx.imp id (hl x))) hal hp next Q fun a' w' D' T' hp' hT' htm=>hn a' w' D' T' (hp'.subst fun x=>?_) hT' htm
 have hk:Sub (AU ys t' x) (AU ys' t' x):=hy x _;cases hd:o.dst with
 |none=>exact hk
 |some d=>
  show Sub (if x=d then r else AU ys t' x) (if x=d then r' else AU ys' t' x)
  split
  ·exact hr
  ·exact hk
def Cl.solid:Cl->Bool
 | .dead=>false
 | .c .unit _ _=>false
 | .c (.pair _ _) _ _=>false
 | .c (.clo _ _) _ _=>false
 | .c (.osl _) _ _=>false
 |_=>true
theorem Vx{r:List Ae}{y:Cl}(h:y.solid=true):Xl (y.v r)=true/\HE (y.v r)=true/\Go.Ve.cellsV (y.v r)= [y.v r]:=by
 cases y with
 |c t d x=>cases t<;>first|exact⟨rfl,rfl,rfl⟩|cases h
 |dead=>cases h
 |_=>exact⟨rfl,rfl,rfl⟩
def Sl.cellsO:Sl->Option (List Cl)
 | .one y=>bif y.solid then some [y]else none
 | .agg l=>bif l.all Cl.solid then some l else none
 |_=>none
theorem Qs{r:List Ae}{y:Sl}{l:List Cl}(h:y.cellsO=some l):HE (y.v r)=true/\Go.Ve.cellsV (y.v r)=l.map (Cl.v r)/\∀c∈l,Xl (c.v r)=true:=by
 unfold Sl.cellsO at h;split at h
 ·rename_i c
  cases hb:c.solid with
  |false=>rw [hb]at h;cases h
  |true=>
   rw [hb]at h;cases h;obtain⟨h0,h1,h2⟩:=Vx (r:=r) hb;exact⟨h1,h2,fun c' hc=>by rw [List.mem_singleton.1 hc];exact h0⟩
 ·rename_i l'
  cases hb:l'.all Cl.solid with
  |false=>rw [hb]at h;cases h
  |true=>
   rw [hb]at h;cases h;exact⟨rfl,N5,fun c hc=>(Vx (aET.1 hb c hc)).1⟩
 ·cases h
def Cl.keep(y:Cl):Bool:=y.imm||y.own
theorem Wl{r:List Ae}{y:Cl}(h:y.keep=true):(BX (y.v r)=true\/∃s sz n f,y.v r= .nd s true sz n f)/\y.v r=y.v0:=by
 unfold Cl.keep at h;cases hi:y.imm with
 |true=>exact⟨.inl (O4 hi).1,(O4 hi).2⟩
 |false=>
  have h:(y.imm||y.own)=true:=h;rw [hi,Bool.false_or]at h;have h:y.own=true:=h;cases y with
  |c t d x=>cases t<;>cases d<;>first|(cases h;done)|exact⟨.inr ⟨_,_,_,_,rfl⟩,rfl⟩|(cases x<;>first|(cases h;done)|exact⟨.inr ⟨_,_,_,_,rfl⟩,rfl⟩)
  |_=>cases h
def MT(place:Nat->Option (Nat×Nat))(cells:List Cl):List (Nat×Option Sl)->Option (List Cl)
 | []=>some cells
 |(i,y)::rest=>match place i,y with
  |some (off,size),some y=>match y.cellsO with
   |some l=>bif Nat.beq l.length size&&Nat.ble (off+size) cells.length then MT place (AaI cells off l) rest else none
   |none=>none
  |_,_=>none
theorem Lt{s:St}{place:Nat->Option (Nat×Nat)}{ev:Operand->V}: ∀ (ps:List (Nat×Operand)) (cells l:List Cl),(∀p∈ps,s.den.ev p.2≠.dead->ev p.2=s.den.ev p.2)->MT place cells (ps.map fun p=>(p.1,s.ev p.2))=some l->
  (∀p∈ps,HE (ev p.2)=true)/\Cf place (cells.map (Cl.v s.r)) (ps.map fun p=>(p.1,ev p.2))=some (l.map (Cl.v s.r))
 | [],cells,l,_,h=>by cases h;exact⟨fun p hp=>(by cases hp),rfl⟩
 |(i,x)::ps,cells,l,hev,h=>by
  rw [List.map_cons]at h;unfold MT at h;split at h
  case h_2=>cases h
  rename_i off size y hpl hy;split at h
  case h_2=>cases h
  rename_i m hm;cases hb:(Nat.beq m.length size&&Nat.ble (off+size) cells.length)with
  |false=>rw [hb]at h;cases h
  |true=>
   rw [hb]at h;simp only [bAE]at hb;have h1:=bqE hb.1;have h2:=blE hb.2;obtain⟨g1,g2,_⟩:=Qs (r:=s.r) hm;obtain⟨k1,k2⟩:=Lt ps _ _ (fun p hp=>hev p (mCM _ hp)) h
   have hy:s.ev x=some y:=hy;have hx:ev x=y.v s.r:=by
    rw [<-Bd hy];refine hev (i,x) (List.mem_cons_self ..) ?_;rw [Bd hy];intro e;rw [e]at g1;cases g1
   refine⟨fun p hp=>?_,?_⟩
   ·rcases List.mem_cons.1 hp with rfl|hp
    ·show HE (ev x)=true
     rw [hx];exact g1
    ·exact k1 p hp
   ·rw [List.map_cons]
    unfold Cf;simp only [hpl,hx,g2];rw [if_neg (by simp only [List.length_map];omega),<-VC]
    exact k2
def It(s:St):Operand->Option Nat
 | .tmp y=>bif(s.t y).own then some y else none
 |_=>none
theorem PY{s:St}{t:Nat->V}(h: ∀y,AS (t y)=(s.t y).own)(xs:List Operand):xs.map (Is t)=xs.map (It s):=by
 refine List.map_congr_left fun x _=>?_
 cases x with
 |tmp y=>
  show(if AS (t y)=true then some y else none)=bif(s.t y).own then some y else none
  rw [h y];cases (s.t y).own<;>rfl
 |_=>rfl
def jsO:List (Option Nat)->List Nat
 | []=>[]
 |none::l=>jsO l
 |some a::l=>a::jsO l
theorem fitO_v(d:Nat)(r:List Ae)(c:Cl):(fit d c).v r=c.v r/\(fit d c).v0=c.v0:=by
 cases c with
 |c t d' x=>
  have e:fit d (.c t d' x)=bif Nat.beq (UT d' t.dep) (UT d t.dep)then .c t d x else .c t d' x:=rfl;rw [e];cases h:Nat.beq (UT d' t.dep) (UT d t.dep)with
  |false=>exact⟨rfl,rfl⟩
  |true=>
   have:=bqE h;rw [LY,LY]at this;exact⟨(JW (x:=x) this).symm,(JW (x:=x) this).symm⟩
 |_=>exact⟨rfl,rfl⟩
theorem CF{t:Nat->V}{xs:List Operand}{l:List (Option Nat)}(h:xs.map (Is t)=l):Bc t xs=jsO l:=by
 rw [BS,h];clear h
 induction l with
 |nil=>rfl
 |cons a l ih=>cases a with
  |none=>exact ih
  |some a=>show a::l.filterMap id=a::jsO l;rw [ih]
def CO(js:List Nat)(t:Nat->Sl):Nat->Sl:=fun i=>bif js.contains i then .one .dead else t i
def nrm1:Cl->Cl->Cl
 | .c (.sl t) _ _,.nil=>.c (.sl t) (t.dep+1) []
 |_,y=>y
def X4:List Cl->List Cl->List Cl
 |a::lp,y::l=>nrm1 a y::X4 lp l
 |_,l=>l
theorem nrm1_v(a y:Cl):Sub y.v0 (nrm1 a y).v0:=by
 unfold nrm1;split
 ·exact .inr ⟨rfl,_,_,_,rfl⟩
 ·exact Sub.refl _
theorem PZ: ∀ (lp l:List Cl),(X4 lp l).length=l.length
 | [],[]=>rfl
 | [],_::_=>rfl
 |_::_,[]=>rfl
 |a::lp,y::l=>by show(X4 lp l).length+1=_;rw [PZ lp l];rfl
theorem YU: ∀ (lp l:List Cl) (k:Nat),Sub ((l.map Cl.v0).getD k .dead) (((X4 lp l).map Cl.v0).getD k .dead)
 | [],[],_=>Sub.refl _
 | [],_::_,_=>Sub.refl _
 |_::_,[],_=>Sub.refl _
 |a::lp,y::l,0=>nrm1_v a y
 |a::lp,y::l,k+1=>YU lp l k
end Go.Ve


namespace Go.Ve
def UK(s:St)(t:Ty)(id:Nat):Option Sl->Option (Nat×List t.T×List Nat)
 |some (.one (.c (.sl t') 0 ys))=>if h:t'=t then some (0,h▸ys,[])else none
 |some (.one (.rf j q))=>match Ag s.r j q with
  | .arr ro t' d ys=>if h:t'=t then(bif Nat.beq j id then none else bif Nat.beq t.dep 0 then some (d,h▸ys,[])else match q with
   | []=>bif ro then none else some (d,h▸ys,[j])
   |_::_=>none)else none
  |_=>none
 |some (.one (.rs j q off len))=>match Ag s.r j q with
  | .arr _ t' d ys=>if h:t'=t then(bif Nat.beq j id|| !Nat.beq t.dep 0 then none else some (d,Oj len (Pd off (h▸ys)),[]))else none
  |_=>none
 |_=>none
def Xq(s:St)(t:Ty)(id:Nat)(y:Option Sl):Option (Nat×List t.T×List Nat):=bif t.noO then UK s t id y else none
theorem W2{s:St}{t:Ty}{id:Nat}{y:Option Sl}{z:Nat×List t.T×List Nat}(h:Xq s t id y=some z):UK s t id y=some z/\t.noO=true:=by
 unfold Xq at h;cases hno:t.noO with
 |false=>rw [hno]at h;cases h
 |true=>rw [hno]at h;exact⟨h,rfl⟩
def Wg(b:Nat):Nat:=140737488355328/b
theorem Dq: ∀ (t:Ty) (d:Nat) (x:t.T) (k:Nat),t.noO=true->k<t.w->Xl ((tyV t d x).getD k .dead)=true
 | .int _,_,_,0,_,_=>rfl
 | .int _,_,_,_+1,_,h=>by simp [Ty.w]at h
 | .bool,_,_,0,_,_=>rfl
 | .bool,_,_,_+1,_,h=>by simp [Ty.w]at h
 | .str,_,_,0,_,_=>rfl
 | .str,_,_,_+1,_,h=>by simp [Ty.w]at h
 | .sl _,_,_,0,_,_=>rfl
 | .sl _,_,_,_+1,_,h=>by simp [Ty.w]at h
 | .ptr _,_,_,0,_,_=>rfl
 | .ptr _,_,_,_+1,_,h=>by simp [Ty.w]at h
 | .osl _,_,_,_,h,_=>by cases h
 | .unit,_,_,_,_,h=>by simp [Ty.w]at h
 | .clo _ _,_,_,0,_,_=>rfl
 | .clo _ _,_,_,_+1,_,h=>by simp [Ty.w]at h
 | .pair a b,d,x,k,ho,h=>by
  simp only [Ty.noO,bAE]at ho;simp only [tyV];rw [Ty.w]at h;by_cases hk:k<a.w
  ·have e:(tyV a d x.1++tyV b d x.2).getD k .dead=(tyV a d x.1).getD k .dead:=AK (by rw [AA];exact hk)
   rw [e];exact Dq a d x.1 k ho.1 hk
  ·have e:(tyV a d x.1++tyV b d x.2).getD k .dead=(tyV b d x.2).getD (k-a.w) .dead:=by
    simp only [gDE];rw [gAR (by rw [AA];omega),AA]
   rw [e];exact Dq b d x.2 (k-a.w) ho.2 (by omega)
theorem Pt: ∀ (t:Ty) (d:Nat) (x:t.T),t.dep=0->∀v∈tyV t d x,∃c,v= .c c
 | .int _,_,_,_,v,h=>by simp [tyV]at h;exact⟨_,h⟩
 | .bool,_,_,_,v,h=>by simp [tyV]at h;exact⟨_,h⟩
 | .str,_,_,_,v,h=>by simp [tyV]at h;exact⟨_,h⟩
 | .sl _,_,_,h,_,_=>by simp [Ty.dep]at h
 | .ptr _,_,_,h,_,_=>by simp [Ty.dep]at h
 | .clo _ _,_,_,h,_,_=>by simp [Ty.dep]at h
 | .osl _,_,_,h,_,_=>by simp [Ty.dep]at h
 | .unit,_,_,_,v,h=>by simp [tyV]at h
 | .pair a b,d,x,h,v,hv=>by
  simp only [Ty.dep]at h;simp only [tyV,List.mem_append]at hv;rcases hv with hv|hv
  ·exact Pt a d x.1 (by omega) v hv
  ·exact Pt b d x.2 (by omega) v hv
theorem H3{D:Nat->Prop}{w:World}{v:V}{x:Value}{fp:Nat->Prop}(h:Rel D w noR v x fp)(hv:Xl v=true):x.oneCell'=true:=(Rel.cells1 h (fun _ _ h=>h.elim) hv).2
structure YOK(s:St)(t:Ty)(id:Nat)(y:Operand)(a:Act)(w:World)(D:Nat->Prop)(F:Nat->Nat->Prop)(d:Nat)(ys:List t.T)(js:List Nat):Prop where
 rd: ∃Fy,UN D w t.w ys.length (fun i k=>(tyV t d (ys.getD i t.dflt)).getD k .dead) (a.eval y) Fy/\(∀i k c,i<ys.length->k<t.w->Fy i k c->∃j∈js,F j c)/\
  ∀i k i' k' c,i<ys.length->k<t.w->i'<ys.length->k'<t.w->(i≠i'\/k≠k')->Fy i k c->¬Fy i' k' c
 js: ∀j∈js,j<s.r.length/\j≠id
theorem Pj{s:St}{t:Ty}{id:Nat}{y:Operand}{a:Act}{w:World}{C:Ctx}{N:Nat}{D:Nat->Prop}{ρ:Nat->Value}{F:Nat->Nat->Prop}(hcr:CR C s.den.σ ((List.range N).map s.den.t) a.tmps w D ρ F)(hdd: ∀x,N<=x->s.den.t x= .dead)
  {d:Nat} {ys:List t.T} {js:List Nat} (h:Xq s t id (s.ev y)=some (d,ys,js)):YOK s t id y a w D F d ys js:=by
 unfold Xq at h;cases hno:t.noO with
 |false=>rw [hno]at h;cases h
 |true=>
 rw [hno]at h;simp only [cond_true]at h;unfold UK at h;split at h
 case h_4=>cases h
 ·rename_i t' ys' hy
  split at h
  case isFalse=>cases h
  rename_i ht;subst ht;cases h;have hr:=B7 hcr hdd y;rw [Bd hy]at hr;show YOK s t' id y a w D F 0 ys' [];refine⟨⟨fun _ _=>noF,?_,fun _ _ _ _ _ h=>h.elim,fun _ _ _ _ _ _ _ _ _ _ h=>h.elim⟩,fun j hj=>by cases hj⟩
  have hr:Rel D w _ (arr false t'.w (tyV t' 0) t'.dflt ys') (a.eval y) noF:=hr;rcases hr with⟨h0,_,hn,_⟩|⟨b,o,cap,Fx,hcv,_,_,_,hc,himm,_⟩
  ·obtain⟨ad,had⟩:=C8 hn
   refine⟨ad,0,by rw [had,h0],fun h=>by omega⟩
  ·refine⟨_,cap,hcv,fun _=>⟨b,o,rfl,fun i k hi hk=>?_⟩⟩
   obtain⟨x,hx,hrx⟩:=hc i k hi hk;have e:Fx i k=noF:=Bb fun c hc=>(himm rfl).2.1 i k c hi hk hc
   rw [e]at hrx;exact⟨x,hx,H3 hrx (Dq t' 0 _ k hno hk),hrx⟩
 ·rename_i j q hy
  have hr:=B7 hcr hdd y;rw [Bd hy]at hr;split at h
  case h_2=>cases h
  rename_i ro t' d' ys' hn;split at h
  case isFalse=>cases h
  rename_i ht;subst ht;cases hb:Nat.beq j id with
  |true=>rw [hb]at h;cases h
  |false=>
   rw [hb]at h;simp only [cond_false]at h;have hr:Rel D w (An s.den.σ ρ w) (.rs j q 0 (Ag s.r j q).len) (a.eval y) noF:=hr;rw [hn]at hr;have hr:Rel D w (An s.den.σ ρ w) (.rs j q 0 ys'.length) (a.eval y) noF:=hr;obtain⟨⟨hid,sz,n,f,cn,hat,hle,hcv⟩,_⟩:=hr;have hsub:=At.sub hat;have hne:Ag s.r j q≠.dead:=by rw [hn];intro h;cases h
   have hnode:sub q (s.den.σ.getD j .dead)=arr true t'.w (tyV t' d') t'.dflt ys':=(AZ hne).trans (by rw [hn];rfl)
   rw [hnode]at hsub;have hsub:V.nd true true sz n f= .nd true true t'.w ys'.length (fun i k=>(tyV t' d' (ys'.getD i t'.dflt)).getD k .dead):=hsub
   cases hsub;obtain⟨fp1,hr1,hfp1,_⟩:=Hl (w':=w) q _ _ _ _ _ (hcr.wr.rel j hid) (fun b hb h=>hcr.wr.dD j b h hb) hat
   have hjr:j<s.r.length:=by simpa [St.den]using hid
   have rd: ∀Fy,(∀ (b o cap:Nat) (Fx:Nat->Nat->Nat->Prop),cn=AD true b o ys'.length cap->(∀i k,i<ys'.length->k<t'.w->∃x,w.cell? ⟨b,o+i*t'.w+k,none⟩=some x/\Rel D w noR ((tyV t' d' (ys'.getD i t'.dflt)).getD k .dead) x (Fx i k))->(∀i k c,i<ys'.length->k<t'.w->Fx i k c->fp1 c)->
     (∀i k,i<ys'.length->k<t'.w->Fx i k=Fy i k))->UN D w t'.w ys'.length (fun i k=>(tyV t' d' (ys'.getD i t'.dflt)).getD k .dead) (a.eval y) Fy:=by
    intro Fy hFy;rcases hr1 with⟨h0,_,hn0,_⟩|⟨b,o,cap,Fx,hcn,_,_,_,hc,_,ho⟩
    ·rcases hcv with⟨b,o,cap,h3,h4⟩|⟨_,ad,h4,_⟩
     ·rw [h3]at hn0;exact absurd hn0 BM
     ·exact⟨ad.map fun p=>⟨p.1,p.2,none⟩,0,by rw [h4,h0],fun h=>by omega⟩
    ·rcases hcv with⟨b',o',cap',h3,h4⟩|⟨h0,ad,h4,_⟩
     ·obtain⟨rfl,rfl,_⟩:=AC (h3.symm.trans hcn)
      refine⟨_,cap'-0,by simpa using h4,fun _=>⟨b',o',by simp,fun i k hi hk=>?_⟩⟩
      obtain⟨x,hx,hrx⟩:=hc i k hi hk;have e:=hFy b' o' cap Fx hcn hc (fun i k c hi hk h=>((ho rfl).2.2.2 c).2 (.inr ⟨i,k,hi,hk,h⟩)) i k hi hk
      exact⟨x,hx,H3 hrx (Dq t' d' _ k hno hk),e▸hrx⟩
     ·exact⟨ad.map fun p=>⟨p.1,p.2,none⟩,0,by rw [h4,h0],fun h=>by omega⟩
   cases hd:Nat.beq t'.dep 0 with
   |true=>
    rw [hd]at h;cases h;have hd:=bqE hd;show YOK s t' id y a w D F d ys' [];refine⟨⟨fun _ _=>noF,rd _ fun b o cap Fx _ hc _ i k hi hk=>?_,fun _ _ _ _ _ h=>h.elim,fun _ _ _ _ _ _ _ _ _ _ h=>h.elim⟩,fun j hj=>by cases hj⟩
    obtain⟨x,_,hrx⟩:=hc i k hi hk;obtain⟨cc,hcc⟩:=Pt t' d (ys'.getD i t'.dflt) hd _ (HV (k:=k) (by rw [AA];exact hk))
    rw [hcc]at hrx;exact Bb hrx.2.2
   |false=>
    rw [hd]at h;simp only [cond_false]at h;split at h
    case h_2=>cases h
    cases ro with
    |true=>cases h
    |false=>
     cases h;show YOK s t' id y a w D F d ys' [j];obtain⟨h1,h2⟩:=hat;subst h2;have hrj:=hcr.wr.rel j hid;rw [<-h1]at hrj;rcases hrj with⟨h0,_,hn0,_⟩|⟨b,o,cap,Fx,hcn,_,_,_,hc,_,ho⟩
     ·refine⟨⟨fun _ _=>noF,rd _ fun _ _ _ _ _ _ _ i k hi=>by omega,fun _ _ _ _ _ h=>h.elim,fun _ _ _ _ _ _ _ _ _ _ h=>h.elim⟩,fun i hi=>?_⟩
      simp at hi;subst hi;exact⟨hjr,fun e=>by rw [e,Nat.beq_refl]at hb;cases hb⟩
     ·refine⟨⟨Fx,?_,fun i k c hi hk hF=>⟨j,by simp,((ho rfl).2.2.2 c).2 (.inr ⟨i,k,hi,hk,hF⟩)⟩,fun i k i' k' c h1 h2 h3 h4 hne hF=>(ho rfl).2.2.1 i k i' k' c h1 h2 h3 h4 hne hF⟩,fun i hi=>?_⟩
      ·rcases hcv with⟨b',o',cap',h3,h4⟩|⟨h0,ad,h4,_⟩
       ·obtain⟨rfl,rfl,_⟩:=AC (h3.symm.trans hcn)
        refine⟨_,cap'-0,by simpa using h4,fun _=>⟨b',o',by simp,fun i k hi hk=>?_⟩⟩
        obtain⟨x,hx,hrx⟩:=hc i k hi hk;exact⟨x,hx,H3 hrx (Dq t' d _ k hno hk),hrx⟩
       ·exact⟨ad.map fun p=>⟨p.1,p.2,none⟩,0,by rw [h4,h0],fun h=>by omega⟩
      ·simp at hi;subst hi
       exact⟨hjr,fun e=>by rw [e,Nat.beq_refl]at hb;cases hb⟩
 ·rename_i j q off len hy
  have hr:=B7 hcr hdd y;rw [Bd hy]at hr;split at h
  case h_2=>cases h
  rename_i ro t' d' ys' hn;split at h
  case isFalse=>cases h
  rename_i ht;subst ht;cases hb:(Nat.beq j id|| !Nat.beq t'.dep 0)with
  |true=>rw [hb]at h;cases h
  |false=>
   rw [hb]at h;cases h;show YOK s t' id y a w D F d (Oj len (Pd off ys')) [];simp only [Bool.or_eq_false_iff,Bool.not_eq_false']at hb;have hd:=bqE hb.2;have hr:Rel D w (An s.den.σ ρ w) (.rs j q off len) (a.eval y) noF:=hr;obtain⟨⟨hid,sz,n,f,cn,hat,hle,hcv⟩,_⟩:=hr;have hsub:=At.sub hat;have hne:Ag s.r j q≠.dead:=by rw [hn];intro h;cases h
   have hnode:sub q (s.den.σ.getD j .dead)=arr true t'.w (tyV t' d) t'.dflt ys':=(AZ hne).trans (by rw [hn];rfl)
   rw [hnode]at hsub;have hsub:V.nd true true sz n f= .nd true true t'.w ys'.length (fun i k=>(tyV t' d (ys'.getD i t'.dflt)).getD k .dead):=hsub
   cases hsub;obtain⟨fp1,hr1,hfp1,_⟩:=Hl (w':=w) q _ _ _ _ _ (hcr.wr.rel j hid) (fun b hb h=>hcr.wr.dD j b h hb) hat
   have hl:(Oj len (Pd off ys')).length=len:=by
    show(List.take len (List.drop off ys')).length=len;simp;omega
   have hget: ∀i,i<len->(Oj len (Pd off ys')).getD i t'.dflt=ys'.getD (off+i) t'.dflt:=by
    intro i hi;show(List.take len (List.drop off ys')).getD i t'.dflt=_;simp [List.getElem?_take,hi]
   refine⟨⟨fun _ _=>noF,?_,fun _ _ _ _ _ h=>h.elim,fun _ _ _ _ _ _ _ _ _ _ h=>h.elim⟩,fun j hj=>by cases hj⟩
   rw [hl];rcases hcv with⟨b',o',cap',h3,h4⟩|⟨h0,ad,h4,_⟩
   ·refine⟨_,cap'-off,h4,fun hpos=>⟨b',o'+off*t'.w,rfl,fun i k hi hk=>?_⟩⟩
    rcases hr1 with⟨h0,_,hn0,_⟩|⟨b,o,cap,Fx,hcn,_,_,_,hc,_,ho⟩
    ·omega
    ·obtain⟨rfl,rfl,_⟩:=AC (h3.symm.trans hcn)
     obtain⟨x,hx,hrx⟩:=hc (off+i) k (by omega) hk
     obtain⟨cc,hcc⟩:=Pt t' d (ys'.getD (off+i) t'.dflt) hd _ (HV (k:=k) (by rw [AA];exact hk))
     have hrx:Rel D w noR ((tyV t' d (ys'.getD (off+i) t'.dflt)).getD k .dead) x (Fx (off+i) k):=hrx
     have e:Fx (off+i) k=noF:=by
      rw [hcc]at hrx;exact Bb hrx.2.2
     rw [e]at hrx;refine⟨x,?_,H3 hrx (Dq t' d _ k hno hk),?_⟩
     ·rw [Nat.add_mul,<-Nat.add_assoc]at hx;exact hx
     ·show Rel D w noR ((tyV t' d ((Oj len (Pd off ys')).getD i t'.dflt)).getD k .dead) x noF
      rw [hget i hi];exact hrx
   ·exact⟨ad.map fun p=>⟨p.1,p.2,none⟩,0,by rw [h4,h0],fun h=>by omega⟩
theorem Qt{t:Ty}{d:Nat}{xs ys:List t.T}{n m:Nat}{f g:Nat->Nat->V}(hn:n=xs.length)(hm:m=ys.length)(hf: ∀i k,i<n->f i k=(tyV t d (xs.getD i t.dflt)).getD k .dead)(hg: ∀i k,i<m->g i k=(tyV t d (ys.getD i t.dflt)).getD k .dead):
  Sub (.nd true true t.w (n+m) (UL n f g)) (cV (.sl t) (d+1) (xs++ys)):=by
 show Sub _ (V.nd true true t.w (xs++ys).length fun i k=>(tyV t d ((xs++ys).getD i t.dflt)).getD k .dead)
 rw [List.length_append,<-hn,<-hm];refine⟨_,rfl,fun i k hi hk=>Sub.of_eq ?_⟩
 unfold UL;by_cases h:i<n
 ·rw [if_pos h,hf i k h]
  simp only [gDE];rw [gAL (by omega)]
 ·rw [if_neg h,hg (i-n) k (by omega)]
  simp only [gDE];rw [gAR (by omega),<-hn]
section
variable {C:Ctx} {N:Nat} {σ:List V} {ρ:Nat->Value} {F:Nat->Nat->Prop} {t:Nat->V} {a:Act} {w:World} {D:Nat->Prop} {T:Nat->Nat->Prop}
theorem PR.own(h:PR C N σ ρ F t a w D T){xs:List Operand}{r:V}{v':Value}{fp:Nat->Prop}{d:Nat}{w':World}(hos:w'.os=w.os)(htp:w'.tape=w.tape)(hout:w'.output=w.output)(hdr:w.drawn<=w'.drawn)(hsz:w.heap.size<=w'.heap.size)
  (hbl: ∀c,c<w.heap.size->(∀j,¬opF t T xs j c)->w'.heap[c]? =w.heap[c]?) (hr:Rel D w' noR r v' fp) (hf: ∀b,fp b->(∃j,opF t T xs j b)\/w.heap.size<=b) (hdn:d<N):
  ∃T',PR C N σ ρ F (AV (AU ((Bc t xs).map fun y=>(y,.all)) t) d r) (a.put (some d) v') w' D T'/\∀x b,T' x b->some d=some x\/∃b',T x b':=by
 have hFlt: ∀i b,F i b->b<w.heap.size:=h.wr.lt;have hTlt: ∀x b,T x b->b<w.heap.size:=by
  intro x b hb;by_cases hx:x<N
  ·exact Rel.lt _ _ _ (h.tm x hx) b hb
  ·exact absurd hb (h.tx x b (Nat.le_of_not_lt hx))
 have hD: ∀b,D b->w'.heap[b]? =w.heap[b]?:=fun b hb=>hbl b (h.wr.Dlt b hb) fun j ho=>by obtain⟨y,_,_,hT⟩:=ho;exact h.tD y b hT hb
 have hFs: ∀i b,F i b->w'.heap[b]? =w.heap[b]?:=fun i b hb=>hbl b (hFlt i b hb) fun j ho=>by obtain⟨y,_,_,hT⟩:=ho;exact h.tF i y b hb hT
 have hTs: ∀x b,x∉Bc t xs->T x b->w'.heap[b]? =w.heap[b]?:=fun x b hx hb=>hbl b (hTlt x b hb) fun j ho=>by
  obtain⟨y,_,_,hm,hT⟩:=DI ho;exact h.tT x y b (fun e=>hx (e▸hm)) hb hT
 have wr':Bt σ w' D ρ F:=⟨fun i hi=>Rel.mono (fun _ h=>h) (fun _ _ h=>h) _ _ _ (fun b hb=>hb.elim (hD b) (hFs i b)) (h.wr.rel i hi),h.wr.disj,h.wr.dD,fun b hb=>Nat.lt_of_lt_of_le (h.wr.Dlt b hb) hsz,h.wr.out⟩
 have hfo: ∀b,fp b->(∃y,y∈Bc t xs/\T y b)\/w.heap.size<=b:=fun b hb=>(hf b hb).imp (fun⟨j,ho⟩=>by obtain⟨y,_,_,hm,hT⟩:=DI ho;exact⟨y,hm,hT⟩) id
 refine⟨fun x b=>if x=d then fp b else x∉Bc t xs/\T x b,⟨h.df,by rw [BW];simpa using h.sz,fun x hx=>?_,wr',fun x hx=>?_,fun x b hb=>?_,fun i x b hb hT=>?_,fun x y b hxy h1 h2=>?_,fun x b hb=>?_,⟨hos.trans h.fr.os,htp.trans h.fr.tape,hout.trans h.fr.output,Nat.le_trans h.fr.size hsz,fun b hb hW=>?_,Nat.le_trans h.fr.drawn hdr⟩,h.Fn,h.D1,h.D2,h.rt,h.ml,fun x b hx hb=>?_⟩,fun x b hb=>?_⟩
 ·have: ¬x=d:=by omega
  simp only [AV,this,if_false];rw [Db];split
  ·rfl
  ·exact h.dd x hx
 ·have hlt:x<a.tmps.size:=by rw [h.sz];exact hx
  rw [BW];by_cases he:x=d
  ·subst he
   simp only [AV,if_true];have:Rel D w' (An σ ρ w') r v' (fun b=>if x=x then fp b else x∉Bc t xs/\T x b):=Rel.fp_congr (fun b=>by rw [if_pos rfl]) (Rel.noR_mono hr)
   simpa [hlt]using this
  ·simp only [AV,he,if_false]
   rw [Array.getD_eq_getD_getElem?,Array.getElem?_setIfInBounds_ne (Ne.symm he),<-Array.getD_eq_getD_getElem?,Db];by_cases hm:x∈Bc t xs
   ·rw [if_pos hm]
    exact fun b hb=>hb.1 hm
   ·rw [if_neg hm]
    refine Rel.fp_congr (fp:=T x) (fun b=>⟨fun h=>⟨hm,h⟩,fun h=>h.2⟩) ?_
    exact Rel.mono (fun _ h=>h) (fun v cv hv=>An.same h.wr hFs v cv hv) _ _ _ (fun b hb=>hb.elim (hD b) (hTs x b hm)) (h.tm x hx)
 ·split at hb
  ·intro hDb
   rcases hfo b hb with⟨y,_,hT⟩|h2
   ·exact h.tD y b hT hDb
   ·have:=h.wr.Dlt b hDb;omega
  ·exact h.tD x b hb.2
 ·split at hT
  ·rcases hfo b hT with⟨y,_,hT⟩|h2
   ·exact h.tF i y b hb hT
   ·have:=hFlt i b hb;omega
  ·exact h.tF i x b hb hT.2
 ·have one: ∀x,fp b->x∉Bc t xs->T x b->False:=by
   intro x h3 hx h4;rcases hfo b h3 with⟨z,hm,h5⟩|h5
   ·exact h.tT x z b (fun e=>hx (e▸hm)) h4 h5
   ·have:=hTlt x b h4;omega
  split at h1<;>split at h2
  ·rename_i e1 e2;exact absurd (e1.trans e2.symm) hxy
  ·exact one y h1 h2.1 h2.2
  ·exact one x h2 h1.1 h1.2
  ·exact h.tT x y b hxy h1.2 h2.2
 ·split at hb
  ·rcases hfo b hb with⟨y,_,hT⟩|h2
   ·exact h.tn y b hT
   ·exact .inr (Nat.le_trans h.fr.size h2)
  ·exact h.tn x b hb.2
 ·rw [hbl b (Nat.lt_of_lt_of_le hb h.fr.size) fun j ho=>by
   obtain⟨y,_,_,hT⟩:=ho;rcases h.tn y b hT with h|h
   ·exact hW h
   ·omega]
  exact h.fr.block b hb hW
 ·have hb:(if x=d then fp b else x∉Bc t xs/\T x b):=hb
  rw [if_neg (by omega)]at hb
  exact h.tx x b hx hb.2
 ·have hb:(if x=d then fp b else x∉Bc t xs/\T x b):=hb
  split at hb
  ·rename_i e;exact .inl (by rw [e])
  ·exact .inr ⟨b,hb.2⟩
theorem PR.cr(h:PR C N σ ρ F t a w D T){t2:Nat->V}(h2: ∀x,t2 x= .dead\/(t2 x=t x/\AS (t x)=false)):CR C σ ((List.range N).map t2) a.tmps w D ρ F:=by
 refine⟨h.wr,by simp [h.sz],fun j hj=>?_,h.fr,h.Fn,h.D1,h.D2,h.rt,h.ml⟩
 have hj:j<N:=by simpa using hj
 rw [AY hj];rcases h2 j with e|⟨e,ho⟩
 ·rw [e];exact fun _ h=>h
 ·rw [e]
  have h1:=h.tm j hj;rw [Bb (AG _ _ _ ho h1)]at h1;exact h1
end
theorem VS{D:Nat->Prop}{w:World}{R:V->Value->Prop}{sz m:Nat}{g:Nat->Nat->V}{cv:Value}{fp:Nat->Prop}(h:Rel D w R (.nd true true sz m g) cv fp)(h1: ∀i k,i<m->k<sz->Xl (g i k)=true):
  ∃Fy,UN D w sz m g cv Fy/\(∀i k c,i<m->k<sz->Fy i k c->fp c)/\∀i k i' k' c,i<m->k<sz->i'<m->k'<sz->(i≠i'\/k≠k')->Fy i k c->¬Fy i' k' c:=by
 rcases h with⟨h0,_,hn,_⟩|⟨b,o,cap,F0,hcv,_,_,_,hc,_,ho⟩
 ·obtain⟨a,rfl⟩:=C8 hn
  subst h0;exact⟨fun _ _=>noF,⟨a,0,rfl,fun h=>by omega⟩,fun i k c hi=>by omega,fun i k i' k' c hi=>by omega⟩
 ·obtain⟨_,_,hd,hf⟩:=ho rfl
  refine⟨F0,⟨some ⟨b,o,none⟩,cap,hcv,fun _=>⟨b,o,rfl,fun i k hi hk=>?_⟩⟩,fun i k c hi hk hF=>(hf c).2 (.inr ⟨i,k,hi,hk,hF⟩),hd⟩
  obtain⟨x,hx,hrx⟩:=hc i k hi hk;exact⟨x,hx,H3 hrx (h1 i k hi hk),hrx⟩
theorem Xd{Al:Nat->Nat->Prop}{P:Program}{N:Nat}{σ:List V}{o:Oper}{t:Nat->V}{ty e:TypeId}{x y:Operand}{d sz bytes n m:Nat}{zero:List Value}{f g:Nat->Nat->V}(ho:o.op= .call ⟨.builtin .append,#[x,y],#[ty,ty]⟩)(hd:o.dst=some d)(hdn:d<N)(hsl:slI P ty=some ⟨e,sz,bytes,zero⟩)(hsz0:0<sz)
  (hx:Sub (Ms.ev ⟨t,σ⟩ x) (.nd true true sz n f)) (hap:Cu ([x,y].map (Is t))=true)
  (hy: ∀ (C:Ctx) (ρ:Nat->Value) (F:Nat->Nat->Prop) (a:Act) (w:World) (D:Nat->Prop) (T:Nat->Nat->Prop) (t':Nat->V),(∀z∈DH o.op,t' z=t z)->PR C N σ ρ F t' a w D T->
   ∃Fy,UN D w sz m g (a.eval y) Fy/\(∀i k c,i<m->k<sz->Fy i k c->opF t' T [x,y] 1 c)/\∀i k i' k' c,i<m->k<sz->i'<m->k'<sz->(i≠i'\/k≠k')->Fy i k c->¬Fy i' k' c)
  (h63:n+m<=maxLen) (hb:(n+m)*bytes<=140737488355328):
  LQ P N σ Al o t ((Bc t [x,y]).map fun y=>(y,.all)) (.nd true true sz (n+m) (UL n f g)):=by
 intro C ρ F a w D T t' hag hal hp next Q hn
 have hopx: ∀z,Operand.tmp z∈ [x,y]->t' z=t z:=fun z hz=>hag z (.inl<|Dr (by rw [ho];simp [Op.operands,Call.operands]at hz⊢;simpa using hz))
 have hevx:Ms.ev ⟨t',σ⟩ x=Ms.ev ⟨t,σ⟩ x:=by
  cases x with
  |tmp z=>exact hopx z (by simp)
  |const v=>rfl
  |global g=>rfl
  |func f=>rfl
 have hmap: [x,y].map (Is t')= [x,y].map (Is t):=Di fun u hu z e=>hopx z (e▸hu)
 have hap':Cu ([x,y].map (Is t'))=true:=by rw [hmap];exact hap
 have htk:Bc t' [x,y]=Bc t [x,y]:=by rw [BS,BS,hmap]
 have hrx:=hp.opF_rel (xs:=[x,y]) (j:=0) (x:=x) rfl;rw [hevx]at hrx;have hrx1:=Rel.sub hx hrx;have hrx:Rel D w noR (.nd true true sz n f) (a.eval x) (opF t' T [x,y] 0):=hrx1;obtain⟨Fy,hrd,hFy,hFd⟩:=hy C ρ F a w D T t' (fun z hz=>hag z (.inl hz)) hp
 have oD: ∀j b,opF t' T [x,y] j b->¬D b:=fun j b hj=>by obtain⟨z,_,_,hT⟩:=hj;exact hp.tD z b hT
 obtain⟨v',w',fp,hrun,hos,htp,hout,hdr,hsz,hbl,hr',hfp⟩:=Rel.append (P:=P) (ty:=o.type) hsl hsz0 hrx (fun b hb h=>oD 0 b h hb) hp.wr.Dlt hrd (fun i k c hi hk hF=>⟨oD 1 c (hFy i k c hi hk hF),fun h=>hp.opF_dis hap' 0 1 c (by decide) h (hFy i k c hi hk hF)⟩) hFd h63 hb
 unfold Oper.wp execOp;simp only [ho,resolve,invoke,builtin,Sem.run_bind,Sem.run_pure,Result.andThen_ok,List.map_toArray,List.map_cons,List.map_nil,hrun];show next (a.put o.dst v') w'
 rw [hd]at hn⊢
 obtain⟨T',hp',hT'⟩:=hp.own (xs:=[x,y]) (d:=d) hos htp hout hdr hsz (fun c hc hG=>hbl c hc (hG 0)) hr' (fun b hb=>by
  rcases hfp b hb with h1|⟨i,k,hi,hk,h1⟩|h1
  ·exact .inl ⟨0,h1⟩
  ·exact .inl ⟨1,hFy i k b hi hk h1⟩
  ·exact .inr h1) hdn
 rw [htk]at hp';exact hn _ _ _ _ hp' hT' fun _ hx=>BJ hx
end Go.Ve

