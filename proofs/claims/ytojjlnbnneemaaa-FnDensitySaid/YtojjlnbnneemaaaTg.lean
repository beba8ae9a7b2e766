/- The typed machine: new trees get their numbers; one quiet operation. -/
import Derived.Test.YtojjlnbnneemaaaTd
import Derived.Test.YtojjlnbnneemaaaVwa
import Derived.Test.YtojjlnbnneemaaaVy
open Nat(blt beq beq_refl le_trans)
open List(range map_append mem_singleton length_map map_cons take drop)
set_option linter.all false
namespace Go.Ve
variable{h:Cy}{a b r r':List Ae}{d m:Nat}{y:Sl}{s s':St}
def Cl.prom(u m:Nat):Cl->Cl×List Ae
 |.c (.sl t) (d+1) xs=>(.rf m [],[.arr false t d xs])
 |.c (.ptr t) (d+1) x=>bif blt 0 t.w then(.rp m [] 0 0,[.obj false (AA t d x)])else(.dead,[])
 |.c (.osl t) (d+1) x=>match x with
  |some xs=>(.rf m [],[.arr false t d xs])
  |none=>(.dead,[])
 |.c (.mp k v) (_+1) x=>(.rm m [],[.mp false k v x])
 |y=>(y.chk u,[])
def B5(u:Nat):Nat->List Cl->List Cl×List Ae
 |_,[]=>([],[])
 |m,y::l=>((y.prom u m).1::(B5 u (m+(y.prom u m).2.length) l).1,(y.prom u m).2++(B5 u (m+(y.prom u m).2.length) l).2)
def Ig(u m:Nat)(p:Bool×List Cl):(Bool×List Cl)×List Ae:=
 bif p.1 then((true,(B5 u m p.2).1),(B5 u m p.2).2)else((false,[((p.2.getD 0 .dead).prom u m).1]),((p.2.getD 0 .dead).prom u m).2)
def Dx(u:Nat):Nat->List (Bool×List Cl)->List (Bool×List Cl)×List Ae
 |_,[]=>([],[])
 |m,p::l=>((Ig u m p).1::(Dx u (m+(Ig u m p).2.length) l).1,(Ig u m p).2++(Dx u (m+(Ig u m p).2.length) l).2)
def Sl.prom(m:Nat):Sl->Sl×List Ae
 |.one y=>(.one (y.prom m m).1,(y.prom m m).2)
 |.new l=>bif blt 0 l.length then(.one (.rp m [] 0 0),[.obj false l])else(.one .dead,[])
 |.agg l=>(.agg (B5 m m l).1,(B5 m m l).2)
 |.pk t l=>(.pk t (B5 m m l).1,(B5 m m l).2)
 |.tup l=>(.tup (Dx m m l).1,(Dx m m l).2)
def Has(r':List Ae)(m:Nat)(new:List Ae):Prop:=∀j,j<new.length->r'.getD (m+j) .dead=new.getD j .dead
def Has.left(h:Has r' m (a++b)):Has r' m a:=λj u=>by
 rw[h j (by simp;omega),gDE,gAL u,<-gDE]
def Has.right(h:Has r' m (a++b)):Has r' (m+a.length) b:=λj u=>by
 have:=h (a.length+j) (by simp;omega)
 rw[<-Nat.add_assoc]at this;rw[this,gDE,gAR (by omega),<-gDE,Nat.add_sub_cancel_left]
theorem Ux{v:V}(h:AN v=false)(u:∀t n f,v≠.many t n f):Go.Ve.prom v m=(v,[]):=by
 cases v with
 |nd s own sz n f=>cases own with
  |true=>cases h
  |false=>cases s<;>rfl
 |many t n f=>exact absurd rfl (u t n f)
 |mp own l=>cases own with
  |true=>cases h
  |false=>rfl
 |_=>rfl
def YI{f:Nat->V}{n:Nat}(h:∀k m,Go.Ve.prom (f k) m=(f k,[])):BP (λk=>Go.Ve.prom (f k)) n m=((range n).map f,[]):=by
 induction n with
 |zero=>rfl
 |succ n u=>
  show((BP _ n m).1++[(Go.Ve.prom (f n) _).1],(BP _ n m).2++(Go.Ve.prom (f n) _).2)=_;rw[u,h,List.range_succ,map_append];rfl
def HC:∀(t:Ty) (x:t.T),∀v∈tyV t 0 x,∀m,Go.Ve.prom v m=(v,[])
 |.int _,_,v,h,m=>by simp[tyV]at h;subst h;rfl
 |.bool,_,v,h,m=>by simp[tyV]at h;subst h;rfl
 |.str,_,v,h,m=>by simp[tyV]at h;subst h;rfl
 |.sl _,_,v,h,m=>by simp only[tyV,mem_singleton]at h;subst h;rfl
 |.ptr _,_,v,h,m=>by simp only[tyV,mem_singleton]at h;subst h;rfl
 |.unit,_,v,h,m=>by simp[tyV]at h
 |.mp _ _,_,v,h,m=>by simp only[tyV,mem_singleton]at h;subst h;rfl
 |.pair a b,x,v,h,m=>by
  simp only[tyV,List.mem_append]at h;exact h.elim (λh=>HC a x.1 v h m) λh=>HC b x.2 v h m
 |.osl _,x,v,h,m=>by
  simp only[tyV,mem_singleton]at h;subst h;cases x<;>rfl
 |.clo g t,x,v,h,m=>by
  simp only[tyV,mem_singleton]at h;subst h
  have u:∀k m,Go.Ve.prom ((tyV t 0 x).getD k .dead) m=((tyV t 0 x).getD k .dead,[]):=by
   intro k m;by_cases u:k<(tyV t 0 x).length
   .rw[gDE,gEE u]
    exact HC t x _ (List.getElem_mem u) m
   .rw[gDE,List.getElem?_eq_none (by omega)];rfl
  show(V.many (.cl g) t.w λk=>(BP (λk=>Go.Ve.prom ((tyV t 0 x).getD k .dead)) t.w m).1.getD k .dead,(BP (λk=>Go.Ve.prom ((tyV t 0 x).getD k .dead)) t.w m).2)=_
  rw[YI u]
  congr 2
  funext k
  by_cases u:k<t.w
  .simp[u]
  .have:(tyV t 0 x).length<=k:=by rw[AB];omega
   simp only[gDE];rw[List.getElem?_eq_none (by simpa using Nat.le_of_not_lt u),List.getElem?_eq_none this]
def NH{l:List V}:Go.Ve.prom (Bp true l) m=if 0<l.length then(.rp m [] 0 0,[Bp true l])else(.dead,[]):=rfl
theorem Cl.prom_v(O:∀id,id<r.length->r'.getD id .dead=r.getD id .dead)(y:Cl)(m:Nat)(J:Has r' m (y.prom r.length m).2):
  Ay (Go.Ve.prom (y.v r) m).1 ((y.prom r.length m).1.v r')/\(Go.Ve.prom (y.v r) m).2=(y.prom r.length m).2.map Ae.v:=by
 have plain:∀y:Cl,y.own=false->(∀g u d x,y≠.c (.clo g u) d x)->(y.prom r.length m)=(y.chk r.length,[])->Ay (Go.Ve.prom (y.v r) m).1 ((y.prom r.length m).1.v r')/\(Go.Ve.prom (y.v r) m).2=(y.prom r.length m).2.map Ae.v:=by
  intro y U A W
  rw[W,Ux (by rw[Cl.own_v,U]) (by
   cases y with
   |c t d x=>cases t<;>first|exact absurd rfl (A _ _ _ _)|(intro _ _ _ h;cases h;done)|(intro _ _ _ h;cases x<;>cases h)
   |_=>intro _ _ _ h;cases h)]
  exact⟨Cl.chk_v O y,rfl⟩
 cases y with
 |c t d x=>
  cases t with
  |clo g u=>
   have e:Go.Ve.prom (cV (.clo g u) d x) m=(cV (.clo g u) d x,[]):=HC (.clo g u) x _ (mem_singleton.2 rfl) m;show Ay (Go.Ve.prom (cV (.clo g u) d x) m).1 _/\(Go.Ve.prom (cV (.clo g u) d x) m).2=_;rw[e];exact⟨Ay.refl _,rfl⟩
  |sl t=>cases d with
   |zero=>exact plain _ rfl (by intro _ _ _ _ h;cases h) rfl
   |succ d=>
    have E:r'.getD m .dead=.arr false t d x:=J 0 Nat.one_pos;refine⟨?_,rfl⟩;show Ay (V.rs m [] 0 x.length) (V.rs m [] 0 (Ag r' m []).len);unfold Ag;rw[E];exact Ay.refl _
  |mp k v=>cases d with
   |zero=>exact plain _ rfl (by intro _ _ _ _ h;cases h) rfl
   |succ d=>exact⟨Ay.refl _,rfl⟩
  |osl t=>cases d with
   |zero=>exact plain _ rfl (by intro _ _ _ _ h;cases h) rfl
   |succ d=>
    cases x with
    |none=>exact⟨Ay.refl _,rfl⟩
    |some xs=>
     have E:r'.getD m .dead=.arr false t d xs:=J 0 Nat.one_pos;refine⟨?_,rfl⟩;show Ay (V.rs m [] 0 xs.length) (V.rs m [] 0 (Ag r' m []).len);unfold Ag;rw[E];exact Ay.refl _
  |ptr t=>cases d with
   |zero=>exact plain _ rfl (by intro _ _ _ _ h;cases h) rfl
   |succ d=>
    show Ay (Go.Ve.prom (Bp true (tyV t d x)) m).1 _/\(Go.Ve.prom (Bp true (tyV t d x)) m).2=_;rw[NH];show Ay _ ((bif blt 0 t.w then(Cl.rp m [] 0 0,[Ae.obj false (AA t d x)])else(.dead,[])).1.v r')/\_=((bif blt 0 t.w then(Cl.rp m [] 0 0,[Ae.obj false (AA t d x)])else(.dead,[])).2).map Ae.v;cases B:blt 0 t.w with
    |true=>
     rw[if_pos (by rw[AB];exact Lk B)]
     refine⟨Ay.refl _,?_⟩;show _=[Bp true ((AA t d x).map Cl.v0)];rw[BM]
    |false=>
     rw[if_neg (λh=>by rw[AB]at h;rw[show blt 0 t.w=true from Nat.ble_eq_true_of_le h]at B;cases B)]
     exact⟨Ay.refl _,rfl⟩
  |_=>exact plain _ rfl (by intro _ _ _ _ h;cases h) rfl
 |_=>exact plain _ rfl (by intro _ _ _ _ h;cases h) rfl
def IU{r r':List Ae}(u:∀id,id<r.length->r'.getD id .dead=r.getD id .dead):∀(l:List Cl) (m:Nat),Has r' m (B5 r.length m l).2->
  (Cc (l.map (Cl.v r)) m).1.length=((B5 r.length m l).1.map (Cl.v r')).length/\(∀k,Ay ((Cc (l.map (Cl.v r)) m).1.getD k .dead) (((B5 r.length m l).1.map (Cl.v r')).getD k .dead))/\(Cc (l.map (Cl.v r)) m).2=(B5 r.length m l).2.map Ae.v
 |[],m,_=>⟨rfl,λk=>Ay.refl _,rfl⟩
 |y::l,m,hn=>by
  obtain⟨B,A⟩:=Cl.prom_v u y m hn.left;have e:(Go.Ve.prom (y.v r) m).2.length=(y.prom r.length m).2.length:=by rw[A,length_map]
  obtain⟨g1,g2,E⟩:=IU u l (m+(y.prom r.length m).2.length) hn.right;rw[map_cons,KQ,e];refine⟨by simp only[B5,map_cons,List.length_cons];exact congrArg (· +1) g1,λk=>?_,?_⟩
  .cases k with
   |zero=>exact B
   |succ k=>exact g2 k
  .show _++_=(_++_:List Ae).map Ae.v
   rw[map_append,A,E]
theorem Abe(u:∀id,id<r.length->r'.getD id .dead=r.getD id .dead)(p:Bool×List Cl)(m:Nat)(A:Has r' m (Ig r.length m p).2):
  Ay (Go.Ve.prom (if p.1 then Am (p.2.map (Cl.v r))else(p.2.map (Cl.v r)).getD 0 .dead) m).1 (if(Ig r.length m p).1.1 then Am ((Ig r.length m p).1.2.map (Cl.v r'))else((Ig r.length m p).1.2.map (Cl.v r')).getD 0 .dead)/\
  (Go.Ve.prom (if p.1 then Am (p.2.map (Cl.v r))else(p.2.map (Cl.v r)).getD 0 .dead) m).2=(Ig r.length m p).2.map Ae.v:=by
 obtain⟨b,l⟩:=p;cases b with
 |true=>
  obtain⟨J,E,B⟩:=IU u l m A;show Ay (Go.Ve.prom (Am _) m).1 (Am ((B5 r.length m l).1.map (Cl.v r')))/\(Go.Ve.prom (Am _) m).2=_;rw[Wx];exact⟨Ay.mk J λk _=>E k,B⟩
 |false=>
  show Ay (Go.Ve.prom ((l.map (Cl.v r)).getD 0 .dead) m).1 (((l.getD 0 .dead).prom r.length m).1.v r')/\(Go.Ve.prom ((l.map (Cl.v r)).getD 0 .dead) m).2=_;rw[AM (f:=Cl.v r) (a:=.dead) rfl];exact Cl.prom_v u _ m A
def Qf{r r':List Ae}(u:∀id,id<r.length->r'.getD id .dead=r.getD id .dead):∀(l:List (Bool×List Cl)) (m:Nat),Has r' m (Dx r.length m l).2->
  (Cc (l.map λp=>if p.1 then Am (p.2.map (Cl.v r))else(p.2.map (Cl.v r)).getD 0 .dead) m).1.length=(Dx r.length m l).1.length/\
  (∀k,Ay ((Cc (l.map λp=>if p.1 then Am (p.2.map (Cl.v r))else(p.2.map (Cl.v r)).getD 0 .dead) m).1.getD k .dead) (((Dx r.length m l).1.map λp=>if p.1 then Am (p.2.map (Cl.v r'))else(p.2.map (Cl.v r')).getD 0 .dead).getD k .dead))/\
  (Cc (l.map λp=>if p.1 then Am (p.2.map (Cl.v r))else(p.2.map (Cl.v r)).getD 0 .dead) m).2=(Dx r.length m l).2.map Ae.v
 |[],m,_=>⟨rfl,λk=>Ay.refl _,rfl⟩
 |p::l,m,hn=>by
  obtain⟨B,A⟩:=Abe u p m hn.left;have e:=congrArg List.length A;rw[length_map]at e;obtain⟨g1,g2,E⟩:=Qf u l (m+(Ig r.length m p).2.length) hn.right;rw[map_cons,KQ,e];refine⟨by simp only[Dx,List.length_cons];exact congrArg (· +1) g1,λk=>?_,?_⟩
  .cases k with
   |zero=>exact B
   |succ k=>exact g2 k
  .show _++_=(_++_:List Ae).map Ae.v
   rw[map_append,A,E]
theorem Sl.prom_v{r:List Ae}(y:Sl):Ay (Go.Ve.prom (y.v r) r.length).1 ((y.prom r.length).1.v (r++(y.prom r.length).2))/\(Go.Ve.prom (y.v r) r.length).2=(y.prom r.length).2.map Ae.v:=by
 have E:∀new:List Ae,∀id,id<r.length->(r++new).getD id .dead=r.getD id .dead:=λnew id h=>by
  simp[gDE,gAL h]
 have J:∀new:List Ae,Has (r++new) r.length new:=λnew j _=>by
  simp only[gDE];rw[gAR (by omega),Nat.add_sub_cancel_left]
 cases y with
 |one c=>exact Cl.prom_v (E _) c r.length (J _)
 |new l=>
  show Ay (Go.Ve.prom (Bp true (l.map Cl.v0)) r.length).1 _/\(Go.Ve.prom (Bp true (l.map Cl.v0)) r.length).2=_;rw[NH,length_map];show Ay _ ((bif blt 0 l.length then(Sl.one (.rp r.length [] 0 0),[Ae.obj false l])else(.one .dead,[])).1.v (r++((bif blt 0 l.length then(Sl.one (.rp r.length [] 0 0),[Ae.obj false l])else(.one .dead,[])).2)))/\_=((bif blt 0 l.length then(Sl.one (.rp r.length [] 0 0),[Ae.obj false l])else(.one .dead,[])).2).map Ae.v;cases O:blt 0 l.length with
  |true=>
   rw[if_pos (Lk O)];exact⟨Ay.refl _,rfl⟩
  |false=>
   rw[if_neg (λh=>by rw[show blt 0 l.length=true from Nat.ble_eq_true_of_le h]at O;cases O)]
   exact⟨Ay.refl _,rfl⟩
 |agg l=>
  obtain⟨B,A,u⟩:=IU (E (B5 r.length r.length l).2) l r.length (J _);show Ay (Go.Ve.prom (Am _) r.length).1 (Am _)/\(Go.Ve.prom (Am _) r.length).2=_;rw[Wx];exact⟨Ay.mk B λk _=>A k,u⟩
 |pk t l=>
  obtain⟨B,A,u⟩:=IU (E (B5 r.length r.length l).2) l r.length (J _);show Ay (Go.Ve.prom (pkL t _) r.length).1 (pkL t _)/\(Go.Ve.prom (pkL t _) r.length).2=_;rw[Abd];exact⟨Ay.pk B λk _=>A k,u⟩
 |tup l=>
  obtain⟨B,A,u⟩:=Qf (E (Dx r.length r.length l).2) l r.length (J _);show Ay (Go.Ve.prom (DC _) r.length).1 (DC _)/\(Go.Ve.prom (DC _) r.length).2=_;rw[YH];exact⟨Ay.tup (by rw[B];simp) λk _=>A k,u⟩
def AK(t:Nat->Sl)(d:Nat)(y:Sl):Nat->Sl:=λi=>bif beq i d then y else t i
theorem B4{t:Nat->Sl}:(λi=>(AK t d y i).v r)=AI (λi=>(t i).v r) d (y.v r):=by
 funext i
 unfold AK AI;cases u:beq i d with
 |true=>rw[if_pos (bqE u)];rfl
 |false=>rw[if_neg (λh=>by rw[h,beq_refl]at u;cases u)];rfl
def St.add(s:St)(d:Nat)(p:Sl×List Ae):St:=match p.2 with
 |[]=>⟨AK s.t d p.1,s.r⟩
 |q::new=>⟨AK (λi=>(s.t i).chk s.r.length) d p.1,s.r++q::new⟩
def St.put(h:Cy)(s:St)(d:Option Nat)(y:Sl):Option St:=match d with
 |none=>some s
 |some d=>bif blt d h.n then(bif h.fz.contains d then(match y.frz with
   |some u=>some ⟨AK s.t d u,s.r⟩
   |none=>none)else some (s.add d (y.prom s.r.length)))else none
theorem XO:(∀i,Ay (AI s.den.t d (Go.Ve.prom (y.v s.r) s.r.length).1 i) ((s.add d (y.prom s.r.length)).den.t i))/\s.den.σ++(Go.Ve.prom (y.v s.r) s.r.length).2=(s.add d (y.prom s.r.length)).den.σ:=by
 obtain⟨u,B⟩:=Sl.prom_v (r:=s.r) y;rw[B];unfold St.add;cases A:(y.prom s.r.length).2 with
 |nil=>
  rw[A]at u;rw[List.append_nil]at u;refine⟨λi=>?_,by simp[St.den]⟩
  show Ay _ ((AK s.t d (y.prom s.r.length).1 i).v s.r);rw[congrFun (B4 (r:=s.r) (t:=s.t) (d:=d) (y:=(y.prom s.r.length).1)) i];unfold AI;split
  .exact u
  .exact Ay.refl _
 |cons q new=>
  rw[A]at u;refine⟨λi=>?_,by simp[St.den]⟩
  show Ay _ ((AK (λi=>(s.t i).chk s.r.length) d (y.prom s.r.length).1 i).v (s.r++q::new))
  rw[congrFun (B4 (r:=s.r++q::new) (t:=λi=>(s.t i).chk s.r.length) (d:=d) (y:=(y.prom s.r.length).1)) i]
  unfold AI;split
  .exact u
  .exact Sl.chk_v (λid h=>by simp[gDE,gAL h]) _
theorem Abc{d:Option Nat}(u:s.put h d y=some s'):(∀i,Ay ((s.den.res h d (y.v s.r)).t i) (s'.den.t i))/\(s.den.res h d (y.v s.r)).σ=s'.den.σ:=by
 unfold St.put at u;cases d with
 |none=>cases u;exact⟨λi=>Ay.refl _,rfl⟩
 |some d=>
  simp only at u;obtain⟨A,u⟩:=Bc u;have A:d<h.n:=blE A;unfold Ms.res;simp only[A,if_true];cases E:h.fz.contains d with
  |true=>
   rw[E]at u;simp only[cond_true]at u;split at u
   .rename_i B J
    cases u;refine⟨λi=>?_,rfl⟩
    show Ay (AI s.den.t d (Go.Ve.frz (y.v s.r)) i) ((AK s.t d B i).v s.r);rw[congrFun (B4 (r:=s.r) (t:=s.t) (d:=d) (y:=B)) i,Sl.frz_v J];exact Ay.refl _
   .cases u
  |false=>
   rw[E]at u;simp only[cond_false,Option.some.injEq]at u;subst u;have O:s.den.σ.length=s.r.length:=by simp[St.den]
   simp only[Bool.false_eq_true,if_false,O];exact XO
def AQ.put{C:Ctx}{h:Cy}{s s':St}{d:Option Nat}{y:Sl}{a:Act}{w:World}(B:s.put h d y=some s')(A:AQ C h.n (s.den.res h d (y.v s.r)) a w):AQ C h.n s'.den a w:=by
 obtain⟨E,u⟩:=Abc B;exact A.sub (by rw[u]) (λi _=>by rw[u];exact Sub.refl _) E
theorem QZ{P:Program}{C:Ctx}{o:Oper}{a:Act}{w:World}{next:Act->World->Prop}{Q:Exit->Act->World->Prop}(u:QS P s o.op y)(W:s.put h o.dst y=some s')
  (U:AQ C h.n s.den a w) (Y:∀A w',AQ C h.n s'.den A w'->next A w'):o.wp P a w next Q:=by
 refine Hl (P:=P) (h:=h) (K:=λS=>S=s.den.res h o.dst (y.v s.r)) (S:=s.den) ?_ U λS' A w' Z B=>Y A w' (AQ.put W (Z▸B))
 have J:qop P s.den.σ s.den.ev o.op (ResK h o.dst s.den λS=>S=s.den.res h o.dst (y.v s.r)):=by
  refine Nt u ?_;intro r0 E;exact⟨y.v s.r,E,rfl⟩
 unfold vop;split
 .rename_i t x v O
  rw[O]at u;exact u.elim
 .rename_i t m k x O
  rw[O]at u;exact u.elim
 .exact J
end Go.Ve


namespace Go.Ve
variable{y:Cl}{r:List Ae}{σ:List V}{N:Nat}{t:Nat->V}
def PR.subst{C:Ctx}{ρ:Nat->Value}{F:Nat->Nat->Prop}{A:Nat->V}{a:Act}{w:World}{D:Nat->Prop}{T:Nat->Nat->Prop}(h:PR C N σ ρ F t a w D T)(B:∀x,Sub (t x) (A x)):PR C N σ ρ F A a w D T:=
 ⟨h.df,h.sz,λx u=>by have:=B x;rw[h.dd x u]at this;trivial,h.wr,λx u=>Rel.sub (B x) (h.tm x u),h.tD,h.tF,h.tT,h.tn,h.fr,h.Fn,h.D1,h.D2,h.rt,h.ml,h.tx⟩
theorem LQ.sub{P:Program}{Al:Nat->Nat->Prop}{o:Oper}{ys u:List (Nat×Tk)}{r r':V}(h:LQ P N σ Al o t ys r)(hl:∀x,Bo ys x≠none->Bo u x≠none)(W:∀x v,Sub (H1 (Bo ys x) v) (H1 (Bo u x) v))(hr:Sub r r'):LQ P N σ Al o t u r':=by
 intro C ρ F a w D T A O J Z next Q hn
 refine h C ρ F a w D T A (λx Y=>O x (Y.imp id (hl x))) J Z next Q λa' w' D' T' E U B=>hn a' w' D' T' (E.subst λx=>?_) U B
 have hk:Sub (AP ys A x) (AP u A x):=W x _;cases hd:o.dst with
 |none=>trivial
 |some d=>
  show Sub (if x=d then r else AP ys A x) (if x=d then r' else AP u A x)
  grind
def Cl.solid:Cl->Bool
 |.dead=>false
 |.c .unit _ _=>false
 |.c (.pair _ _) _ _=>false
 |.c (.clo _ _) _ _=>false
 |.c (.osl _) _ _=>false
 |_=>true
theorem VY(h:y.solid=true):X3 (y.v r)=true/\ID (y.v r)=true/\Go.Ve.cellsV (y.v r)=[y.v r]:=by
 cases y with
 |c t d x=>cases t<;>first|trivial|rfl
 |dead=>cases h
 |_=>trivial
def Sl.cellsO:Sl->Option (List Cl)
 |.one y=>bif y.solid then some [y]else none
 |.agg l=>bif l.all Cl.solid then some l else none
 |_=>none
theorem QP{y:Sl}{l:List Cl}(h:y.cellsO=some l):ID (y.v r)=true/\Go.Ve.cellsV (y.v r)=l.map (Cl.v r)/\∀c∈l,X3 (c.v r)=true:=by
 unfold Sl.cellsO at h;split at h
 .rename_i c
  cases u:c.solid with
  |false=>grind
  |true=>
   rw[u]at h;cases h;obtain⟨O,J,E⟩:=VY u;exact⟨J,E,λc' A=>by grind⟩
 .rename_i B
  cases u:B.all Cl.solid with
  |false=>grind
  |true=>
   rw[u]at h;cases h;exact⟨rfl,Oi,λc A=>(VY (aET.1 u c A)).1⟩
 grind
def Cl.isMp:Cl->Bool
 |.c (.mp _ _) _ _=>true
 |_=>false
def Cl.keep(y:Cl):Bool:=y.imm||(y.own&& !y.isMp)
theorem W3(h:y.keep=true):(Cf (y.v r)=true\/∃s sz n f,y.v r=.nd s true sz n f)/\y.v r=y.v0:=by
 unfold Cl.keep at h;cases u:y.imm with
 |true=>exact⟨.inl (Pm u).1,(Pm u).2⟩
 |false=>
  rw[u,Bool.false_or,bAE]at h;cases y with
  |c t d x=>cases t<;>cases d<;>first|(cases h.2;done)|(cases h.1;done)|exact⟨.inr ⟨_,_,_,_,rfl⟩,rfl⟩|(cases x<;>first|(cases h.1;done)|exact⟨.inr ⟨_,_,_,_,rfl⟩,rfl⟩)
  |_=>cases h.1
def M6(place:Nat->Option (Nat×Nat))(cells:List Cl):List (Nat×Option Sl)->Option (List Cl)
 |[]=>some cells
 |(i,y)::rest=>match place i,y with
  |some (off,size),some y=>match y.cellsO with
   |some l=>bif beq l.length size&&Nat.ble (off+size) cells.length then M6 place (Acm cells off l) rest else none
   |none=>none
  |_,_=>none
theorem LE{s:St}{place:Nat->Option (Nat×Nat)}{ev:Operand->V}:∀(ps:List (Nat×Operand)) (cells l:List Cl),(∀p∈ps,s.den.ev p.2≠.dead->ev p.2=s.den.ev p.2)->M6 place cells (ps.map λp=>(p.1,s.ev p.2))=some l->
  (∀p∈ps,ID (ev p.2)=true)/\Cg place (cells.map (Cl.v s.r)) (ps.map λp=>(p.1,ev p.2))=some (l.map (Cl.v s.r))
 |[],cells,l,_,h=>by cases h;exact⟨λp A=>(by cases A),rfl⟩
 |(i,x)::ps,cells,l,hev,h=>by
  rw[map_cons]at h;unfold M6 at h;split at h
  case h_2=>cases h
  rename_i off size y B u;split at h
  case h_2=>cases h
  rename_i m O;obtain⟨E,h⟩:=Bc h;simp only[bAE]at E;have W:=bqE E.1;have U:=blE E.2;obtain⟨g1,g2,_⟩:=QP (r:=s.r) O;obtain⟨k1,k2⟩:=LE ps _ _ (λp A=>hev p (mCM _ A)) h
  have u:s.ev x=some y:=u;have J:ev x=y.v s.r:=by
   rw[<-Bf u];refine hev (i,x) (List.mem_cons_self ..) ?_;rw[Bf u];intro e;rw[e]at g1;cases g1
  refine⟨λp A=>?_,?_⟩
  .grind
  .rw[map_cons]
   unfold Cg;simp only[B,J,g2];rw[if_neg (by simp only[length_map];omega),<-V5]
   exact k2
def KW(s:St):Operand->Option Nat
 |.tmp y=>bif(s.t y).own then some y else none
 |_=>none
theorem Qk{s:St}(h:∀y,AN (t y)=(s.t y).own)(xs:List Operand):xs.map (Ik t)=xs.map (KW s):=by
 refine List.map_congr_left λx _=>?_
 cases x with
 |tmp y=>
  show(if AN (t y)=true then some y else none)=bif(s.t y).own then some y else none
  grind
 |_=>rfl
def jsO:List (Option Nat)->List Nat
 |[]=>[]
 |none::l=>jsO l
 |some a::l=>a::jsO l
theorem fitO_v(d:Nat)(r:List Ae)(c:Cl):(fit d c).v r=c.v r/\(fit d c).v0=c.v0:=by
 cases c with
 |c t u x=>
  have e:fit d (.c t u x)=bif beq (Ou u t.dep) (Ou d t.dep)then .c t d x else .c t u x:=rfl;rw[e];cases h:beq (Ou u t.dep) (Ou d t.dep)with
  |false=>simp
  |true=>
   have:=bqE h;rw[Il,Il]at this;exact⟨(Lj this).symm,(Lj this).symm⟩
 |_=>trivial
theorem CH{xs:List Operand}{l:List (Option Nat)}(h:xs.map (Ik t)=l):Bd t xs=jsO l:=by
 rw[BU,h];clear h
 induction l with
 |nil=>rfl
 |cons a l u=>cases a with
  |none=>trivial
  |some a=>show a::l.filterMap id=a::jsO l;grind
def CS(js:List Nat)(t:Nat->Sl):Nat->Sl:=λi=>bif js.contains i then .one .dead else t i
def nrm1:Cl->Cl->Cl
 |.c (.sl t) _ _,.nil=>.c (.sl t) (t.dep+1) []
 |_,y=>y
def Uz:List Cl->List Cl->List Cl
 |a::lp,y::l=>nrm1 a y::Uz lp l
 |_,l=>l
def nrm1_v(a y:Cl):Sub y.v0 (nrm1 a y).v0:=by
 unfold nrm1;split
 .exact .inr ⟨rfl,_,_,_,rfl⟩
 .exact Sub.refl _
def Abl(r:List Ae)(a y:Cl):Sub (y.v r) ((nrm1 a y).v r):=by
 unfold nrm1;split
 .exact .inr ⟨rfl,_,_,_,rfl⟩
 .exact Sub.refl _
def WJ(r:List Ae):∀(lp l:List Cl) (k:Nat),Sub ((l.map (Cl.v r)).getD k .dead) (((Uz lp l).map (Cl.v r)).getD k .dead)
 |[],[],_=>Sub.refl _
 |[],_::_,_=>Sub.refl _
 |_::_,[],_=>Sub.refl _
 |a::lp,y::l,0=>Abl r a y
 |a::lp,y::l,k+1=>WJ r lp l k
def L9:∀(lp l:List Cl),(Uz lp l).length=l.length
 |[],[]=>rfl
 |[],_::_=>rfl
 |_::_,[]=>rfl
 |a::lp,y::l=>by show(Uz lp l).length+1=_;rw[L9 lp l];rfl
def ZV:∀(lp l:List Cl) (k:Nat),Sub ((l.map Cl.v0).getD k .dead) (((Uz lp l).map Cl.v0).getD k .dead)
 |[],[],_=>Sub.refl _
 |[],_::_,_=>Sub.refl _
 |_::_,[],_=>Sub.refl _
 |a::lp,y::l,0=>nrm1_v a y
 |a::lp,y::l,k+1=>ZV lp l k
end Go.Ve


namespace Go.Ve
variable{N d id m n sz:Nat}{f g:Nat->Nat->V}{D fp:Nat->Prop}{y:Operand}{s:St}{t:Ty}{w:World}
def U4(s:St)(t:Ty)(id:Nat):Option Sl->Option (Nat×List t.T×List Nat)
 |some (.one (.c (.sl u) 0 ys))=>if h:u=t then some (0,h▸ys,[])else none
 |some (.one (.rf j q))=>match Ag s.r j q with
  |.arr ro u d ys=>if h:u=t then(bif beq j id then none else bif beq t.dep 0 then some (d,h▸ys,[])else match q with
   |[]=>bif ro then none else some (d,h▸ys,[j])
   |_::_=>none)else none
  |_=>none
 |some (.one (.rs j q off len))=>match Ag s.r j q with
  |.arr _ u d ys=>if h:u=t then(bif beq j id|| !beq t.dep 0 then none else some (d,OF len (Pw off (h▸ys)),[]))else none
  |_=>none
 |_=>none
def U5(s:St)(t:Ty)(id:Nat)(y:Option Sl):Option (Nat×List t.T×List Nat):=bif t.noO then U4 s t id y else none
theorem XH{y:Option Sl}{z:Nat×List t.T×List Nat}(h:U5 s t id y=some z):U4 s t id y=some z/\t.noO=true:=by
 unfold U5 at h
 grind
def NV(b:Nat):Nat:=140737488355328/b
def Dr:∀(t:Ty) (d:Nat) (x:t.T) (k:Nat),t.noO=true->k<t.w->X3 ((tyV t d x).getD k .dead)=true
 |.int _,_,_,0,_,_=>rfl
 |.int _,_,_,_+1,_,h=>by trivial
 |.bool,_,_,0,_,_=>rfl
 |.bool,_,_,_+1,_,h=>by trivial
 |.str,_,_,0,_,_=>rfl
 |.str,_,_,_+1,_,h=>by trivial
 |.sl _,_,_,0,_,_=>rfl
 |.sl _,_,_,_+1,_,h=>by trivial
 |.ptr _,_,_,0,_,_=>rfl
 |.ptr _,_,_,_+1,_,h=>by trivial
 |.osl _,_,_,_,h,_=>by cases h
 |.mp _ _,_,_,_,h,_=>by cases h
 |.unit,_,_,_,_,h=>by trivial
 |.clo _ _,_,_,0,_,_=>rfl
 |.clo _ _,_,_,_+1,_,h=>by trivial
 |.pair a b,d,x,k,ho,h=>by
  simp only[Ty.noO,bAE]at ho;simp only[tyV];rw[Ty.w]at h;by_cases u:k<a.w
  .have e:(tyV a d x.1++tyV b d x.2).getD k .dead=(tyV a d x.1).getD k .dead:=AD (by rw[AB];exact u)
   rw[e];exact Dr a d x.1 k ho.1 u
  .have e:(tyV a d x.1++tyV b d x.2).getD k .dead=(tyV b d x.2).getD (k-a.w) .dead:=by
    simp[gDE];rw[gAR (by rw[AB];omega),AB]
   rw[e];exact Dr b d x.2 (k-a.w) ho.2 (by omega)
def PH:∀(t:Ty) (d:Nat) (x:t.T),t.dep=0->∀v∈tyV t d x,∃c,v=.c c
 |.int _,_,_,_,v,h=>by simp[tyV]at h;grind
 |.bool,_,_,_,v,h=>by simp[tyV]at h;grind
 |.str,_,_,_,v,h=>by simp[tyV]at h;grind
 |.sl _,_,_,h,_,_=>by trivial
 |.ptr _,_,_,h,_,_=>by trivial
 |.clo _ _,_,_,h,_,_=>by trivial
 |.osl _,_,_,h,_,_=>by trivial
 |.mp _ _,_,_,h,_,_=>by trivial
 |.unit,_,_,_,v,h=>by trivial
 |.pair a b,d,x,h,v,hv=>by
  simp[Ty.dep]at h;simp[tyV,List.mem_append]at hv;rcases hv with hv|hv
  .exact PH a d x.1 (by omega) v hv
  .exact PH b d x.2 (by omega) v hv
def HX{v:V}{x:Value}(h:Rel D w noR v x fp)(u:X3 v=true):x.oneCell'=true:=(Rel.cells1 h (λ_ _ h=>h.elim) u).2
structure YOK(s:St)(t:Ty)(id:Nat)(y:Operand)(a:Act)(w:World)(D:Nat->Prop)(F:Nat->Nat->Prop)(d:Nat)(ys:List t.T)(js:List Nat):Prop where
 rd:∃Fy,U7 D w t.w ys.length (λi k=>(tyV t d (ys.getD i t.dflt)).getD k .dead) (a.eval y) Fy/\(∀i k c,i<ys.length->k<t.w->Fy i k c->∃j∈js,F j c)/\
  ∀i k i' k' c,i<ys.length->k<t.w->i'<ys.length->k'<t.w->(i≠i'\/k≠k')->Fy i k c->¬Fy i' k' c
 js:∀j∈js,j<s.r.length/\j≠id
theorem Iv{t:Ty}{id:Nat}{y:Operand}{a:Act}{C:Ctx}{ρ:Nat->Value}{F:Nat->Nat->Prop}(W:CR C s.den.σ ((range N).map s.den.t) a.tmps w D ρ F)(hdd:∀x,N<=x->s.den.t x=.dead)
  {d:Nat}{ys:List t.T}{js:List Nat} (h:U5 s t id (s.ev y)=some (d,ys,js)):YOK s t id y a w D F d ys js:=by
 unfold U5 at h;obtain⟨hno,h⟩:=Bc h;unfold U4 at h;split at h
 case h_4=>cases h
 .rename_i A u hy
  split at h
  case isFalse=>cases h
  rename_i ht;subst ht;cases h;have U:=BE W hdd y;rw[Bf hy]at U;show YOK s A id y a w D F 0 u [];refine⟨⟨λ_ _=>noF,?_,λ_ _ _ _ _ h=>h.elim,λ_ _ _ _ _ _ _ _ _ _ h=>h.elim⟩,λj hj=>by cases hj⟩
  have U:Rel D w _ (arr false A.w (tyV A 0) A.dflt u) (a.eval y) noF:=U;rcases U with⟨h0,_,hn,_⟩|⟨b,o,cap,Fx,hcv,_,_,_,hc,himm,_⟩
  .obtain⟨ad,had⟩:=Dd hn
   refine⟨ad,0,by rw[had,h0],λh=>by omega⟩
  .refine⟨_,cap,hcv,λ_=>⟨b,o,rfl,λi k J O=>?_⟩⟩
   obtain⟨x,hx,B⟩:=hc i k J O;have e:Fx i k=noF:=A7 λc hc=>(himm rfl).2.1 i k c J O hc
   rw[e]at B;exact⟨x,hx,HX B (Dr A 0 _ k hno O),B⟩
 .rename_i j q hy
  have U:=BE W hdd y;rw[Bf hy]at U;split at h
  case h_2=>cases h
  rename_i ro A d' u hn;split at h
  case isFalse=>cases h
  rename_i ht;subst ht;cases hb:beq j id with
  |true=>rw[hb]at h;cases h
  |false=>
   rw[hb]at h;simp only[cond_false]at h;have U:Rel D w (Aq s.den.σ ρ w) (.rs j q 0 (Ag s.r j q).len) (a.eval y) noF:=U;rw[hn]at U;have U:Rel D w (Aq s.den.σ ρ w) (.rs j q 0 u.length) (a.eval y) noF:=U;obtain⟨⟨hid,sz,n,f,cn,hat,hle,hcv⟩,_⟩:=U;have E:=At.sub hat;have hne:Ag s.r j q≠.dead:=by rw[hn];intro h;cases h
   have hnode:sub q (s.den.σ.getD j .dead)=arr true A.w (tyV A d') A.dflt u:=(AV hne).trans (by rw[hn];rfl)
   rw[hnode]at E;have E:V.nd true true sz n f=.nd true true A.w u.length (λi k=>(tyV A d' (u.getD i A.dflt)).getD k .dead):=E
   cases E;obtain⟨fp1,hr1,hfp1,_⟩:=C9 (w':=w) q _ _ _ _ _ (W.wr.rel j hid) (λb hb h=>W.wr.dD j b h hb) hat
   have hjr:j<s.r.length:=by simpa [St.den]using hid
   have rd:∀Fy,(∀(b o cap:Nat) (Fx:Nat->Nat->Nat->Prop),cn=AC true b o u.length cap->(∀i k,i<u.length->k<A.w->∃x,w.cell? ⟨b,o+i*A.w+k,none⟩=some x/\Rel D w noR ((tyV A d' (u.getD i A.dflt)).getD k .dead) x (Fx i k))->(∀i k c,i<u.length->k<A.w->Fx i k c->fp1 c)->
     (∀i k,i<u.length->k<A.w->Fx i k=Fy i k))->U7 D w A.w u.length (λi k=>(tyV A d' (u.getD i A.dflt)).getD k .dead) (a.eval y) Fy:=by
    intro Fy hFy;rcases hr1 with⟨h0,_,hn0,_⟩|⟨b,o,cap,Fx,hcn,_,_,_,hc,_,ho⟩
    .rcases hcv with⟨b,o,cap,h3,Z⟩|⟨_,ad,Z,_⟩
     .rw[h3]at hn0;exact absurd hn0 BQ
     .exact⟨ad.map λp=>⟨p.1,p.2,none⟩,0,by rw[Z,h0],λh=>by omega⟩
    .rcases hcv with⟨b',o',Y,h3,Z⟩|⟨h0,ad,Z,_⟩
     .obtain⟨rfl,rfl,_⟩:=Aw (h3.symm.trans hcn)
      refine⟨_,Y-0,by simpa using Z,λ_=>⟨b',o',by simp,λi k J O=>?_⟩⟩
      obtain⟨x,hx,B⟩:=hc i k J O;have e:=hFy b' o' cap Fx hcn hc (λi k c J O h=>((ho rfl).2.2.2 c).2 (.inr ⟨i,k,J,O,h⟩)) i k J O
      exact⟨x,hx,HX B (Dr A d' _ k hno O),e▸B⟩
     .exact⟨ad.map λp=>⟨p.1,p.2,none⟩,0,by rw[Z,h0],λh=>by omega⟩
   cases hd:beq A.dep 0 with
   |true=>
    rw[hd]at h;cases h;have hd:=bqE hd;show YOK s A id y a w D F d u [];refine⟨⟨λ_ _=>noF,rd _ λb o cap Fx _ hc _ i k J O=>?_,λ_ _ _ _ _ h=>h.elim,λ_ _ _ _ _ _ _ _ _ _ h=>h.elim⟩,λj hj=>by cases hj⟩
    obtain⟨x,_,B⟩:=hc i k J O;obtain⟨cc,hcc⟩:=PH A d (u.getD i A.dflt) hd _ (I4 (k:=k) (by rw[AB];exact O))
    rw[hcc]at B;exact A7 B.2.2
   |false=>
    rw[hd]at h;simp only[cond_false]at h;split at h
    case h_2=>cases h
    cases ro with
    |true=>cases h
    |false=>
     cases h;show YOK s A id y a w D F d u [j];obtain⟨h1,h2⟩:=hat;subst h2;have hrj:=W.wr.rel j hid;rw[<-h1]at hrj;rcases hrj with⟨h0,_,hn0,_⟩|⟨b,o,cap,Fx,hcn,_,_,_,hc,_,ho⟩
     .refine⟨⟨λ_ _=>noF,rd _ λ_ _ _ _ _ _ _ i k J=>by omega,λ_ _ _ _ _ h=>h.elim,λ_ _ _ _ _ _ _ _ _ _ h=>h.elim⟩,λi J=>?_⟩
      simp at J;subst J;exact⟨hjr,λe=>by rw[e,beq_refl]at hb;cases hb⟩
     .refine⟨⟨Fx,?_,λi k c J O hF=>⟨j,by simp,((ho rfl).2.2.2 c).2 (.inr ⟨i,k,J,O,hF⟩)⟩,λi k i' k' c h1 h2 h3 Z hne hF=>(ho rfl).2.2.1 i k i' k' c h1 h2 h3 Z hne hF⟩,λi J=>?_⟩
      .rcases hcv with⟨b',o',Y,h3,Z⟩|⟨h0,ad,Z,_⟩
       .obtain⟨rfl,rfl,_⟩:=Aw (h3.symm.trans hcn)
        refine⟨_,Y-0,by simpa using Z,λ_=>⟨b',o',by simp,λi k J O=>?_⟩⟩
        obtain⟨x,hx,B⟩:=hc i k J O;exact⟨x,hx,HX B (Dr A d _ k hno O),B⟩
       .exact⟨ad.map λp=>⟨p.1,p.2,none⟩,0,by rw[Z,h0],λh=>by omega⟩
      .simp at J;subst J
       exact⟨hjr,λe=>by rw[e,beq_refl]at hb;cases hb⟩
 .rename_i j q off len hy
  have U:=BE W hdd y;rw[Bf hy]at U;split at h
  case h_2=>cases h
  rename_i ro A d' u hn;split at h
  case isFalse=>cases h
  rename_i ht;subst ht;cases hb:(beq j id|| !beq A.dep 0)with
  |true=>rw[hb]at h;cases h
  |false=>
   rw[hb]at h;cases h;show YOK s A id y a w D F d (OF len (Pw off u)) [];simp only[Bool.or_eq_false_iff,Bool.not_eq_false']at hb;have hd:=bqE hb.2;have U:Rel D w (Aq s.den.σ ρ w) (.rs j q off len) (a.eval y) noF:=U;obtain⟨⟨hid,sz,n,f,cn,hat,hle,hcv⟩,_⟩:=U;have E:=At.sub hat;have hne:Ag s.r j q≠.dead:=by rw[hn];intro h;cases h
   have hnode:sub q (s.den.σ.getD j .dead)=arr true A.w (tyV A d) A.dflt u:=(AV hne).trans (by rw[hn];rfl)
   rw[hnode]at E;have E:V.nd true true sz n f=.nd true true A.w u.length (λi k=>(tyV A d (u.getD i A.dflt)).getD k .dead):=E
   cases E;obtain⟨fp1,hr1,hfp1,_⟩:=C9 (w':=w) q _ _ _ _ _ (W.wr.rel j hid) (λb hb h=>W.wr.dD j b h hb) hat
   have hl:(OF len (Pw off u)).length=len:=by
    show(take len (drop off u)).length=len;simp;omega
   have hget:∀i,i<len->(OF len (Pw off u)).getD i A.dflt=u.getD (off+i) A.dflt:=by
    intro i J;show(take len (drop off u)).getD i A.dflt=_;simp[List.getElem?_take,J]
   refine⟨⟨λ_ _=>noF,?_,λ_ _ _ _ _ h=>h.elim,λ_ _ _ _ _ _ _ _ _ _ h=>h.elim⟩,λj hj=>by cases hj⟩
   rw[hl];rcases hcv with⟨b',o',Y,h3,Z⟩|⟨h0,ad,Z,_⟩
   .refine⟨_,Y-off,Z,λhpos=>⟨b',o'+off*A.w,rfl,λi k J O=>?_⟩⟩
    rcases hr1 with⟨h0,_,hn0,_⟩|⟨b,o,cap,Fx,hcn,_,_,_,hc,_,ho⟩
    .omega
    .obtain⟨rfl,rfl,_⟩:=Aw (h3.symm.trans hcn)
     obtain⟨x,hx,B⟩:=hc (off+i) k (by omega) O
     obtain⟨cc,hcc⟩:=PH A d (u.getD (off+i) A.dflt) hd _ (I4 (k:=k) (by rw[AB];exact O))
     have B:Rel D w noR ((tyV A d (u.getD (off+i) A.dflt)).getD k .dead) x (Fx (off+i) k):=B
     have e:Fx (off+i) k=noF:=by
      rw[hcc]at B;exact A7 B.2.2
     rw[e]at B;refine⟨x,?_,HX B (Dr A d _ k hno O),?_⟩
     .rw[Nat.add_mul,<-Nat.add_assoc]at hx;exact hx
     .show Rel D w noR ((tyV A d ((OF len (Pw off u)).getD i A.dflt)).getD k .dead) x noF
      rw[hget i J];exact B
   .exact⟨ad.map λp=>⟨p.1,p.2,none⟩,0,by rw[Z,h0],λh=>by omega⟩
theorem MG{xs ys:List t.T}(u:n=xs.length)(A:m=ys.length)(O:∀i k,i<n->f i k=(tyV t d (xs.getD i t.dflt)).getD k .dead)(J:∀i k,i<m->g i k=(tyV t d (ys.getD i t.dflt)).getD k .dead):
  Sub (.nd true true t.w (n+m) (U6 n f g)) (cV (.sl t) (d+1) (xs++ys)):=by
 show Sub _ (V.nd true true t.w (xs++ys).length λi k=>(tyV t d ((xs++ys).getD i t.dflt)).getD k .dead)
 rw[List.length_append,<-u,<-A];refine⟨_,rfl,λi k E B=>Sub.of_eq ?_⟩
 unfold U6
 grind
section
variable {C:Ctx}{N:Nat}{σ:List V}{ρ:Nat->Value}{F:Nat->Nat->Prop}{t:Nat->V}{a:Act}{w:World}{D:Nat->Prop}{T:Nat->Nat->Prop}
theorem PR.own(h:PR C N σ ρ F t a w D T){xs:List Operand}{r:V}{v':Value}{fp:Nat->Prop}{d:Nat}{w':World}(hos:w'.os=w.os)(htp:w'.tape=w.tape)(hout:w'.output=w.output)(hdr:w.drawn<=w'.drawn)(hsz:w.heap.size<=w'.heap.size)
  (U:∀c,c<w.heap.size->(∀j,¬opF t T xs j c)->w'.heap[c]? =w.heap[c]?) (hr:Rel D w' noR r v' fp) (hf:∀b,fp b->(∃j,opF t T xs j b)\/w.heap.size<=b) (hdn:d<N):
  ∃T',PR C N σ ρ F (AI (AP ((Bd t xs).map λy=>(y,.all)) t) d r) (a.put (some d) v') w' D T'/\∀x b,T' x b->some d=some x\/∃b',T x b':=by
 have Z:∀i b,F i b->b<w.heap.size:=h.wr.lt;have Y:∀x b,T x b->b<w.heap.size:=by
  intro x b u;by_cases B:x<N
  .exact Rel.lt _ _ _ (h.tm x B) b u
  .exact absurd u (h.tx x b (Nat.le_of_not_lt B))
 have hD:∀b,D b->w'.heap[b]? =w.heap[b]?:=λb u=>U b (h.wr.Dlt b u) λj J=>by obtain⟨y,_,_,A⟩:=J;exact h.tD y b A u
 have hFs:∀i b,F i b->w'.heap[b]? =w.heap[b]?:=λi b u=>U b (Z i b u) λj J=>by obtain⟨y,_,_,A⟩:=J;exact h.tF i y b u A
 have hTs:∀x b,x∉Bd t xs->T x b->w'.heap[b]? =w.heap[b]?:=λx b B u=>U b (Y x b u) λj J=>by
  obtain⟨y,_,_,E,A⟩:=DI J;exact h.tT x y b (λe=>B (e▸E)) u A
 have wr':Bu σ w' D ρ F:=⟨λi hi=>Rel.mono (λ_ h=>h) (λ_ _ h=>h) _ _ _ (λb u=>u.elim (hD b) (hFs i b)) (h.wr.rel i hi),h.wr.disj,h.wr.dD,λb u=>Nat.lt_of_lt_of_le (h.wr.Dlt b u) hsz,h.wr.out⟩
 have O:∀b,fp b->(∃y,y∈Bd t xs/\T y b)\/w.heap.size<=b:=λb u=>(hf b u).imp (fun⟨j,J⟩=>by obtain⟨y,_,_,E,A⟩:=DI J;exact⟨y,E,A⟩) id
 refine⟨λx b=>if x=d then fp b else x∉Bd t xs/\T x b,⟨h.df,by rw[BW];simpa using h.sz,λx B=>?_,wr',λx B=>?_,λx b u=>?_,λi x b u A=>?_,λx y b hxy h1 W=>?_,λx b u=>?_,⟨hos.trans h.fr.os,htp.trans h.fr.tape,hout.trans h.fr.output,le_trans h.fr.size hsz,λb u hW=>?_,le_trans h.fr.drawn hdr⟩,h.Fn,h.D1,h.D2,h.rt,h.ml,λx b B u=>?_⟩,λx b u=>?_⟩
 .have:¬x=d:=by omega
  simp only[AI,this,if_false];rw[Dh];split
  .rfl
  .exact h.dd x B
 .have hlt:x<a.tmps.size:=by rw[h.sz];exact B
  rw[BW];by_cases he:x=d
  .subst he
   simp only[AI,if_true];have:Rel D w' (Aq σ ρ w') r v' (λb=>if x=x then fp b else x∉Bd t xs/\T x b):=Rel.fp_congr (λb=>by rw[if_pos rfl]) (Rel.noR_mono hr)
   simpa [hlt]using this
  .simp only[AI,he,if_false]
   rw[Array.getD_eq_getD_getElem?,Array.getElem?_setIfInBounds_ne (Ne.symm he),<-Array.getD_eq_getD_getElem?,Dh];by_cases E:x∈Bd t xs
   .rw[if_pos E]
    exact λb u=>u.1 E
   .rw[if_neg E]
    refine Rel.fp_congr (fp:=T x) (λb=>⟨λh=>⟨E,h⟩,λh=>h.2⟩) ?_
    exact Rel.mono (λ_ h=>h) (λv cv hv=>Aq.same h.wr hFs v cv hv) _ _ _ (λb u=>u.elim (hD b) (hTs x b E)) (h.tm x B)
 .split at u
  .intro hDb
   rcases O b u with⟨y,_,A⟩|W
   .exact h.tD y b A hDb
   .have:=h.wr.Dlt b hDb;omega
  .exact h.tD x b u.2
 .split at A
  .rcases O b A with⟨y,_,A⟩|W
   .exact h.tF i y b u A
   .have:=Z i b u;omega
  .exact h.tF i x b u A.2
 .have one:∀x,fp b->x∉Bd t xs->T x b->False:=by
   intro x h3 B h4;rcases O b h3 with⟨z,E,h5⟩|h5
   .exact h.tT x z b (λe=>B (e▸E)) h4 h5
   .have:=Y x b h4;omega
  split at h1<;>split at W
  .rename_i e1 e2;exact absurd (e1.trans e2.symm) hxy
  .exact one y h1 W.1 W.2
  .exact one x W h1.1 h1.2
  .exact h.tT x y b hxy h1.2 W.2
 .split at u
  .rcases O b u with⟨y,_,A⟩|W
   .exact h.tn y b A
   .exact .inr (le_trans h.fr.size W)
  .exact h.tn x b u.2
 .rw[U b (Nat.lt_of_lt_of_le u h.fr.size) λj J=>by
   obtain⟨y,_,_,A⟩:=J;rcases h.tn y b A with h|h
   .exact hW h
   .omega]
  exact h.fr.block b u hW
 .have u:(if x=d then fp b else x∉Bd t xs/\T x b):=u
  rw[if_neg (by omega)]at u
  exact h.tx x b B u.2
 .have u:(if x=d then fp b else x∉Bd t xs/\T x b):=u
  split at u
  .rename_i e;exact .inl (by rw[e])
  .exact .inr ⟨b,u.2⟩
theorem PR.cr(h:PR C N σ ρ F t a w D T){t2:Nat->V}(E:∀x,t2 x=.dead\/(t2 x=t x/\AN (t x)=false)):CR C σ ((range N).map t2) a.tmps w D ρ F:=by
 refine⟨h.wr,by simp[h.sz],λj u=>?_,h.fr,h.Fn,h.D1,h.D2,h.rt,h.ml⟩
 have u:j<N:=by grind
 rw[AY u];rcases E j with e|⟨e,B⟩
 .rw[e];exact λ_ h=>h
 .rw[e]
  have A:=h.tm j u;rw[A7 (AF _ _ _ B A)]at A;omega
end
theorem Wk{R:V->Value->Prop}{cv:Value}(h:Rel D w R (.nd true true sz m g) cv fp)(h1:∀i k,i<m->k<sz->X3 (g i k)=true):
  ∃Fy,U7 D w sz m g cv Fy/\(∀i k c,i<m->k<sz->Fy i k c->fp c)/\∀i k i' k' c,i<m->k<sz->i'<m->k'<sz->(i≠i'\/k≠k')->Fy i k c->¬Fy i' k' c:=by
 rcases h with⟨h0,_,U,_⟩|⟨b,o,cap,F0,E,_,_,_,Y,_,O⟩
 .obtain⟨a,rfl⟩:=Dd U
  subst h0;exact⟨λ_ _=>noF,⟨a,0,rfl,λh=>by omega⟩,λi k c u=>by omega,λi k i' k' c u=>by simp⟩
 .obtain⟨_,_,hd,W⟩:=O rfl
  refine⟨F0,⟨some ⟨b,o,none⟩,cap,E,λ_=>⟨b,o,rfl,λi k u B=>?_⟩⟩,λi k c u B Z=>(W c).2 (.inr ⟨i,k,u,B,Z⟩),hd⟩
  obtain⟨x,J,A⟩:=Y i k u B;exact⟨x,J,HX A (h1 i k u B),A⟩
theorem XS{Al:Nat->Nat->Prop}{P:Program}{σ:List V}{o:Oper}{t:Nat->V}{ty e:TypeId}{x:Operand}{bytes n m:Nat}{zero:List Value}{f g:Nat->Nat->V}(ho:o.op=.call ⟨.builtin .append,#[x,y],#[ty,ty]⟩)(hd:o.dst=some d)(hdn:d<N)(hsl:slI P ty=some ⟨e,sz,bytes,zero⟩)(W:0<sz)
  (hx:Sub (Ms.ev ⟨t,σ⟩ x) (.nd true true sz n f)) (hap:C4 ([x,y].map (Ik t))=true)
  (hy:∀(C:Ctx) (ρ:Nat->Value) (F:Nat->Nat->Prop) (a:Act) (w:World) (D:Nat->Prop) (T:Nat->Nat->Prop) (A:Nat->V),(∀z∈Ha o.op,A z=t z)->PR C N σ ρ F A a w D T->
   ∃Fy,U7 D w sz m g (a.eval y) Fy/\(∀i k c,i<m->k<sz->Fy i k c->opF A T [x,y] 1 c)/\∀i k i' k' c,i<m->k<sz->i'<m->k'<sz->(i≠i'\/k≠k')->Fy i k c->¬Fy i' k' c)
  (h63:n+m<=maxLen) (hb:(n+m)*bytes<=140737488355328):
  LQ P N σ Al o t ((Bd t [x,y]).map λy=>(y,.all)) (.nd true true sz (n+m) (U6 n f g)):=by
 intro C ρ F a w D T A hag hal U next Q hn
 have E:∀z,Operand.tmp z∈ [x,y]->A z=t z:=λz hz=>hag z (.inl<|Ds (by rw[ho];simp[Op.operands,Call.operands]at hz⊢;simpa using hz))
 have hevx:Ms.ev ⟨A,σ⟩ x=Ms.ev ⟨t,σ⟩ x:=by
  cases x with
  |tmp z=>exact E z (by simp)
  |const v=>rfl
  |global g=>rfl
  |func f=>rfl
 have J:[x,y].map (Ik A)=[x,y].map (Ik t):=Dm λu hu z e=>E z (e▸hu)
 have hap':C4 ([x,y].map (Ik A))=true:=by rw[J];exact hap
 have htk:Bd A [x,y]=Bd t [x,y]:=by rw[BU,BU,J]
 have B:=U.opF_rel (xs:=[x,y]) (j:=0) (x:=x) rfl;rw[hevx]at B;have Y:=Rel.sub hx B;have B:Rel D w noR (.nd true true sz n f) (a.eval x) (opF A T [x,y] 0):=Y;obtain⟨Fy,hrd,O,hFd⟩:=hy C ρ F a w D T A (λz hz=>hag z (.inl hz)) U
 have oD:∀j b,opF A T [x,y] j b->¬D b:=λj b hj=>by obtain⟨z,_,_,hT⟩:=hj;exact U.tD z b hT
 obtain⟨v',w',fp,Z,hos,htp,hout,hdr,hsz,hbl,hr',hfp⟩:=Rel.append (P:=P) (ty:=o.type) hsl W B (λb hb h=>oD 0 b h hb) U.wr.Dlt hrd (λi k c hi hk hF=>⟨oD 1 c (O i k c hi hk hF),λh=>U.opF_dis hap' 0 1 c (by decide) h (O i k c hi hk hF)⟩) hFd h63 hb
 unfold Oper.wp execOp;simp only[ho,resolve,invoke,builtin,Sem.run_bind,Sem.run_pure,Result.andThen_ok,List.map_toArray,map_cons,List.map_nil,Z];show next (a.put o.dst v') w'
 rw[hd]at hn⊢
 obtain⟨T',hp',hT'⟩:=U.own (xs:=[x,y]) (d:=d) hos htp hout hdr hsz (λc hc hG=>hbl c hc (hG 0)) hr' (λb hb=>by
  rcases hfp b hb with h1|⟨i,k,hi,hk,h1⟩|h1
  .exact .inl ⟨0,h1⟩
  .exact .inl ⟨1,O i k b hi hk h1⟩
  .exact .inr h1) hdn
 rw[htk]at hp';exact hn _ _ _ _ hp' hT' λ_ hx=>BL hx
end Go.Ve

