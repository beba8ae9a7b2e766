/- The typed machine: new trees get their numbers; one quiet operation. -/
import Derived.Test.YteakdlfnmhlifaaTd
import Derived.Test.YteakdlfnmhlifaaVwa
import Derived.Test.YteakdlfnmhlifaaVy
open Nat(blt beq beq_refl le_trans)
open List(range map_append mem_singleton length_map map_cons take drop)
set_option linter.all false
namespace Go.Ve
variable{h:Cd}{a b r r':List Ab}{d m:Nat}{y:Sl}{s s':St}
def Cl.prom(e m:Nat):Cl->Cl×List Ab
 |.c (.sl t) (d+1) xs=>(.rf m [],[.arr false t d xs])
 |.c (.ptr t) (d+1) x=>bif blt 0 t.w then(.rp m [] 0 0,[.obj false (Aq t d x)])else(.dead,[])
 |.c (.osl t) (d+1) x=>match x with
  |some xs=>(.rf m [],[.arr false t d xs])
  |none=>(.dead,[])
 |.c (.mp k v) (_+1) x=>(.rm m [],[.mp false k v x])
 |y=>(y.chk e,[])
def B4(e:Nat):Nat->List Cl->List Cl×List Ab
 |_,[]=>([],[])
 |m,y::l=>((y.prom e m).1::(B4 e (m+(y.prom e m).2.length) l).1,(y.prom e m).2++(B4 e (m+(y.prom e m).2.length) l).2)
def ID(e m:Nat)(p:Bool×List Cl):(Bool×List Cl)×List Ab:=
 bif p.1 then((true,(B4 e m p.2).1),(B4 e m p.2).2)else((false,[((p.2.getD 0 .dead).prom e m).1]),((p.2.getD 0 .dead).prom e m).2)
def DD(e:Nat):Nat->List (Bool×List Cl)->List (Bool×List Cl)×List Ab
 |_,[]=>([],[])
 |m,p::l=>((ID e m p).1::(DD e (m+(ID e m p).2.length) l).1,(ID e m p).2++(DD e (m+(ID e m p).2.length) l).2)
def Sl.prom(m:Nat):Sl->Sl×List Ab
 |.one y=>(.one (y.prom m m).1,(y.prom m m).2)
 |.new l=>bif blt 0 l.length then(.one (.rp m [] 0 0),[.obj false l])else(.one .dead,[])
 |.agg l=>(.agg (B4 m m l).1,(B4 m m l).2)
 |.pk t l=>(.pk t (B4 m m l).1,(B4 m m l).2)
 |.tup l=>(.tup (DD m m l).1,(DD m m l).2)
def Has(r':List Ab)(m:Nat)(new:List Ab):Prop:=∀j,j<new.length->r'.getD (m+j) .dead=new.getD j .dead
def Has.left(h:Has r' m (a++b)):Has r' m a:=λj hj=>by
 rw[h j (by simp;omega),gDE,gAL hj,<-gDE]
def Has.right(h:Has r' m (a++b)):Has r' (m+a.length) b:=λj hj=>by
 have:=h (a.length+j) (by simp;omega)
 rw[<-Nat.add_assoc]at this;rw[this,gDE,gAR (by omega),<-gDE,Nat.add_sub_cancel_left]
theorem VX{v:V}(h:AK v=false)(e:∀t n f,v≠.many t n f):Go.Ve.prom v m=(v,[]):=by
 cases v with
 |nd s own sz n f=>cases own with
  |true=>cases h
  |false=>cases s<;>rfl
 |many t n f=>exact absurd rfl (e t n f)
 |mp own l=>cases own with
  |true=>cases h
  |false=>rfl
 |_=>rfl
def Aac{f:Nat->V}{n:Nat}(h:∀k m,Go.Ve.prom (f k) m=(f k,[])):BO (λk=>Go.Ve.prom (f k)) n m=((range n).map f,[]):=by
 induction n with
 |zero=>rfl
 |succ n e=>
  show((BO _ n m).1++[(Go.Ve.prom (f n) _).1],(BO _ n m).2++(Go.Ve.prom (f n) _).2)=_;rw[e,h,List.range_succ,map_append];rfl
def HZ:∀(t:Ty) (x:t.T),∀v∈tyV t 0 x,∀m,Go.Ve.prom v m=(v,[])
 |.int _,_,v,h,m=>by simp[tyV]at h;subst h;rfl
 |.bool,_,v,h,m=>by simp[tyV]at h;subst h;rfl
 |.str,_,v,h,m=>by simp[tyV]at h;subst h;rfl
 |.sl _,_,v,h,m=>by simp only[tyV,mem_singleton]at h;subst h;rfl
 |.ptr _,_,v,h,m=>by simp only[tyV,mem_singleton]at h;subst h;rfl
 |.unit,_,v,h,m=>by simp[tyV]at h
 |.mp _ _,_,v,h,m=>by simp only[tyV,mem_singleton]at h;subst h;rfl
 |.pair a b,x,v,h,m=>by
  simp only[tyV,List.mem_append]at h;exact h.elim (λh=>HZ a x.1 v h m) λh=>HZ b x.2 v h m
 |.osl _,x,v,h,m=>by
  simp only[tyV,mem_singleton]at h;subst h;cases x<;>rfl
 |.clo g t,x,v,h,m=>by
  simp only[tyV,mem_singleton]at h;subst h
  have e:∀k m,Go.Ve.prom ((tyV t 0 x).getD k .dead) m=((tyV t 0 x).getD k .dead,[]):=by
   intro k m;by_cases e:k<(tyV t 0 x).length
   .rw[gDE,gEE e]
    exact HZ t x _ (List.getElem_mem e) m
   .rw[gDE,List.getElem?_eq_none (by omega)];rfl
  show(V.many (.cl g) t.w λk=>(BO (λk=>Go.Ve.prom ((tyV t 0 x).getD k .dead)) t.w m).1.getD k .dead,(BO (λk=>Go.Ve.prom ((tyV t 0 x).getD k .dead)) t.w m).2)=_
  rw[Aac e]
  congr 2
  funext k
  by_cases e:k<t.w
  .simp[e]
  .have:(tyV t 0 x).length<=k:=by rw[Av];omega
   simp only[gDE];rw[List.getElem?_eq_none (by simpa using Nat.le_of_not_lt e),List.getElem?_eq_none this]
def OL{l:List V}:Go.Ve.prom (A8 true l) m=if 0<l.length then(.rp m [] 0 0,[A8 true l])else(.dead,[]):=rfl
theorem Cl.prom_v(J:∀id,id<r.length->r'.getD id .dead=r.getD id .dead)(y:Cl)(m:Nat)(H:Has r' m (y.prom r.length m).2):
  An (Go.Ve.prom (y.v r) m).1 ((y.prom r.length m).1.v r')/\(Go.Ve.prom (y.v r) m).2=(y.prom r.length m).2.map Ab.v:=by
 have plain:∀y:Cl,y.own=false->(∀g u d x,y≠.c (.clo g u) d x)->(y.prom r.length m)=(y.chk r.length,[])->An (Go.Ve.prom (y.v r) m).1 ((y.prom r.length m).1.v r')/\(Go.Ve.prom (y.v r) m).2=(y.prom r.length m).2.map Ab.v:=by
  intro y O A U
  rw[U,VX (by rw[Cl.own_v,O]) (by
   cases y with
   |c t d x=>cases t<;>first|exact absurd rfl (A _ _ _ _)|(intro _ _ _ h;cases h;done)|(intro _ _ _ h;cases x<;>cases h)
   |_=>intro _ _ _ h;cases h)]
  exact⟨Cl.chk_v J y,rfl⟩
 cases y with
 |c t d x=>
  cases t with
  |clo g u=>
   have e:Go.Ve.prom (cV (.clo g u) d x) m=(cV (.clo g u) d x,[]):=HZ (.clo g u) x _ (mem_singleton.2 rfl) m;show An (Go.Ve.prom (cV (.clo g u) d x) m).1 _/\(Go.Ve.prom (cV (.clo g u) d x) m).2=_;rw[e];exact⟨An.refl _,rfl⟩
  |sl t=>cases d with
   |zero=>exact plain _ rfl (by intro _ _ _ _ h;cases h) rfl
   |succ d=>
    have E:r'.getD m .dead=.arr false t d x:=H 0 Nat.one_pos;refine⟨?_,rfl⟩;show An (V.rs m [] 0 x.length) (V.rs m [] 0 (Ac r' m []).len);unfold Ac;rw[E];exact An.refl _
  |mp k v=>cases d with
   |zero=>exact plain _ rfl (by intro _ _ _ _ h;cases h) rfl
   |succ d=>exact⟨An.refl _,rfl⟩
  |osl t=>cases d with
   |zero=>exact plain _ rfl (by intro _ _ _ _ h;cases h) rfl
   |succ d=>
    cases x with
    |none=>exact⟨An.refl _,rfl⟩
    |some xs=>
     have E:r'.getD m .dead=.arr false t d xs:=H 0 Nat.one_pos;refine⟨?_,rfl⟩;show An (V.rs m [] 0 xs.length) (V.rs m [] 0 (Ac r' m []).len);unfold Ac;rw[E];exact An.refl _
  |ptr t=>cases d with
   |zero=>exact plain _ rfl (by intro _ _ _ _ h;cases h) rfl
   |succ d=>
    show An (Go.Ve.prom (A8 true (tyV t d x)) m).1 _/\(Go.Ve.prom (A8 true (tyV t d x)) m).2=_;rw[OL];show An _ ((bif blt 0 t.w then(Cl.rp m [] 0 0,[Ab.obj false (Aq t d x)])else(.dead,[])).1.v r')/\_=((bif blt 0 t.w then(Cl.rp m [] 0 0,[Ab.obj false (Aq t d x)])else(.dead,[])).2).map Ab.v;cases B:blt 0 t.w with
    |true=>
     rw[if_pos (by rw[Av];exact Ml B)]
     refine⟨An.refl _,?_⟩;show _=[A8 true ((Aq t d x).map Cl.v0)];rw[Bs]
    |false=>
     rw[if_neg (λh=>by rw[Av]at h;rw[show blt 0 t.w=true from Nat.ble_eq_true_of_le h]at B;cases B)]
     exact⟨An.refl _,rfl⟩
  |_=>exact plain _ rfl (by intro _ _ _ _ h;cases h) rfl
 |_=>exact plain _ rfl (by intro _ _ _ _ h;cases h) rfl
def Jx{r r':List Ab}(u:∀id,id<r.length->r'.getD id .dead=r.getD id .dead):∀(l:List Cl) (m:Nat),Has r' m (B4 r.length m l).2->
  (B7 (l.map (Cl.v r)) m).1.length=((B4 r.length m l).1.map (Cl.v r')).length/\(∀k,An ((B7 (l.map (Cl.v r)) m).1.getD k .dead) (((B4 r.length m l).1.map (Cl.v r')).getD k .dead))/\(B7 (l.map (Cl.v r)) m).2=(B4 r.length m l).2.map Ab.v
 |[],m,_=>⟨rfl,λk=>An.refl _,rfl⟩
 |y::l,m,hn=>by
  obtain⟨B,A⟩:=Cl.prom_v u y m hn.left;have e:(Go.Ve.prom (y.v r) m).2.length=(y.prom r.length m).2.length:=by rw[A,length_map]
  obtain⟨g1,g2,E⟩:=Jx u l (m+(y.prom r.length m).2.length) hn.right;rw[map_cons,LF,e];refine⟨by simp only[B4,map_cons,List.length_cons];exact congrArg (· +1) g1,λk=>?_,?_⟩
  .cases k with
   |zero=>exact B
   |succ k=>exact g2 k
  .show _++_=(_++_:List Ab).map Ab.v
   rw[map_append,A,E]
theorem AcG(e:∀id,id<r.length->r'.getD id .dead=r.getD id .dead)(p:Bool×List Cl)(m:Nat)(u:Has r' m (ID r.length m p).2):
  An (Go.Ve.prom (if p.1 then Ag (p.2.map (Cl.v r))else(p.2.map (Cl.v r)).getD 0 .dead) m).1 (if(ID r.length m p).1.1 then Ag ((ID r.length m p).1.2.map (Cl.v r'))else((ID r.length m p).1.2.map (Cl.v r')).getD 0 .dead)/\
  (Go.Ve.prom (if p.1 then Ag (p.2.map (Cl.v r))else(p.2.map (Cl.v r)).getD 0 .dead) m).2=(ID r.length m p).2.map Ab.v:=by
 obtain⟨b,l⟩:=p;cases b with
 |true=>
  obtain⟨E,B,A⟩:=Jx e l m u;show An (Go.Ve.prom (Ag _) m).1 (Ag ((B4 r.length m l).1.map (Cl.v r')))/\(Go.Ve.prom (Ag _) m).2=_;rw[X4];exact⟨An.mk E λk _=>B k,A⟩
 |false=>
  show An (Go.Ve.prom ((l.map (Cl.v r)).getD 0 .dead) m).1 (((l.getD 0 .dead).prom r.length m).1.v r')/\(Go.Ve.prom ((l.map (Cl.v r)).getD 0 .dead) m).2=_;rw[Az (f:=Cl.v r) (a:=.dead) rfl];exact Cl.prom_v e _ m u
def Uy{r r':List Ab}(u:∀id,id<r.length->r'.getD id .dead=r.getD id .dead):∀(l:List (Bool×List Cl)) (m:Nat),Has r' m (DD r.length m l).2->
  (B7 (l.map λp=>if p.1 then Ag (p.2.map (Cl.v r))else(p.2.map (Cl.v r)).getD 0 .dead) m).1.length=(DD r.length m l).1.length/\
  (∀k,An ((B7 (l.map λp=>if p.1 then Ag (p.2.map (Cl.v r))else(p.2.map (Cl.v r)).getD 0 .dead) m).1.getD k .dead) (((DD r.length m l).1.map λp=>if p.1 then Ag (p.2.map (Cl.v r'))else(p.2.map (Cl.v r')).getD 0 .dead).getD k .dead))/\
  (B7 (l.map λp=>if p.1 then Ag (p.2.map (Cl.v r))else(p.2.map (Cl.v r)).getD 0 .dead) m).2=(DD r.length m l).2.map Ab.v
 |[],m,_=>⟨rfl,λk=>An.refl _,rfl⟩
 |p::l,m,hn=>by
  obtain⟨B,A⟩:=AcG u p m hn.left;have e:=congrArg List.length A;rw[length_map]at e;obtain⟨g1,g2,E⟩:=Uy u l (m+(ID r.length m p).2.length) hn.right;rw[map_cons,LF,e];refine⟨by simp only[DD,List.length_cons];exact congrArg (· +1) g1,λk=>?_,?_⟩
  .cases k with
   |zero=>exact B
   |succ k=>exact g2 k
  .show _++_=(_++_:List Ab).map Ab.v
   rw[map_append,A,E]
theorem Sl.prom_v{r:List Ab}(y:Sl):An (Go.Ve.prom (y.v r) r.length).1 ((y.prom r.length).1.v (r++(y.prom r.length).2))/\(Go.Ve.prom (y.v r) r.length).2=(y.prom r.length).2.map Ab.v:=by
 have B:∀new:List Ab,∀id,id<r.length->(r++new).getD id .dead=r.getD id .dead:=λnew id h=>by
  simp[gDE,gAL h]
 have E:∀new:List Ab,Has (r++new) r.length new:=λnew j _=>by
  simp only[gDE];rw[gAR (by omega),Nat.add_sub_cancel_left]
 cases y with
 |one c=>exact Cl.prom_v (B _) c r.length (E _)
 |new l=>
  show An (Go.Ve.prom (A8 true (l.map Cl.v0)) r.length).1 _/\(Go.Ve.prom (A8 true (l.map Cl.v0)) r.length).2=_;rw[OL,length_map];show An _ ((bif blt 0 l.length then(Sl.one (.rp r.length [] 0 0),[Ab.obj false l])else(.one .dead,[])).1.v (r++((bif blt 0 l.length then(Sl.one (.rp r.length [] 0 0),[Ab.obj false l])else(.one .dead,[])).2)))/\_=((bif blt 0 l.length then(Sl.one (.rp r.length [] 0 0),[Ab.obj false l])else(.one .dead,[])).2).map Ab.v;cases H:blt 0 l.length with
  |true=>
   rw[if_pos (Ml H)];exact⟨An.refl _,rfl⟩
  |false=>
   rw[if_neg (λh=>by rw[show blt 0 l.length=true from Nat.ble_eq_true_of_le h]at H;cases H)]
   exact⟨An.refl _,rfl⟩
 |agg l=>
  obtain⟨A,u,e⟩:=Jx (B (B4 r.length r.length l).2) l r.length (E _);show An (Go.Ve.prom (Ag _) r.length).1 (Ag _)/\(Go.Ve.prom (Ag _) r.length).2=_;rw[X4];exact⟨An.mk A λk _=>u k,e⟩
 |pk t l=>
  obtain⟨A,u,e⟩:=Jx (B (B4 r.length r.length l).2) l r.length (E _);show An (Go.Ve.prom (pkL t _) r.length).1 (pkL t _)/\(Go.Ve.prom (pkL t _) r.length).2=_;rw[AcF];exact⟨An.pk A λk _=>u k,e⟩
 |tup l=>
  obtain⟨A,u,e⟩:=Uy (B (DD r.length r.length l).2) l r.length (E _);show An (Go.Ve.prom (Dq _) r.length).1 (Dq _)/\(Go.Ve.prom (Dq _) r.length).2=_;rw[Aab];exact⟨An.tup (by rw[A];simp) λk _=>u k,e⟩
def AJ(t:Nat->Sl)(d:Nat)(y:Sl):Nat->Sl:=λi=>bif beq i d then y else t i
theorem B3{t:Nat->Sl}:(λi=>(AJ t d y i).v r)=AD (λi=>(t i).v r) d (y.v r):=by
 funext i
 unfold AJ AD;cases e:beq i d with
 |true=>rw[if_pos (bqE e)];rfl
 |false=>rw[if_neg (λh=>by rw[h,beq_refl]at e;cases e)];rfl
def St.add(s:St)(d:Nat)(p:Sl×List Ab):St:=match p.2 with
 |[]=>⟨AJ s.t d p.1,s.r⟩
 |q::new=>⟨AJ (λi=>(s.t i).chk s.r.length) d p.1,s.r++q::new⟩
def St.put(h:Cd)(s:St)(d:Option Nat)(y:Sl):Option St:=match d with
 |none=>some s
 |some d=>bif blt d h.n then(bif h.fz.contains d then(match y.frz with
   |some e=>some ⟨AJ s.t d e,s.r⟩
   |none=>none)else some (s.add d (y.prom s.r.length)))else none
theorem Zg:(∀i,An (AD s.den.t d (Go.Ve.prom (y.v s.r) s.r.length).1 i) ((s.add d (y.prom s.r.length)).den.t i))/\s.den.σ++(Go.Ve.prom (y.v s.r) s.r.length).2=(s.add d (y.prom s.r.length)).den.σ:=by
 obtain⟨e,A⟩:=Sl.prom_v (r:=s.r) y;rw[A];unfold St.add;cases u:(y.prom s.r.length).2 with
 |nil=>
  rw[u]at e;rw[List.append_nil]at e;refine⟨λi=>?_,by simp[St.den]⟩
  show An _ ((AJ s.t d (y.prom s.r.length).1 i).v s.r);rw[congrFun (B3 (r:=s.r) (t:=s.t) (d:=d) (y:=(y.prom s.r.length).1)) i];unfold AD;split
  .exact e
  .exact An.refl _
 |cons q new=>
  rw[u]at e;refine⟨λi=>?_,by simp[St.den]⟩
  show An _ ((AJ (λi=>(s.t i).chk s.r.length) d (y.prom s.r.length).1 i).v (s.r++q::new))
  rw[congrFun (B3 (r:=s.r++q::new) (t:=λi=>(s.t i).chk s.r.length) (d:=d) (y:=(y.prom s.r.length).1)) i]
  unfold AD;split
  .exact e
  .exact Sl.chk_v (λid h=>by simp[gDE,gAL h]) _
theorem AcE{d:Option Nat}(e:s.put h d y=some s'):(∀i,An ((s.den.res h d (y.v s.r)).t i) (s'.den.t i))/\(s.den.res h d (y.v s.r)).σ=s'.den.σ:=by
 unfold St.put at e;cases d with
 |none=>cases e;exact⟨λi=>An.refl _,rfl⟩
 |some d=>
  simp only at e;obtain⟨u,e⟩:=A1 e;have u:d<h.n:=blE u;unfold Ms.res;simp only[u,if_true];cases B:h.fz.contains d with
  |true=>
   rw[B]at e;simp only[cond_true]at e;split at e
   .rename_i A E
    cases e;refine⟨λi=>?_,rfl⟩
    show An (AD s.den.t d (Go.Ve.frz (y.v s.r)) i) ((AJ s.t d A i).v s.r);rw[congrFun (B3 (r:=s.r) (t:=s.t) (d:=d) (y:=A)) i,Sl.frz_v E];exact An.refl _
   .cases e
  |false=>
   rw[B]at e;simp only[cond_false,Option.some.injEq]at e;subst e;have H:s.den.σ.length=s.r.length:=by simp[St.den]
   simp only[Bool.false_eq_true,if_false,H];exact Zg
def AN.put{C:Ctx}{h:Cd}{s s':St}{d:Option Nat}{y:Sl}{a:Act}{w:World}(A:s.put h d y=some s')(u:AN C h.n (s.den.res h d (y.v s.r)) a w):AN C h.n s'.den a w:=by
 obtain⟨B,e⟩:=AcE A;exact u.sub (by rw[e]) (λi _=>by rw[e];exact Sub.refl _) B
theorem WZ{P:Program}{C:Ctx}{o:Oper}{a:Act}{w:World}{next:Act->World->Prop}{Q:Exit->Act->World->Prop}(e:QS P s o.op y)(O:s.put h o.dst y=some s')
  (J:AN C h.n s.den a w) (U:∀u w',AN C h.n s'.den u w'->next u w'):o.wp P a w next Q:=by
 refine HK (P:=P) (h:=h) (K:=λS=>S=s.den.res h o.dst (y.v s.r)) (S:=s.den) ?_ J λS' u w' W A=>U u w' (AN.put O (W▸A))
 have E:qop P s.den.σ s.den.ev o.op (ResK h o.dst s.den λS=>S=s.den.res h o.dst (y.v s.r)):=by
  refine Oo e ?_;intro r0 B;exact⟨y.v s.r,B,rfl⟩
 unfold vop;split
 .rename_i t x v H
  rw[H]at e;exact e.elim
 .rename_i t m k x H
  rw[H]at e;exact e.elim
 .exact E
end Go.Ve


namespace Go.Ve
variable{y:Cl}{r:List Ab}{σ:List V}{N:Nat}{t:Nat->V}
def PR.subst{C:Ctx}{ρ:Nat->Value}{F:Nat->Nat->Prop}{u:Nat->V}{a:Act}{w:World}{D:Nat->Prop}{T:Nat->Nat->Prop}(h:PR C N σ ρ F t a w D T)(A:∀x,Sub (t x) (u x)):PR C N σ ρ F u a w D T:=
 ⟨h.df,h.sz,λx e=>by have:=A x;rw[h.dd x e]at this;trivial,h.wr,λx e=>Rel.sub (A x) (h.tm x e),h.tD,h.tF,h.tT,h.tn,h.fr,h.Fn,h.D1,h.D2,h.rt,h.ml,h.tx⟩
theorem LQ.sub{P:Program}{Al:Nat->Nat->Prop}{o:Oper}{ys e:List (Nat×Tk)}{r r':V}(h:LQ P N σ Al o t ys r)(Z:∀x,Bm ys x≠none->Bm e x≠none)(O:∀x v,Sub (Iq (Bm ys x) v) (Iq (Bm e x) v))(hr:Sub r r'):LQ P N σ Al o t e r':=by
 intro C ρ F a w D T u H E W next Q Y
 refine h C ρ F a w D T u (λx U=>H x (U.imp id (Z x))) E W next Q λa' w' D' T' B J A=>Y a' w' D' T' (B.subst λx=>?_) J A
 have hk:Sub (AQ ys u x) (AQ e u x):=O x _;cases hd:o.dst with
 |none=>trivial
 |some d=>
  show Sub (if x=d then r else AQ ys u x) (if x=d then r' else AQ e u x)
  grind
def Cl.solid:Cl->Bool
 |.dead=>false
 |.c .unit _ _=>false
 |.c (.pair _ _) _ _=>false
 |.c (.clo _ _) _ _=>false
 |.c (.osl _) _ _=>false
 |_=>true
theorem Xu(h:y.solid=true):Zs (y.v r)=true/\I7 (y.v r)=true/\Go.Ve.cellsV (y.v r)=[y.v r]:=by
 cases y with
 |c t d x=>cases t<;>first|trivial|rfl
 |dead=>cases h
 |_=>trivial
def Sl.cellsO:Sl->Option (List Cl)
 |.one y=>bif y.solid then some [y]else none
 |.agg l=>bif l.all Cl.solid then some l else none
 |_=>none
theorem Vc{y:Sl}{l:List Cl}(h:y.cellsO=some l):I7 (y.v r)=true/\Go.Ve.cellsV (y.v r)=l.map (Cl.v r)/\∀c∈l,Zs (c.v r)=true:=by
 unfold Sl.cellsO at h;split at h
 .rename_i c
  cases e:c.solid with
  |false=>grind
  |true=>
   rw[e]at h;cases h;obtain⟨H,E,B⟩:=Xu e;exact⟨E,B,λc' u=>by grind⟩
 .rename_i A
  cases e:A.all Cl.solid with
  |false=>grind
  |true=>
   rw[e]at h;cases h;exact⟨rfl,Pr,λc u=>(Xu (aET.1 e c u)).1⟩
 grind
def Cl.isMp:Cl->Bool
 |.c (.mp _ _) _ _=>true
 |_=>false
def Cl.keep(y:Cl):Bool:=y.imm||(y.own&& !y.isMp)
theorem YA(h:y.keep=true):(B9 (y.v r)=true\/∃s sz n f,y.v r=.nd s true sz n f)/\y.v r=y.v0:=by
 unfold Cl.keep at h;cases hi:y.imm with
 |true=>exact⟨.inl (QA hi).1,(QA hi).2⟩
 |false=>
  rw[hi,Bool.false_or,bAE]at h;cases y with
  |c t d x=>cases t<;>cases d<;>first|(cases h.2;done)|(cases h.1;done)|exact⟨.inr ⟨_,_,_,_,rfl⟩,rfl⟩|(cases x<;>first|(cases h.1;done)|exact⟨.inr ⟨_,_,_,_,rfl⟩,rfl⟩)
  |_=>cases h.1
def N4(place:Nat->Option (Nat×Nat))(cells:List Cl):List (Nat×Option Sl)->Option (List Cl)
 |[]=>some cells
 |(i,y)::rest=>match place i,y with
  |some (off,size),some y=>match y.cellsO with
   |some l=>bif beq l.length size&&Nat.ble (off+size) cells.length then N4 place (AdK cells off l) rest else none
   |none=>none
  |_,_=>none
theorem MD{s:St}{place:Nat->Option (Nat×Nat)}{ev:Operand->V}:∀(ps:List (Nat×Operand)) (cells l:List Cl),(∀p∈ps,s.den.ev p.2≠.dead->ev p.2=s.den.ev p.2)->N4 place cells (ps.map λp=>(p.1,s.ev p.2))=some l->
  (∀p∈ps,I7 (ev p.2)=true)/\Cb place (cells.map (Cl.v s.r)) (ps.map λp=>(p.1,ev p.2))=some (l.map (Cl.v s.r))
 |[],cells,l,_,h=>by cases h;exact⟨λp A=>(by cases A),rfl⟩
 |(i,x)::ps,cells,l,hev,h=>by
  rw[map_cons]at h;unfold N4 at h;split at h
  case h_2=>cases h
  rename_i off size y B u;split at h
  case h_2=>cases h
  rename_i m J;obtain⟨E,h⟩:=A1 h;simp only[bAE]at E;have U:=bqE E.1;have O:=blE E.2;obtain⟨g1,g2,_⟩:=Vc (r:=s.r) J;obtain⟨k1,k2⟩:=MD ps _ _ (λp A=>hev p (mCM _ A)) h
  have u:s.ev x=some y:=u;have H:ev x=y.v s.r:=by
   rw[<-Bd u];refine hev (i,x) (List.mem_cons_self ..) ?_;rw[Bd u];intro e;rw[e]at g1;cases g1
  refine⟨λp A=>?_,?_⟩
  .grind
  .rw[map_cons]
   unfold Cb;simp only[B,H,g2];rw[if_neg (by simp only[length_map];omega),<-XA]
   exact k2
def LP(s:St):Operand->Option Nat
 |.tmp y=>bif(s.t y).own then some y else none
 |_=>none
theorem UE{s:St}(h:∀y,AK (t y)=(s.t y).own)(xs:List Operand):xs.map (IH t)=xs.map (LP s):=by
 refine List.map_congr_left λx _=>?_
 cases x with
 |tmp y=>
  show(if AK (t y)=true then some y else none)=bif(s.t y).own then some y else none
  grind
 |_=>rfl
def jsO:List (Option Nat)->List Nat
 |[]=>[]
 |none::l=>jsO l
 |some a::l=>a::jsO l
theorem fitO_v(d:Nat)(r:List Ab)(c:Cl):(fit d c).v r=c.v r/\(fit d c).v0=c.v0:=by
 cases c with
 |c t u x=>
  have e:fit d (.c t u x)=bif beq (PC u t.dep) (PC d t.dep)then .c t d x else .c t u x:=rfl;rw[e];cases h:beq (PC u t.dep) (PC d t.dep)with
  |false=>simp
  |true=>
   have:=bqE h;rw[IJ,IJ]at this;exact⟨(Mk this).symm,(Mk this).symm⟩
 |_=>trivial
theorem CI{xs:List Operand}{l:List (Option Nat)}(h:xs.map (IH t)=l):Bf t xs=jsO l:=by
 rw[BV,h];clear h
 induction l with
 |nil=>rfl
 |cons a l e=>cases a with
  |none=>trivial
  |some a=>show a::l.filterMap id=a::jsO l;grind
def CU(js:List Nat)(t:Nat->Sl):Nat->Sl:=λi=>bif js.contains i then .one .dead else t i
def nrm1:Cl->Cl->Cl
 |.c (.sl t) _ _,.nil=>.c (.sl t) (t.dep+1) []
 |_,y=>y
def V1:List Cl->List Cl->List Cl
 |a::lp,y::l=>nrm1 a y::V1 lp l
 |_,l=>l
def nrm1_v(a y:Cl):Sub y.v0 (nrm1 a y).v0:=by
 unfold nrm1;split
 .exact .inr ⟨rfl,_,_,_,rfl⟩
 .exact Sub.refl _
def AcP(r:List Ab)(a y:Cl):Sub (y.v r) ((nrm1 a y).v r):=by
 unfold nrm1;split
 .exact .inr ⟨rfl,_,_,_,rfl⟩
 .exact Sub.refl _
def Yf(r:List Ab):∀(lp l:List Cl) (k:Nat),Sub ((l.map (Cl.v r)).getD k .dead) (((V1 lp l).map (Cl.v r)).getD k .dead)
 |[],[],_=>Sub.refl _
 |[],_::_,_=>Sub.refl _
 |_::_,[],_=>Sub.refl _
 |a::lp,y::l,0=>AcP r a y
 |a::lp,y::l,k+1=>Yf r lp l k
def M7:∀(lp l:List Cl),(V1 lp l).length=l.length
 |[],[]=>rfl
 |[],_::_=>rfl
 |_::_,[]=>rfl
 |a::lp,y::l=>by show(V1 lp l).length+1=_;rw[M7 lp l];rfl
def Abq:∀(lp l:List Cl) (k:Nat),Sub ((l.map Cl.v0).getD k .dead) (((V1 lp l).map Cl.v0).getD k .dead)
 |[],[],_=>Sub.refl _
 |[],_::_,_=>Sub.refl _
 |_::_,[],_=>Sub.refl _
 |a::lp,y::l,0=>nrm1_v a y
 |a::lp,y::l,k+1=>Abq lp l k
end Go.Ve


namespace Go.Ve
variable{N d id m n sz:Nat}{f g:Nat->Nat->V}{D fp:Nat->Prop}{y:Operand}{s:St}{t:Ty}{w:World}
def Wy(s:St)(t:Ty)(id:Nat):Option Sl->Option (Nat×List t.T×List Nat)
 |some (.one (.c (.sl e) 0 ys))=>if h:e=t then some (0,h▸ys,[])else none
 |some (.one (.rf j q))=>match Ac s.r j q with
  |.arr ro e d ys=>if h:e=t then(bif beq j id then none else bif beq t.dep 0 then some (d,h▸ys,[])else match q with
   |[]=>bif ro then none else some (d,h▸ys,[j])
   |_::_=>none)else none
  |_=>none
 |some (.one (.rs j q off len))=>match Ac s.r j q with
  |.arr _ e d ys=>if h:e=t then(bif beq j id|| !beq t.dep 0 then none else some (d,PN len (QJ off (h▸ys)),[]))else none
  |_=>none
 |_=>none
def Wz(s:St)(t:Ty)(id:Nat)(y:Option Sl):Option (Nat×List t.T×List Nat):=bif t.noO then Wy s t id y else none
theorem Y8{y:Option Sl}{z:Nat×List t.T×List Nat}(h:Wz s t id y=some z):Wy s t id y=some z/\t.noO=true:=by
 unfold Wz at h
 grind
def O0(b:Nat):Nat:=140737488355328/b
def Dv:∀(t:Ty) (d:Nat) (x:t.T) (k:Nat),t.noO=true->k<t.w->Zs ((tyV t d x).getD k .dead)=true
 |.int _,_,_,0,_,_=>rfl
 |.int _,_,_,_+1,_,h=>by trivial
 |.bool,_,_,0,_,_=>rfl
 |.bool,_,_,_+1,_,h=>by trivial
 |.str,_,_,0,_,_=>rfl
 |.str,_,_,_+1,_,h=>by trivial
 |.sl _,_,_,0,_,_=>rfl
 |.sl _,_,_,_+1,_,h=>by trivial
 |.ptr _,_,_,0,_,_=>rfl
 |.ptr _,_,_,_+1,_,h=>by trivial
 |.osl _,_,_,_,h,_=>by cases h
 |.mp _ _,_,_,_,h,_=>by cases h
 |.unit,_,_,_,_,h=>by trivial
 |.clo _ _,_,_,0,_,_=>rfl
 |.clo _ _,_,_,_+1,_,h=>by trivial
 |.pair a b,d,x,k,ho,h=>by
  simp only[Ty.noO,bAE]at ho;simp only[tyV];rw[Ty.w]at h;by_cases u:k<a.w
  .have e:(tyV a d x.1++tyV b d x.2).getD k .dead=(tyV a d x.1).getD k .dead:=AB (by rw[Av];exact u)
   rw[e];exact Dv a d x.1 k ho.1 u
  .have e:(tyV a d x.1++tyV b d x.2).getD k .dead=(tyV b d x.2).getD (k-a.w) .dead:=by
    simp[gDE];rw[gAR (by rw[Av];omega),Av]
   rw[e];exact Dv b d x.2 (k-a.w) ho.2 (by omega)
def Q3:∀(t:Ty) (d:Nat) (x:t.T),t.dep=0->∀v∈tyV t d x,∃c,v=.c c
 |.int _,_,_,_,v,h=>by simp[tyV]at h;grind
 |.bool,_,_,_,v,h=>by simp[tyV]at h;grind
 |.str,_,_,_,v,h=>by simp[tyV]at h;grind
 |.sl _,_,_,h,_,_=>by trivial
 |.ptr _,_,_,h,_,_=>by trivial
 |.clo _ _,_,_,h,_,_=>by trivial
 |.osl _,_,_,h,_,_=>by trivial
 |.mp _ _,_,_,h,_,_=>by trivial
 |.unit,_,_,_,v,h=>by trivial
 |.pair a b,d,x,h,v,hv=>by
  simp[Ty.dep]at h;simp[tyV,List.mem_append]at hv;rcases hv with hv|hv
  .exact Q3 a d x.1 (by omega) v hv
  .exact Q3 b d x.2 (by omega) v hv
def Ii{v:V}{x:Value}(h:Rel D w noR v x fp)(e:Zs v=true):x.oneCell'=true:=(Rel.cells1 h (λ_ _ h=>h.elim) e).2
structure YOK(s:St)(t:Ty)(id:Nat)(y:Operand)(a:Act)(w:World)(D:Nat->Prop)(F:Nat->Nat->Prop)(d:Nat)(ys:List t.T)(js:List Nat):Prop where
 rd:∃Fy,WB D w t.w ys.length (λi k=>(tyV t d (ys.getD i t.dflt)).getD k .dead) (a.eval y) Fy/\(∀i k c,i<ys.length->k<t.w->Fy i k c->∃j∈js,F j c)/\
  ∀i k i' k' c,i<ys.length->k<t.w->i'<ys.length->k'<t.w->(i≠i'\/k≠k')->Fy i k c->¬Fy i' k' c
 js:∀j∈js,j<s.r.length/\j≠id
theorem IX{t:Ty}{id:Nat}{y:Operand}{a:Act}{C:Ctx}{ρ:Nat->Value}{F:Nat->Nat->Prop}(O:CR C s.den.σ ((range N).map s.den.t) a.tmps w D ρ F)(hdd:∀x,N<=x->s.den.t x=.dead)
  {d:Nat}{ys:List t.T}{js:List Nat} (h:Wz s t id (s.ev y)=some (d,ys,js)):YOK s t id y a w D F d ys js:=by
 unfold Wz at h;obtain⟨hno,h⟩:=A1 h;unfold Wy at h;split at h
 case h_4=>cases h
 .rename_i A u hy
  split at h
  case isFalse=>cases h
  rename_i ht;subst ht;cases h;have J:=Bq O hdd y;rw[Bd hy]at J;show YOK s A id y a w D F 0 u [];refine⟨⟨λ_ _=>noF,?_,λ_ _ _ _ _ h=>h.elim,λ_ _ _ _ _ _ _ _ _ _ h=>h.elim⟩,λj hj=>by cases hj⟩
  have J:Rel D w _ (arr false A.w (tyV A 0) A.dflt u) (a.eval y) noF:=J;rcases J with⟨h0,_,hn,_⟩|⟨b,o,cap,Fx,Z,_,_,_,hc,himm,_⟩
  .obtain⟨ad,had⟩:=CF hn
   refine⟨ad,0,by rw[had,h0],λh=>by omega⟩
  .refine⟨_,cap,Z,λ_=>⟨b,o,rfl,λi k hi H=>?_⟩⟩
   obtain⟨x,hx,B⟩:=hc i k hi H;have e:Fx i k=noF:=A4 λc hc=>(himm rfl).2.1 i k c hi H hc
   rw[e]at B;exact⟨x,hx,Ii B (Dv A 0 _ k hno H),B⟩
 .rename_i j q hy
  have J:=Bq O hdd y;rw[Bd hy]at J;split at h
  case h_2=>cases h
  rename_i ro A d' u hn;split at h
  case isFalse=>cases h
  rename_i ht;subst ht;cases hb:beq j id with
  |true=>rw[hb]at h;cases h
  |false=>
   rw[hb]at h;simp only[cond_false]at h;have J:Rel D w (Ai s.den.σ ρ w) (.rs j q 0 (Ac s.r j q).len) (a.eval y) noF:=J;rw[hn]at J;have J:Rel D w (Ai s.den.σ ρ w) (.rs j q 0 u.length) (a.eval y) noF:=J;obtain⟨⟨hid,sz,n,f,cn,hat,hle,Z⟩,_⟩:=J;have E:=At.sub hat;have hne:Ac s.r j q≠.dead:=by rw[hn];intro h;cases h
   have Y:sub q (s.den.σ.getD j .dead)=arr true A.w (tyV A d') A.dflt u:=(AS hne).trans (by rw[hn];rfl)
   rw[Y]at E;have E:V.nd true true sz n f=.nd true true A.w u.length (λi k=>(tyV A d' (u.getD i A.dflt)).getD k .dead):=E
   cases E;obtain⟨fp1,hr1,hfp1,_⟩:=Dg (w':=w) q _ _ _ _ _ (O.wr.rel j hid) (λb hb h=>O.wr.dD j b h hb) hat
   have hjr:j<s.r.length:=by simpa [St.den]using hid
   have rd:∀Fy,(∀(b o cap:Nat) (Fx:Nat->Nat->Nat->Prop),cn=Ay true b o u.length cap->(∀i k,i<u.length->k<A.w->∃x,w.cell? ⟨b,o+i*A.w+k,none⟩=some x/\Rel D w noR ((tyV A d' (u.getD i A.dflt)).getD k .dead) x (Fx i k))->(∀i k c,i<u.length->k<A.w->Fx i k c->fp1 c)->
     (∀i k,i<u.length->k<A.w->Fx i k=Fy i k))->WB D w A.w u.length (λi k=>(tyV A d' (u.getD i A.dflt)).getD k .dead) (a.eval y) Fy:=by
    intro Fy hFy;rcases hr1 with⟨h0,_,hn0,_⟩|⟨b,o,cap,Fx,hcn,_,_,_,hc,_,ho⟩
    .rcases Z with⟨b,o,cap,h3,W⟩|⟨_,ad,W,_⟩
     .rw[h3]at hn0;exact absurd hn0 BP
     .exact⟨ad.map λp=>⟨p.1,p.2,none⟩,0,by rw[W,h0],λh=>by omega⟩
    .rcases Z with⟨b',o',U,h3,W⟩|⟨h0,ad,W,_⟩
     .obtain⟨rfl,rfl,_⟩:=As (h3.symm.trans hcn)
      refine⟨_,U-0,by simpa using W,λ_=>⟨b',o',by simp,λi k hi H=>?_⟩⟩
      obtain⟨x,hx,B⟩:=hc i k hi H;have e:=hFy b' o' cap Fx hcn hc (λi k c hi H h=>((ho rfl).2.2.2 c).2 (.inr ⟨i,k,hi,H,h⟩)) i k hi H
      exact⟨x,hx,Ii B (Dv A d' _ k hno H),e▸B⟩
     .exact⟨ad.map λp=>⟨p.1,p.2,none⟩,0,by rw[W,h0],λh=>by omega⟩
   cases hd:beq A.dep 0 with
   |true=>
    rw[hd]at h;cases h;have hd:=bqE hd;show YOK s A id y a w D F d u [];refine⟨⟨λ_ _=>noF,rd _ λb o cap Fx _ hc _ i k hi H=>?_,λ_ _ _ _ _ h=>h.elim,λ_ _ _ _ _ _ _ _ _ _ h=>h.elim⟩,λj hj=>by cases hj⟩
    obtain⟨x,_,B⟩:=hc i k hi H;obtain⟨cc,hcc⟩:=Q3 A d (u.getD i A.dflt) hd _ (JD (k:=k) (by rw[Av];exact H))
    rw[hcc]at B;exact A4 B.2.2
   |false=>
    rw[hd]at h;simp only[cond_false]at h;split at h
    case h_2=>cases h
    cases ro with
    |true=>cases h
    |false=>
     cases h;show YOK s A id y a w D F d u [j];obtain⟨h1,h2⟩:=hat;subst h2;have hrj:=O.wr.rel j hid;rw[<-h1]at hrj;rcases hrj with⟨h0,_,hn0,_⟩|⟨b,o,cap,Fx,hcn,_,_,_,hc,_,ho⟩
     .refine⟨⟨λ_ _=>noF,rd _ λ_ _ _ _ _ _ _ i k hi=>by omega,λ_ _ _ _ _ h=>h.elim,λ_ _ _ _ _ _ _ _ _ _ h=>h.elim⟩,λi hi=>?_⟩
      simp at hi;subst hi;exact⟨hjr,λe=>by rw[e,beq_refl]at hb;cases hb⟩
     .refine⟨⟨Fx,?_,λi k c hi H hF=>⟨j,by simp,((ho rfl).2.2.2 c).2 (.inr ⟨i,k,hi,H,hF⟩)⟩,λi k i' k' c h1 h2 h3 W hne hF=>(ho rfl).2.2.1 i k i' k' c h1 h2 h3 W hne hF⟩,λi hi=>?_⟩
      .rcases Z with⟨b',o',U,h3,W⟩|⟨h0,ad,W,_⟩
       .obtain⟨rfl,rfl,_⟩:=As (h3.symm.trans hcn)
        refine⟨_,U-0,by simpa using W,λ_=>⟨b',o',by simp,λi k hi H=>?_⟩⟩
        obtain⟨x,hx,B⟩:=hc i k hi H;exact⟨x,hx,Ii B (Dv A d _ k hno H),B⟩
       .exact⟨ad.map λp=>⟨p.1,p.2,none⟩,0,by rw[W,h0],λh=>by omega⟩
      .simp at hi;subst hi
       exact⟨hjr,λe=>by rw[e,beq_refl]at hb;cases hb⟩
 .rename_i j q off len hy
  have J:=Bq O hdd y;rw[Bd hy]at J;split at h
  case h_2=>cases h
  rename_i ro A d' u hn;split at h
  case isFalse=>cases h
  rename_i ht;subst ht;cases hb:(beq j id|| !beq A.dep 0)with
  |true=>rw[hb]at h;cases h
  |false=>
   rw[hb]at h;cases h;show YOK s A id y a w D F d (PN len (QJ off u)) [];simp only[Bool.or_eq_false_iff,Bool.not_eq_false']at hb;have hd:=bqE hb.2;have J:Rel D w (Ai s.den.σ ρ w) (.rs j q off len) (a.eval y) noF:=J;obtain⟨⟨hid,sz,n,f,cn,hat,hle,Z⟩,_⟩:=J;have E:=At.sub hat;have hne:Ac s.r j q≠.dead:=by rw[hn];intro h;cases h
   have Y:sub q (s.den.σ.getD j .dead)=arr true A.w (tyV A d) A.dflt u:=(AS hne).trans (by rw[hn];rfl)
   rw[Y]at E;have E:V.nd true true sz n f=.nd true true A.w u.length (λi k=>(tyV A d (u.getD i A.dflt)).getD k .dead):=E
   cases E;obtain⟨fp1,hr1,hfp1,_⟩:=Dg (w':=w) q _ _ _ _ _ (O.wr.rel j hid) (λb hb h=>O.wr.dD j b h hb) hat
   have hl:(PN len (QJ off u)).length=len:=by
    show(take len (drop off u)).length=len;simp;omega
   have hget:∀i,i<len->(PN len (QJ off u)).getD i A.dflt=u.getD (off+i) A.dflt:=by
    intro i hi;show(take len (drop off u)).getD i A.dflt=_;simp[List.getElem?_take,hi]
   refine⟨⟨λ_ _=>noF,?_,λ_ _ _ _ _ h=>h.elim,λ_ _ _ _ _ _ _ _ _ _ h=>h.elim⟩,λj hj=>by cases hj⟩
   rw[hl];rcases Z with⟨b',o',U,h3,W⟩|⟨h0,ad,W,_⟩
   .refine⟨_,U-off,W,λhpos=>⟨b',o'+off*A.w,rfl,λi k hi H=>?_⟩⟩
    rcases hr1 with⟨h0,_,hn0,_⟩|⟨b,o,cap,Fx,hcn,_,_,_,hc,_,ho⟩
    .omega
    .obtain⟨rfl,rfl,_⟩:=As (h3.symm.trans hcn)
     obtain⟨x,hx,B⟩:=hc (off+i) k (by omega) H
     obtain⟨cc,hcc⟩:=Q3 A d (u.getD (off+i) A.dflt) hd _ (JD (k:=k) (by rw[Av];exact H))
     have B:Rel D w noR ((tyV A d (u.getD (off+i) A.dflt)).getD k .dead) x (Fx (off+i) k):=B
     have e:Fx (off+i) k=noF:=by
      rw[hcc]at B;exact A4 B.2.2
     rw[e]at B;refine⟨x,?_,Ii B (Dv A d _ k hno H),?_⟩
     .rw[Nat.add_mul,<-Nat.add_assoc]at hx;exact hx
     .show Rel D w noR ((tyV A d ((PN len (QJ off u)).getD i A.dflt)).getD k .dead) x noF
      rw[hget i hi];exact B
   .exact⟨ad.map λp=>⟨p.1,p.2,none⟩,0,by rw[W,h0],λh=>by omega⟩
theorem NC{xs ys:List t.T}(e:n=xs.length)(u:m=ys.length)(E:∀i k,i<n->f i k=(tyV t d (xs.getD i t.dflt)).getD k .dead)(B:∀i k,i<m->g i k=(tyV t d (ys.getD i t.dflt)).getD k .dead):
  Sub (.nd true true t.w (n+m) (WA n f g)) (cV (.sl t) (d+1) (xs++ys)):=by
 show Sub _ (V.nd true true t.w (xs++ys).length λi k=>(tyV t d ((xs++ys).getD i t.dflt)).getD k .dead)
 rw[List.length_append,<-e,<-u];refine⟨_,rfl,λi k hi A=>Sub.of_eq ?_⟩
 unfold WA
 grind
section
variable {C:Ctx}{N:Nat}{σ:List V}{ρ:Nat->Value}{F:Nat->Nat->Prop}{t:Nat->V}{a:Act}{w:World}{D:Nat->Prop}{T:Nat->Nat->Prop}
theorem PR.own(h:PR C N σ ρ F t a w D T){xs:List Operand}{r:V}{v':Value}{fp:Nat->Prop}{d:Nat}{w':World}(hos:w'.os=w.os)(htp:w'.tape=w.tape)(hout:w'.output=w.output)(hdr:w.drawn<=w'.drawn)(hsz:w.heap.size<=w'.heap.size)
  (O:∀c,c<w.heap.size->(∀j,¬opF t T xs j c)->w'.heap[c]? =w.heap[c]?) (hr:Rel D w' noR r v' fp) (hf:∀b,fp b->(∃j,opF t T xs j b)\/w.heap.size<=b) (hdn:d<N):
  ∃T',PR C N σ ρ F (AD (AQ ((Bf t xs).map λy=>(y,.all)) t) d r) (a.put (some d) v') w' D T'/\∀x b,T' x b->some d=some x\/∃b',T x b':=by
 have Y:∀i b,F i b->b<w.heap.size:=h.wr.lt;have W:∀x b,T x b->b<w.heap.size:=by
  intro x b u;by_cases B:x<N
  .exact Rel.lt _ _ _ (h.tm x B) b u
  .exact absurd u (h.tx x b (Nat.le_of_not_lt B))
 have hD:∀b,D b->w'.heap[b]? =w.heap[b]?:=λb u=>O b (h.wr.Dlt b u) λj H=>by obtain⟨y,_,_,A⟩:=H;exact h.tD y b A u
 have hFs:∀i b,F i b->w'.heap[b]? =w.heap[b]?:=λi b u=>O b (Y i b u) λj H=>by obtain⟨y,_,_,A⟩:=H;exact h.tF i y b u A
 have hTs:∀x b,x∉Bf t xs->T x b->w'.heap[b]? =w.heap[b]?:=λx b B u=>O b (W x b u) λj H=>by
  obtain⟨y,_,_,E,A⟩:=DX H;exact h.tT x y b (λe=>B (e▸E)) u A
 have wr':Bg σ w' D ρ F:=⟨λi hi=>Rel.mono (λ_ h=>h) (λ_ _ h=>h) _ _ _ (λb u=>u.elim (hD b) (hFs i b)) (h.wr.rel i hi),h.wr.disj,h.wr.dD,λb u=>Nat.lt_of_lt_of_le (h.wr.Dlt b u) hsz,h.wr.out⟩
 have J:∀b,fp b->(∃y,y∈Bf t xs/\T y b)\/w.heap.size<=b:=λb u=>(hf b u).imp (fun⟨j,H⟩=>by obtain⟨y,_,_,E,A⟩:=DX H;exact⟨y,E,A⟩) id
 refine⟨λx b=>if x=d then fp b else x∉Bf t xs/\T x b,⟨h.df,by rw[BL];simpa using h.sz,λx B=>?_,wr',λx B=>?_,λx b u=>?_,λi x b u A=>?_,λx y b Z h1 U=>?_,λx b u=>?_,⟨hos.trans h.fr.os,htp.trans h.fr.tape,hout.trans h.fr.output,le_trans h.fr.size hsz,λb u hW=>?_,le_trans h.fr.drawn hdr⟩,h.Fn,h.D1,h.D2,h.rt,h.ml,λx b B u=>?_⟩,λx b u=>?_⟩
 .have:¬x=d:=by omega
  simp only[AD,this,if_false];rw[Dl];split
  .rfl
  .exact h.dd x B
 .have hlt:x<a.tmps.size:=by rw[h.sz];exact B
  rw[BL];by_cases he:x=d
  .subst he
   simp only[AD,if_true];have:Rel D w' (Ai σ ρ w') r v' (λb=>if x=x then fp b else x∉Bf t xs/\T x b):=Rel.fp_congr (λb=>by rw[if_pos rfl]) (Rel.noR_mono hr)
   simpa [hlt]using this
  .simp only[AD,he,if_false]
   rw[Array.getD_eq_getD_getElem?,Array.getElem?_setIfInBounds_ne (Ne.symm he),<-Array.getD_eq_getD_getElem?,Dl];by_cases E:x∈Bf t xs
   .rw[if_pos E]
    exact λb u=>u.1 E
   .rw[if_neg E]
    refine Rel.fp_congr (fp:=T x) (λb=>⟨λh=>⟨E,h⟩,λh=>h.2⟩) ?_
    exact Rel.mono (λ_ h=>h) (λv cv hv=>Ai.same h.wr hFs v cv hv) _ _ _ (λb u=>u.elim (hD b) (hTs x b E)) (h.tm x B)
 .split at u
  .intro hDb
   rcases J b u with⟨y,_,A⟩|U
   .exact h.tD y b A hDb
   .have:=h.wr.Dlt b hDb;omega
  .exact h.tD x b u.2
 .split at A
  .rcases J b A with⟨y,_,A⟩|U
   .exact h.tF i y b u A
   .have:=Y i b u;omega
  .exact h.tF i x b u A.2
 .have one:∀x,fp b->x∉Bf t xs->T x b->False:=by
   intro x h3 B h4;rcases J b h3 with⟨z,E,h5⟩|h5
   .exact h.tT x z b (λe=>B (e▸E)) h4 h5
   .have:=W x b h4;omega
  split at h1<;>split at U
  .rename_i e1 e2;exact absurd (e1.trans e2.symm) Z
  .exact one y h1 U.1 U.2
  .exact one x U h1.1 h1.2
  .exact h.tT x y b Z h1.2 U.2
 .split at u
  .rcases J b u with⟨y,_,A⟩|U
   .exact h.tn y b A
   .exact .inr (le_trans h.fr.size U)
  .exact h.tn x b u.2
 .rw[O b (Nat.lt_of_lt_of_le u h.fr.size) λj H=>by
   obtain⟨y,_,_,A⟩:=H;rcases h.tn y b A with h|h
   .exact hW h
   .omega]
  exact h.fr.block b u hW
 .have u:(if x=d then fp b else x∉Bf t xs/\T x b):=u
  rw[if_neg (by omega)]at u
  exact h.tx x b B u.2
 .have u:(if x=d then fp b else x∉Bf t xs/\T x b):=u
  split at u
  .rename_i e;exact .inl (by rw[e])
  .exact .inr ⟨b,u.2⟩
theorem PR.cr(h:PR C N σ ρ F t a w D T){t2:Nat->V}(B:∀x,t2 x=.dead\/(t2 x=t x/\AK (t x)=false)):CR C σ ((range N).map t2) a.tmps w D ρ F:=by
 refine⟨h.wr,by simp[h.sz],λj hj=>?_,h.fr,h.Fn,h.D1,h.D2,h.rt,h.ml⟩
 have hj:j<N:=by grind
 rw[AP hj];rcases B j with e|⟨e,A⟩
 .rw[e];exact λ_ h=>h
 .rw[e]
  have u:=h.tm j hj;rw[A4 (AC _ _ _ A u)]at u;omega
end
theorem XS{R:V->Value->Prop}{cv:Value}(h:Rel D w R (.nd true true sz m g) cv fp)(W:∀i k,i<m->k<sz->Zs (g i k)=true):
  ∃Fy,WB D w sz m g cv Fy/\(∀i k c,i<m->k<sz->Fy i k c->fp c)/\∀i k i' k' c,i<m->k<sz->i'<m->k'<sz->(i≠i'\/k≠k')->Fy i k c->¬Fy i' k' c:=by
 rcases h with⟨Y,_,H,_⟩|⟨b,o,cap,F0,A,_,_,_,O,_,E⟩
 .obtain⟨a,rfl⟩:=CF H
  subst Y;exact⟨λ_ _=>noF,⟨a,0,rfl,λh=>by omega⟩,λi k c hi=>by omega,λi k i' k' c hi=>by simp⟩
 .obtain⟨_,_,hd,J⟩:=E rfl
  refine⟨F0,⟨some ⟨b,o,none⟩,cap,A,λ_=>⟨b,o,rfl,λi k hi u=>?_⟩⟩,λi k c hi u U=>(J c).2 (.inr ⟨i,k,hi,u,U⟩),hd⟩
  obtain⟨x,B,e⟩:=O i k hi u;exact⟨x,B,Ii e (W i k hi u),e⟩
theorem Zk{Al:Nat->Nat->Prop}{P:Program}{σ:List V}{o:Oper}{t:Nat->V}{ty e:TypeId}{x:Operand}{bytes n m:Nat}{zero:List Value}{f g:Nat->Nat->V}(ho:o.op=.call ⟨.builtin .append,#[x,y],#[ty,ty]⟩)(hd:o.dst=some d)(hdn:d<N)(hsl:slI P ty=some ⟨e,sz,bytes,zero⟩)(U:0<sz)
  (hx:Sub (Ms.ev ⟨t,σ⟩ x) (.nd true true sz n f)) (hap:C8 ([x,y].map (IH t))=true)
  (hy:∀(C:Ctx) (ρ:Nat->Value) (F:Nat->Nat->Prop) (a:Act) (w:World) (D:Nat->Prop) (T:Nat->Nat->Prop) (A:Nat->V),(∀z∈HA o.op,A z=t z)->PR C N σ ρ F A a w D T->
   ∃Fy,WB D w sz m g (a.eval y) Fy/\(∀i k c,i<m->k<sz->Fy i k c->opF A T [x,y] 1 c)/\∀i k i' k' c,i<m->k<sz->i'<m->k'<sz->(i≠i'\/k≠k')->Fy i k c->¬Fy i' k' c)
  (h63:n+m<=maxLen) (hb:(n+m)*bytes<=140737488355328):
  LQ P N σ Al o t ((Bf t [x,y]).map λy=>(y,.all)) (.nd true true sz (n+m) (WA n f g)):=by
 intro C ρ F a w D T A hag hal O next Q hn
 have E:∀z,Operand.tmp z∈ [x,y]->A z=t z:=λz hz=>hag z (.inl<|Dz (by rw[ho];simp[Op.operands,Call.operands]at hz⊢;simpa using hz))
 have hevx:Ms.ev ⟨A,σ⟩ x=Ms.ev ⟨t,σ⟩ x:=by
  cases x with
  |tmp z=>exact E z (by simp)
  |const v=>rfl
  |global g=>rfl
  |func f=>rfl
 have H:[x,y].map (IH A)=[x,y].map (IH t):=Dr λu hu z e=>E z (e▸hu)
 have hap':C8 ([x,y].map (IH A))=true:=by rw[H];exact hap
 have htk:Bf A [x,y]=Bf t [x,y]:=by rw[BV,BV,H]
 have B:=O.opF_rel (xs:=[x,y]) (j:=0) (x:=x) rfl;rw[hevx]at B;have W:=Rel.sub hx B;have B:Rel D w noR (.nd true true sz n f) (a.eval x) (opF A T [x,y] 0):=W;obtain⟨Fy,hrd,J,hFd⟩:=hy C ρ F a w D T A (λz hz=>hag z (.inl hz)) O
 have oD:∀j b,opF A T [x,y] j b->¬D b:=λj b hj=>by obtain⟨z,_,_,hT⟩:=hj;exact O.tD z b hT
 obtain⟨v',w',fp,Y,hos,htp,hout,hdr,hsz,hbl,hr',hfp⟩:=Rel.append (P:=P) (ty:=o.type) hsl U B (λb hb h=>oD 0 b h hb) O.wr.Dlt hrd (λi k c hi hk hF=>⟨oD 1 c (J i k c hi hk hF),λh=>O.opF_dis hap' 0 1 c (by decide) h (J i k c hi hk hF)⟩) hFd h63 hb
 unfold Oper.wp execOp;simp only[ho,resolve,invoke,builtin,Sem.run_bind,Sem.run_pure,Result.andThen_ok,List.map_toArray,map_cons,List.map_nil,Y];show next (a.put o.dst v') w'
 rw[hd]at hn⊢
 obtain⟨T',Z,hT'⟩:=O.own (xs:=[x,y]) (d:=d) hos htp hout hdr hsz (λc hc hG=>hbl c hc (hG 0)) hr' (λb hb=>by
  rcases hfp b hb with h1|⟨i,k,hi,hk,h1⟩|h1
  .exact .inl ⟨0,h1⟩
  .exact .inl ⟨1,J i k b hi hk h1⟩
  .exact .inr h1) hdn
 rw[htk]at Z;exact hn _ _ _ _ Z hT' λ_ hx=>BM hx
end Go.Ve

