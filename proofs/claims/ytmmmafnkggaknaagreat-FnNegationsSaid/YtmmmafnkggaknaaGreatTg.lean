/- The typed machine: new trees get their numbers; one quiet operation. -/
import Derived.Test.YtmmmafnkggaknaaGreatTd
import Derived.Test.YtmmmafnkggaknaaGreatVwa
import Derived.Test.YtmmmafnkggaknaaGreatVy
set_option linter.all false
namespace Go.Ve
variable{h:Cs}{a b r r':List Af}{d m:Nat}{y:Sl}{s s':St}
def Cl.prom(e m:Nat):Cl->Cl×List Af
 |.c (.sl t) (d+1) xs=>(.rf m [],[.arr false t d xs])
 |.c (.ptr t) (d+1) x=>bif Nat.blt 0 t.w then(.rp m [] 0 0,[.obj false (AB t d x)])else(.dead,[])
 |.c (.osl t) (d+1) x=>match x with
  |some xs=>(.rf m [],[.arr false t d xs])
  |none=>(.dead,[])
 |y=>(y.chk e,[])
def B3(e:Nat):Nat->List Cl->List Cl×List Af
 |_,[]=>([],[])
 |m,y::l=>((y.prom e m).1::(B3 e (m+(y.prom e m).2.length) l).1,(y.prom e m).2++(B3 e (m+(y.prom e m).2.length) l).2)
def H4(e m:Nat)(p:Bool×List Cl):(Bool×List Cl)×List Af:=
 bif p.1 then((true,(B3 e m p.2).1),(B3 e m p.2).2)else((false,[((p.2.getD 0 .dead).prom e m).1]),((p.2.getD 0 .dead).prom e m).2)
def Dm(e:Nat):Nat->List (Bool×List Cl)->List (Bool×List Cl)×List Af
 |_,[]=>([],[])
 |m,p::l=>((H4 e m p).1::(Dm e (m+(H4 e m p).2.length) l).1,(H4 e m p).2++(Dm e (m+(H4 e m p).2.length) l).2)
def Sl.prom(m:Nat):Sl->Sl×List Af
 |.one y=>(.one (y.prom m m).1,(y.prom m m).2)
 |.new l=>bif Nat.blt 0 l.length then(.one (.rp m [] 0 0),[.obj false l])else(.one .dead,[])
 |.agg l=>(.agg (B3 m m l).1,(B3 m m l).2)
 |.pk t l=>(.pk t (B3 m m l).1,(B3 m m l).2)
 |.tup l=>(.tup (Dm m m l).1,(Dm m m l).2)
def Has(r':List Af)(m:Nat)(new:List Af):Prop:=∀j,j<new.length->r'.getD (m+j) .dead=new.getD j .dead
def Has.left(h:Has r' m (a++b)):Has r' m a:=λj e=>by
 rw[h j (by simp;omega),gDE,gAL e,<-gDE]
def Has.right(h:Has r' m (a++b)):Has r' (m+a.length) b:=λj e=>by
 have:=h (a.length+j) (by simp;omega)
 rw[<-Nat.add_assoc]at this;rw[this,gDE,gAR (by omega),<-gDE,Nat.add_sub_cancel_left]
theorem Qq{v:V}(h:AL v=false)(e:∀t n f,v≠.many t n f):Go.Ve.prom v m=(v,[]):=by
 cases v with
 |nd s own sz n f=>cases own with
  |true=>cases h
  |false=>cases s<;>rfl
 |many t n f=>exact absurd rfl (e t n f)
 |_=>rfl
def Xh{f:Nat->V}{n:Nat}(h:∀k m,Go.Ve.prom (f k) m=(f k,[])):BN (λk=>Go.Ve.prom (f k)) n m=((List.range n).map f,[]):=by
 induction n with
 |zero=>rfl
 |succ n e=>
  show((BN _ n m).1++[(Go.Ve.prom (f n) _).1],(BN _ n m).2++(Go.Ve.prom (f n) _).2)=_;rw[e,h,List.range_succ,List.map_append];rfl
def Hu:∀(t:Ty) (x:t.T),∀v∈tyV t 0 x,∀m,Go.Ve.prom v m=(v,[])
 |.int _,_,v,h,m=>by simp[tyV]at h;subst h;rfl
 |.bool,_,v,h,m=>by simp[tyV]at h;subst h;rfl
 |.str,_,v,h,m=>by simp[tyV]at h;subst h;rfl
 |.sl _,_,v,h,m=>by simp only[tyV,List.mem_singleton]at h;subst h;rfl
 |.ptr _,_,v,h,m=>by simp only[tyV,List.mem_singleton]at h;subst h;rfl
 |.unit,_,v,h,m=>by simp[tyV]at h
 |.pair a b,x,v,h,m=>by
  simp only[tyV,List.mem_append]at h;exact h.elim (λh=>Hu a x.1 v h m) λh=>Hu b x.2 v h m
 |.osl _,x,v,h,m=>by
  simp only[tyV,List.mem_singleton]at h;subst h;cases x<;>rfl
 |.clo g t,x,v,h,m=>by
  simp only[tyV,List.mem_singleton]at h;subst h
  have e:∀k m,Go.Ve.prom ((tyV t 0 x).getD k .dead) m=((tyV t 0 x).getD k .dead,[]):=by
   intro k m;by_cases e:k<(tyV t 0 x).length
   .rw[gDE,gEE e]
    exact Hu t x _ (List.getElem_mem e) m
   .rw[gDE,List.getElem?_eq_none (by omega)];rfl
  show(V.many (.cl g) t.w λk=>(BN (λk=>Go.Ve.prom ((tyV t 0 x).getD k .dead)) t.w m).1.getD k .dead,(BN (λk=>Go.Ve.prom ((tyV t 0 x).getD k .dead)) t.w m).2)=_
  rw[Xh e]
  congr 2
  funext k
  by_cases e:k<t.w
  .simp[e]
  .have:(tyV t 0 x).length<=k:=by rw[Ay];omega
   simp only[gDE];rw[List.getElem?_eq_none (by simpa using Nat.le_of_not_lt e),List.getElem?_eq_none this]
def MW{l:List V}:Go.Ve.prom (Bj true l) m=if 0<l.length then(.rp m [] 0 0,[Bj true l])else(.dead,[]):=rfl
theorem Cl.prom_v(U:∀id,id<r.length->r'.getD id .dead=r.getD id .dead)(y:Cl)(m:Nat)(J:Has r' m (y.prom r.length m).2):
  Ax (Go.Ve.prom (y.v r) m).1 ((y.prom r.length m).1.v r')/\(Go.Ve.prom (y.v r) m).2=(y.prom r.length m).2.map Af.v:=by
 have plain:∀y:Cl,y.own=false->(∀g u d x,y≠.c (.clo g u) d x)->(y.prom r.length m)=(y.chk r.length,[])->Ax (Go.Ve.prom (y.v r) m).1 ((y.prom r.length m).1.v r')/\(Go.Ve.prom (y.v r) m).2=(y.prom r.length m).2.map Af.v:=by
  intro y W A Z
  rw[Z,Qq (by rw[Cl.own_v,W]) (by
   cases y with
   |c t d x=>cases t<;>first|exact absurd rfl (A _ _ _ _)|(intro _ _ _ h;cases h;done)|(intro _ _ _ h;cases x<;>cases h)
   |_=>intro _ _ _ h;cases h)]
  exact⟨Cl.chk_v U y,rfl⟩
 cases y with
 |c t d x=>
  cases t with
  |clo g u=>
   have e:Go.Ve.prom (cV (.clo g u) d x) m=(cV (.clo g u) d x,[]):=Hu (.clo g u) x _ (List.mem_singleton.2 rfl) m;show Ax (Go.Ve.prom (cV (.clo g u) d x) m).1 _/\(Go.Ve.prom (cV (.clo g u) d x) m).2=_;rw[e];exact⟨Ax.refl _,rfl⟩
  |sl t=>cases d with
   |zero=>exact plain _ rfl (by intro _ _ _ _ h;cases h) rfl
   |succ d=>
    have E:r'.getD m .dead=.arr false t d x:=J 0 Nat.one_pos;refine⟨?_,rfl⟩;show Ax (V.rs m [] 0 x.length) (V.rs m [] 0 (Ai r' m []).len);unfold Ai;rw[E];exact Ax.refl _
  |osl t=>cases d with
   |zero=>exact plain _ rfl (by intro _ _ _ _ h;cases h) rfl
   |succ d=>
    cases x with
    |none=>exact⟨Ax.refl _,rfl⟩
    |some xs=>
     have E:r'.getD m .dead=.arr false t d xs:=J 0 Nat.one_pos;refine⟨?_,rfl⟩;show Ax (V.rs m [] 0 xs.length) (V.rs m [] 0 (Ai r' m []).len);unfold Ai;rw[E];exact Ax.refl _
  |ptr t=>cases d with
   |zero=>exact plain _ rfl (by intro _ _ _ _ h;cases h) rfl
   |succ d=>
    show Ax (Go.Ve.prom (Bj true (tyV t d x)) m).1 _/\(Go.Ve.prom (Bj true (tyV t d x)) m).2=_;rw[MW];show Ax _ ((bif Nat.blt 0 t.w then(Cl.rp m [] 0 0,[Af.obj false (AB t d x)])else(.dead,[])).1.v r')/\_=((bif Nat.blt 0 t.w then(Cl.rp m [] 0 0,[Af.obj false (AB t d x)])else(.dead,[])).2).map Af.v;cases B:Nat.blt 0 t.w with
    |true=>
     rw[if_pos (by rw[Ay];exact KP B)]
     refine⟨Ax.refl _,?_⟩;show _=[Bj true ((AB t d x).map Cl.v0)];rw[BL]
    |false=>
     rw[if_neg (λh=>by rw[Ay]at h;rw[show Nat.blt 0 t.w=true from Nat.ble_eq_true_of_le h]at B;cases B)]
     exact⟨Ax.refl _,rfl⟩
  |_=>exact plain _ rfl (by intro _ _ _ _ h;cases h) rfl
 |_=>exact plain _ rfl (by intro _ _ _ _ h;cases h) rfl
def IM{r r':List Af}(u:∀id,id<r.length->r'.getD id .dead=r.getD id .dead):∀(l:List Cl) (m:Nat),Has r' m (B3 r.length m l).2->
  (B8 (l.map (Cl.v r)) m).1.length=((B3 r.length m l).1.map (Cl.v r')).length/\(∀k,Ax ((B8 (l.map (Cl.v r)) m).1.getD k .dead) (((B3 r.length m l).1.map (Cl.v r')).getD k .dead))/\(B8 (l.map (Cl.v r)) m).2=(B3 r.length m l).2.map Af.v
 |[],m,_=>⟨rfl,λk=>Ax.refl _,rfl⟩
 |y::l,m,hn=>by
  obtain⟨B,A⟩:=Cl.prom_v u y m hn.left;have e:(Go.Ve.prom (y.v r) m).2.length=(y.prom r.length m).2.length:=by rw[A,List.length_map]
  obtain⟨g1,g2,E⟩:=IM u l (m+(y.prom r.length m).2.length) hn.right;rw[List.map_cons,Kn,e];refine⟨by simp only[B3,List.map_cons,List.length_cons];exact congrArg (· +1) g1,λk=>?_,?_⟩
  .cases k with
   |zero=>exact B
   |succ k=>exact g2 k
  .show _++_=(_++_:List Af).map Af.v
   rw[List.map_append,A,E]
theorem ZA(e:∀id,id<r.length->r'.getD id .dead=r.getD id .dead)(p:Bool×List Cl)(m:Nat)(u:Has r' m (H4 r.length m p).2):
  Ax (Go.Ve.prom (if p.1 then An (p.2.map (Cl.v r))else(p.2.map (Cl.v r)).getD 0 .dead) m).1 (if(H4 r.length m p).1.1 then An ((H4 r.length m p).1.2.map (Cl.v r'))else((H4 r.length m p).1.2.map (Cl.v r')).getD 0 .dead)/\
  (Go.Ve.prom (if p.1 then An (p.2.map (Cl.v r))else(p.2.map (Cl.v r)).getD 0 .dead) m).2=(H4 r.length m p).2.map Af.v:=by
 obtain⟨b,l⟩:=p;cases b with
 |true=>
  obtain⟨E,B,A⟩:=IM e l m u;show Ax (Go.Ve.prom (An _) m).1 (An ((B3 r.length m l).1.map (Cl.v r')))/\(Go.Ve.prom (An _) m).2=_;rw[Vj];exact⟨Ax.mk E λk _=>B k,A⟩
 |false=>
  show Ax (Go.Ve.prom ((l.map (Cl.v r)).getD 0 .dead) m).1 (((l.getD 0 .dead).prom r.length m).1.v r')/\(Go.Ve.prom ((l.map (Cl.v r)).getD 0 .dead) m).2=_;rw[AN (f:=Cl.v r) (a:=.dead) rfl];exact Cl.prom_v e _ m u
def Pa{r r':List Af}(u:∀id,id<r.length->r'.getD id .dead=r.getD id .dead):∀(l:List (Bool×List Cl)) (m:Nat),Has r' m (Dm r.length m l).2->
  (B8 (l.map λp=>if p.1 then An (p.2.map (Cl.v r))else(p.2.map (Cl.v r)).getD 0 .dead) m).1.length=(Dm r.length m l).1.length/\
  (∀k,Ax ((B8 (l.map λp=>if p.1 then An (p.2.map (Cl.v r))else(p.2.map (Cl.v r)).getD 0 .dead) m).1.getD k .dead) (((Dm r.length m l).1.map λp=>if p.1 then An (p.2.map (Cl.v r'))else(p.2.map (Cl.v r')).getD 0 .dead).getD k .dead))/\
  (B8 (l.map λp=>if p.1 then An (p.2.map (Cl.v r))else(p.2.map (Cl.v r)).getD 0 .dead) m).2=(Dm r.length m l).2.map Af.v
 |[],m,_=>⟨rfl,λk=>Ax.refl _,rfl⟩
 |p::l,m,hn=>by
  obtain⟨B,A⟩:=ZA u p m hn.left;have e:=congrArg List.length A;rw[List.length_map]at e;obtain⟨g1,g2,E⟩:=Pa u l (m+(H4 r.length m p).2.length) hn.right;rw[List.map_cons,Kn,e];refine⟨by simp only[Dm,List.length_cons];exact congrArg (· +1) g1,λk=>?_,?_⟩
  .cases k with
   |zero=>exact B
   |succ k=>exact g2 k
  .show _++_=(_++_:List Af).map Af.v
   rw[List.map_append,A,E]
theorem Sl.prom_v{r:List Af}(y:Sl):Ax (Go.Ve.prom (y.v r) r.length).1 ((y.prom r.length).1.v (r++(y.prom r.length).2))/\(Go.Ve.prom (y.v r) r.length).2=(y.prom r.length).2.map Af.v:=by
 have B:∀new:List Af,∀id,id<r.length->(r++new).getD id .dead=r.getD id .dead:=λnew id h=>by
  simp[gDE,gAL h]
 have E:∀new:List Af,Has (r++new) r.length new:=λnew j _=>by
  simp only[gDE];rw[gAR (by omega),Nat.add_sub_cancel_left]
 cases y with
 |one c=>exact Cl.prom_v (B _) c r.length (E _)
 |new l=>
  show Ax (Go.Ve.prom (Bj true (l.map Cl.v0)) r.length).1 _/\(Go.Ve.prom (Bj true (l.map Cl.v0)) r.length).2=_;rw[MW,List.length_map];show Ax _ ((bif Nat.blt 0 l.length then(Sl.one (.rp r.length [] 0 0),[Af.obj false l])else(.one .dead,[])).1.v (r++((bif Nat.blt 0 l.length then(Sl.one (.rp r.length [] 0 0),[Af.obj false l])else(.one .dead,[])).2)))/\_=((bif Nat.blt 0 l.length then(Sl.one (.rp r.length [] 0 0),[Af.obj false l])else(.one .dead,[])).2).map Af.v;cases J:Nat.blt 0 l.length with
  |true=>
   rw[if_pos (KP J)];exact⟨Ax.refl _,rfl⟩
  |false=>
   rw[if_neg (λh=>by rw[show Nat.blt 0 l.length=true from Nat.ble_eq_true_of_le h]at J;cases J)]
   exact⟨Ax.refl _,rfl⟩
 |agg l=>
  obtain⟨A,u,e⟩:=IM (B (B3 r.length r.length l).2) l r.length (E _);show Ax (Go.Ve.prom (An _) r.length).1 (An _)/\(Go.Ve.prom (An _) r.length).2=_;rw[Vj];exact⟨Ax.mk A λk _=>u k,e⟩
 |pk t l=>
  obtain⟨A,u,e⟩:=IM (B (B3 r.length r.length l).2) l r.length (E _);show Ax (Go.Ve.prom (pkL t _) r.length).1 (pkL t _)/\(Go.Ve.prom (pkL t _) r.length).2=_;rw[Zz];exact⟨Ax.pk A λk _=>u k,e⟩
 |tup l=>
  obtain⟨A,u,e⟩:=Pa (B (Dm r.length r.length l).2) l r.length (E _);show Ax (Go.Ve.prom (Do _) r.length).1 (Do _)/\(Go.Ve.prom (Do _) r.length).2=_;rw[Xg];exact⟨Ax.tup (by rw[A];simp) λk _=>u k,e⟩
def AJ(t:Nat->Sl)(d:Nat)(y:Sl):Nat->Sl:=λi=>bif Nat.beq i d then y else t i
theorem B2{t:Nat->Sl}:(λi=>(AJ t d y i).v r)=AI (λi=>(t i).v r) d (y.v r):=by
 funext i
 unfold AJ AI;cases e:Nat.beq i d with
 |true=>rw[if_pos (bqE e)];rfl
 |false=>rw[if_neg (λh=>by rw[h,Nat.beq_refl]at e;cases e)];rfl
def St.add(s:St)(d:Nat)(p:Sl×List Af):St:=match p.2 with
 |[]=>⟨AJ s.t d p.1,s.r⟩
 |q::new=>⟨AJ (λi=>(s.t i).chk s.r.length) d p.1,s.r++q::new⟩
def St.put(h:Cs)(s:St)(d:Option Nat)(y:Sl):Option St:=match d with
 |none=>some s
 |some d=>bif Nat.blt d h.n then(bif h.fz.contains d then(match y.frz with
   |some e=>some ⟨AJ s.t d e,s.r⟩
   |none=>none)else some (s.add d (y.prom s.r.length)))else none
theorem Ws:(∀i,Ax (AI s.den.t d (Go.Ve.prom (y.v s.r) s.r.length).1 i) ((s.add d (y.prom s.r.length)).den.t i))/\s.den.σ++(Go.Ve.prom (y.v s.r) s.r.length).2=(s.add d (y.prom s.r.length)).den.σ:=by
 obtain⟨e,A⟩:=Sl.prom_v (r:=s.r) y;rw[A];unfold St.add;cases u:(y.prom s.r.length).2 with
 |nil=>
  rw[u]at e;rw[List.append_nil]at e;refine⟨λi=>?_,by simp[St.den]⟩
  show Ax _ ((AJ s.t d (y.prom s.r.length).1 i).v s.r);rw[congrFun (B2 (r:=s.r) (t:=s.t) (d:=d) (y:=(y.prom s.r.length).1)) i];unfold AI;split
  .exact e
  .exact Ax.refl _
 |cons q new=>
  rw[u]at e;refine⟨λi=>?_,by simp[St.den]⟩
  show Ax _ ((AJ (λi=>(s.t i).chk s.r.length) d (y.prom s.r.length).1 i).v (s.r++q::new))
  rw[congrFun (B2 (r:=s.r++q::new) (t:=λi=>(s.t i).chk s.r.length) (d:=d) (y:=(y.prom s.r.length).1)) i]
  unfold AI;split
  .exact e
  .exact Sl.chk_v (λid h=>by simp[gDE,gAL h]) _
theorem Zx{d:Option Nat}(e:s.put h d y=some s'):(∀i,Ax ((s.den.res h d (y.v s.r)).t i) (s'.den.t i))/\(s.den.res h d (y.v s.r)).σ=s'.den.σ:=by
 unfold St.put at e;cases d with
 |none=>cases e;exact⟨λi=>Ax.refl _,rfl⟩
 |some d=>
  simp only at e;obtain⟨u,e⟩:=Bb e;have u:d<h.n:=blE u;unfold Ms.res;simp only[u,if_true];cases B:h.fz.contains d with
  |true=>
   rw[B]at e;simp only[cond_true]at e;split at e
   .rename_i A E
    cases e;refine⟨λi=>?_,rfl⟩
    show Ax (AI s.den.t d (Go.Ve.frz (y.v s.r)) i) ((AJ s.t d A i).v s.r);rw[congrFun (B2 (r:=s.r) (t:=s.t) (d:=d) (y:=A)) i,Sl.frz_v E];exact Ax.refl _
   .cases e
  |false=>
   rw[B]at e;simp only[cond_false,Option.some.injEq]at e;subst e;have J:s.den.σ.length=s.r.length:=by simp[St.den]
   simp only[Bool.false_eq_true,if_false,J];exact Ws
def AR.put{C:Ctx}{h:Cs}{s s':St}{d:Option Nat}{y:Sl}{a:Act}{w:World}(u:s.put h d y=some s')(hs:AR C h.n (s.den.res h d (y.v s.r)) a w):AR C h.n s'.den a w:=by
 obtain⟨A,e⟩:=Zx u;exact hs.sub (by rw[e]) (λi _=>by rw[e];exact Sub.refl _) A
theorem PQ{P:Program}{C:Ctx}{o:Oper}{a:Act}{w:World}{next:Act->World->Prop}{Q:Exit->Act->World->Prop}(E:QS P s o.op y)(J:s.put h o.dst y=some s')
  (hs:AR C h.n s.den a w) (W:∀e w',AR C h.n s'.den e w'->next e w'):o.wp P a w next Q:=by
 refine I2 (P:=P) (h:=h) (K:=λS=>S=s.den.res h o.dst (y.v s.r)) (S:=s.den) ?_ hs λS' e w' Z u=>W e w' (AR.put J (Z▸u))
 have B:qop P s.den.σ s.den.ev o.op (ResK h o.dst s.den λS=>S=s.den.res h o.dst (y.v s.r)):=by
  refine MF E ?_;intro r0 A;exact⟨y.v s.r,A,rfl⟩
 unfold vop;split
 .rename_i t x v U
  rw[U]at E;exact E.elim
 .exact B
end Go.Ve


namespace Go.Ve
variable{y:Cl}{r:List Af}{σ:List V}{N:Nat}{t:Nat->V}
def PR.subst{C:Ctx}{ρ:Nat->Value}{F:Nat->Nat->Prop}{u:Nat->V}{a:Act}{w:World}{D:Nat->Prop}{T:Nat->Nat->Prop}(h:PR C N σ ρ F t a w D T)(hs:∀x,Sub (t x) (u x)):PR C N σ ρ F u a w D T:=
 ⟨h.df,h.sz,λx e=>by have:=hs x;rw[h.dd x e]at this;trivial,h.wr,λx e=>Rel.sub (hs x) (h.tm x e),h.tD,h.tF,h.tT,h.tn,h.fr,h.Fn,h.D1,h.D2,h.rt,h.ml,h.tx⟩
theorem LQ.sub{P:Program}{Al:Nat->Nat->Prop}{o:Oper}{ys e:List (Nat×Tk)}{r r':V}(h:LQ P N σ Al o t ys r)(hl:∀x,Bf ys x≠none->Bf e x≠none)(W:∀x v,Sub (HR (Bf ys x) v) (HR (Bf e x) v))(hr:Sub r r'):LQ P N σ Al o t e r':=by
 intro C ρ F a w D T u J E hp next Q hn
 refine h C ρ F a w D T u (λx Z=>J x (Z.imp id (hl x))) E hp next Q λa' w' D' T' B U A=>hn a' w' D' T' (B.subst λx=>?_) U A
 have hk:Sub (AP ys u x) (AP e u x):=W x _;cases hd:o.dst with
 |none=>trivial
 |some d=>
  show Sub (if x=d then r else AP ys u x) (if x=d then r' else AP e u x)
  grind
def Cl.solid:Cl->Bool
 |.dead=>false
 |.c .unit _ _=>false
 |.c (.pair _ _) _ _=>false
 |.c (.clo _ _) _ _=>false
 |.c (.osl _) _ _=>false
 |_=>true
theorem UQ(h:y.solid=true):WD (y.v r)=true/\It (y.v r)=true/\Go.Ve.cellsV (y.v r)=[y.v r]:=by
 cases y with
 |c t d x=>cases t<;>first|trivial|rfl
 |dead=>cases h
 |_=>trivial
def Sl.cellsO:Sl->Option (List Cl)
 |.one y=>bif y.solid then some [y]else none
 |.agg l=>bif l.all Cl.solid then some l else none
 |_=>none
theorem PE{y:Sl}{l:List Cl}(h:y.cellsO=some l):It (y.v r)=true/\Go.Ve.cellsV (y.v r)=l.map (Cl.v r)/\∀c∈l,WD (c.v r)=true:=by
 unfold Sl.cellsO at h;split at h
 .rename_i c
  cases e:c.solid with
  |false=>grind
  |true=>
   rw[e]at h;cases h;obtain⟨J,E,B⟩:=UQ e;exact⟨E,B,λc' u=>by grind⟩
 .rename_i A
  cases e:A.all Cl.solid with
  |false=>grind
  |true=>
   rw[e]at h;cases h;exact⟨rfl,Ny,λc u=>(UQ (aET.1 e c u)).1⟩
 grind
def Cl.keep(y:Cl):Bool:=y.imm||y.own
theorem VH(h:y.keep=true):(Cc (y.v r)=true\/∃s sz n f,y.v r=.nd s true sz n f)/\y.v r=y.v0:=by
 unfold Cl.keep at h;cases e:y.imm with
 |true=>exact⟨.inl (Oq e).1,(Oq e).2⟩
 |false=>
  rw[e,Bool.false_or]at h;cases y with
  |c t d x=>cases t<;>cases d<;>first|trivial|exact⟨.inr ⟨_,_,_,_,rfl⟩,rfl⟩|(cases x<;>first|trivial|exact⟨.inr ⟨_,_,_,_,rfl⟩,rfl⟩)
  |_=>cases h
def Mj(place:Nat->Option (Nat×Nat))(cells:List Cl):List (Nat×Option Sl)->Option (List Cl)
 |[]=>some cells
 |(i,y)::rest=>match place i,y with
  |some (off,size),some y=>match y.cellsO with
   |some l=>bif Nat.beq l.length size&&Nat.ble (off+size) cells.length then Mj place (Aaz cells off l) rest else none
   |none=>none
  |_,_=>none
theorem K7{s:St}{place:Nat->Option (Nat×Nat)}{ev:Operand->V}:∀(ps:List (Nat×Operand)) (cells l:List Cl),(∀p∈ps,s.den.ev p.2≠.dead->ev p.2=s.den.ev p.2)->Mj place cells (ps.map λp=>(p.1,s.ev p.2))=some l->
  (∀p∈ps,It (ev p.2)=true)/\Cd place (cells.map (Cl.v s.r)) (ps.map λp=>(p.1,ev p.2))=some (l.map (Cl.v s.r))
 |[],cells,l,_,h=>by cases h;exact⟨λp A=>(by cases A),rfl⟩
 |(i,x)::ps,cells,l,hev,h=>by
  rw[List.map_cons]at h;unfold Mj at h;split at h
  case h_2=>cases h
  rename_i off size y B u;split at h
  case h_2=>cases h
  rename_i m U;obtain⟨E,h⟩:=Bb h;simp only[bAE]at E;have Z:=bqE E.1;have W:=blE E.2;obtain⟨g1,g2,_⟩:=PE (r:=s.r) U;obtain⟨k1,k2⟩:=K7 ps _ _ (λp A=>hev p (mCM _ A)) h
  have u:s.ev x=some y:=u;have J:ev x=y.v s.r:=by
   rw[<-Bh u];refine hev (i,x) (List.mem_cons_self ..) ?_;rw[Bh u];intro e;rw[e]at g1;cases g1
  refine⟨λp A=>?_,?_⟩
  .grind
  .rw[List.map_cons]
   unfold Cd;simp only[B,J,g2];rw[if_neg (by simp only[List.length_map];omega),<-UU]
   exact k2
def Ks(s:St):Operand->Option Nat
 |.tmp y=>bif(s.t y).own then some y else none
 |_=>none
theorem Pf{s:St}(h:∀y,AL (t y)=(s.t y).own)(xs:List Operand):xs.map (H8 t)=xs.map (Ks s):=by
 refine List.map_congr_left λx _=>?_
 cases x with
 |tmp y=>
  show(if AL (t y)=true then some y else none)=bif(s.t y).own then some y else none
  grind
 |_=>rfl
def jsO:List (Option Nat)->List Nat
 |[]=>[]
 |none::l=>jsO l
 |some a::l=>a::jsO l
theorem fitO_v(d:Nat)(r:List Af)(c:Cl):(fit d c).v r=c.v r/\(fit d c).v0=c.v0:=by
 cases c with
 |c t u x=>
  have e:fit d (.c t u x)=bif Nat.beq (NF u t.dep) (NF d t.dep)then .c t d x else .c t u x:=rfl;rw[e];cases h:Nat.beq (NF u t.dep) (NF d t.dep)with
  |false=>simp
  |true=>
   have:=bqE h;rw[H9,H9]at this;exact⟨(KO this).symm,(KO this).symm⟩
 |_=>trivial
theorem CC{xs:List Operand}{l:List (Option Nat)}(h:xs.map (H8 t)=l):A8 t xs=jsO l:=by
 rw[BT,h];clear h
 induction l with
 |nil=>rfl
 |cons a l e=>cases a with
  |none=>trivial
  |some a=>show a::l.filterMap id=a::jsO l;grind
def CK(js:List Nat)(t:Nat->Sl):Nat->Sl:=λi=>bif js.contains i then .one .dead else t i
def nrm1:Cl->Cl->Cl
 |.c (.sl t) _ _,.nil=>.c (.sl t) (t.dep+1) []
 |_,y=>y
def Qs:List Cl->List Cl->List Cl
 |a::lp,y::l=>nrm1 a y::Qs lp l
 |_,l=>l
def nrm1_v(a y:Cl):Sub y.v0 (nrm1 a y).v0:=by
 unfold nrm1;split
 .exact .inr ⟨rfl,_,_,_,rfl⟩
 .exact Sub.refl _
def ZK(r:List Af)(a y:Cl):Sub (y.v r) ((nrm1 a y).v r):=by
 unfold nrm1;split
 .exact .inr ⟨rfl,_,_,_,rfl⟩
 .exact Sub.refl _
def Vt(r:List Af):∀(lp l:List Cl) (k:Nat),Sub ((l.map (Cl.v r)).getD k .dead) (((Qs lp l).map (Cl.v r)).getD k .dead)
 |[],[],_=>Sub.refl _
 |[],_::_,_=>Sub.refl _
 |_::_,[],_=>Sub.refl _
 |a::lp,y::l,0=>ZK r a y
 |a::lp,y::l,k+1=>Vt r lp l k
def Ls:∀(lp l:List Cl),(Qs lp l).length=l.length
 |[],[]=>rfl
 |[],_::_=>rfl
 |_::_,[]=>rfl
 |a::lp,y::l=>by show(Qs lp l).length+1=_;rw[Ls lp l];rfl
def Yn:∀(lp l:List Cl) (k:Nat),Sub ((l.map Cl.v0).getD k .dead) (((Qs lp l).map Cl.v0).getD k .dead)
 |[],[],_=>Sub.refl _
 |[],_::_,_=>Sub.refl _
 |_::_,[],_=>Sub.refl _
 |a::lp,y::l,0=>nrm1_v a y
 |a::lp,y::l,k+1=>Yn lp l k
end Go.Ve


namespace Go.Ve
variable{N d id m n sz:Nat}{f g:Nat->Nat->V}{D fp:Nat->Prop}{y:Operand}{s:St}{t:Ty}{w:World}
def QW(s:St)(t:Ty)(id:Nat):Option Sl->Option (Nat×List t.T×List Nat)
 |some (.one (.c (.sl e) 0 ys))=>if h:e=t then some (0,h▸ys,[])else none
 |some (.one (.rf j q))=>match Ai s.r j q with
  |.arr ro e d ys=>if h:e=t then(bif Nat.beq j id then none else bif Nat.beq t.dep 0 then some (d,h▸ys,[])else match q with
   |[]=>bif ro then none else some (d,h▸ys,[j])
   |_::_=>none)else none
  |_=>none
 |some (.one (.rs j q off len))=>match Ai s.r j q with
  |.arr _ e d ys=>if h:e=t then(bif Nat.beq j id|| !Nat.beq t.dep 0 then none else some (d,NN len (OB off (h▸ys)),[]))else none
  |_=>none
 |_=>none
def QX(s:St)(t:Ty)(id:Nat)(y:Option Sl):Option (Nat×List t.T×List Nat):=bif t.noO then QW s t id y else none
theorem Wk{y:Option Sl}{z:Nat×List t.T×List Nat}(h:QX s t id y=some z):QW s t id y=some z/\t.noO=true:=by
 unfold QX at h
 grind
def Nb(b:Nat):Nat:=140737488355328/b
def Df:∀(t:Ty) (d:Nat) (x:t.T) (k:Nat),t.noO=true->k<t.w->WD ((tyV t d x).getD k .dead)=true
 |.int _,_,_,0,_,_=>rfl
 |.int _,_,_,_+1,_,h=>by trivial
 |.bool,_,_,0,_,_=>rfl
 |.bool,_,_,_+1,_,h=>by trivial
 |.str,_,_,0,_,_=>rfl
 |.str,_,_,_+1,_,h=>by trivial
 |.sl _,_,_,0,_,_=>rfl
 |.sl _,_,_,_+1,_,h=>by trivial
 |.ptr _,_,_,0,_,_=>rfl
 |.ptr _,_,_,_+1,_,h=>by trivial
 |.osl _,_,_,_,h,_=>by cases h
 |.unit,_,_,_,_,h=>by trivial
 |.clo _ _,_,_,0,_,_=>rfl
 |.clo _ _,_,_,_+1,_,h=>by trivial
 |.pair a b,d,x,k,ho,h=>by
  simp only[Ty.noO,bAE]at ho;simp only[tyV];rw[Ty.w]at h;by_cases u:k<a.w
  .have e:(tyV a d x.1++tyV b d x.2).getD k .dead=(tyV a d x.1).getD k .dead:=AG (by rw[Ay];exact u)
   rw[e];exact Df a d x.1 k ho.1 u
  .have e:(tyV a d x.1++tyV b d x.2).getD k .dead=(tyV b d x.2).getD (k-a.w) .dead:=by
    simp[gDE];rw[gAR (by rw[Ay];omega),Ay]
   rw[e];exact Df b d x.2 (k-a.w) ho.2 (by omega)
def OL:∀(t:Ty) (d:Nat) (x:t.T),t.dep=0->∀v∈tyV t d x,∃c,v=.c c
 |.int _,_,_,_,v,h=>by simp[tyV]at h;grind
 |.bool,_,_,_,v,h=>by simp[tyV]at h;grind
 |.str,_,_,_,v,h=>by simp[tyV]at h;grind
 |.sl _,_,_,h,_,_=>by trivial
 |.ptr _,_,_,h,_,_=>by trivial
 |.clo _ _,_,_,h,_,_=>by trivial
 |.osl _,_,_,h,_,_=>by trivial
 |.unit,_,_,_,v,h=>by trivial
 |.pair a b,d,x,h,v,hv=>by
  simp[Ty.dep]at h;simp[tyV,List.mem_append]at hv;rcases hv with hv|hv
  .exact OL a d x.1 (by omega) v hv
  .exact OL b d x.2 (by omega) v hv
def HN{v:V}{x:Value}(h:Rel D w noR v x fp)(e:WD v=true):x.oneCell'=true:=(Rel.cells1 h (λ_ _ h=>h.elim) e).2
structure YOK(s:St)(t:Ty)(id:Nat)(y:Operand)(a:Act)(w:World)(D:Nat->Prop)(F:Nat->Nat->Prop)(d:Nat)(ys:List t.T)(js:List Nat):Prop where
 rd:∃Fy,Q1 D w t.w ys.length (λi k=>(tyV t d (ys.getD i t.dflt)).getD k .dead) (a.eval y) Fy/\(∀i k c,i<ys.length->k<t.w->Fy i k c->∃j∈js,F j c)/\
  ∀i k i' k' c,i<ys.length->k<t.w->i'<ys.length->k'<t.w->(i≠i'\/k≠k')->Fy i k c->¬Fy i' k' c
 js:∀j∈js,j<s.r.length/\j≠id
theorem Il{t:Ty}{id:Nat}{y:Operand}{a:Act}{C:Ctx}{ρ:Nat->Value}{F:Nat->Nat->Prop}(Z:CR C s.den.σ ((List.range N).map s.den.t) a.tmps w D ρ F)(hdd:∀x,N<=x->s.den.t x=.dead)
  {d:Nat}{ys:List t.T}{js:List Nat} (h:QX s t id (s.ev y)=some (d,ys,js)):YOK s t id y a w D F d ys js:=by
 unfold QX at h;obtain⟨hno,h⟩:=Bb h;unfold QW at h;split at h
 case h_4=>cases h
 .rename_i A u hy
  split at h
  case isFalse=>cases h
  rename_i ht;subst ht;cases h;have W:=BY Z hdd y;rw[Bh hy]at W;show YOK s A id y a w D F 0 u [];refine⟨⟨λ_ _=>noF,?_,λ_ _ _ _ _ h=>h.elim,λ_ _ _ _ _ _ _ _ _ _ h=>h.elim⟩,λj hj=>by cases hj⟩
  have W:Rel D w _ (arr false A.w (tyV A 0) A.dflt u) (a.eval y) noF:=W;rcases W with⟨h0,_,hn,_⟩|⟨b,o,cap,Fx,hcv,_,_,_,hc,himm,_⟩
  .obtain⟨ad,had⟩:=C2 hn
   refine⟨ad,0,by rw[had,h0],λh=>by omega⟩
  .refine⟨_,cap,hcv,λ_=>⟨b,o,rfl,λi k J U=>?_⟩⟩
   obtain⟨x,hx,B⟩:=hc i k J U;have e:Fx i k=noF:=A6 λc hc=>(himm rfl).2.1 i k c J U hc
   rw[e]at B;exact⟨x,hx,HN B (Df A 0 _ k hno U),B⟩
 .rename_i j q hy
  have W:=BY Z hdd y;rw[Bh hy]at W;split at h
  case h_2=>cases h
  rename_i ro A d' u hn;split at h
  case isFalse=>cases h
  rename_i ht;subst ht;cases hb:Nat.beq j id with
  |true=>rw[hb]at h;cases h
  |false=>
   rw[hb]at h;simp only[cond_false]at h;have W:Rel D w (Au s.den.σ ρ w) (.rs j q 0 (Ai s.r j q).len) (a.eval y) noF:=W;rw[hn]at W;have W:Rel D w (Au s.den.σ ρ w) (.rs j q 0 u.length) (a.eval y) noF:=W;obtain⟨⟨hid,sz,n,f,cn,hat,hle,hcv⟩,_⟩:=W;have E:=At.sub hat;have hne:Ai s.r j q≠.dead:=by rw[hn];intro h;cases h
   have hnode:sub q (s.den.σ.getD j .dead)=arr true A.w (tyV A d') A.dflt u:=(A1 hne).trans (by rw[hn];rfl)
   rw[hnode]at E;have E:V.nd true true sz n f=.nd true true A.w u.length (λi k=>(tyV A d' (u.getD i A.dflt)).getD k .dead):=E
   cases E;obtain⟨fp1,hr1,hfp1,_⟩:=DF (w':=w) q _ _ _ _ _ (Z.wr.rel j hid) (λb hb h=>Z.wr.dD j b h hb) hat
   have hjr:j<s.r.length:=by simpa [St.den]using hid
   have rd:∀Fy,(∀(b o cap:Nat) (Fx:Nat->Nat->Nat->Prop),cn=AC true b o u.length cap->(∀i k,i<u.length->k<A.w->∃x,w.cell? ⟨b,o+i*A.w+k,none⟩=some x/\Rel D w noR ((tyV A d' (u.getD i A.dflt)).getD k .dead) x (Fx i k))->(∀i k c,i<u.length->k<A.w->Fx i k c->fp1 c)->
     (∀i k,i<u.length->k<A.w->Fx i k=Fy i k))->Q1 D w A.w u.length (λi k=>(tyV A d' (u.getD i A.dflt)).getD k .dead) (a.eval y) Fy:=by
    intro Fy hFy;rcases hr1 with⟨h0,_,hn0,_⟩|⟨b,o,cap,Fx,hcn,_,_,_,hc,_,ho⟩
    .rcases hcv with⟨b,o,cap,h3,h4⟩|⟨_,ad,h4,_⟩
     .rw[h3]at hn0;exact absurd hn0 BP
     .exact⟨ad.map λp=>⟨p.1,p.2,none⟩,0,by rw[h4,h0],λh=>by omega⟩
    .rcases hcv with⟨b',o',cap',h3,h4⟩|⟨h0,ad,h4,_⟩
     .obtain⟨rfl,rfl,_⟩:=Az (h3.symm.trans hcn)
      refine⟨_,cap'-0,by simpa using h4,λ_=>⟨b',o',by simp,λi k J U=>?_⟩⟩
      obtain⟨x,hx,B⟩:=hc i k J U;have e:=hFy b' o' cap Fx hcn hc (λi k c J U h=>((ho rfl).2.2.2 c).2 (.inr ⟨i,k,J,U,h⟩)) i k J U
      exact⟨x,hx,HN B (Df A d' _ k hno U),e▸B⟩
     .exact⟨ad.map λp=>⟨p.1,p.2,none⟩,0,by rw[h4,h0],λh=>by omega⟩
   cases hd:Nat.beq A.dep 0 with
   |true=>
    rw[hd]at h;cases h;have hd:=bqE hd;show YOK s A id y a w D F d u [];refine⟨⟨λ_ _=>noF,rd _ λb o cap Fx _ hc _ i k J U=>?_,λ_ _ _ _ _ h=>h.elim,λ_ _ _ _ _ _ _ _ _ _ h=>h.elim⟩,λj hj=>by cases hj⟩
    obtain⟨x,_,B⟩:=hc i k J U;obtain⟨cc,hcc⟩:=OL A d (u.getD i A.dflt) hd _ (IW (k:=k) (by rw[Ay];exact U))
    rw[hcc]at B;exact A6 B.2.2
   |false=>
    rw[hd]at h;simp only[cond_false]at h;split at h
    case h_2=>cases h
    cases ro with
    |true=>cases h
    |false=>
     cases h;show YOK s A id y a w D F d u [j];obtain⟨h1,h2⟩:=hat;subst h2;have hrj:=Z.wr.rel j hid;rw[<-h1]at hrj;rcases hrj with⟨h0,_,hn0,_⟩|⟨b,o,cap,Fx,hcn,_,_,_,hc,_,ho⟩
     .refine⟨⟨λ_ _=>noF,rd _ λ_ _ _ _ _ _ _ i k J=>by omega,λ_ _ _ _ _ h=>h.elim,λ_ _ _ _ _ _ _ _ _ _ h=>h.elim⟩,λi J=>?_⟩
      simp at J;subst J;exact⟨hjr,λe=>by rw[e,Nat.beq_refl]at hb;cases hb⟩
     .refine⟨⟨Fx,?_,λi k c J U hF=>⟨j,by simp,((ho rfl).2.2.2 c).2 (.inr ⟨i,k,J,U,hF⟩)⟩,λi k i' k' c h1 h2 h3 h4 hne hF=>(ho rfl).2.2.1 i k i' k' c h1 h2 h3 h4 hne hF⟩,λi J=>?_⟩
      .rcases hcv with⟨b',o',cap',h3,h4⟩|⟨h0,ad,h4,_⟩
       .obtain⟨rfl,rfl,_⟩:=Az (h3.symm.trans hcn)
        refine⟨_,cap'-0,by simpa using h4,λ_=>⟨b',o',by simp,λi k J U=>?_⟩⟩
        obtain⟨x,hx,B⟩:=hc i k J U;exact⟨x,hx,HN B (Df A d _ k hno U),B⟩
       .exact⟨ad.map λp=>⟨p.1,p.2,none⟩,0,by rw[h4,h0],λh=>by omega⟩
      .simp at J;subst J
       exact⟨hjr,λe=>by rw[e,Nat.beq_refl]at hb;cases hb⟩
 .rename_i j q off len hy
  have W:=BY Z hdd y;rw[Bh hy]at W;split at h
  case h_2=>cases h
  rename_i ro A d' u hn;split at h
  case isFalse=>cases h
  rename_i ht;subst ht;cases hb:(Nat.beq j id|| !Nat.beq A.dep 0)with
  |true=>rw[hb]at h;cases h
  |false=>
   rw[hb]at h;cases h;show YOK s A id y a w D F d (NN len (OB off u)) [];simp only[Bool.or_eq_false_iff,Bool.not_eq_false']at hb;have hd:=bqE hb.2;have W:Rel D w (Au s.den.σ ρ w) (.rs j q off len) (a.eval y) noF:=W;obtain⟨⟨hid,sz,n,f,cn,hat,hle,hcv⟩,_⟩:=W;have E:=At.sub hat;have hne:Ai s.r j q≠.dead:=by rw[hn];intro h;cases h
   have hnode:sub q (s.den.σ.getD j .dead)=arr true A.w (tyV A d) A.dflt u:=(A1 hne).trans (by rw[hn];rfl)
   rw[hnode]at E;have E:V.nd true true sz n f=.nd true true A.w u.length (λi k=>(tyV A d (u.getD i A.dflt)).getD k .dead):=E
   cases E;obtain⟨fp1,hr1,hfp1,_⟩:=DF (w':=w) q _ _ _ _ _ (Z.wr.rel j hid) (λb hb h=>Z.wr.dD j b h hb) hat
   have hl:(NN len (OB off u)).length=len:=by
    show(List.take len (List.drop off u)).length=len;simp;omega
   have hget:∀i,i<len->(NN len (OB off u)).getD i A.dflt=u.getD (off+i) A.dflt:=by
    intro i J;show(List.take len (List.drop off u)).getD i A.dflt=_;simp[List.getElem?_take,J]
   refine⟨⟨λ_ _=>noF,?_,λ_ _ _ _ _ h=>h.elim,λ_ _ _ _ _ _ _ _ _ _ h=>h.elim⟩,λj hj=>by cases hj⟩
   rw[hl];rcases hcv with⟨b',o',cap',h3,h4⟩|⟨h0,ad,h4,_⟩
   .refine⟨_,cap'-off,h4,λhpos=>⟨b',o'+off*A.w,rfl,λi k J U=>?_⟩⟩
    rcases hr1 with⟨h0,_,hn0,_⟩|⟨b,o,cap,Fx,hcn,_,_,_,hc,_,ho⟩
    .omega
    .obtain⟨rfl,rfl,_⟩:=Az (h3.symm.trans hcn)
     obtain⟨x,hx,B⟩:=hc (off+i) k (by omega) U
     obtain⟨cc,hcc⟩:=OL A d (u.getD (off+i) A.dflt) hd _ (IW (k:=k) (by rw[Ay];exact U))
     have B:Rel D w noR ((tyV A d (u.getD (off+i) A.dflt)).getD k .dead) x (Fx (off+i) k):=B
     have e:Fx (off+i) k=noF:=by
      rw[hcc]at B;exact A6 B.2.2
     rw[e]at B;refine⟨x,?_,HN B (Df A d _ k hno U),?_⟩
     .rw[Nat.add_mul,<-Nat.add_assoc]at hx;exact hx
     .show Rel D w noR ((tyV A d ((NN len (OB off u)).getD i A.dflt)).getD k .dead) x noF
      rw[hget i J];exact B
   .exact⟨ad.map λp=>⟨p.1,p.2,none⟩,0,by rw[h4,h0],λh=>by omega⟩
theorem LT{xs ys:List t.T}(e:n=xs.length)(u:m=ys.length)(J:∀i k,i<n->f i k=(tyV t d (xs.getD i t.dflt)).getD k .dead)(E:∀i k,i<m->g i k=(tyV t d (ys.getD i t.dflt)).getD k .dead):
  Sub (.nd true true t.w (n+m) (QY n f g)) (cV (.sl t) (d+1) (xs++ys)):=by
 show Sub _ (V.nd true true t.w (xs++ys).length λi k=>(tyV t d ((xs++ys).getD i t.dflt)).getD k .dead)
 rw[List.length_append,<-e,<-u];refine⟨_,rfl,λi k B A=>Sub.of_eq ?_⟩
 unfold QY
 grind
section
variable {C:Ctx}{N:Nat}{σ:List V}{ρ:Nat->Value}{F:Nat->Nat->Prop}{t:Nat->V}{a:Act}{w:World}{D:Nat->Prop}{T:Nat->Nat->Prop}
theorem PR.own(h:PR C N σ ρ F t a w D T){xs:List Operand}{r:V}{v':Value}{fp:Nat->Prop}{d:Nat}{w':World}(hos:w'.os=w.os)(htp:w'.tape=w.tape)(hout:w'.output=w.output)(hdr:w.drawn<=w'.drawn)(hsz:w.heap.size<=w'.heap.size)
  (W:∀c,c<w.heap.size->(∀j,¬opF t T xs j c)->w'.heap[c]? =w.heap[c]?) (hr:Rel D w' noR r v' fp) (hf:∀b,fp b->(∃j,opF t T xs j b)\/w.heap.size<=b) (hdn:d<N):
  ∃T',PR C N σ ρ F (AI (AP ((A8 t xs).map λy=>(y,.all)) t) d r) (a.put (some d) v') w' D T'/\∀x b,T' x b->some d=some x\/∃b',T x b':=by
 have hFlt:∀i b,F i b->b<w.heap.size:=h.wr.lt;have hTlt:∀x b,T x b->b<w.heap.size:=by
  intro x b u;by_cases B:x<N
  .exact Rel.lt _ _ _ (h.tm x B) b u
  .exact absurd u (h.tx x b (Nat.le_of_not_lt B))
 have hD:∀b,D b->w'.heap[b]? =w.heap[b]?:=λb u=>W b (h.wr.Dlt b u) λj J=>by obtain⟨y,_,_,A⟩:=J;exact h.tD y b A u
 have hFs:∀i b,F i b->w'.heap[b]? =w.heap[b]?:=λi b u=>W b (hFlt i b u) λj J=>by obtain⟨y,_,_,A⟩:=J;exact h.tF i y b u A
 have hTs:∀x b,x∉A8 t xs->T x b->w'.heap[b]? =w.heap[b]?:=λx b B u=>W b (hTlt x b u) λj J=>by
  obtain⟨y,_,_,E,A⟩:=Dx J;exact h.tT x y b (λe=>B (e▸E)) u A
 have wr':BG σ w' D ρ F:=⟨λi hi=>Rel.mono (λ_ h=>h) (λ_ _ h=>h) _ _ _ (λb u=>u.elim (hD b) (hFs i b)) (h.wr.rel i hi),h.wr.disj,h.wr.dD,λb u=>Nat.lt_of_lt_of_le (h.wr.Dlt b u) hsz,h.wr.out⟩
 have U:∀b,fp b->(∃y,y∈A8 t xs/\T y b)\/w.heap.size<=b:=λb u=>(hf b u).imp (fun⟨j,J⟩=>by obtain⟨y,_,_,E,A⟩:=Dx J;exact⟨y,E,A⟩) id
 refine⟨λx b=>if x=d then fp b else x∉A8 t xs/\T x b,⟨h.df,by rw[BU];simpa using h.sz,λx B=>?_,wr',λx B=>?_,λx b u=>?_,λi x b u A=>?_,λx y b hxy h1 Z=>?_,λx b u=>?_,⟨hos.trans h.fr.os,htp.trans h.fr.tape,hout.trans h.fr.output,Nat.le_trans h.fr.size hsz,λb u hW=>?_,Nat.le_trans h.fr.drawn hdr⟩,h.Fn,h.D1,h.D2,h.rt,h.ml,λx b B u=>?_⟩,λx b u=>?_⟩
 .have:¬x=d:=by omega
  simp only[AI,this,if_false];rw[C6];split
  .rfl
  .exact h.dd x B
 .have hlt:x<a.tmps.size:=by rw[h.sz];exact B
  rw[BU];by_cases he:x=d
  .subst he
   simp only[AI,if_true];have:Rel D w' (Au σ ρ w') r v' (λb=>if x=x then fp b else x∉A8 t xs/\T x b):=Rel.fp_congr (λb=>by rw[if_pos rfl]) (Rel.noR_mono hr)
   simpa [hlt]using this
  .simp only[AI,he,if_false]
   rw[Array.getD_eq_getD_getElem?,Array.getElem?_setIfInBounds_ne (Ne.symm he),<-Array.getD_eq_getD_getElem?,C6];by_cases E:x∈A8 t xs
   .rw[if_pos E]
    exact λb u=>u.1 E
   .rw[if_neg E]
    refine Rel.fp_congr (fp:=T x) (λb=>⟨λh=>⟨E,h⟩,λh=>h.2⟩) ?_
    exact Rel.mono (λ_ h=>h) (λv cv hv=>Au.same h.wr hFs v cv hv) _ _ _ (λb u=>u.elim (hD b) (hTs x b E)) (h.tm x B)
 .split at u
  .intro hDb
   rcases U b u with⟨y,_,A⟩|Z
   .exact h.tD y b A hDb
   .have:=h.wr.Dlt b hDb;omega
  .exact h.tD x b u.2
 .split at A
  .rcases U b A with⟨y,_,A⟩|Z
   .exact h.tF i y b u A
   .have:=hFlt i b u;omega
  .exact h.tF i x b u A.2
 .have one:∀x,fp b->x∉A8 t xs->T x b->False:=by
   intro x h3 B h4;rcases U b h3 with⟨z,E,h5⟩|h5
   .exact h.tT x z b (λe=>B (e▸E)) h4 h5
   .have:=hTlt x b h4;omega
  split at h1<;>split at Z
  .rename_i e1 e2;exact absurd (e1.trans e2.symm) hxy
  .exact one y h1 Z.1 Z.2
  .exact one x Z h1.1 h1.2
  .exact h.tT x y b hxy h1.2 Z.2
 .split at u
  .rcases U b u with⟨y,_,A⟩|Z
   .exact h.tn y b A
   .exact .inr (Nat.le_trans h.fr.size Z)
  .exact h.tn x b u.2
 .rw[W b (Nat.lt_of_lt_of_le u h.fr.size) λj J=>by
   obtain⟨y,_,_,A⟩:=J;rcases h.tn y b A with h|h
   .exact hW h
   .omega]
  exact h.fr.block b u hW
 .have u:(if x=d then fp b else x∉A8 t xs/\T x b):=u
  rw[if_neg (by omega)]at u
  exact h.tx x b B u.2
 .have u:(if x=d then fp b else x∉A8 t xs/\T x b):=u
  split at u
  .rename_i e;exact .inl (by rw[e])
  .exact .inr ⟨b,u.2⟩
theorem PR.cr(h:PR C N σ ρ F t a w D T){t2:Nat->V}(E:∀x,t2 x=.dead\/(t2 x=t x/\AL (t x)=false)):CR C σ ((List.range N).map t2) a.tmps w D ρ F:=by
 refine⟨h.wr,by simp[h.sz],λj u=>?_,h.fr,h.Fn,h.D1,h.D2,h.rt,h.ml⟩
 have u:j<N:=by grind
 rw[AV u];rcases E j with e|⟨e,B⟩
 .rw[e];exact λ_ h=>h
 .rw[e]
  have A:=h.tm j u;rw[A6 (AE _ _ _ B A)]at A;omega
end
theorem U7{R:V->Value->Prop}{cv:Value}(h:Rel D w R (.nd true true sz m g) cv fp)(h1:∀i k,i<m->k<sz->WD (g i k)=true):
  ∃Fy,Q1 D w sz m g cv Fy/\(∀i k c,i<m->k<sz->Fy i k c->fp c)/\∀i k i' k' c,i<m->k<sz->i'<m->k'<sz->(i≠i'\/k≠k')->Fy i k c->¬Fy i' k' c:=by
 rcases h with⟨h0,_,U,_⟩|⟨b,o,cap,F0,B,_,_,_,Z,_,J⟩
 .obtain⟨a,rfl⟩:=C2 U
  subst h0;exact⟨λ_ _=>noF,⟨a,0,rfl,λh=>by omega⟩,λi k c e=>by omega,λi k i' k' c e=>by simp⟩
 .obtain⟨_,_,hd,W⟩:=J rfl
  refine⟨F0,⟨some ⟨b,o,none⟩,cap,B,λ_=>⟨b,o,rfl,λi k e A=>?_⟩⟩,λi k c e A hF=>(W c).2 (.inr ⟨i,k,e,A,hF⟩),hd⟩
  obtain⟨x,E,u⟩:=Z i k e A;exact⟨x,E,HN u (h1 i k e A),u⟩
theorem Ww{Al:Nat->Nat->Prop}{P:Program}{σ:List V}{o:Oper}{t:Nat->V}{ty e:TypeId}{x:Operand}{bytes n m:Nat}{zero:List Value}{f g:Nat->Nat->V}(ho:o.op=.call ⟨.builtin .append,#[x,y],#[ty,ty]⟩)(hd:o.dst=some d)(hdn:d<N)(hsl:slI P ty=some ⟨e,sz,bytes,zero⟩)(Z:0<sz)
  (hx:Sub (Ms.ev ⟨t,σ⟩ x) (.nd true true sz n f)) (hap:CU ([x,y].map (H8 t))=true)
  (hy:∀(C:Ctx) (ρ:Nat->Value) (F:Nat->Nat->Prop) (a:Act) (w:World) (D:Nat->Prop) (T:Nat->Nat->Prop) (A:Nat->V),(∀z∈D8 o.op,A z=t z)->PR C N σ ρ F A a w D T->
   ∃Fy,Q1 D w sz m g (a.eval y) Fy/\(∀i k c,i<m->k<sz->Fy i k c->opF A T [x,y] 1 c)/\∀i k i' k' c,i<m->k<sz->i'<m->k'<sz->(i≠i'\/k≠k')->Fy i k c->¬Fy i' k' c)
  (h63:n+m<=maxLen) (hb:(n+m)*bytes<=140737488355328):
  LQ P N σ Al o t ((A8 t [x,y]).map λy=>(y,.all)) (.nd true true sz (n+m) (QY n f g)):=by
 intro C ρ F a w D T A hag hal W next Q hn
 have E:∀z,Operand.tmp z∈ [x,y]->A z=t z:=λz hz=>hag z (.inl<|Dg (by rw[ho];simp[Op.operands,Call.operands]at hz⊢;simpa using hz))
 have hevx:Ms.ev ⟨A,σ⟩ x=Ms.ev ⟨t,σ⟩ x:=by
  cases x with
  |tmp z=>exact E z (by simp)
  |const v=>rfl
  |global g=>rfl
  |func f=>rfl
 have J:[x,y].map (H8 A)=[x,y].map (H8 t):=Da λu hu z e=>E z (e▸hu)
 have hap':CU ([x,y].map (H8 A))=true:=by rw[J];exact hap
 have htk:A8 A [x,y]=A8 t [x,y]:=by rw[BT,BT,J]
 have B:=W.opF_rel (xs:=[x,y]) (j:=0) (x:=x) rfl;rw[hevx]at B;have hrx1:=Rel.sub hx B;have B:Rel D w noR (.nd true true sz n f) (a.eval x) (opF A T [x,y] 0):=hrx1;obtain⟨Fy,hrd,U,hFd⟩:=hy C ρ F a w D T A (λz hz=>hag z (.inl hz)) W
 have oD:∀j b,opF A T [x,y] j b->¬D b:=λj b hj=>by obtain⟨z,_,_,hT⟩:=hj;exact W.tD z b hT
 obtain⟨v',w',fp,hrun,hos,htp,hout,hdr,hsz,hbl,hr',hfp⟩:=Rel.append (P:=P) (ty:=o.type) hsl Z B (λb hb h=>oD 0 b h hb) W.wr.Dlt hrd (λi k c hi hk hF=>⟨oD 1 c (U i k c hi hk hF),λh=>W.opF_dis hap' 0 1 c (by decide) h (U i k c hi hk hF)⟩) hFd h63 hb
 unfold Oper.wp execOp;simp only[ho,resolve,invoke,builtin,Sem.run_bind,Sem.run_pure,Result.andThen_ok,List.map_toArray,List.map_cons,List.map_nil,hrun];show next (a.put o.dst v') w'
 rw[hd]at hn⊢
 obtain⟨T',hp',hT'⟩:=W.own (xs:=[x,y]) (d:=d) hos htp hout hdr hsz (λc hc hG=>hbl c hc (hG 0)) hr' (λb hb=>by
  rcases hfp b hb with h1|⟨i,k,hi,hk,h1⟩|h1
  .exact .inl ⟨0,h1⟩
  .exact .inl ⟨1,U i k b hi hk h1⟩
  .exact .inr h1) hdn
 rw[htk]at hp';exact hn _ _ _ _ hp' hT' λ_ hx=>BJ hx
end Go.Ve

