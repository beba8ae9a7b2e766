/- The typed machine: new trees get their numbers; one quiet operation. -/
import Derived.Test.YtojjlnbnneemaaaTd
import Derived.Test.YtojjlnbnneemaaaVwa
import Derived.Test.YtojjlnbnneemaaaVy
set_option linter.all false
namespace Go.Ve
variable{h:Cz}{a b r r':List Ac}{d m:Nat}{y:Sl}{s s':St}
def Cl.prom(e m:Nat):Cl->Cl×List Ac
 |.c (.sl t) (d+1) xs=>(.rf m [],[.arr false t d xs])
 |.c (.ptr t) (d+1) x=>bif Nat.blt 0 t.w then(.rp m [] 0 0,[.obj false (AA t d x)])else(.dead,[])
 |.c (.osl t) (d+1) x=>match x with
  |some xs=>(.rf m [],[.arr false t d xs])
  |none=>(.dead,[])
 |.c (.mp k v) (_+1) x=>(.rm m [],[.mp false k v x])
 |y=>(y.chk e,[])
def B4(e:Nat):Nat->List Cl->List Cl×List Ac
 |_,[]=>([],[])
 |m,y::l=>((y.prom e m).1::(B4 e (m+(y.prom e m).2.length) l).1,(y.prom e m).2++(B4 e (m+(y.prom e m).2.length) l).2)
def IC(e m:Nat)(p:Bool×List Cl):(Bool×List Cl)×List Ac:=
 bif p.1 then((true,(B4 e m p.2).1),(B4 e m p.2).2)else((false,[((p.2.getD 0 .dead).prom e m).1]),((p.2.getD 0 .dead).prom e m).2)
def DJ(e:Nat):Nat->List (Bool×List Cl)->List (Bool×List Cl)×List Ac
 |_,[]=>([],[])
 |m,p::l=>((IC e m p).1::(DJ e (m+(IC e m p).2.length) l).1,(IC e m p).2++(DJ e (m+(IC e m p).2.length) l).2)
def Sl.prom(m:Nat):Sl->Sl×List Ac
 |.one y=>(.one (y.prom m m).1,(y.prom m m).2)
 |.new l=>bif Nat.blt 0 l.length then(.one (.rp m [] 0 0),[.obj false l])else(.one .dead,[])
 |.agg l=>(.agg (B4 m m l).1,(B4 m m l).2)
 |.pk t l=>(.pk t (B4 m m l).1,(B4 m m l).2)
 |.tup l=>(.tup (DJ m m l).1,(DJ m m l).2)
def Has(r':List Ac)(m:Nat)(new:List Ac):Prop:=∀j,j<new.length->r'.getD (m+j) .dead=new.getD j .dead
def Has.left(h:Has r' m (a++b)):Has r' m a:=λj e=>by
 rw[h j (by simp;omega),gDE,gAL e,<-gDE]
def Has.right(h:Has r' m (a++b)):Has r' (m+a.length) b:=λj e=>by
 have:=h (a.length+j) (by simp;omega)
 rw[<-Nat.add_assoc]at this;rw[this,gDE,gAR (by omega),<-gDE,Nat.add_sub_cancel_left]
theorem U0{v:V}(h:AS v=false)(e:∀t n f,v≠.many t n f):Go.Ve.prom v m=(v,[]):=by
 cases v with
 |nd s own sz n f=>cases own with
  |true=>cases h
  |false=>cases s<;>rfl
 |many t n f=>exact absurd rfl (e t n f)
 |mp own l=>cases own with
  |true=>cases h
  |false=>rfl
 |_=>rfl
def YL{f:Nat->V}{n:Nat}(h:∀k m,Go.Ve.prom (f k) m=(f k,[])):BP (λk=>Go.Ve.prom (f k)) n m=((List.range n).map f,[]):=by
 induction n with
 |zero=>rfl
 |succ n e=>
  show((BP _ n m).1++[(Go.Ve.prom (f n) _).1],(BP _ n m).2++(Go.Ve.prom (f n) _).2)=_;rw[e,h,List.range_succ,List.map_append];rfl
def HU:∀(t:Ty) (x:t.T),∀v∈tyV t 0 x,∀m,Go.Ve.prom v m=(v,[])
 |.int _,_,v,h,m=>by simp[tyV]at h;subst h;rfl
 |.bool,_,v,h,m=>by simp[tyV]at h;subst h;rfl
 |.str,_,v,h,m=>by simp[tyV]at h;subst h;rfl
 |.sl _,_,v,h,m=>by simp only[tyV,List.mem_singleton]at h;subst h;rfl
 |.ptr _,_,v,h,m=>by simp only[tyV,List.mem_singleton]at h;subst h;rfl
 |.unit,_,v,h,m=>by simp[tyV]at h
 |.mp _ _,_,v,h,m=>by simp only[tyV,List.mem_singleton]at h;subst h;rfl
 |.pair a b,x,v,h,m=>by
  simp only[tyV,List.mem_append]at h;exact h.elim (λh=>HU a x.1 v h m) λh=>HU b x.2 v h m
 |.osl _,x,v,h,m=>by
  simp only[tyV,List.mem_singleton]at h;subst h;cases x<;>rfl
 |.clo g t,x,v,h,m=>by
  simp only[tyV,List.mem_singleton]at h;subst h
  have e:∀k m,Go.Ve.prom ((tyV t 0 x).getD k .dead) m=((tyV t 0 x).getD k .dead,[]):=by
   intro k m;by_cases e:k<(tyV t 0 x).length
   .rw[gDE,gEE e]
    exact HU t x _ (List.getElem_mem e) m
   .rw[gDE,List.getElem?_eq_none (by omega)];rfl
  show(V.many (.cl g) t.w λk=>(BP (λk=>Go.Ve.prom ((tyV t 0 x).getD k .dead)) t.w m).1.getD k .dead,(BP (λk=>Go.Ve.prom ((tyV t 0 x).getD k .dead)) t.w m).2)=_
  rw[YL e]
  congr 2
  funext k
  by_cases e:k<t.w
  .simp[e]
  .have:(tyV t 0 x).length<=k:=by rw[AB];omega
   simp only[gDE];rw[List.getElem?_eq_none (by simpa using Nat.le_of_not_lt e),List.getElem?_eq_none this]
def Oh{l:List V}:Go.Ve.prom (Bi true l) m=if 0<l.length then(.rp m [] 0 0,[Bi true l])else(.dead,[]):=rfl
theorem Cl.prom_v(J:∀id,id<r.length->r'.getD id .dead=r.getD id .dead)(y:Cl)(m:Nat)(hn:Has r' m (y.prom r.length m).2):
  As (Go.Ve.prom (y.v r) m).1 ((y.prom r.length m).1.v r')/\(Go.Ve.prom (y.v r) m).2=(y.prom r.length m).2.map Ac.v:=by
 have plain:∀y:Cl,y.own=false->(∀g u d x,y≠.c (.clo g u) d x)->(y.prom r.length m)=(y.chk r.length,[])->As (Go.Ve.prom (y.v r) m).1 ((y.prom r.length m).1.v r')/\(Go.Ve.prom (y.v r) m).2=(y.prom r.length m).2.map Ac.v:=by
  intro y ho A L
  rw[L,U0 (by rw[Cl.own_v,ho]) (by
   cases y with
   |c t d x=>cases t<;>first|exact absurd rfl (A _ _ _ _)|(intro _ _ _ h;cases h;done)|(intro _ _ _ h;cases x<;>cases h)
   |_=>intro _ _ _ h;cases h)]
  exact⟨Cl.chk_v J y,rfl⟩
 cases y with
 |c t d x=>
  cases t with
  |clo g u=>
   have e:Go.Ve.prom (cV (.clo g u) d x) m=(cV (.clo g u) d x,[]):=HU (.clo g u) x _ (List.mem_singleton.2 rfl) m;show As (Go.Ve.prom (cV (.clo g u) d x) m).1 _/\(Go.Ve.prom (cV (.clo g u) d x) m).2=_;rw[e];exact⟨As.refl _,rfl⟩
  |sl t=>cases d with
   |zero=>exact plain _ rfl (by intro _ _ _ _ h;cases h) rfl
   |succ d=>
    have E:r'.getD m .dead=.arr false t d x:=hn 0 Nat.one_pos;refine⟨?_,rfl⟩;show As (V.rs m [] 0 x.length) (V.rs m [] 0 (Ae r' m []).len);unfold Ae;rw[E];exact As.refl _
  |mp k v=>cases d with
   |zero=>exact plain _ rfl (by intro _ _ _ _ h;cases h) rfl
   |succ d=>exact⟨As.refl _,rfl⟩
  |osl t=>cases d with
   |zero=>exact plain _ rfl (by intro _ _ _ _ h;cases h) rfl
   |succ d=>
    cases x with
    |none=>exact⟨As.refl _,rfl⟩
    |some xs=>
     have E:r'.getD m .dead=.arr false t d xs:=hn 0 Nat.one_pos;refine⟨?_,rfl⟩;show As (V.rs m [] 0 xs.length) (V.rs m [] 0 (Ae r' m []).len);unfold Ae;rw[E];exact As.refl _
  |ptr t=>cases d with
   |zero=>exact plain _ rfl (by intro _ _ _ _ h;cases h) rfl
   |succ d=>
    show As (Go.Ve.prom (Bi true (tyV t d x)) m).1 _/\(Go.Ve.prom (Bi true (tyV t d x)) m).2=_;rw[Oh];show As _ ((bif Nat.blt 0 t.w then(Cl.rp m [] 0 0,[Ac.obj false (AA t d x)])else(.dead,[])).1.v r')/\_=((bif Nat.blt 0 t.w then(Cl.rp m [] 0 0,[Ac.obj false (AA t d x)])else(.dead,[])).2).map Ac.v;cases B:Nat.blt 0 t.w with
    |true=>
     rw[if_pos (by rw[AB];exact LT B)]
     refine⟨As.refl _,?_⟩;show _=[Bi true ((AA t d x).map Cl.v0)];rw[Bv]
    |false=>
     rw[if_neg (λh=>by rw[AB]at h;rw[show Nat.blt 0 t.w=true from Nat.ble_eq_true_of_le h]at B;cases B)]
     exact⟨As.refl _,rfl⟩
  |_=>exact plain _ rfl (by intro _ _ _ _ h;cases h) rfl
 |_=>exact plain _ rfl (by intro _ _ _ _ h;cases h) rfl
def Jp{r r':List Ac}(A:∀id,id<r.length->r'.getD id .dead=r.getD id .dead):∀(l:List Cl) (m:Nat),Has r' m (B4 r.length m l).2->
  (B9 (l.map (Cl.v r)) m).1.length=((B4 r.length m l).1.map (Cl.v r')).length/\(∀k,As ((B9 (l.map (Cl.v r)) m).1.getD k .dead) (((B4 r.length m l).1.map (Cl.v r')).getD k .dead))/\(B9 (l.map (Cl.v r)) m).2=(B4 r.length m l).2.map Ac.v
 |[],m,_=>⟨rfl,λk=>As.refl _,rfl⟩
 |y::l,m,hn=>by
  obtain⟨E,B⟩:=Cl.prom_v A y m hn.left;have e:(Go.Ve.prom (y.v r) m).2.length=(y.prom r.length m).2.length:=by rw[B,List.length_map]
  obtain⟨g1,g2,J⟩:=Jp A l (m+(y.prom r.length m).2.length) hn.right;rw[List.map_cons,Ll,e];refine⟨by simp only[B4,List.map_cons,List.length_cons];exact congrArg (· +1) g1,λk=>?_,?_⟩
  .cases k with
   |zero=>exact E
   |succ k=>exact g2 k
  .show _++_=(_++_:List Ac).map Ac.v
   rw[List.map_append,B,J]
theorem Abn(e:∀id,id<r.length->r'.getD id .dead=r.getD id .dead)(p:Bool×List Cl)(m:Nat)(hn:Has r' m (IC r.length m p).2):
  As (Go.Ve.prom (if p.1 then Aj (p.2.map (Cl.v r))else(p.2.map (Cl.v r)).getD 0 .dead) m).1 (if(IC r.length m p).1.1 then Aj ((IC r.length m p).1.2.map (Cl.v r'))else((IC r.length m p).1.2.map (Cl.v r')).getD 0 .dead)/\
  (Go.Ve.prom (if p.1 then Aj (p.2.map (Cl.v r))else(p.2.map (Cl.v r)).getD 0 .dead) m).2=(IC r.length m p).2.map Ac.v:=by
 obtain⟨b,l⟩:=p;cases b with
 |true=>
  obtain⟨E,B,A⟩:=Jp e l m hn;show As (Go.Ve.prom (Aj _) m).1 (Aj ((B4 r.length m l).1.map (Cl.v r')))/\(Go.Ve.prom (Aj _) m).2=_;rw[WR];exact⟨As.mk E λk _=>B k,A⟩
 |false=>
  show As (Go.Ve.prom ((l.map (Cl.v r)).getD 0 .dead) m).1 (((l.getD 0 .dead).prom r.length m).1.v r')/\(Go.Ve.prom ((l.map (Cl.v r)).getD 0 .dead) m).2=_;rw[AG (f:=Cl.v r) (a:=.dead) rfl];exact Cl.prom_v e _ m hn
def QC{r r':List Ac}(A:∀id,id<r.length->r'.getD id .dead=r.getD id .dead):∀(l:List (Bool×List Cl)) (m:Nat),Has r' m (DJ r.length m l).2->
  (B9 (l.map λp=>if p.1 then Aj (p.2.map (Cl.v r))else(p.2.map (Cl.v r)).getD 0 .dead) m).1.length=(DJ r.length m l).1.length/\
  (∀k,As ((B9 (l.map λp=>if p.1 then Aj (p.2.map (Cl.v r))else(p.2.map (Cl.v r)).getD 0 .dead) m).1.getD k .dead) (((DJ r.length m l).1.map λp=>if p.1 then Aj (p.2.map (Cl.v r'))else(p.2.map (Cl.v r')).getD 0 .dead).getD k .dead))/\
  (B9 (l.map λp=>if p.1 then Aj (p.2.map (Cl.v r))else(p.2.map (Cl.v r)).getD 0 .dead) m).2=(DJ r.length m l).2.map Ac.v
 |[],m,_=>⟨rfl,λk=>As.refl _,rfl⟩
 |p::l,m,hn=>by
  obtain⟨E,B⟩:=Abn A p m hn.left;have e:=congrArg List.length B;rw[List.length_map]at e;obtain⟨g1,g2,J⟩:=QC A l (m+(IC r.length m p).2.length) hn.right;rw[List.map_cons,Ll,e];refine⟨by simp only[DJ,List.length_cons];exact congrArg (· +1) g1,λk=>?_,?_⟩
  .cases k with
   |zero=>exact E
   |succ k=>exact g2 k
  .show _++_=(_++_:List Ac).map Ac.v
   rw[List.map_append,B,J]
theorem Sl.prom_v{r:List Ac}(y:Sl):As (Go.Ve.prom (y.v r) r.length).1 ((y.prom r.length).1.v (r++(y.prom r.length).2))/\(Go.Ve.prom (y.v r) r.length).2=(y.prom r.length).2.map Ac.v:=by
 have E:∀new:List Ac,∀id,id<r.length->(r++new).getD id .dead=r.getD id .dead:=λnew id h=>by
  simp[gDE,gAL h]
 have hn:∀new:List Ac,Has (r++new) r.length new:=λnew j _=>by
  simp only[gDE];rw[gAR (by omega),Nat.add_sub_cancel_left]
 cases y with
 |one c=>exact Cl.prom_v (E _) c r.length (hn _)
 |new l=>
  show As (Go.Ve.prom (Bi true (l.map Cl.v0)) r.length).1 _/\(Go.Ve.prom (Bi true (l.map Cl.v0)) r.length).2=_;rw[Oh,List.length_map];show As _ ((bif Nat.blt 0 l.length then(Sl.one (.rp r.length [] 0 0),[Ac.obj false l])else(.one .dead,[])).1.v (r++((bif Nat.blt 0 l.length then(Sl.one (.rp r.length [] 0 0),[Ac.obj false l])else(.one .dead,[])).2)))/\_=((bif Nat.blt 0 l.length then(Sl.one (.rp r.length [] 0 0),[Ac.obj false l])else(.one .dead,[])).2).map Ac.v;cases J:Nat.blt 0 l.length with
  |true=>
   rw[if_pos (LT J)];exact⟨As.refl _,rfl⟩
  |false=>
   rw[if_neg (λh=>by rw[show Nat.blt 0 l.length=true from Nat.ble_eq_true_of_le h]at J;cases J)]
   exact⟨As.refl _,rfl⟩
 |agg l=>
  obtain⟨B,A,e⟩:=Jp (E (B4 r.length r.length l).2) l r.length (hn _);show As (Go.Ve.prom (Aj _) r.length).1 (Aj _)/\(Go.Ve.prom (Aj _) r.length).2=_;rw[WR];exact⟨As.mk B λk _=>A k,e⟩
 |pk t l=>
  obtain⟨B,A,e⟩:=Jp (E (B4 r.length r.length l).2) l r.length (hn _);show As (Go.Ve.prom (pkL t _) r.length).1 (pkL t _)/\(Go.Ve.prom (pkL t _) r.length).2=_;rw[Abm];exact⟨As.pk B λk _=>A k,e⟩
 |tup l=>
  obtain⟨B,A,e⟩:=QC (E (DJ r.length r.length l).2) l r.length (hn _);show As (Go.Ve.prom (DH _) r.length).1 (DH _)/\(Go.Ve.prom (DH _) r.length).2=_;rw[YK];exact⟨As.tup (by rw[B];simp) λk _=>A k,e⟩
def AQ(t:Nat->Sl)(d:Nat)(y:Sl):Nat->Sl:=λi=>bif Nat.beq i d then y else t i
theorem B3{t:Nat->Sl}:(λi=>(AQ t d y i).v r)=AJ (λi=>(t i).v r) d (y.v r):=by
 funext i
 unfold AQ AJ;cases e:Nat.beq i d with
 |true=>rw[if_pos (bqE e)];rfl
 |false=>rw[if_neg (λh=>by rw[h,Nat.beq_refl]at e;cases e)];rfl
def St.add(s:St)(d:Nat)(p:Sl×List Ac):St:=match p.2 with
 |[]=>⟨AQ s.t d p.1,s.r⟩
 |q::new=>⟨AQ (λi=>(s.t i).chk s.r.length) d p.1,s.r++q::new⟩
def St.put(h:Cz)(s:St)(d:Option Nat)(y:Sl):Option St:=match d with
 |none=>some s
 |some d=>bif Nat.blt d h.n then(bif h.fz.contains d then(match y.frz with
   |some e=>some ⟨AQ s.t d e,s.r⟩
   |none=>none)else some (s.add d (y.prom s.r.length)))else none
theorem XV:(∀i,As (AJ s.den.t d (Go.Ve.prom (y.v s.r) s.r.length).1 i) ((s.add d (y.prom s.r.length)).den.t i))/\s.den.σ++(Go.Ve.prom (y.v s.r) s.r.length).2=(s.add d (y.prom s.r.length)).den.σ:=by
 obtain⟨e,B⟩:=Sl.prom_v (r:=s.r) y;rw[B];unfold St.add;cases A:(y.prom s.r.length).2 with
 |nil=>
  rw[A]at e;rw[List.append_nil]at e;refine⟨λi=>?_,by simp[St.den]⟩
  show As _ ((AQ s.t d (y.prom s.r.length).1 i).v s.r);rw[congrFun (B3 (r:=s.r) (t:=s.t) (d:=d) (y:=(y.prom s.r.length).1)) i];unfold AJ;split
  .exact e
  .exact As.refl _
 |cons q new=>
  rw[A]at e;refine⟨λi=>?_,by simp[St.den]⟩
  show As _ ((AQ (λi=>(s.t i).chk s.r.length) d (y.prom s.r.length).1 i).v (s.r++q::new))
  rw[congrFun (B3 (r:=s.r++q::new) (t:=λi=>(s.t i).chk s.r.length) (d:=d) (y:=(y.prom s.r.length).1)) i]
  unfold AJ;split
  .exact e
  .exact Sl.chk_v (λid h=>by simp[gDE,gAL h]) _
theorem Abl{d:Option Nat}(e:s.put h d y=some s'):(∀i,As ((s.den.res h d (y.v s.r)).t i) (s'.den.t i))/\(s.den.res h d (y.v s.r)).σ=s'.den.σ:=by
 unfold St.put at e;cases d with
 |none=>cases e;exact⟨λi=>As.refl _,rfl⟩
 |some d=>
  simp only at e;obtain⟨A,e⟩:=A7 e;have A:d<h.n:=blE A;unfold Ms.res;simp only[A,if_true];cases E:h.fz.contains d with
  |true=>
   rw[E]at e;simp only[cond_true]at e;split at e
   .rename_i B J
    cases e;refine⟨λi=>?_,rfl⟩
    show As (AJ s.den.t d (Go.Ve.frz (y.v s.r)) i) ((AQ s.t d B i).v s.r);rw[congrFun (B3 (r:=s.r) (t:=s.t) (d:=d) (y:=B)) i,Sl.frz_v J];exact As.refl _
   .cases e
  |false=>
   rw[E]at e;simp only[cond_false,Option.some.injEq]at e;subst e;have L:s.den.σ.length=s.r.length:=by simp[St.den]
   simp only[Bool.false_eq_true,if_false,L];exact XV
def AU.put{C:Ctx}{h:Cz}{s s':St}{d:Option Nat}{y:Sl}{a:Act}{w:World}(B:s.put h d y=some s')(A:AU C h.n (s.den.res h d (y.v s.r)) a w):AU C h.n s'.den a w:=by
 obtain⟨E,e⟩:=Abl B;exact A.sub (by rw[e]) (λi _=>by rw[e];exact Sub.refl _) E
theorem Uq{P:Program}{C:Ctx}{o:Oper}{a:Act}{w:World}{next:Act->World->Prop}{Q:Exit->Act->World->Prop}(e:QS P s o.op y)(M:s.put h o.dst y=some s')
  (L:AU C h.n s.den a w) (hn:∀A w',AU C h.n s'.den A w'->next A w'):o.wp P a w next Q:=by
 refine HD (P:=P) (h:=h) (K:=λS=>S=s.den.res h o.dst (y.v s.r)) (S:=s.den) ?_ L λS' A w' O B=>hn A w' (AU.put M (O▸B))
 have J:qop P s.den.σ s.den.ev o.op (ResK h o.dst s.den λS=>S=s.den.res h o.dst (y.v s.r)):=by
  refine NY e ?_;intro r0 E;exact⟨y.v s.r,E,rfl⟩
 unfold vop;split
 .rename_i t x v ho
  rw[ho]at e;exact e.elim
 .rename_i t m k x ho
  rw[ho]at e;exact e.elim
 .exact J
end Go.Ve


namespace Go.Ve
variable{y:Cl}{r:List Ac}{σ:List V}{N:Nat}{t:Nat->V}
def PR.subst{C:Ctx}{ρ:Nat->Value}{F:Nat->Nat->Prop}{A:Nat->V}{a:Act}{w:World}{D:Nat->Prop}{T:Nat->Nat->Prop}(h:PR C N σ ρ F t a w D T)(B:∀x,Sub (t x) (A x)):PR C N σ ρ F A a w D T:=
 ⟨h.df,h.sz,λx e=>by have:=B x;rw[h.dd x e]at this;trivial,h.wr,λx e=>Rel.sub (B x) (h.tm x e),h.tD,h.tF,h.tT,h.tn,h.fr,h.Fn,h.D1,h.D2,h.rt,h.ml,h.tx⟩
theorem LQ.sub{P:Program}{Al:Nat->Nat->Prop}{o:Oper}{ys e:List (Nat×Tk)}{r r':V}(h:LQ P N σ Al o t ys r)(Y:∀x,Bp ys x≠none->Bp e x≠none)(O:∀x v,Sub (Im (Bp ys x) v) (Im (Bp e x) v))(hr:Sub r r'):LQ P N σ Al o t e r':=by
 intro C ρ F a w D T A L J W next Q hn
 refine h C ρ F a w D T A (λx U=>L x (U.imp id (Y x))) J W next Q λZ w' D' T' E M B=>hn Z w' D' T' (E.subst λx=>?_) M B
 have hk:Sub (AV ys A x) (AV e A x):=O x _;cases hd:o.dst with
 |none=>trivial
 |some d=>
  show Sub (if x=d then r else AV ys A x) (if x=d then r' else AV e A x)
  grind
def Cl.solid:Cl->Bool
 |.dead=>false
 |.c .unit _ _=>false
 |.c (.pair _ _) _ _=>false
 |.c (.clo _ _) _ _=>false
 |.c (.osl _) _ _=>false
 |_=>true
theorem Wn(h:y.solid=true):X6 (y.v r)=true/\I6 (y.v r)=true/\Go.Ve.cellsV (y.v r)=[y.v r]:=by
 cases y with
 |c t d x=>cases t<;>first|trivial|rfl
 |dead=>cases h
 |_=>trivial
def Sl.cellsO:Sl->Option (List Cl)
 |.one y=>bif y.solid then some [y]else none
 |.agg l=>bif l.all Cl.solid then some l else none
 |_=>none
theorem Ug{y:Sl}{l:List Cl}(h:y.cellsO=some l):I6 (y.v r)=true/\Go.Ve.cellsV (y.v r)=l.map (Cl.v r)/\∀c∈l,X6 (c.v r)=true:=by
 unfold Sl.cellsO at h;split at h
 .rename_i c
  cases e:c.solid with
  |false=>grind
  |true=>
   rw[e]at h;cases h;obtain⟨L,J,E⟩:=Wn e;exact⟨J,E,λc' A=>by grind⟩
 .rename_i B
  cases e:B.all Cl.solid with
  |false=>grind
  |true=>
   rw[e]at h;cases h;exact⟨rfl,OZ,λc A=>(Wn (aET.1 e c A)).1⟩
 grind
def Cl.isMp:Cl->Bool
 |.c (.mp _ _) _ _=>true
 |_=>false
def Cl.keep(y:Cl):Bool:=y.imm||(y.own&& !y.isMp)
theorem Xh(h:y.keep=true):(Cc (y.v r)=true\/∃s sz n f,y.v r=.nd s true sz n f)/\y.v r=y.v0:=by
 unfold Cl.keep at h;cases e:y.imm with
 |true=>exact⟨.inl (PW e).1,(PW e).2⟩
 |false=>
  rw[e,Bool.false_or,bAE]at h;cases y with
  |c t d x=>cases t<;>cases d<;>first|(cases h.2;done)|(cases h.1;done)|exact⟨.inr ⟨_,_,_,_,rfl⟩,rfl⟩|(cases x<;>first|(cases h.1;done)|exact⟨.inr ⟨_,_,_,_,rfl⟩,rfl⟩)
  |_=>cases h.1
def NA(place:Nat->Option (Nat×Nat))(cells:List Cl):List (Nat×Option Sl)->Option (List Cl)
 |[]=>some cells
 |(i,y)::rest=>match place i,y with
  |some (off,size),some y=>match y.cellsO with
   |some l=>bif Nat.beq l.length size&&Nat.ble (off+size) cells.length then NA place (Acr cells off l) rest else none
   |none=>none
  |_,_=>none
theorem Mf{s:St}{place:Nat->Option (Nat×Nat)}{ev:Operand->V}:∀(ps:List (Nat×Operand)) (cells l:List Cl),(∀p∈ps,s.den.ev p.2≠.dead->ev p.2=s.den.ev p.2)->NA place cells (ps.map λp=>(p.1,s.ev p.2))=some l->
  (∀p∈ps,I6 (ev p.2)=true)/\Cd place (cells.map (Cl.v s.r)) (ps.map λp=>(p.1,ev p.2))=some (l.map (Cl.v s.r))
 |[],cells,l,_,h=>by cases h;exact⟨λp B=>(by cases B),rfl⟩
 |(i,x)::ps,cells,l,hev,h=>by
  rw[List.map_cons]at h;unfold NA at h;split at h
  case h_2=>cases h
  rename_i off size y E A;split at h
  case h_2=>cases h
  rename_i m M;obtain⟨J,h⟩:=A7 h;simp only[bAE]at J;have U:=bqE J.1;have O:=blE J.2;obtain⟨g1,g2,_⟩:=Ug (r:=s.r) M;obtain⟨k1,k2⟩:=Mf ps _ _ (λp B=>hev p (mCM _ B)) h
  have A:s.ev x=some y:=A;have L:ev x=y.v s.r:=by
   rw[<-Bh A];refine hev (i,x) (List.mem_cons_self ..) ?_;rw[Bh A];intro e;rw[e]at g1;cases g1
  refine⟨λp B=>?_,?_⟩
  .grind
  .rw[List.map_cons]
   unfold Cd;simp only[E,L,g2];rw[if_neg (by simp only[List.length_map];omega),<-Wr]
   exact k2
def Lp(s:St):Operand->Option Nat
 |.tmp y=>bif(s.t y).own then some y else none
 |_=>none
theorem QI{s:St}(h:∀y,AS (t y)=(s.t y).own)(xs:List Operand):xs.map (IH t)=xs.map (Lp s):=by
 refine List.map_congr_left λx _=>?_
 cases x with
 |tmp y=>
  show(if AS (t y)=true then some y else none)=bif(s.t y).own then some y else none
  grind
 |_=>rfl
def jsO:List (Option Nat)->List Nat
 |[]=>[]
 |none::l=>jsO l
 |some a::l=>a::jsO l
theorem fitO_v(d:Nat)(r:List Ac)(c:Cl):(fit d c).v r=c.v r/\(fit d c).v0=c.v0:=by
 cases c with
 |c t A x=>
  have e:fit d (.c t A x)=bif Nat.beq (O8 A t.dep) (O8 d t.dep)then .c t d x else .c t A x:=rfl;rw[e];cases h:Nat.beq (O8 A t.dep) (O8 d t.dep)with
  |false=>simp
  |true=>
   have:=bqE h;rw[IK,IK]at this;exact⟨(LS this).symm,(LS this).symm⟩
 |_=>trivial
theorem CP{xs:List Operand}{l:List (Option Nat)}(h:xs.map (IH t)=l):Bj t xs=jsO l:=by
 rw[BW,h];clear h
 induction l with
 |nil=>rfl
 |cons a l e=>cases a with
  |none=>trivial
  |some a=>show a::l.filterMap id=a::jsO l;grind
def C2(js:List Nat)(t:Nat->Sl):Nat->Sl:=λi=>bif js.contains i then .one .dead else t i
def nrm1:Cl->Cl->Cl
 |.c (.sl t) _ _,.nil=>.c (.sl t) (t.dep+1) []
 |_,y=>y
def U3:List Cl->List Cl->List Cl
 |a::lp,y::l=>nrm1 a y::U3 lp l
 |_,l=>l
def nrm1_v(a y:Cl):Sub y.v0 (nrm1 a y).v0:=by
 unfold nrm1;split
 .exact .inr ⟨rfl,_,_,_,rfl⟩
 .exact Sub.refl _
def AbA(r:List Ac)(a y:Cl):Sub (y.v r) ((nrm1 a y).v r):=by
 unfold nrm1;split
 .exact .inr ⟨rfl,_,_,_,rfl⟩
 .exact Sub.refl _
def W1(r:List Ac):∀(lp l:List Cl) (k:Nat),Sub ((l.map (Cl.v r)).getD k .dead) (((U3 lp l).map (Cl.v r)).getD k .dead)
 |[],[],_=>Sub.refl _
 |[],_::_,_=>Sub.refl _
 |_::_,[],_=>Sub.refl _
 |a::lp,y::l,0=>AbA r a y
 |a::lp,y::l,k+1=>W1 r lp l k
def MD:∀(lp l:List Cl),(U3 lp l).length=l.length
 |[],[]=>rfl
 |[],_::_=>rfl
 |_::_,[]=>rfl
 |a::lp,y::l=>by show(U3 lp l).length+1=_;rw[MD lp l];rfl
def Z2:∀(lp l:List Cl) (k:Nat),Sub ((l.map Cl.v0).getD k .dead) (((U3 lp l).map Cl.v0).getD k .dead)
 |[],[],_=>Sub.refl _
 |[],_::_,_=>Sub.refl _
 |_::_,[],_=>Sub.refl _
 |a::lp,y::l,0=>nrm1_v a y
 |a::lp,y::l,k+1=>Z2 lp l k
end Go.Ve


namespace Go.Ve
variable{N d id m n sz:Nat}{f g:Nat->Nat->V}{D fp:Nat->Prop}{y:Operand}{s:St}{t:Ty}{w:World}
def Vx(s:St)(t:Ty)(id:Nat):Option Sl->Option (Nat×List t.T×List Nat)
 |some (.one (.c (.sl e) 0 ys))=>if h:e=t then some (0,h▸ys,[])else none
 |some (.one (.rf j q))=>match Ae s.r j q with
  |.arr ro e d ys=>if h:e=t then(bif Nat.beq j id then none else bif Nat.beq t.dep 0 then some (d,h▸ys,[])else match q with
   |[]=>bif ro then none else some (d,h▸ys,[j])
   |_::_=>none)else none
  |_=>none
 |some (.one (.rs j q off len))=>match Ae s.r j q with
  |.arr _ e d ys=>if h:e=t then(bif Nat.beq j id|| !Nat.beq t.dep 0 then none else some (d,Pg len (P4 off (h▸ys)),[]))else none
  |_=>none
 |_=>none
def Vy(s:St)(t:Ty)(id:Nat)(y:Option Sl):Option (Nat×List t.T×List Nat):=bif t.noO then Vx s t id y else none
theorem XO{y:Option Sl}{z:Nat×List t.T×List Nat}(h:Vy s t id y=some z):Vx s t id y=some z/\t.noO=true:=by
 unfold Vy at h
 grind
def Oy(b:Nat):Nat:=140737488355328/b
def DC:∀(t:Ty) (d:Nat) (x:t.T) (k:Nat),t.noO=true->k<t.w->X6 ((tyV t d x).getD k .dead)=true
 |.int _,_,_,0,_,_=>rfl
 |.int _,_,_,_+1,_,h=>by trivial
 |.bool,_,_,0,_,_=>rfl
 |.bool,_,_,_+1,_,h=>by trivial
 |.str,_,_,0,_,_=>rfl
 |.str,_,_,_+1,_,h=>by trivial
 |.sl _,_,_,0,_,_=>rfl
 |.sl _,_,_,_+1,_,h=>by trivial
 |.ptr _,_,_,0,_,_=>rfl
 |.ptr _,_,_,_+1,_,h=>by trivial
 |.osl _,_,_,_,h,_=>by cases h
 |.mp _ _,_,_,_,h,_=>by cases h
 |.unit,_,_,_,_,h=>by trivial
 |.clo _ _,_,_,0,_,_=>rfl
 |.clo _ _,_,_,_+1,_,h=>by trivial
 |.pair a b,d,x,k,ho,h=>by
  simp only[Ty.noO,bAE]at ho;simp only[tyV];rw[Ty.w]at h;by_cases A:k<a.w
  .have e:(tyV a d x.1++tyV b d x.2).getD k .dead=(tyV a d x.1).getD k .dead:=AE (by rw[AB];exact A)
   rw[e];exact DC a d x.1 k ho.1 A
  .have e:(tyV a d x.1++tyV b d x.2).getD k .dead=(tyV b d x.2).getD (k-a.w) .dead:=by
    simp[gDE];rw[gAR (by rw[AB];omega),AB]
   rw[e];exact DC b d x.2 (k-a.w) ho.2 (by omega)
def Qd:∀(t:Ty) (d:Nat) (x:t.T),t.dep=0->∀v∈tyV t d x,∃c,v=.c c
 |.int _,_,_,_,v,h=>by simp[tyV]at h;grind
 |.bool,_,_,_,v,h=>by simp[tyV]at h;grind
 |.str,_,_,_,v,h=>by simp[tyV]at h;grind
 |.sl _,_,_,h,_,_=>by trivial
 |.ptr _,_,_,h,_,_=>by trivial
 |.clo _ _,_,_,h,_,_=>by trivial
 |.osl _,_,_,h,_,_=>by trivial
 |.mp _ _,_,_,h,_,_=>by trivial
 |.unit,_,_,_,v,h=>by trivial
 |.pair a b,d,x,h,v,hv=>by
  simp[Ty.dep]at h;simp[tyV,List.mem_append]at hv;rcases hv with hv|hv
  .exact Qd a d x.1 (by omega) v hv
  .exact Qd b d x.2 (by omega) v hv
def Ih{v:V}{x:Value}(h:Rel D w noR v x fp)(e:X6 v=true):x.oneCell'=true:=(Rel.cells1 h (λ_ _ h=>h.elim) e).2
structure YOK(s:St)(t:Ty)(id:Nat)(y:Operand)(a:Act)(w:World)(D:Nat->Prop)(F:Nat->Nat->Prop)(d:Nat)(ys:List t.T)(js:List Nat):Prop where
 rd:∃Fy,VB D w t.w ys.length (λi k=>(tyV t d (ys.getD i t.dflt)).getD k .dead) (a.eval y) Fy/\(∀i k c,i<ys.length->k<t.w->Fy i k c->∃j∈js,F j c)/\
  ∀i k i' k' c,i<ys.length->k<t.w->i'<ys.length->k'<t.w->(i≠i'\/k≠k')->Fy i k c->¬Fy i' k' c
 js:∀j∈js,j<s.r.length/\j≠id
theorem IW{t:Ty}{id:Nat}{y:Operand}{a:Act}{C:Ctx}{ρ:Nat->Value}{F:Nat->Nat->Prop}(U:CR C s.den.σ ((List.range N).map s.den.t) a.tmps w D ρ F)(hdd:∀x,N<=x->s.den.t x=.dead)
  {d:Nat}{ys:List t.T}{js:List Nat} (h:Vy s t id (s.ev y)=some (d,ys,js)):YOK s t id y a w D F d ys js:=by
 unfold Vy at h;obtain⟨hno,h⟩:=A7 h;unfold Vx at h;split at h
 case h_4=>cases h
 .rename_i B A hy
  split at h
  case isFalse=>cases h
  rename_i ht;subst ht;cases h;have O:=Bu U hdd y;rw[Bh hy]at O;show YOK s B id y a w D F 0 A [];refine⟨⟨λ_ _=>noF,?_,λ_ _ _ _ _ h=>h.elim,λ_ _ _ _ _ _ _ _ _ _ h=>h.elim⟩,λj hj=>by cases hj⟩
  have O:Rel D w _ (arr false B.w (tyV B 0) B.dflt A) (a.eval y) noF:=O;rcases O with⟨h0,_,hn,_⟩|⟨b,o,cap,Fx,hcv,_,_,_,hc,himm,_⟩
  .obtain⟨ad,had⟩:=Dk hn
   refine⟨ad,0,by rw[had,h0],λh=>by omega⟩
  .refine⟨_,cap,hcv,λ_=>⟨b,o,rfl,λi k L M=>?_⟩⟩
   obtain⟨x,hx,E⟩:=hc i k L M;have e:Fx i k=noF:=Bb λc hc=>(himm rfl).2.1 i k c L M hc
   rw[e]at E;exact⟨x,hx,Ih E (DC B 0 _ k hno M),E⟩
 .rename_i j q hy
  have O:=Bu U hdd y;rw[Bh hy]at O;split at h
  case h_2=>cases h
  rename_i ro B d' A hn;split at h
  case isFalse=>cases h
  rename_i ht;subst ht;cases hb:Nat.beq j id with
  |true=>rw[hb]at h;cases h
  |false=>
   rw[hb]at h;simp only[cond_false]at h;have O:Rel D w (Am s.den.σ ρ w) (.rs j q 0 (Ae s.r j q).len) (a.eval y) noF:=O;rw[hn]at O;have O:Rel D w (Am s.den.σ ρ w) (.rs j q 0 A.length) (a.eval y) noF:=O;obtain⟨⟨hid,sz,n,f,cn,hat,hle,hcv⟩,_⟩:=O;have J:=At.sub hat;have hne:Ae s.r j q≠.dead:=by rw[hn];intro h;cases h
   have Z:sub q (s.den.σ.getD j .dead)=arr true B.w (tyV B d') B.dflt A:=(A5 hne).trans (by rw[hn];rfl)
   rw[Z]at J;have J:V.nd true true sz n f=.nd true true B.w A.length (λi k=>(tyV B d' (A.getD i B.dflt)).getD k .dead):=J
   cases J;obtain⟨fp1,hr1,hfp1,_⟩:=Dg (w':=w) q _ _ _ _ _ (U.wr.rel j hid) (λb hb h=>U.wr.dD j b h hb) hat
   have hjr:j<s.r.length:=by simpa [St.den]using hid
   have rd:∀Fy,(∀(b o cap:Nat) (Fx:Nat->Nat->Nat->Prop),cn=AD true b o A.length cap->(∀i k,i<A.length->k<B.w->∃x,w.cell? ⟨b,o+i*B.w+k,none⟩=some x/\Rel D w noR ((tyV B d' (A.getD i B.dflt)).getD k .dead) x (Fx i k))->(∀i k c,i<A.length->k<B.w->Fx i k c->fp1 c)->
     (∀i k,i<A.length->k<B.w->Fx i k=Fy i k))->VB D w B.w A.length (λi k=>(tyV B d' (A.getD i B.dflt)).getD k .dead) (a.eval y) Fy:=by
    intro Fy hFy;rcases hr1 with⟨h0,_,hn0,_⟩|⟨b,o,cap,Fx,hcn,_,_,_,hc,_,ho⟩
    .rcases hcv with⟨b,o,cap,h3,Y⟩|⟨_,ad,Y,_⟩
     .rw[h3]at hn0;exact absurd hn0 BQ
     .exact⟨ad.map λp=>⟨p.1,p.2,none⟩,0,by rw[Y,h0],λh=>by omega⟩
    .rcases hcv with⟨b',o',W,h3,Y⟩|⟨h0,ad,Y,_⟩
     .obtain⟨rfl,rfl,_⟩:=Az (h3.symm.trans hcn)
      refine⟨_,W-0,by simpa using Y,λ_=>⟨b',o',by simp,λi k L M=>?_⟩⟩
      obtain⟨x,hx,E⟩:=hc i k L M;have e:=hFy b' o' cap Fx hcn hc (λi k c L M h=>((ho rfl).2.2.2 c).2 (.inr ⟨i,k,L,M,h⟩)) i k L M
      exact⟨x,hx,Ih E (DC B d' _ k hno M),e▸E⟩
     .exact⟨ad.map λp=>⟨p.1,p.2,none⟩,0,by rw[Y,h0],λh=>by omega⟩
   cases hd:Nat.beq B.dep 0 with
   |true=>
    rw[hd]at h;cases h;have hd:=bqE hd;show YOK s B id y a w D F d A [];refine⟨⟨λ_ _=>noF,rd _ λb o cap Fx _ hc _ i k L M=>?_,λ_ _ _ _ _ h=>h.elim,λ_ _ _ _ _ _ _ _ _ _ h=>h.elim⟩,λj hj=>by cases hj⟩
    obtain⟨x,_,E⟩:=hc i k L M;obtain⟨cc,hcc⟩:=Qd B d (A.getD i B.dflt) hd _ (Jx (k:=k) (by rw[AB];exact M))
    rw[hcc]at E;exact Bb E.2.2
   |false=>
    rw[hd]at h;simp only[cond_false]at h;split at h
    case h_2=>cases h
    cases ro with
    |true=>cases h
    |false=>
     cases h;show YOK s B id y a w D F d A [j];obtain⟨h1,h2⟩:=hat;subst h2;have hrj:=U.wr.rel j hid;rw[<-h1]at hrj;rcases hrj with⟨h0,_,hn0,_⟩|⟨b,o,cap,Fx,hcn,_,_,_,hc,_,ho⟩
     .refine⟨⟨λ_ _=>noF,rd _ λ_ _ _ _ _ _ _ i k L=>by omega,λ_ _ _ _ _ h=>h.elim,λ_ _ _ _ _ _ _ _ _ _ h=>h.elim⟩,λi L=>?_⟩
      simp at L;subst L;exact⟨hjr,λe=>by rw[e,Nat.beq_refl]at hb;cases hb⟩
     .refine⟨⟨Fx,?_,λi k c L M hF=>⟨j,by simp,((ho rfl).2.2.2 c).2 (.inr ⟨i,k,L,M,hF⟩)⟩,λi k i' k' c h1 h2 h3 Y hne hF=>(ho rfl).2.2.1 i k i' k' c h1 h2 h3 Y hne hF⟩,λi L=>?_⟩
      .rcases hcv with⟨b',o',W,h3,Y⟩|⟨h0,ad,Y,_⟩
       .obtain⟨rfl,rfl,_⟩:=Az (h3.symm.trans hcn)
        refine⟨_,W-0,by simpa using Y,λ_=>⟨b',o',by simp,λi k L M=>?_⟩⟩
        obtain⟨x,hx,E⟩:=hc i k L M;exact⟨x,hx,Ih E (DC B d _ k hno M),E⟩
       .exact⟨ad.map λp=>⟨p.1,p.2,none⟩,0,by rw[Y,h0],λh=>by omega⟩
      .simp at L;subst L
       exact⟨hjr,λe=>by rw[e,Nat.beq_refl]at hb;cases hb⟩
 .rename_i j q off len hy
  have O:=Bu U hdd y;rw[Bh hy]at O;split at h
  case h_2=>cases h
  rename_i ro B d' A hn;split at h
  case isFalse=>cases h
  rename_i ht;subst ht;cases hb:(Nat.beq j id|| !Nat.beq B.dep 0)with
  |true=>rw[hb]at h;cases h
  |false=>
   rw[hb]at h;cases h;show YOK s B id y a w D F d (Pg len (P4 off A)) [];simp only[Bool.or_eq_false_iff,Bool.not_eq_false']at hb;have hd:=bqE hb.2;have O:Rel D w (Am s.den.σ ρ w) (.rs j q off len) (a.eval y) noF:=O;obtain⟨⟨hid,sz,n,f,cn,hat,hle,hcv⟩,_⟩:=O;have J:=At.sub hat;have hne:Ae s.r j q≠.dead:=by rw[hn];intro h;cases h
   have Z:sub q (s.den.σ.getD j .dead)=arr true B.w (tyV B d) B.dflt A:=(A5 hne).trans (by rw[hn];rfl)
   rw[Z]at J;have J:V.nd true true sz n f=.nd true true B.w A.length (λi k=>(tyV B d (A.getD i B.dflt)).getD k .dead):=J
   cases J;obtain⟨fp1,hr1,hfp1,_⟩:=Dg (w':=w) q _ _ _ _ _ (U.wr.rel j hid) (λb hb h=>U.wr.dD j b h hb) hat
   have hl:(Pg len (P4 off A)).length=len:=by
    show(List.take len (List.drop off A)).length=len;simp;omega
   have hget:∀i,i<len->(Pg len (P4 off A)).getD i B.dflt=A.getD (off+i) B.dflt:=by
    intro i L;show(List.take len (List.drop off A)).getD i B.dflt=_;simp[List.getElem?_take,L]
   refine⟨⟨λ_ _=>noF,?_,λ_ _ _ _ _ h=>h.elim,λ_ _ _ _ _ _ _ _ _ _ h=>h.elim⟩,λj hj=>by cases hj⟩
   rw[hl];rcases hcv with⟨b',o',W,h3,Y⟩|⟨h0,ad,Y,_⟩
   .refine⟨_,W-off,Y,λhpos=>⟨b',o'+off*B.w,rfl,λi k L M=>?_⟩⟩
    rcases hr1 with⟨h0,_,hn0,_⟩|⟨b,o,cap,Fx,hcn,_,_,_,hc,_,ho⟩
    .omega
    .obtain⟨rfl,rfl,_⟩:=Az (h3.symm.trans hcn)
     obtain⟨x,hx,E⟩:=hc (off+i) k (by omega) M
     obtain⟨cc,hcc⟩:=Qd B d (A.getD (off+i) B.dflt) hd _ (Jx (k:=k) (by rw[AB];exact M))
     have E:Rel D w noR ((tyV B d (A.getD (off+i) B.dflt)).getD k .dead) x (Fx (off+i) k):=E
     have e:Fx (off+i) k=noF:=by
      rw[hcc]at E;exact Bb E.2.2
     rw[e]at E;refine⟨x,?_,Ih E (DC B d _ k hno M),?_⟩
     .rw[Nat.add_mul,<-Nat.add_assoc]at hx;exact hx
     .show Rel D w noR ((tyV B d ((Pg len (P4 off A)).getD i B.dflt)).getD k .dead) x noF
      rw[hget i L];exact E
   .exact⟨ad.map λp=>⟨p.1,p.2,none⟩,0,by rw[Y,h0],λh=>by omega⟩
theorem M7{xs ys:List t.T}(hn:n=xs.length)(e:m=ys.length)(J:∀i k,i<n->f i k=(tyV t d (xs.getD i t.dflt)).getD k .dead)(E:∀i k,i<m->g i k=(tyV t d (ys.getD i t.dflt)).getD k .dead):
  Sub (.nd true true t.w (n+m) (Vz n f g)) (cV (.sl t) (d+1) (xs++ys)):=by
 show Sub _ (V.nd true true t.w (xs++ys).length λi k=>(tyV t d ((xs++ys).getD i t.dflt)).getD k .dead)
 rw[List.length_append,<-hn,<-e];refine⟨_,rfl,λi k B A=>Sub.of_eq ?_⟩
 unfold Vz
 grind
section
variable {C:Ctx}{N:Nat}{σ:List V}{ρ:Nat->Value}{F:Nat->Nat->Prop}{t:Nat->V}{a:Act}{w:World}{D:Nat->Prop}{T:Nat->Nat->Prop}
theorem PR.own(h:PR C N σ ρ F t a w D T){xs:List Operand}{r:V}{v':Value}{fp:Nat->Prop}{d:Nat}{w':World}(hos:w'.os=w.os)(htp:w'.tape=w.tape)(hout:w'.output=w.output)(hdr:w.drawn<=w'.drawn)(Z:w.heap.size<=w'.heap.size)
  (M:∀c,c<w.heap.size->(∀j,¬opF t T xs j c)->w'.heap[c]? =w.heap[c]?) (hr:Rel D w' noR r v' fp) (hf:∀b,fp b->(∃j,opF t T xs j b)\/w.heap.size<=b) (hdn:d<N):
  ∃T',PR C N σ ρ F (AJ (AV ((Bj t xs).map λy=>(y,.all)) t) d r) (a.put (some d) v') w' D T'/\∀x b,T' x b->some d=some x\/∃b',T x b':=by
 have W:∀i b,F i b->b<w.heap.size:=h.wr.lt;have U:∀x b,T x b->b<w.heap.size:=by
  intro x b A;by_cases E:x<N
  .exact Rel.lt _ _ _ (h.tm x E) b A
  .exact absurd A (h.tx x b (Nat.le_of_not_lt E))
 have hD:∀b,D b->w'.heap[b]? =w.heap[b]?:=λb A=>M b (h.wr.Dlt b A) λj ho=>by obtain⟨y,_,_,B⟩:=ho;exact h.tD y b B A
 have hFs:∀i b,F i b->w'.heap[b]? =w.heap[b]?:=λi b A=>M b (W i b A) λj ho=>by obtain⟨y,_,_,B⟩:=ho;exact h.tF i y b A B
 have hTs:∀x b,x∉Bj t xs->T x b->w'.heap[b]? =w.heap[b]?:=λx b E A=>M b (U x b A) λj ho=>by
  obtain⟨y,_,_,J,B⟩:=D3 ho;exact h.tT x y b (λe=>E (e▸J)) A B
 have wr':Bs σ w' D ρ F:=⟨λi hi=>Rel.mono (λ_ h=>h) (λ_ _ h=>h) _ _ _ (λb A=>A.elim (hD b) (hFs i b)) (h.wr.rel i hi),h.wr.disj,h.wr.dD,λb A=>Nat.lt_of_lt_of_le (h.wr.Dlt b A) Z,h.wr.out⟩
 have L:∀b,fp b->(∃y,y∈Bj t xs/\T y b)\/w.heap.size<=b:=λb A=>(hf b A).imp (fun⟨j,ho⟩=>by obtain⟨y,_,_,J,B⟩:=D3 ho;exact⟨y,J,B⟩) id
 refine⟨λx b=>if x=d then fp b else x∉Bj t xs/\T x b,⟨h.df,by rw[BL];simpa using h.sz,λx E=>?_,wr',λx E=>?_,λx b A=>?_,λi x b A B=>?_,λx y b Y h1 O=>?_,λx b A=>?_,⟨hos.trans h.fr.os,htp.trans h.fr.tape,hout.trans h.fr.output,Nat.le_trans h.fr.size Z,λb A hW=>?_,Nat.le_trans h.fr.drawn hdr⟩,h.Fn,h.D1,h.D2,h.rt,h.ml,λx b E A=>?_⟩,λx b A=>?_⟩
 .have:¬x=d:=by omega
  simp only[AJ,this,if_false];rw[Dn];split
  .rfl
  .exact h.dd x E
 .have hlt:x<a.tmps.size:=by rw[h.sz];exact E
  rw[BL];by_cases he:x=d
  .subst he
   simp only[AJ,if_true];have:Rel D w' (Am σ ρ w') r v' (λb=>if x=x then fp b else x∉Bj t xs/\T x b):=Rel.fp_congr (λb=>by rw[if_pos rfl]) (Rel.noR_mono hr)
   simpa [hlt]using this
  .simp only[AJ,he,if_false]
   rw[Array.getD_eq_getD_getElem?,Array.getElem?_setIfInBounds_ne (Ne.symm he),<-Array.getD_eq_getD_getElem?,Dn];by_cases J:x∈Bj t xs
   .rw[if_pos J]
    exact λb A=>A.1 J
   .rw[if_neg J]
    refine Rel.fp_congr (fp:=T x) (λb=>⟨λh=>⟨J,h⟩,λh=>h.2⟩) ?_
    exact Rel.mono (λ_ h=>h) (λv cv hv=>Am.same h.wr hFs v cv hv) _ _ _ (λb A=>A.elim (hD b) (hTs x b J)) (h.tm x E)
 .split at A
  .intro hDb
   rcases L b A with⟨y,_,B⟩|O
   .exact h.tD y b B hDb
   .have:=h.wr.Dlt b hDb;omega
  .exact h.tD x b A.2
 .split at B
  .rcases L b B with⟨y,_,B⟩|O
   .exact h.tF i y b A B
   .have:=W i b A;omega
  .exact h.tF i x b A B.2
 .have one:∀x,fp b->x∉Bj t xs->T x b->False:=by
   intro x h3 E h4;rcases L b h3 with⟨z,J,h5⟩|h5
   .exact h.tT x z b (λe=>E (e▸J)) h4 h5
   .have:=U x b h4;omega
  split at h1<;>split at O
  .rename_i e1 e2;exact absurd (e1.trans e2.symm) Y
  .exact one y h1 O.1 O.2
  .exact one x O h1.1 h1.2
  .exact h.tT x y b Y h1.2 O.2
 .split at A
  .rcases L b A with⟨y,_,B⟩|O
   .exact h.tn y b B
   .exact .inr (Nat.le_trans h.fr.size O)
  .exact h.tn x b A.2
 .rw[M b (Nat.lt_of_lt_of_le A h.fr.size) λj ho=>by
   obtain⟨y,_,_,B⟩:=ho;rcases h.tn y b B with h|h
   .exact hW h
   .omega]
  exact h.fr.block b A hW
 .have A:(if x=d then fp b else x∉Bj t xs/\T x b):=A
  rw[if_neg (by omega)]at A
  exact h.tx x b E A.2
 .have A:(if x=d then fp b else x∉Bj t xs/\T x b):=A
  split at A
  .rename_i e;exact .inl (by rw[e])
  .exact .inr ⟨b,A.2⟩
theorem PR.cr(h:PR C N σ ρ F t a w D T){t2:Nat->V}(E:∀x,t2 x=.dead\/(t2 x=t x/\AS (t x)=false)):CR C σ ((List.range N).map t2) a.tmps w D ρ F:=by
 refine⟨h.wr,by simp[h.sz],λj A=>?_,h.fr,h.Fn,h.D1,h.D2,h.rt,h.ml⟩
 have A:j<N:=by grind
 rw[AX A];rcases E j with e|⟨e,ho⟩
 .rw[e];exact λ_ h=>h
 .rw[e]
  have B:=h.tm j A;rw[Bb (AF _ _ _ ho B)]at B;omega
end
theorem WG{R:V->Value->Prop}{cv:Value}(h:Rel D w R (.nd true true sz m g) cv fp)(U:∀i k,i<m->k<sz->X6 (g i k)=true):
  ∃Fy,VB D w sz m g cv Fy/\(∀i k c,i<m->k<sz->Fy i k c->fp c)/\∀i k i' k' c,i<m->k<sz->i'<m->k'<sz->(i≠i'\/k≠k')->Fy i k c->¬Fy i' k' c:=by
 rcases h with⟨W,_,hn,_⟩|⟨b,o,cap,F0,E,_,_,_,M,_,ho⟩
 .obtain⟨a,rfl⟩:=Dk hn
  subst W;exact⟨λ_ _=>noF,⟨a,0,rfl,λh=>by omega⟩,λi k c e=>by omega,λi k i' k' c e=>by simp⟩
 .obtain⟨_,_,hd,L⟩:=ho rfl
  refine⟨F0,⟨some ⟨b,o,none⟩,cap,E,λ_=>⟨b,o,rfl,λi k e B=>?_⟩⟩,λi k c e B O=>(L c).2 (.inr ⟨i,k,e,B,O⟩),hd⟩
  obtain⟨x,J,A⟩:=M i k e B;exact⟨x,J,Ih A (U i k e B),A⟩
theorem XZ{Al:Nat->Nat->Prop}{P:Program}{σ:List V}{o:Oper}{t:Nat->V}{ty e:TypeId}{x:Operand}{bytes n m:Nat}{zero:List Value}{f g:Nat->Nat->V}(ho:o.op=.call ⟨.builtin .append,#[x,y],#[ty,ty]⟩)(hd:o.dst=some d)(hdn:d<N)(hsl:slI P ty=some ⟨e,sz,bytes,zero⟩)(O:0<sz)
  (hx:Sub (Ms.ev ⟨t,σ⟩ x) (.nd true true sz n f)) (hap:Dc ([x,y].map (IH t))=true)
  (hy:∀(C:Ctx) (ρ:Nat->Value) (F:Nat->Nat->Prop) (a:Act) (w:World) (D:Nat->Prop) (T:Nat->Nat->Prop) (A:Nat->V),(∀z∈Hu o.op,A z=t z)->PR C N σ ρ F A a w D T->
   ∃Fy,VB D w sz m g (a.eval y) Fy/\(∀i k c,i<m->k<sz->Fy i k c->opF A T [x,y] 1 c)/\∀i k i' k' c,i<m->k<sz->i'<m->k'<sz->(i≠i'\/k≠k')->Fy i k c->¬Fy i' k' c)
  (h63:n+m<=maxLen) (hb:(n+m)*bytes<=140737488355328):
  LQ P N σ Al o t ((Bj t [x,y]).map λy=>(y,.all)) (.nd true true sz (n+m) (Vz n f g)):=by
 intro C ρ F a w D T A hag hal M next Q hn
 have E:∀z,Operand.tmp z∈ [x,y]->A z=t z:=λz hz=>hag z (.inl<|DD (by rw[ho];simp[Op.operands,Call.operands]at hz⊢;simpa using hz))
 have hevx:Ms.ev ⟨A,σ⟩ x=Ms.ev ⟨t,σ⟩ x:=by
  cases x with
  |tmp z=>exact E z (by simp)
  |const v=>rfl
  |global g=>rfl
  |func f=>rfl
 have J:[x,y].map (IH A)=[x,y].map (IH t):=Du λu hu z e=>E z (e▸hu)
 have hap':Dc ([x,y].map (IH A))=true:=by rw[J];exact hap
 have htk:Bj A [x,y]=Bj t [x,y]:=by rw[BW,BW,J]
 have B:=M.opF_rel (xs:=[x,y]) (j:=0) (x:=x) rfl;rw[hevx]at B;have U:=Rel.sub hx B;have B:Rel D w noR (.nd true true sz n f) (a.eval x) (opF A T [x,y] 0):=U;obtain⟨Fy,hrd,L,hFd⟩:=hy C ρ F a w D T A (λz hz=>hag z (.inl hz)) M
 have oD:∀j b,opF A T [x,y] j b->¬D b:=λj b hj=>by obtain⟨z,_,_,hT⟩:=hj;exact M.tD z b hT
 obtain⟨v',w',fp,W,hos,htp,Z,hdr,hsz,hbl,hr',hfp⟩:=Rel.append (P:=P) (ty:=o.type) hsl O B (λb hb h=>oD 0 b h hb) M.wr.Dlt hrd (λi k c hi hk hF=>⟨oD 1 c (L i k c hi hk hF),λh=>M.opF_dis hap' 0 1 c (by decide) h (L i k c hi hk hF)⟩) hFd h63 hb
 unfold Oper.wp execOp;simp only[ho,resolve,invoke,builtin,Sem.run_bind,Sem.run_pure,Result.andThen_ok,List.map_toArray,List.map_cons,List.map_nil,W];show next (a.put o.dst v') w'
 rw[hd]at hn⊢
 obtain⟨T',Y,hT'⟩:=M.own (xs:=[x,y]) (d:=d) hos htp Z hdr hsz (λc hc hG=>hbl c hc (hG 0)) hr' (λb hb=>by
  rcases hfp b hb with h1|⟨i,k,hi,hk,h1⟩|h1
  .exact .inl ⟨0,h1⟩
  .exact .inl ⟨1,L i k b hi hk h1⟩
  .exact .inr h1) hdn
 rw[htk]at Y;exact hn _ _ _ _ Y hT' λ_ hx=>BM hx
end Go.Ve

