/- The typed machine: new trees get their numbers; one quiet operation. -/
import Derived.Test.YteakdlfnmhlifaaTd
import Derived.Test.YteakdlfnmhlifaaVwa
import Derived.Test.YteakdlfnmhlifaaVy
open Nat(blt beq beq_refl le_trans)
open List(range map_append mem_singleton length_map map_cons take drop)
set_option linter.all false
namespace Go.Ve
variable{h:BW}{a b r r':List Aa}{d m:Nat}{y:Sl}{s s':St}
def Cl.prom(A m:Nat):Cl->Cl×List Aa
 |.c (.sl t) (d+1) xs=>(.rf m [],[.arr false t d xs])
 |.c (.ptr t) (d+1) x=>bif blt 0 t.w then(.rp m [] 0 0,[.obj false (Ar t d x)])else(.dead,[])
 |.c (.osl t) (d+1) x=>match x with
  |some xs=>(.rf m [],[.arr false t d xs])
  |none=>(.dead,[])
 |.c (.mp k v) (_+1) x=>(.rm m [],[.mp false k v x])
 |y=>(y.chk A,[])
def BZ(A:Nat):Nat->List Cl->List Cl×List Aa
 |_,[]=>([],[])
 |m,y::l=>((y.prom A m).1::(BZ A (m+(y.prom A m).2.length) l).1,(y.prom A m).2++(BZ A (m+(y.prom A m).2.length) l).2)
def Iy(A m:Nat)(p:Bool×List Cl):(Bool×List Cl)×List Aa:=
 bif p.1 then((true,(BZ A m p.2).1),(BZ A m p.2).2)else((false,[((p.2.getD 0 .dead).prom A m).1]),((p.2.getD 0 .dead).prom A m).2)
def Dw(A:Nat):Nat->List (Bool×List Cl)->List (Bool×List Cl)×List Aa
 |_,[]=>([],[])
 |m,p::l=>((Iy A m p).1::(Dw A (m+(Iy A m p).2.length) l).1,(Iy A m p).2++(Dw A (m+(Iy A m p).2.length) l).2)
def Sl.prom(m:Nat):Sl->Sl×List Aa
 |.one y=>(.one (y.prom m m).1,(y.prom m m).2)
 |.new l=>bif blt 0 l.length then(.one (.rp m [] 0 0),[.obj false l])else(.one .dead,[])
 |.agg l=>(.agg (BZ m m l).1,(BZ m m l).2)
 |.pk t l=>(.pk t (BZ m m l).1,(BZ m m l).2)
 |.tup l=>(.tup (Dw m m l).1,(Dw m m l).2)
def Has(r':List Aa)(m:Nat)(new:List Aa):Prop:=∀j,j<new.length->r'.getD (m+j) .dead=new.getD j .dead
def Has.left(h:Has r' m (a++b)):Has r' m a:=λj hj=>by
 rw[h j (by simp;omega),gDE,gAL hj,<-gDE]
def Has.right(h:Has r' m (a++b)):Has r' (m+a.length) b:=λj hj=>by
 have:=h (a.length+j) (by simp;omega)
 rw[<-Nat.add_assoc]at this;rw[this,gDE,gAR (by omega),<-gDE,Nat.add_sub_cancel_left]
theorem Vz{v:V}(h:AJ v=false)(hm:∀t n f,v≠.many t n f):Go.Ve.prom v m=(v,[]):=by
 cases v with
 |nd s own sz n f=>cases own with
  |true=>cases h
  |false=>cases s<;>rfl
 |many t n f=>exact absurd rfl (hm t n f)
 |mp own l=>cases own with
  |true=>cases h
  |false=>rfl
 |_=>rfl
def ZD{f:Nat->V}{n:Nat}(h:∀k m,Go.Ve.prom (f k) m=(f k,[])):BE (λk=>Go.Ve.prom (f k)) n m=((range n).map f,[]):=by
 induction n with
 |zero=>rfl
 |succ n A=>
  show((BE _ n m).1++[(Go.Ve.prom (f n) _).1],(BE _ n m).2++(Go.Ve.prom (f n) _).2)=_;rw[A,h,List.range_succ,map_append];rfl
def HL:∀(t:Ty) (x:t.T),∀v∈tyV t 0 x,∀m,Go.Ve.prom v m=(v,[])
 |.int _,_,v,h,m=>by simp[tyV]at h;subst h;rfl
 |.bool,_,v,h,m=>by simp[tyV]at h;subst h;rfl
 |.str,_,v,h,m=>by simp[tyV]at h;subst h;rfl
 |.sl _,_,v,h,m=>by simp only[tyV,mem_singleton]at h;subst h;rfl
 |.ptr _,_,v,h,m=>by simp only[tyV,mem_singleton]at h;subst h;rfl
 |.unit,_,v,h,m=>by simp[tyV]at h
 |.mp _ _,_,v,h,m=>by simp only[tyV,mem_singleton]at h;subst h;rfl
 |.pair a b,x,v,h,m=>by
  simp only[tyV,List.mem_append]at h;exact h.elim (λh=>HL a x.1 v h m) λh=>HL b x.2 v h m
 |.osl _,x,v,h,m=>by
  simp only[tyV,mem_singleton]at h;subst h;cases x<;>rfl
 |.clo g t,x,v,h,m=>by
  simp only[tyV,mem_singleton]at h;subst h
  have A:∀k m,Go.Ve.prom ((tyV t 0 x).getD k .dead) m=((tyV t 0 x).getD k .dead,[]):=by
   intro k m;by_cases A:k<(tyV t 0 x).length
   .rw[gDE,gEE A]
    exact HL t x _ (List.getElem_mem A) m
   .rw[gDE,List.getElem?_eq_none (by omega)];rfl
  show(V.many (.cl g) t.w λk=>(BE (λk=>Go.Ve.prom ((tyV t 0 x).getD k .dead)) t.w m).1.getD k .dead,(BE (λk=>Go.Ve.prom ((tyV t 0 x).getD k .dead)) t.w m).2)=_
  rw[ZD A]
  congr 2
  funext k
  by_cases A:k<t.w
  .simp[A]
  .have:(tyV t 0 x).length<=k:=by rw[Ax];omega
   simp only[gDE];rw[List.getElem?_eq_none (by simpa using Nat.le_of_not_lt A),List.getElem?_eq_none this]
def Ow{l:List V}:Go.Ve.prom (A3 true l) m=if 0<l.length then(.rp m [] 0 0,[A3 true l])else(.dead,[]):=rfl
theorem Cl.prom_v(W:∀id,id<r.length->r'.getD id .dead=r.getD id .dead)(y:Cl)(m:Nat)(U:Has r' m (y.prom r.length m).2):
  Ak (Go.Ve.prom (y.v r) m).1 ((y.prom r.length m).1.v r')/\(Go.Ve.prom (y.v r) m).2=(y.prom r.length m).2.map Aa.v:=by
 have plain:∀y:Cl,y.own=false->(∀g u d x,y≠.c (.clo g u) d x)->(y.prom r.length m)=(y.chk r.length,[])->Ak (Go.Ve.prom (y.v r) m).1 ((y.prom r.length m).1.v r')/\(Go.Ve.prom (y.v r) m).2=(y.prom r.length m).2.map Aa.v:=by
  intro y Y A Z
  rw[Z,Vz (by rw[Cl.own_v,Y]) (by
   cases y with
   |c t d x=>cases t<;>first|exact absurd rfl (A _ _ _ _)|(intro _ _ _ h;cases h;done)|(intro _ _ _ h;cases x<;>cases h)
   |_=>intro _ _ _ h;cases h)]
  exact⟨Cl.chk_v W y,rfl⟩
 cases y with
 |c t d x=>
  cases t with
  |clo g u=>
   have e:Go.Ve.prom (cV (.clo g u) d x) m=(cV (.clo g u) d x,[]):=HL (.clo g u) x _ (mem_singleton.2 rfl) m;show Ak (Go.Ve.prom (cV (.clo g u) d x) m).1 _/\(Go.Ve.prom (cV (.clo g u) d x) m).2=_;rw[e];exact⟨Ak.refl _,rfl⟩
  |sl t=>cases d with
   |zero=>exact plain _ rfl (by intro _ _ _ _ h;cases h) rfl
   |succ d=>
    have H:r'.getD m .dead=.arr false t d x:=U 0 Nat.one_pos;refine⟨?_,rfl⟩;show Ak (V.rs m [] 0 x.length) (V.rs m [] 0 (Ac r' m []).len);unfold Ac;rw[H];exact Ak.refl _
  |mp k v=>cases d with
   |zero=>exact plain _ rfl (by intro _ _ _ _ h;cases h) rfl
   |succ d=>exact⟨Ak.refl _,rfl⟩
  |osl t=>cases d with
   |zero=>exact plain _ rfl (by intro _ _ _ _ h;cases h) rfl
   |succ d=>
    cases x with
    |none=>exact⟨Ak.refl _,rfl⟩
    |some xs=>
     have H:r'.getD m .dead=.arr false t d xs:=U 0 Nat.one_pos;refine⟨?_,rfl⟩;show Ak (V.rs m [] 0 xs.length) (V.rs m [] 0 (Ac r' m []).len);unfold Ac;rw[H];exact Ak.refl _
  |ptr t=>cases d with
   |zero=>exact plain _ rfl (by intro _ _ _ _ h;cases h) rfl
   |succ d=>
    show Ak (Go.Ve.prom (A3 true (tyV t d x)) m).1 _/\(Go.Ve.prom (A3 true (tyV t d x)) m).2=_;rw[Ow];show Ak _ ((bif blt 0 t.w then(Cl.rp m [] 0 0,[Aa.obj false (Ar t d x)])else(.dead,[])).1.v r')/\_=((bif blt 0 t.w then(Cl.rp m [] 0 0,[Aa.obj false (Ar t d x)])else(.dead,[])).2).map Aa.v;cases B:blt 0 t.w with
    |true=>
     rw[if_pos (by rw[Ax];exact Mb B)]
     refine⟨Ak.refl _,?_⟩;show _=[A3 true ((Ar t d x).map Cl.v0)];rw[Br]
    |false=>
     rw[if_neg (λh=>by rw[Ax]at h;rw[show blt 0 t.w=true from Nat.ble_eq_true_of_le h]at B;cases B)]
     exact⟨Ak.refl _,rfl⟩
  |_=>exact plain _ rfl (by intro _ _ _ _ h;cases h) rfl
 |_=>exact plain _ rfl (by intro _ _ _ _ h;cases h) rfl
def Jl{r r':List Aa}(A:∀id,id<r.length->r'.getD id .dead=r.getD id .dead):∀(l:List Cl) (m:Nat),Has r' m (BZ r.length m l).2->
  (B3 (l.map (Cl.v r)) m).1.length=((BZ r.length m l).1.map (Cl.v r')).length/\(∀k,Ak ((B3 (l.map (Cl.v r)) m).1.getD k .dead) (((BZ r.length m l).1.map (Cl.v r')).getD k .dead))/\(B3 (l.map (Cl.v r)) m).2=(BZ r.length m l).2.map Aa.v
 |[],m,_=>⟨rfl,λk=>Ak.refl _,rfl⟩
 |y::l,m,hn=>by
  obtain⟨H,B⟩:=Cl.prom_v A y m hn.left;have e:(Go.Ve.prom (y.v r) m).2.length=(y.prom r.length m).2.length:=by rw[B,length_map]
  obtain⟨g1,g2,U⟩:=Jl A l (m+(y.prom r.length m).2.length) hn.right;rw[map_cons,Lv,e];refine⟨by simp only[BZ,map_cons,List.length_cons];exact congrArg (· +1) g1,λk=>?_,?_⟩
  .cases k with
   |zero=>exact H
   |succ k=>exact g2 k
  .show _++_=(_++_:List Aa).map Aa.v
   rw[map_append,B,U]
theorem Acb(A:∀id,id<r.length->r'.getD id .dead=r.getD id .dead)(p:Bool×List Cl)(m:Nat)(B:Has r' m (Iy r.length m p).2):
  Ak (Go.Ve.prom (if p.1 then Ah (p.2.map (Cl.v r))else(p.2.map (Cl.v r)).getD 0 .dead) m).1 (if(Iy r.length m p).1.1 then Ah ((Iy r.length m p).1.2.map (Cl.v r'))else((Iy r.length m p).1.2.map (Cl.v r')).getD 0 .dead)/\
  (Go.Ve.prom (if p.1 then Ah (p.2.map (Cl.v r))else(p.2.map (Cl.v r)).getD 0 .dead) m).2=(Iy r.length m p).2.map Aa.v:=by
 obtain⟨b,l⟩:=p;cases b with
 |true=>
  obtain⟨U,H,h3⟩:=Jl A l m B;show Ak (Go.Ve.prom (Ah _) m).1 (Ah ((BZ r.length m l).1.map (Cl.v r')))/\(Go.Ve.prom (Ah _) m).2=_;rw[Xy];exact⟨Ak.mk U λk _=>H k,h3⟩
 |false=>
  show Ak (Go.Ve.prom ((l.map (Cl.v r)).getD 0 .dead) m).1 (((l.getD 0 .dead).prom r.length m).1.v r')/\(Go.Ve.prom ((l.map (Cl.v r)).getD 0 .dead) m).2=_;rw[Aw (f:=Cl.v r) (a:=.dead) rfl];exact Cl.prom_v A _ m B
def Q8{r r':List Aa}(A:∀id,id<r.length->r'.getD id .dead=r.getD id .dead):∀(l:List (Bool×List Cl)) (m:Nat),Has r' m (Dw r.length m l).2->
  (B3 (l.map λp=>if p.1 then Ah (p.2.map (Cl.v r))else(p.2.map (Cl.v r)).getD 0 .dead) m).1.length=(Dw r.length m l).1.length/\
  (∀k,Ak ((B3 (l.map λp=>if p.1 then Ah (p.2.map (Cl.v r))else(p.2.map (Cl.v r)).getD 0 .dead) m).1.getD k .dead) (((Dw r.length m l).1.map λp=>if p.1 then Ah (p.2.map (Cl.v r'))else(p.2.map (Cl.v r')).getD 0 .dead).getD k .dead))/\
  (B3 (l.map λp=>if p.1 then Ah (p.2.map (Cl.v r))else(p.2.map (Cl.v r)).getD 0 .dead) m).2=(Dw r.length m l).2.map Aa.v
 |[],m,_=>⟨rfl,λk=>Ak.refl _,rfl⟩
 |p::l,m,hn=>by
  obtain⟨H,B⟩:=Acb A p m hn.left;have e:=congrArg List.length B;rw[length_map]at e;obtain⟨g1,g2,U⟩:=Q8 A l (m+(Iy r.length m p).2.length) hn.right;rw[map_cons,Lv,e];refine⟨by simp only[Dw,List.length_cons];exact congrArg (· +1) g1,λk=>?_,?_⟩
  .cases k with
   |zero=>exact H
   |succ k=>exact g2 k
  .show _++_=(_++_:List Aa).map Aa.v
   rw[map_append,B,U]
theorem Sl.prom_v{r:List Aa}(y:Sl):Ak (Go.Ve.prom (y.v r) r.length).1 ((y.prom r.length).1.v (r++(y.prom r.length).2))/\(Go.Ve.prom (y.v r) r.length).2=(y.prom r.length).2.map Aa.v:=by
 have H:∀new:List Aa,∀id,id<r.length->(r++new).getD id .dead=r.getD id .dead:=λnew id h=>by
  simp[gDE,gAL h]
 have U:∀new:List Aa,Has (r++new) r.length new:=λnew j _=>by
  simp only[gDE];rw[gAR (by omega),Nat.add_sub_cancel_left]
 cases y with
 |one c=>exact Cl.prom_v (H _) c r.length (U _)
 |new l=>
  show Ak (Go.Ve.prom (A3 true (l.map Cl.v0)) r.length).1 _/\(Go.Ve.prom (A3 true (l.map Cl.v0)) r.length).2=_;rw[Ow,length_map];show Ak _ ((bif blt 0 l.length then(Sl.one (.rp r.length [] 0 0),[Aa.obj false l])else(.one .dead,[])).1.v (r++((bif blt 0 l.length then(Sl.one (.rp r.length [] 0 0),[Aa.obj false l])else(.one .dead,[])).2)))/\_=((bif blt 0 l.length then(Sl.one (.rp r.length [] 0 0),[Aa.obj false l])else(.one .dead,[])).2).map Aa.v;cases W:blt 0 l.length with
  |true=>
   rw[if_pos (Mb W)];exact⟨Ak.refl _,rfl⟩
  |false=>
   rw[if_neg (λh=>by rw[show blt 0 l.length=true from Nat.ble_eq_true_of_le h]at W;cases W)]
   exact⟨Ak.refl _,rfl⟩
 |agg l=>
  obtain⟨B,A,h3⟩:=Jl (H (BZ r.length r.length l).2) l r.length (U _);show Ak (Go.Ve.prom (Ah _) r.length).1 (Ah _)/\(Go.Ve.prom (Ah _) r.length).2=_;rw[Xy];exact⟨Ak.mk B λk _=>A k,h3⟩
 |pk t l=>
  obtain⟨B,A,h3⟩:=Jl (H (BZ r.length r.length l).2) l r.length (U _);show Ak (Go.Ve.prom (pkL t _) r.length).1 (pkL t _)/\(Go.Ve.prom (pkL t _) r.length).2=_;rw[Aca];exact⟨Ak.pk B λk _=>A k,h3⟩
 |tup l=>
  obtain⟨B,A,h3⟩:=Q8 (H (Dw r.length r.length l).2) l r.length (U _);show Ak (Go.Ve.prom (Dj _) r.length).1 (Dj _)/\(Go.Ve.prom (Dj _) r.length).2=_;rw[ZC];exact⟨Ak.tup (by rw[B];simp) λk _=>A k,h3⟩
def AC(t:Nat->Sl)(d:Nat)(y:Sl):Nat->Sl:=λi=>bif beq i d then y else t i
theorem BL{t:Nat->Sl}:(λi=>(AC t d y i).v r)=AD (λi=>(t i).v r) d (y.v r):=by
 funext i
 unfold AC AD;cases A:beq i d with
 |true=>rw[if_pos (bqE A)];rfl
 |false=>rw[if_neg (λh=>by rw[h,beq_refl]at A;cases A)];rfl
def St.add(s:St)(d:Nat)(p:Sl×List Aa):St:=match p.2 with
 |[]=>⟨AC s.t d p.1,s.r⟩
 |q::new=>⟨AC (λi=>(s.t i).chk s.r.length) d p.1,s.r++q::new⟩
def St.put(h:BW)(s:St)(d:Option Nat)(y:Sl):Option St:=match d with
 |none=>some s
 |some d=>bif blt d h.n then(bif h.fz.contains d then(match y.frz with
   |some A=>some ⟨AC s.t d A,s.r⟩
   |none=>none)else some (s.add d (y.prom s.r.length)))else none
theorem YL:(∀i,Ak (AD s.den.t d (Go.Ve.prom (y.v s.r) s.r.length).1 i) ((s.add d (y.prom s.r.length)).den.t i))/\s.den.σ++(Go.Ve.prom (y.v s.r) s.r.length).2=(s.add d (y.prom s.r.length)).den.σ:=by
 obtain⟨A,H⟩:=Sl.prom_v (r:=s.r) y;rw[H];unfold St.add;cases B:(y.prom s.r.length).2 with
 |nil=>
  rw[B]at A;rw[List.append_nil]at A;refine⟨λi=>?_,by simp[St.den]⟩
  show Ak _ ((AC s.t d (y.prom s.r.length).1 i).v s.r);rw[congrFun (BL (r:=s.r) (t:=s.t) (d:=d) (y:=(y.prom s.r.length).1)) i];unfold AD;split
  .exact A
  .exact Ak.refl _
 |cons q new=>
  rw[B]at A;refine⟨λi=>?_,by simp[St.den]⟩
  show Ak _ ((AC (λi=>(s.t i).chk s.r.length) d (y.prom s.r.length).1 i).v (s.r++q::new))
  rw[congrFun (BL (r:=s.r++q::new) (t:=λi=>(s.t i).chk s.r.length) (d:=d) (y:=(y.prom s.r.length).1)) i]
  unfold AD;split
  .exact A
  .exact Sl.chk_v (λid h=>by simp[gDE,gAL h]) _
theorem Ab9{d:Option Nat}(A:s.put h d y=some s'):(∀i,Ak ((s.den.res h d (y.v s.r)).t i) (s'.den.t i))/\(s.den.res h d (y.v s.r)).σ=s'.den.σ:=by
 unfold St.put at A;cases d with
 |none=>cases A;exact⟨λi=>Ak.refl _,rfl⟩
 |some d=>
  simp only at A;obtain⟨B,A⟩:=A1 A;have B:d<h.n:=blE B;unfold Ms.res;simp only[B,if_true];cases U:h.fz.contains d with
  |true=>
   rw[U]at A;simp only[cond_true]at A;split at A
   .rename_i H W
    cases A;refine⟨λi=>?_,rfl⟩
    show Ak (AD s.den.t d (Go.Ve.frz (y.v s.r)) i) ((AC s.t d H i).v s.r);rw[congrFun (BL (r:=s.r) (t:=s.t) (d:=d) (y:=H)) i,Sl.frz_v W];exact Ak.refl _
   .cases A
  |false=>
   rw[U]at A;simp only[cond_false,Option.some.injEq]at A;subst A;have Y:s.den.σ.length=s.r.length:=by simp[St.den]
   simp only[Bool.false_eq_true,if_false,Y];exact YL
def AA.put{C:Ctx}{h:BW}{s s':St}{d:Option Nat}{y:Sl}{a:Act}{w:World}(H:s.put h d y=some s')(B:AA C h.n (s.den.res h d (y.v s.r)) a w):AA C h.n s'.den a w:=by
 obtain⟨U,A⟩:=Ab9 H;exact B.sub (by rw[A]) (λi _=>by rw[A];exact Sub.refl _) U
theorem Wu{P:Program}{C:Ctx}{o:Oper}{a:Act}{w:World}{next:Act->World->Prop}{Q:Exit->Act->World->Prop}(A:QS P s o.op y)(hp:s.put h o.dst y=some s')
  (Z:AA C h.n s.den a w) (hn:∀B w',AA C h.n s'.den B w'->next B w'):o.wp P a w next Q:=by
 refine JC (P:=P) (h:=h) (K:=λS=>S=s.den.res h o.dst (y.v s.r)) (S:=s.den) ?_ Z λS' B w' hS H=>hn B w' (AA.put hp (hS▸H))
 have W:qop P s.den.σ s.den.ev o.op (ResK h o.dst s.den λS=>S=s.den.res h o.dst (y.v s.r)):=by
  refine Od A ?_;intro r0 U;exact⟨y.v s.r,U,rfl⟩
 unfold vop;split
 .rename_i t x v Y
  rw[Y]at A;exact A.elim
 .rename_i t m k x Y
  rw[Y]at A;exact A.elim
 .exact W
end Go.Ve


namespace Go.Ve
variable{y:Cl}{r:List Aa}{σ:List V}{N:Nat}{t:Nat->V}
def PR.subst{C:Ctx}{ρ:Nat->Value}{F:Nat->Nat->Prop}{B:Nat->V}{a:Act}{w:World}{D:Nat->Prop}{T:Nat->Nat->Prop}(h:PR C N σ ρ F t a w D T)(H:∀x,Sub (t x) (B x)):PR C N σ ρ F B a w D T:=
 ⟨h.df,h.sz,λx A=>by have:=H x;rw[h.dd x A]at this;trivial,h.wr,λx A=>Rel.sub (H x) (h.tm x A),h.tD,h.tF,h.tT,h.tn,h.fr,h.Fn,h.D1,h.D2,h.rt,h.ml,h.tx⟩
theorem LQ.sub{P:Program}{Al:Nat->Nat->Prop}{o:Oper}{ys A:List (Nat×Tk)}{r r':V}(h:LQ P N σ Al o t ys r)(hl:∀x,Bl ys x≠none->Bl A x≠none)(hy:∀x v,Sub (Ig (Bl ys x) v) (Ig (Bl A x) v))(hr:Sub r r'):LQ P N σ Al o t A r':=by
 intro C ρ F a w D T B Y W hp next Q hn
 refine h C ρ F a w D T B (λx hx=>Y x (hx.imp id (hl x))) W hp next Q λa' w' D' T' U Z H=>hn a' w' D' T' (U.subst λx=>?_) Z H
 have hk:Sub (AL ys B x) (AL A B x):=hy x _;cases hd:o.dst with
 |none=>trivial
 |some d=>
  show Sub (if x=d then r else AL ys B x) (if x=d then r' else AL A B x)
  grind
def Cl.solid:Cl->Bool
 |.dead=>false
 |.c .unit _ _=>false
 |.c (.pair _ _) _ _=>false
 |.c (.clo _ _) _ _=>false
 |.c (.osl _) _ _=>false
 |_=>true
theorem W2(h:y.solid=true):YX (y.v r)=true/\I0 (y.v r)=true/\Go.Ve.cellsV (y.v r)=[y.v r]:=by
 cases y with
 |c t d x=>cases t<;>first|trivial|rfl
 |dead=>cases h
 |_=>trivial
def Sl.cellsO:Sl->Option (List Cl)
 |.one y=>bif y.solid then some [y]else none
 |.agg l=>bif l.all Cl.solid then some l else none
 |_=>none
theorem UL{y:Sl}{l:List Cl}(h:y.cellsO=some l):I0 (y.v r)=true/\Go.Ve.cellsV (y.v r)=l.map (Cl.v r)/\∀c∈l,YX (c.v r)=true:=by
 unfold Sl.cellsO at h;split at h
 .rename_i c
  cases A:c.solid with
  |false=>grind
  |true=>
   rw[A]at h;cases h;obtain⟨Y,W,U⟩:=W2 A;exact⟨W,U,λc' B=>by grind⟩
 .rename_i H
  cases A:H.all Cl.solid with
  |false=>grind
  |true=>
   rw[A]at h;cases h;exact⟨rfl,Pc,λc B=>(W2 (aET.1 A c B)).1⟩
 grind
def Cl.isMp:Cl->Bool
 |.c (.mp _ _) _ _=>true
 |_=>false
def Cl.keep(y:Cl):Bool:=y.imm||(y.own&& !y.isMp)
theorem XZ(h:y.keep=true):(B7 (y.v r)=true\/∃s sz n f,y.v r=.nd s true sz n f)/\y.v r=y.v0:=by
 unfold Cl.keep at h;cases hi:y.imm with
 |true=>exact⟨.inl (Qc hi).1,(Qc hi).2⟩
 |false=>
  rw[hi,Bool.false_or,bAE]at h;cases y with
  |c t d x=>cases t<;>cases d<;>first|(cases h.2;done)|(cases h.1;done)|exact⟨.inr ⟨_,_,_,_,rfl⟩,rfl⟩|(cases x<;>first|(cases h.1;done)|exact⟨.inr ⟨_,_,_,_,rfl⟩,rfl⟩)
  |_=>cases h.1
def NU(place:Nat->Option (Nat×Nat))(cells:List Cl):List (Nat×Option Sl)->Option (List Cl)
 |[]=>some cells
 |(i,y)::rest=>match place i,y with
  |some (off,size),some y=>match y.cellsO with
   |some l=>bif beq l.length size&&Nat.ble (off+size) cells.length then NU place (Adj cells off l) rest else none
   |none=>none
  |_,_=>none
theorem Mw{s:St}{place:Nat->Option (Nat×Nat)}{ev:Operand->V}:∀(ps:List (Nat×Operand)) (cells l:List Cl),(∀p∈ps,s.den.ev p.2≠.dead->ev p.2=s.den.ev p.2)->NU place cells (ps.map λp=>(p.1,s.ev p.2))=some l->
  (∀p∈ps,I0 (ev p.2)=true)/\B8 place (cells.map (Cl.v s.r)) (ps.map λp=>(p.1,ev p.2))=some (l.map (Cl.v s.r))
 |[],cells,l,_,h=>by cases h;exact⟨λp B=>(by cases B),rfl⟩
 |(i,x)::ps,cells,l,hev,h=>by
  rw[map_cons]at h;unfold NU at h;split at h
  case h_2=>cases h
  rename_i off size y H A;split at h
  case h_2=>cases h
  rename_i m hm;obtain⟨U,h⟩:=A1 h;simp only[bAE]at U;have Z:=bqE U.1;have Y:=blE U.2;obtain⟨g1,g2,_⟩:=UL (r:=s.r) hm;obtain⟨k1,k2⟩:=Mw ps _ _ (λp B=>hev p (mCM _ B)) h
  have A:s.ev x=some y:=A;have W:ev x=y.v s.r:=by
   rw[<-Bg A];refine hev (i,x) (List.mem_cons_self ..) ?_;rw[Bg A];intro e;rw[e]at g1;cases g1
  refine⟨λp B=>?_,?_⟩
  .grind
  .rw[map_cons]
   unfold B8;simp only[H,W,g2];rw[if_neg (by simp only[length_map];omega),<-W8]
   exact k2
def LC(s:St):Operand->Option Nat
 |.tmp y=>bif(s.t y).own then some y else none
 |_=>none
theorem Ud{s:St}(h:∀y,AJ (t y)=(s.t y).own)(xs:List Operand):xs.map (IC t)=xs.map (LC s):=by
 refine List.map_congr_left λx _=>?_
 cases x with
 |tmp y=>
  show(if AJ (t y)=true then some y else none)=bif(s.t y).own then some y else none
  grind
 |_=>rfl
def jsO:List (Option Nat)->List Nat
 |[]=>[]
 |none::l=>jsO l
 |some a::l=>a::jsO l
theorem fitO_v(d:Nat)(r:List Aa)(c:Cl):(fit d c).v r=c.v r/\(fit d c).v0=c.v0:=by
 cases c with
 |c t A x=>
  have e:fit d (.c t A x)=bif beq (Pm A t.dep) (Pm d t.dep)then .c t d x else .c t A x:=rfl;rw[e];cases h:beq (Pm A t.dep) (Pm d t.dep)with
  |false=>simp
  |true=>
   have:=bqE h;rw[ID,ID]at this;exact⟨(Ma this).symm,(Ma this).symm⟩
 |_=>trivial
theorem CB{xs:List Operand}{l:List (Option Nat)}(h:xs.map (IC t)=l):Bc t xs=jsO l:=by
 rw[BN,h];clear h
 induction l with
 |nil=>rfl
 |cons a l A=>cases a with
  |none=>trivial
  |some a=>show a::l.filterMap id=a::jsO l;grind
def CK(js:List Nat)(t:Nat->Sl):Nat->Sl:=λi=>bif js.contains i then .one .dead else t i
def nrm1:Cl->Cl->Cl
 |.c (.sl t) _ _,.nil=>.c (.sl t) (t.dep+1) []
 |_,y=>y
def VB:List Cl->List Cl->List Cl
 |a::lp,y::l=>nrm1 a y::VB lp l
 |_,l=>l
def nrm1_v(a y:Cl):Sub y.v0 (nrm1 a y).v0:=by
 unfold nrm1;split
 .exact .inr ⟨rfl,_,_,_,rfl⟩
 .exact Sub.refl _
def Aci(r:List Aa)(a y:Cl):Sub (y.v r) ((nrm1 a y).v r):=by
 unfold nrm1;split
 .exact .inr ⟨rfl,_,_,_,rfl⟩
 .exact Sub.refl _
def XG(r:List Aa):∀(lp l:List Cl) (k:Nat),Sub ((l.map (Cl.v r)).getD k .dead) (((VB lp l).map (Cl.v r)).getD k .dead)
 |[],[],_=>Sub.refl _
 |[],_::_,_=>Sub.refl _
 |_::_,[],_=>Sub.refl _
 |a::lp,y::l,0=>Aci r a y
 |a::lp,y::l,k+1=>XG r lp l k
def MZ:∀(lp l:List Cl),(VB lp l).length=l.length
 |[],[]=>rfl
 |[],_::_=>rfl
 |_::_,[]=>rfl
 |a::lp,y::l=>by show(VB lp l).length+1=_;rw[MZ lp l];rfl
def AaV:∀(lp l:List Cl) (k:Nat),Sub ((l.map Cl.v0).getD k .dead) (((VB lp l).map Cl.v0).getD k .dead)
 |[],[],_=>Sub.refl _
 |[],_::_,_=>Sub.refl _
 |_::_,[],_=>Sub.refl _
 |a::lp,y::l,0=>nrm1_v a y
 |a::lp,y::l,k+1=>AaV lp l k
end Go.Ve


namespace Go.Ve
variable{N d id m n sz:Nat}{f g:Nat->Nat->V}{D fp:Nat->Prop}{y:Operand}{s:St}{t:Ty}{w:World}
def V6(s:St)(t:Ty)(id:Nat):Option Sl->Option (Nat×List t.T×List Nat)
 |some (.one (.c (.sl A) 0 ys))=>if h:A=t then some (0,h▸ys,[])else none
 |some (.one (.rf j q))=>match Ac s.r j q with
  |.arr ro A d ys=>if h:A=t then(bif beq j id then none else bif beq t.dep 0 then some (d,h▸ys,[])else match q with
   |[]=>bif ro then none else some (d,h▸ys,[j])
   |_::_=>none)else none
  |_=>none
 |some (.one (.rs j q off len))=>match Ac s.r j q with
  |.arr _ A d ys=>if h:A=t then(bif beq j id|| !beq t.dep 0 then none else some (d,Ps len (Qh off (h▸ys)),[]))else none
  |_=>none
 |_=>none
def V7(s:St)(t:Ty)(id:Nat)(y:Option Sl):Option (Nat×List t.T×List Nat):=bif t.noO then V6 s t id y else none
theorem YD{y:Option Sl}{z:Nat×List t.T×List Nat}(h:V7 s t id y=some z):V6 s t id y=some z/\t.noO=true:=by
 unfold V7 at h
 grind
def ON(b:Nat):Nat:=140737488355328/b
def Dp:∀(t:Ty) (d:Nat) (x:t.T) (k:Nat),t.noO=true->k<t.w->YX ((tyV t d x).getD k .dead)=true
 |.int _,_,_,0,_,_=>rfl
 |.int _,_,_,_+1,_,h=>by trivial
 |.bool,_,_,0,_,_=>rfl
 |.bool,_,_,_+1,_,h=>by trivial
 |.str,_,_,0,_,_=>rfl
 |.str,_,_,_+1,_,h=>by trivial
 |.sl _,_,_,0,_,_=>rfl
 |.sl _,_,_,_+1,_,h=>by trivial
 |.ptr _,_,_,0,_,_=>rfl
 |.ptr _,_,_,_+1,_,h=>by trivial
 |.osl _,_,_,_,h,_=>by cases h
 |.mp _ _,_,_,_,h,_=>by cases h
 |.unit,_,_,_,_,h=>by trivial
 |.clo _ _,_,_,0,_,_=>rfl
 |.clo _ _,_,_,_+1,_,h=>by trivial
 |.pair a b,d,x,k,ho,h=>by
  simp only[Ty.noO,bAE]at ho;simp only[tyV];rw[Ty.w]at h;by_cases A:k<a.w
  .have e:(tyV a d x.1++tyV b d x.2).getD k .dead=(tyV a d x.1).getD k .dead:=Az (by rw[Ax];exact A)
   rw[e];exact Dp a d x.1 k ho.1 A
  .have e:(tyV a d x.1++tyV b d x.2).getD k .dead=(tyV b d x.2).getD (k-a.w) .dead:=by
    simp[gDE];rw[gAR (by rw[Ax];omega),Ax]
   rw[e];exact Dp b d x.2 (k-a.w) ho.2 (by omega)
def Qy:∀(t:Ty) (d:Nat) (x:t.T),t.dep=0->∀v∈tyV t d x,∃c,v=.c c
 |.int _,_,_,_,v,h=>by simp[tyV]at h;grind
 |.bool,_,_,_,v,h=>by simp[tyV]at h;grind
 |.str,_,_,_,v,h=>by simp[tyV]at h;grind
 |.sl _,_,_,h,_,_=>by trivial
 |.ptr _,_,_,h,_,_=>by trivial
 |.clo _ _,_,_,h,_,_=>by trivial
 |.osl _,_,_,h,_,_=>by trivial
 |.mp _ _,_,_,h,_,_=>by trivial
 |.unit,_,_,_,v,h=>by trivial
 |.pair a b,d,x,h,v,hv=>by
  simp[Ty.dep]at h;simp[tyV,List.mem_append]at hv;rcases hv with hv|hv
  .exact Qy a d x.1 (by omega) v hv
  .exact Qy b d x.2 (by omega) v hv
def H7{v:V}{x:Value}(h:Rel D w noR v x fp)(hv:YX v=true):x.oneCell'=true:=(Rel.cells1 h (λ_ _ h=>h.elim) hv).2
structure YOK(s:St)(t:Ty)(id:Nat)(y:Operand)(a:Act)(w:World)(D:Nat->Prop)(F:Nat->Nat->Prop)(d:Nat)(ys:List t.T)(js:List Nat):Prop where
 rd:∃Fy,Wa D w t.w ys.length (λi k=>(tyV t d (ys.getD i t.dflt)).getD k .dead) (a.eval y) Fy/\(∀i k c,i<ys.length->k<t.w->Fy i k c->∃j∈js,F j c)/\
  ∀i k i' k' c,i<ys.length->k<t.w->i'<ys.length->k'<t.w->(i≠i'\/k≠k')->Fy i k c->¬Fy i' k' c
 js:∀j∈js,j<s.r.length/\j≠id
theorem IR{t:Ty}{id:Nat}{y:Operand}{a:Act}{C:Ctx}{ρ:Nat->Value}{F:Nat->Nat->Prop}(Z:CR C s.den.σ ((range N).map s.den.t) a.tmps w D ρ F)(hdd:∀x,N<=x->s.den.t x=.dead)
  {d:Nat}{ys:List t.T}{js:List Nat} (h:V7 s t id (s.ev y)=some (d,ys,js)):YOK s t id y a w D F d ys js:=by
 unfold V7 at h;obtain⟨hno,h⟩:=A1 h;unfold V6 at h;split at h
 case h_4=>cases h
 .rename_i B A hy
  split at h
  case isFalse=>cases h
  rename_i ht;subst ht;cases h;have Y:=Bh Z hdd y;rw[Bg hy]at Y;show YOK s B id y a w D F 0 A [];refine⟨⟨λ_ _=>noF,?_,λ_ _ _ _ _ h=>h.elim,λ_ _ _ _ _ _ _ _ _ _ h=>h.elim⟩,λj hj=>by cases hj⟩
  have Y:Rel D w _ (arr false B.w (tyV B 0) B.dflt A) (a.eval y) noF:=Y;rcases Y with⟨h0,_,hn,_⟩|⟨b,o,cap,Fx,hcv,_,_,_,hc,himm,_⟩
  .obtain⟨ad,had⟩:=B5 hn
   refine⟨ad,0,by rw[had,h0],λh=>by omega⟩
  .refine⟨_,cap,hcv,λ_=>⟨b,o,rfl,λi k hi W=>?_⟩⟩
   obtain⟨x,hx,H⟩:=hc i k hi W;have e:Fx i k=noF:=A2 λc hc=>(himm rfl).2.1 i k c hi W hc
   rw[e]at H;exact⟨x,hx,H7 H (Dp B 0 _ k hno W),H⟩
 .rename_i j q hy
  have Y:=Bh Z hdd y;rw[Bg hy]at Y;split at h
  case h_2=>cases h
  rename_i ro B d' A hn;split at h
  case isFalse=>cases h
  rename_i ht;subst ht;cases hb:beq j id with
  |true=>rw[hb]at h;cases h
  |false=>
   rw[hb]at h;simp only[cond_false]at h;have Y:Rel D w (Ae s.den.σ ρ w) (.rs j q 0 (Ac s.r j q).len) (a.eval y) noF:=Y;rw[hn]at Y;have Y:Rel D w (Ae s.den.σ ρ w) (.rs j q 0 A.length) (a.eval y) noF:=Y;obtain⟨⟨hid,sz,n,f,cn,hat,hle,hcv⟩,_⟩:=Y;have U:=At.sub hat;have hne:Ac s.r j q≠.dead:=by rw[hn];intro h;cases h
   have hnode:sub q (s.den.σ.getD j .dead)=arr true B.w (tyV B d') B.dflt A:=(AV hne).trans (by rw[hn];rfl)
   rw[hnode]at U;have U:V.nd true true sz n f=.nd true true B.w A.length (λi k=>(tyV B d' (A.getD i B.dflt)).getD k .dead):=U
   cases U;obtain⟨fp1,hr1,hfp1,_⟩:=Ds (w':=w) q _ _ _ _ _ (Z.wr.rel j hid) (λb hb h=>Z.wr.dD j b h hb) hat
   have hjr:j<s.r.length:=by simpa [St.den]using hid
   have rd:∀Fy,(∀(b o cap:Nat) (Fx:Nat->Nat->Nat->Prop),cn=Av true b o A.length cap->(∀i k,i<A.length->k<B.w->∃x,w.cell? ⟨b,o+i*B.w+k,none⟩=some x/\Rel D w noR ((tyV B d' (A.getD i B.dflt)).getD k .dead) x (Fx i k))->(∀i k c,i<A.length->k<B.w->Fx i k c->fp1 c)->
     (∀i k,i<A.length->k<B.w->Fx i k=Fy i k))->Wa D w B.w A.length (λi k=>(tyV B d' (A.getD i B.dflt)).getD k .dead) (a.eval y) Fy:=by
    intro Fy hFy;rcases hr1 with⟨h0,_,hn0,_⟩|⟨b,o,cap,Fx,hcn,_,_,_,hc,_,ho⟩
    .rcases hcv with⟨b,o,cap,h3,h4⟩|⟨_,ad,h4,_⟩
     .rw[h3]at hn0;exact absurd hn0 BF
     .exact⟨ad.map λp=>⟨p.1,p.2,none⟩,0,by rw[h4,h0],λh=>by omega⟩
    .rcases hcv with⟨b',o',cap',h3,h4⟩|⟨h0,ad,h4,_⟩
     .obtain⟨rfl,rfl,_⟩:=Am (h3.symm.trans hcn)
      refine⟨_,cap'-0,by simpa using h4,λ_=>⟨b',o',by simp,λi k hi W=>?_⟩⟩
      obtain⟨x,hx,H⟩:=hc i k hi W;have e:=hFy b' o' cap Fx hcn hc (λi k c hi W h=>((ho rfl).2.2.2 c).2 (.inr ⟨i,k,hi,W,h⟩)) i k hi W
      exact⟨x,hx,H7 H (Dp B d' _ k hno W),e▸H⟩
     .exact⟨ad.map λp=>⟨p.1,p.2,none⟩,0,by rw[h4,h0],λh=>by omega⟩
   cases hd:beq B.dep 0 with
   |true=>
    rw[hd]at h;cases h;have hd:=bqE hd;show YOK s B id y a w D F d A [];refine⟨⟨λ_ _=>noF,rd _ λb o cap Fx _ hc _ i k hi W=>?_,λ_ _ _ _ _ h=>h.elim,λ_ _ _ _ _ _ _ _ _ _ h=>h.elim⟩,λj hj=>by cases hj⟩
    obtain⟨x,_,H⟩:=hc i k hi W;obtain⟨cc,hcc⟩:=Qy B d (A.getD i B.dflt) hd _ (Jq (k:=k) (by rw[Ax];exact W))
    rw[hcc]at H;exact A2 H.2.2
   |false=>
    rw[hd]at h;simp only[cond_false]at h;split at h
    case h_2=>cases h
    cases ro with
    |true=>cases h
    |false=>
     cases h;show YOK s B id y a w D F d A [j];obtain⟨h1,h2⟩:=hat;subst h2;have hrj:=Z.wr.rel j hid;rw[<-h1]at hrj;rcases hrj with⟨h0,_,hn0,_⟩|⟨b,o,cap,Fx,hcn,_,_,_,hc,_,ho⟩
     .refine⟨⟨λ_ _=>noF,rd _ λ_ _ _ _ _ _ _ i k hi=>by omega,λ_ _ _ _ _ h=>h.elim,λ_ _ _ _ _ _ _ _ _ _ h=>h.elim⟩,λi hi=>?_⟩
      simp at hi;subst hi;exact⟨hjr,λe=>by rw[e,beq_refl]at hb;cases hb⟩
     .refine⟨⟨Fx,?_,λi k c hi W hF=>⟨j,by simp,((ho rfl).2.2.2 c).2 (.inr ⟨i,k,hi,W,hF⟩)⟩,λi k i' k' c h1 h2 h3 h4 hne hF=>(ho rfl).2.2.1 i k i' k' c h1 h2 h3 h4 hne hF⟩,λi hi=>?_⟩
      .rcases hcv with⟨b',o',cap',h3,h4⟩|⟨h0,ad,h4,_⟩
       .obtain⟨rfl,rfl,_⟩:=Am (h3.symm.trans hcn)
        refine⟨_,cap'-0,by simpa using h4,λ_=>⟨b',o',by simp,λi k hi W=>?_⟩⟩
        obtain⟨x,hx,H⟩:=hc i k hi W;exact⟨x,hx,H7 H (Dp B d _ k hno W),H⟩
       .exact⟨ad.map λp=>⟨p.1,p.2,none⟩,0,by rw[h4,h0],λh=>by omega⟩
      .simp at hi;subst hi
       exact⟨hjr,λe=>by rw[e,beq_refl]at hb;cases hb⟩
 .rename_i j q off len hy
  have Y:=Bh Z hdd y;rw[Bg hy]at Y;split at h
  case h_2=>cases h
  rename_i ro B d' A hn;split at h
  case isFalse=>cases h
  rename_i ht;subst ht;cases hb:(beq j id|| !beq B.dep 0)with
  |true=>rw[hb]at h;cases h
  |false=>
   rw[hb]at h;cases h;show YOK s B id y a w D F d (Ps len (Qh off A)) [];simp only[Bool.or_eq_false_iff,Bool.not_eq_false']at hb;have hd:=bqE hb.2;have Y:Rel D w (Ae s.den.σ ρ w) (.rs j q off len) (a.eval y) noF:=Y;obtain⟨⟨hid,sz,n,f,cn,hat,hle,hcv⟩,_⟩:=Y;have U:=At.sub hat;have hne:Ac s.r j q≠.dead:=by rw[hn];intro h;cases h
   have hnode:sub q (s.den.σ.getD j .dead)=arr true B.w (tyV B d) B.dflt A:=(AV hne).trans (by rw[hn];rfl)
   rw[hnode]at U;have U:V.nd true true sz n f=.nd true true B.w A.length (λi k=>(tyV B d (A.getD i B.dflt)).getD k .dead):=U
   cases U;obtain⟨fp1,hr1,hfp1,_⟩:=Ds (w':=w) q _ _ _ _ _ (Z.wr.rel j hid) (λb hb h=>Z.wr.dD j b h hb) hat
   have hl:(Ps len (Qh off A)).length=len:=by
    show(take len (drop off A)).length=len;simp;omega
   have hget:∀i,i<len->(Ps len (Qh off A)).getD i B.dflt=A.getD (off+i) B.dflt:=by
    intro i hi;show(take len (drop off A)).getD i B.dflt=_;simp[List.getElem?_take,hi]
   refine⟨⟨λ_ _=>noF,?_,λ_ _ _ _ _ h=>h.elim,λ_ _ _ _ _ _ _ _ _ _ h=>h.elim⟩,λj hj=>by cases hj⟩
   rw[hl];rcases hcv with⟨b',o',cap',h3,h4⟩|⟨h0,ad,h4,_⟩
   .refine⟨_,cap'-off,h4,λhpos=>⟨b',o'+off*B.w,rfl,λi k hi W=>?_⟩⟩
    rcases hr1 with⟨h0,_,hn0,_⟩|⟨b,o,cap,Fx,hcn,_,_,_,hc,_,ho⟩
    .omega
    .obtain⟨rfl,rfl,_⟩:=Am (h3.symm.trans hcn)
     obtain⟨x,hx,H⟩:=hc (off+i) k (by omega) W
     obtain⟨cc,hcc⟩:=Qy B d (A.getD (off+i) B.dflt) hd _ (Jq (k:=k) (by rw[Ax];exact W))
     have H:Rel D w noR ((tyV B d (A.getD (off+i) B.dflt)).getD k .dead) x (Fx (off+i) k):=H
     have e:Fx (off+i) k=noF:=by
      rw[hcc]at H;exact A2 H.2.2
     rw[e]at H;refine⟨x,?_,H7 H (Dp B d _ k hno W),?_⟩
     .rw[Nat.add_mul,<-Nat.add_assoc]at hx;exact hx
     .show Rel D w noR ((tyV B d ((Ps len (Qh off A)).getD i B.dflt)).getD k .dead) x noF
      rw[hget i hi];exact H
   .exact⟨ad.map λp=>⟨p.1,p.2,none⟩,0,by rw[h4,h0],λh=>by omega⟩
theorem Nr{xs ys:List t.T}(A:n=xs.length)(hm:m=ys.length)(U:∀i k,i<n->f i k=(tyV t d (xs.getD i t.dflt)).getD k .dead)(H:∀i k,i<m->g i k=(tyV t d (ys.getD i t.dflt)).getD k .dead):
  Sub (.nd true true t.w (n+m) (V8 n f g)) (cV (.sl t) (d+1) (xs++ys)):=by
 show Sub _ (V.nd true true t.w (xs++ys).length λi k=>(tyV t d ((xs++ys).getD i t.dflt)).getD k .dead)
 rw[List.length_append,<-A,<-hm];refine⟨_,rfl,λi k hi B=>Sub.of_eq ?_⟩
 unfold V8
 grind
section
variable {C:Ctx}{N:Nat}{σ:List V}{ρ:Nat->Value}{F:Nat->Nat->Prop}{t:Nat->V}{a:Act}{w:World}{D:Nat->Prop}{T:Nat->Nat->Prop}
theorem PR.own(h:PR C N σ ρ F t a w D T){xs:List Operand}{r:V}{v':Value}{fp:Nat->Prop}{d:Nat}{w':World}(hos:w'.os=w.os)(htp:w'.tape=w.tape)(hout:w'.output=w.output)(hdr:w.drawn<=w'.drawn)(hsz:w.heap.size<=w'.heap.size)
  (Y:∀c,c<w.heap.size->(∀j,¬opF t T xs j c)->w'.heap[c]? =w.heap[c]?) (hr:Rel D w' noR r v' fp) (hf:∀b,fp b->(∃j,opF t T xs j b)\/w.heap.size<=b) (hdn:d<N):
  ∃T',PR C N σ ρ F (AD (AL ((Bc t xs).map λy=>(y,.all)) t) d r) (a.put (some d) v') w' D T'/\∀x b,T' x b->some d=some x\/∃b',T x b':=by
 have hFlt:∀i b,F i b->b<w.heap.size:=h.wr.lt;have hTlt:∀x b,T x b->b<w.heap.size:=by
  intro x b A;by_cases H:x<N
  .exact Rel.lt _ _ _ (h.tm x H) b A
  .exact absurd A (h.tx x b (Nat.le_of_not_lt H))
 have hD:∀b,D b->w'.heap[b]? =w.heap[b]?:=λb A=>Y b (h.wr.Dlt b A) λj U=>by obtain⟨y,_,_,B⟩:=U;exact h.tD y b B A
 have hFs:∀i b,F i b->w'.heap[b]? =w.heap[b]?:=λi b A=>Y b (hFlt i b A) λj U=>by obtain⟨y,_,_,B⟩:=U;exact h.tF i y b A B
 have hTs:∀x b,x∉Bc t xs->T x b->w'.heap[b]? =w.heap[b]?:=λx b H A=>Y b (hTlt x b A) λj U=>by
  obtain⟨y,_,_,hm,B⟩:=DN U;exact h.tT x y b (λe=>H (e▸hm)) A B
 have wr':Be σ w' D ρ F:=⟨λi hi=>Rel.mono (λ_ h=>h) (λ_ _ h=>h) _ _ _ (λb A=>A.elim (hD b) (hFs i b)) (h.wr.rel i hi),h.wr.disj,h.wr.dD,λb A=>Nat.lt_of_lt_of_le (h.wr.Dlt b A) hsz,h.wr.out⟩
 have W:∀b,fp b->(∃y,y∈Bc t xs/\T y b)\/w.heap.size<=b:=λb A=>(hf b A).imp (fun⟨j,U⟩=>by obtain⟨y,_,_,hm,B⟩:=DN U;exact⟨y,hm,B⟩) id
 refine⟨λx b=>if x=d then fp b else x∉Bc t xs/\T x b,⟨h.df,by rw[BC];simpa using h.sz,λx H=>?_,wr',λx H=>?_,λx b A=>?_,λi x b A B=>?_,λx y b hxy h1 Z=>?_,λx b A=>?_,⟨hos.trans h.fr.os,htp.trans h.fr.tape,hout.trans h.fr.output,le_trans h.fr.size hsz,λb A hW=>?_,le_trans h.fr.drawn hdr⟩,h.Fn,h.D1,h.D2,h.rt,h.ml,λx b H A=>?_⟩,λx b A=>?_⟩
 .have:¬x=d:=by omega
  simp only[AD,this,if_false];rw[Df];split
  .rfl
  .exact h.dd x H
 .have hlt:x<a.tmps.size:=by rw[h.sz];exact H
  rw[BC];by_cases he:x=d
  .subst he
   simp only[AD,if_true];have:Rel D w' (Ae σ ρ w') r v' (λb=>if x=x then fp b else x∉Bc t xs/\T x b):=Rel.fp_congr (λb=>by rw[if_pos rfl]) (Rel.noR_mono hr)
   simpa [hlt]using this
  .simp only[AD,he,if_false]
   rw[Array.getD_eq_getD_getElem?,Array.getElem?_setIfInBounds_ne (Ne.symm he),<-Array.getD_eq_getD_getElem?,Df];by_cases hm:x∈Bc t xs
   .rw[if_pos hm]
    exact λb A=>A.1 hm
   .rw[if_neg hm]
    refine Rel.fp_congr (fp:=T x) (λb=>⟨λh=>⟨hm,h⟩,λh=>h.2⟩) ?_
    exact Rel.mono (λ_ h=>h) (λv cv hv=>Ae.same h.wr hFs v cv hv) _ _ _ (λb A=>A.elim (hD b) (hTs x b hm)) (h.tm x H)
 .split at A
  .intro hDb
   rcases W b A with⟨y,_,B⟩|Z
   .exact h.tD y b B hDb
   .have:=h.wr.Dlt b hDb;omega
  .exact h.tD x b A.2
 .split at B
  .rcases W b B with⟨y,_,B⟩|Z
   .exact h.tF i y b A B
   .have:=hFlt i b A;omega
  .exact h.tF i x b A B.2
 .have one:∀x,fp b->x∉Bc t xs->T x b->False:=by
   intro x h3 H h4;rcases W b h3 with⟨z,hm,h5⟩|h5
   .exact h.tT x z b (λe=>H (e▸hm)) h4 h5
   .have:=hTlt x b h4;omega
  split at h1<;>split at Z
  .rename_i e1 e2;exact absurd (e1.trans e2.symm) hxy
  .exact one y h1 Z.1 Z.2
  .exact one x Z h1.1 h1.2
  .exact h.tT x y b hxy h1.2 Z.2
 .split at A
  .rcases W b A with⟨y,_,B⟩|Z
   .exact h.tn y b B
   .exact .inr (le_trans h.fr.size Z)
  .exact h.tn x b A.2
 .rw[Y b (Nat.lt_of_lt_of_le A h.fr.size) λj U=>by
   obtain⟨y,_,_,B⟩:=U;rcases h.tn y b B with h|h
   .exact hW h
   .omega]
  exact h.fr.block b A hW
 .have A:(if x=d then fp b else x∉Bc t xs/\T x b):=A
  rw[if_neg (by omega)]at A
  exact h.tx x b H A.2
 .have A:(if x=d then fp b else x∉Bc t xs/\T x b):=A
  split at A
  .rename_i e;exact .inl (by rw[e])
  .exact .inr ⟨b,A.2⟩
theorem PR.cr(h:PR C N σ ρ F t a w D T){t2:Nat->V}(H:∀x,t2 x=.dead\/(t2 x=t x/\AJ (t x)=false)):CR C σ ((range N).map t2) a.tmps w D ρ F:=by
 refine⟨h.wr,by simp[h.sz],λj hj=>?_,h.fr,h.Fn,h.D1,h.D2,h.rt,h.ml⟩
 have hj:j<N:=by grind
 rw[Ay hj];rcases H j with e|⟨e,B⟩
 .rw[e];exact λ_ h=>h
 .rw[e]
  have A:=h.tm j hj;rw[A2 (AB _ _ _ B A)]at A;omega
end
theorem Xo{R:V->Value->Prop}{cv:Value}(h:Rel D w R (.nd true true sz m g) cv fp)(h1:∀i k,i<m->k<sz->YX (g i k)=true):
  ∃Fy,Wa D w sz m g cv Fy/\(∀i k c,i<m->k<sz->Fy i k c->fp c)/\∀i k i' k' c,i<m->k<sz->i'<m->k'<sz->(i≠i'\/k≠k')->Fy i k c->¬Fy i' k' c:=by
 rcases h with⟨h0,_,Y,_⟩|⟨b,o,cap,F0,H,_,_,_,hc,_,W⟩
 .obtain⟨a,rfl⟩:=B5 Y
  subst h0;exact⟨λ_ _=>noF,⟨a,0,rfl,λh=>by omega⟩,λi k c hi=>by omega,λi k i' k' c hi=>by simp⟩
 .obtain⟨_,_,hd,Z⟩:=W rfl
  refine⟨F0,⟨some ⟨b,o,none⟩,cap,H,λ_=>⟨b,o,rfl,λi k hi B=>?_⟩⟩,λi k c hi B hF=>(Z c).2 (.inr ⟨i,k,hi,B,hF⟩),hd⟩
  obtain⟨x,U,A⟩:=hc i k hi B;exact⟨x,U,H7 A (h1 i k hi B),A⟩
theorem YO{Al:Nat->Nat->Prop}{P:Program}{σ:List V}{o:Oper}{t:Nat->V}{ty e:TypeId}{x:Operand}{bytes n m:Nat}{zero:List Value}{f g:Nat->Nat->V}(ho:o.op=.call ⟨.builtin .append,#[x,y],#[ty,ty]⟩)(hd:o.dst=some d)(hdn:d<N)(hsl:slI P ty=some ⟨e,sz,bytes,zero⟩)(Z:0<sz)
  (hx:Sub (Ms.ev ⟨t,σ⟩ x) (.nd true true sz n f)) (hap:CZ ([x,y].map (IC t))=true)
  (hy:∀(C:Ctx) (ρ:Nat->Value) (F:Nat->Nat->Prop) (a:Act) (w:World) (D:Nat->Prop) (T:Nat->Nat->Prop) (A:Nat->V),(∀z∈Hk o.op,A z=t z)->PR C N σ ρ F A a w D T->
   ∃Fy,Wa D w sz m g (a.eval y) Fy/\(∀i k c,i<m->k<sz->Fy i k c->opF A T [x,y] 1 c)/\∀i k i' k' c,i<m->k<sz->i'<m->k'<sz->(i≠i'\/k≠k')->Fy i k c->¬Fy i' k' c)
  (h63:n+m<=maxLen) (hb:(n+m)*bytes<=140737488355328):
  LQ P N σ Al o t ((Bc t [x,y]).map λy=>(y,.all)) (.nd true true sz (n+m) (V8 n f g)):=by
 intro C ρ F a w D T A hag hal Y next Q hn
 have H:∀z,Operand.tmp z∈ [x,y]->A z=t z:=λz hz=>hag z (.inl<|Dr (by rw[ho];simp[Op.operands,Call.operands]at hz⊢;simpa using hz))
 have hevx:Ms.ev ⟨A,σ⟩ x=Ms.ev ⟨t,σ⟩ x:=by
  cases x with
  |tmp z=>exact H z (by simp)
  |const v=>rfl
  |global g=>rfl
  |func f=>rfl
 have U:[x,y].map (IC A)=[x,y].map (IC t):=Dm λu hu z e=>H z (e▸hu)
 have hap':CZ ([x,y].map (IC A))=true:=by rw[U];exact hap
 have htk:Bc A [x,y]=Bc t [x,y]:=by rw[BN,BN,U]
 have B:=Y.opF_rel (xs:=[x,y]) (j:=0) (x:=x) rfl;rw[hevx]at B;have hrx1:=Rel.sub hx B;have B:Rel D w noR (.nd true true sz n f) (a.eval x) (opF A T [x,y] 0):=hrx1;obtain⟨Fy,hrd,W,hFd⟩:=hy C ρ F a w D T A (λz hz=>hag z (.inl hz)) Y
 have oD:∀j b,opF A T [x,y] j b->¬D b:=λj b hj=>by obtain⟨z,_,_,hT⟩:=hj;exact Y.tD z b hT
 obtain⟨v',w',fp,hrun,hos,htp,hout,hdr,hsz,hbl,hr',hfp⟩:=Rel.append (P:=P) (ty:=o.type) hsl Z B (λb hb h=>oD 0 b h hb) Y.wr.Dlt hrd (λi k c hi hk hF=>⟨oD 1 c (W i k c hi hk hF),λh=>Y.opF_dis hap' 0 1 c (by decide) h (W i k c hi hk hF)⟩) hFd h63 hb
 unfold Oper.wp execOp;simp only[ho,resolve,invoke,builtin,Sem.run_bind,Sem.run_pure,Result.andThen_ok,List.map_toArray,map_cons,List.map_nil,hrun];show next (a.put o.dst v') w'
 rw[hd]at hn⊢
 obtain⟨T',hp',hT'⟩:=Y.own (xs:=[x,y]) (d:=d) hos htp hout hdr hsz (λc hc hG=>hbl c hc (hG 0)) hr' (λb hb=>by
  rcases hfp b hb with h1|⟨i,k,hi,hk,h1⟩|h1
  .exact .inl ⟨0,h1⟩
  .exact .inl ⟨1,W i k b hi hk h1⟩
  .exact .inr h1) hdn
 rw[htk]at hp';exact hn _ _ _ _ hp' hT' λ_ hx=>BD hx
end Go.Ve

