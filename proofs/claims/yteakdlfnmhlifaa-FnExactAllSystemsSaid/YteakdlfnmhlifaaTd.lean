/- The typed machine. -/
import Derived.Test.YteakdlfnmhlifaaTc
import Derived.Test.YteakdlfnmhlifaaVr
import Derived.Test.YteakdlfnmhlifaaXa
import Derived.Test.YteakdlfnmhlifaaVwa
open Nat(ble beq blt)
open Bool(or_eq_true)
open List(map_append all_map mem_singleton map_cons all_cons replicate range mem_append getElem_mem map_congr_left length_take getElem?_take length_drop any_eq_false map_drop map_take mem_cons mem_map map_map)
open Option(getD_none getD_some)
set_option linter.all false
namespace Go.Ve
variable{ps:Array (Nat×Operand)}{y:Cl}{r:List Aa}{l:List Cl}{m:List V}{d:Nat}{lo:Option Operand}{P:Program}{s:St}{a:TR}{Θ:Tab}{t:TypeId}
def CO:List V->List V->Prop
 |[],[]=>True
 |a::l,b::m=>Sub a b/\CO l m
 |_,_=>False
def CO.len:∀{l m:List V},CO l m->l.length=m.length
 |[],[],_=>rfl
 |_::_,_::_,h=>by simp[CO.len h.2]
 |[],_::_,h=>h.elim
 |_::_,[],h=>h.elim
def CO.getD:∀{l m:List V} (_:CO l m) (k:Nat),Sub (l.getD k .dead) (m.getD k .dead)
 |[],[],_,_=>Sub.refl _
 |_::_,_::_,h,0=>h.1
 |_::_,_::_,h,k+1=>CO.getD h.2 k
 |[],_::_,h,_=>h.elim
 |_::_,[],h,_=>h.elim
def CO.app:∀{l m B A:List V},CO l m->CO B A->CO (l++B) (m++A)
 |[],[],_,_,_,h=>h
 |_::_,_::_,_,_,h,h'=>⟨h.1,CO.app h.2 h'⟩
 |[],_::_,_,_,h,_=>h.elim
 |_::_,[],_,_,h,_=>h.elim
theorem CO.mk{l:List V}(h:CO l m):Sub (Ah l) (Ah m):=by
 unfold Ah;rw[h.len];exact⟨_,rfl,λk _=>h.getD k⟩
theorem CO.obj{o:Bool}{l:List V}(h:CO l m):Sub (A3 o l) (A3 o m):=by
 unfold A3;rw[h.len];refine⟨_,rfl,λi k hi _=>?_⟩
 obtain rfl:i=0:=by omega
 exact h.getD k
theorem Eqv.symm:∀{v v':V},Eqv v v'->Eqv v' v:=by
 intro v
 induction v with
 |c v=>intro v' h;cases h;rfl
 |dead=>intro v' h;cases h;rfl
 |many t n f A=>intro v' h;obtain⟨g,rfl,h⟩:=h;exact⟨f,rfl,λk B=>A k (h k B)⟩
 |nd s own sz n f A=>intro v' h;obtain⟨g,rfl,h⟩:=h;exact⟨f,rfl,λi k hi B=>A i k (h i k hi B)⟩
 |rs id p off len=>intro v' h;cases h;rfl
 |rp id p i k=>intro v' h;cases h;rfl
 |rm id p=>intro v' h;cases h;rfl
 |mp own l=>intro v' h;cases h;rfl
def Pm(a b:Nat):Nat:=bif ble a b then a else b
theorem ID(a b:Nat):Pm a b=min a b:=by
 unfold Pm;cases h:ble a b with
 |true=>simp_all
 |false=>
  have:¬a<=b:=λe=>by rw[Nat.ble_eq_true_of_le e]at h;grind
  grind
def dOK(t:Ty)(d A:Nat):Bool:=beq t.dep 0||beq d A
theorem Kw{t:Ty}{A:Nat}(h:dOK t d A=true):min d t.dep=min A t.dep:=by
 unfold dOK at h;rw[or_eq_true]at h;rcases h with h|h
 .simp_all
 simp_all
def fit(A:Nat):Cl->Cl
 |.c t d x=>bif beq (Pm d t.dep) (Pm A t.dep)then .c t A x else .c t d x
 |y=>y
def DM(t:Ty)(d:Nat):Cl->Option t.T
 |.c A B x=>if h:A=t then(bif dOK t B d then some (h▸x)else none)else none
 |.nil=>match t with
  |.sl _=>some []
  |_=>none
 |_=>none
def K3(t:Ty)(d:Nat):List Cl->Option (t.T×List Cl)
 |c::l=>match DM t d c with
  |some x=>some (x,l)
  |none=>none
 |[]=>none
def Adl:(t:Ty)->Nat->List Cl->Option (t.T×List Cl)
 |.unit,_,l=>some ((),l)
 |.pair a b,d,l=>match Adl a d l with
  |some (x,l)=>match Adl b d l with
   |some (y,l)=>some ((x,y),l)
   |none=>none
  |none=>none
 |.int k,d,l=>K3 (.int k) d l
 |.bool,d,l=>K3 .bool d l
 |.str,d,l=>K3 .str d l
 |.sl t,d,l=>K3 (.sl t) d l
 |.ptr t,d,l=>K3 (.ptr t) d l
 |.clo g t,d,l=>K3 (.clo g t) d l
 |.osl t,d,l=>K3 (.osl t) d l
 |.mp k v,d,l=>K3 (.mp k v) d l
def IB(t:Ty)(d:Nat)(l:List Cl):Option t.T:=match Adl t d l with
 |some (x,[])=>some x
 |_=>none
theorem J5{t:Ty}{c:Cl}{x:t.T}(h:DM t d c=some x)(r:List Aa):Sub (c.v r) (cV t d x)/\c.v r=c.v0:=by
 unfold DM at h;split at h
 .rename_i A F H
  split at h
  case isFalse=>grind
  rename_i B;subst B;cases hd:dOK A F d with
  |false=>grind
  |true=>
   rw[hd]at h;cases h;exact⟨Sub.of_eq (Ma (Kw hd)),rfl⟩
 .split at h
  .cases h
   exact⟨.inr ⟨rfl,_,_,_,rfl⟩,rfl⟩
  grind
 grind
theorem DL{t:Ty}(F:t.one=true){A:List Cl}{x:t.T}(h:K3 t d l=some (x,A))(r:List Aa):∃m,l=m++A/\CO (m.map (Cl.v r)) (tyV t d x)/\m.map (Cl.v r)=m.map Cl.v0:=by
 unfold K3 at h;split at h
 .rename_i c H
  split at h
  .rename_i y B
   cases h;obtain⟨W,U⟩:=J5 B r;exact⟨[c],rfl,by rw[Bm F];trivial,by grind⟩
  grind
 grind
theorem Ua(r:List Aa):∀(t:Ty) (d:Nat) (l A:List Cl) (x:t.T),Adl t d l=some (x,A)->∃m,l=m++A/\CO (m.map (Cl.v r)) (tyV t d x)/\m.map (Cl.v r)=m.map Cl.v0
 |.unit,d,l,A,x,h=>by cases h;exact⟨[],rfl,trivial,rfl⟩
 |.int k,d,l,A,x,h=>DL rfl h r
 |.bool,d,l,A,x,h=>DL rfl h r
 |.str,d,l,A,x,h=>DL rfl h r
 |.sl t,d,l,A,x,h=>DL rfl h r
 |.ptr t,d,l,A,x,h=>DL rfl h r
 |.clo g t,d,l,A,x,h=>DL rfl h r
 |.osl t,d,l,A,x,h=>DL rfl h r
 |.mp k v,d,l,A,x,h=>DL rfl h r
 |.pair a b,d,l,A,x,h=>by
  unfold Adl at h;split at h
  .rename_i y B Y
   split at h
   .rename_i z l2 W
    cases h;obtain⟨U,e1,s1,t1⟩:=Ua r a d l B y Y;obtain⟨H,Z,F,t2⟩:=Ua r b d B A z W;subst Z;subst e1;exact⟨U++H,by simp,by rw[map_append];exact s1.app F,by grind⟩
   grind
  grind
theorem Dd{t:Ty}{x:t.T}(h:IB t d l=some x)(r:List Aa):CO (l.map (Cl.v r)) (tyV t d x)/\l.map (Cl.v r)=l.map Cl.v0:=by
 unfold IB at h;split at h
 .rename_i y A
  cases h;obtain⟨m,e,F,B⟩:=Ua r t d l [] x A
  grind
 grind
def Jx(r:List Aa):∀t:Ty,(Ii t).map (Cl.v r)=(BX t).map .c
 |.int _=>rfl
 |.bool=>rfl
 |.str=>rfl
 |.sl _=>rfl
 |.ptr _=>rfl
 |.unit=>rfl
 |.clo _ _=>rfl
 |.osl _=>rfl
 |.mp _ _=>rfl
 |.pair a b=>by simp[Ii,BX,Jx r a,Jx r b]
def Po:∀t:Ty,CO ((BX t).map .c) ((Wj t).map Cl.v0)
 |.int _=>⟨Sub.refl _,trivial⟩
 |.bool=>⟨Sub.refl _,trivial⟩
 |.str=>⟨Sub.refl _,trivial⟩
 |.sl _=>⟨.inr ⟨rfl,_,_,_,rfl⟩,trivial⟩
 |.ptr _=>⟨Sub.refl _,trivial⟩
 |.clo _ _=>⟨Sub.refl _,trivial⟩
 |.osl _=>⟨.inr ⟨rfl,_,_,_,rfl⟩,trivial⟩
 |.mp _ _=>⟨Sub.refl _,trivial⟩
 |.unit=>trivial
 |.pair a b=>by simp[BX,Wj,map_append];exact(Po a).app (Po b)
def Ty.noPtr:Ty->Bool
 |.ptr _=>false
 |.clo _ _=>false
 |.osl _=>false
 |.mp _ _=>false
 |.pair a b=>a.noPtr&&b.noPtr
 |_=>true
def Pn(d:Nat):∀t:Ty,t.noPtr=true->CO ((BX t).map .c) (tyV t d t.dflt)
 |.int _,_=>⟨Sub.refl _,trivial⟩
 |.bool,_=>⟨Sub.refl _,trivial⟩
 |.str,_=>⟨Sub.refl _,trivial⟩
 |.sl _,_=>⟨.inr ⟨rfl,_,_,_,rfl⟩,trivial⟩
 |.unit,_=>trivial
 |.pair a b,h=>by
  simp[Ty.noPtr,bAE]at h;simp[BX,tyV];exact(Pn d a h.1).app (Pn d b h.2)
def Ht:∀t:Ty,(BX t).length=t.w
 |.int _=>rfl
 |.bool=>rfl
 |.str=>rfl
 |.sl _=>rfl
 |.ptr _=>rfl
 |.unit=>rfl
 |.clo _ _=>rfl
 |.osl _=>rfl
 |.mp _ _=>rfl
 |.pair a b=>by simp[BX,Ty.w,Ht a,Ht b]
def Cl.plain:Cl->Bool
 |.dead=>false
 |.c .unit _ _=>false
 |.c (.pair _ _) _ _=>false
 |.c (.clo _ _) _ _=>false
 |.c (.osl _) _ _=>false
 |.c (.mp _ _) _ _=>false
 |y=>!y.own
def Sl.cells:Sl->Option (List Cl)
 |.one y=>bif y.plain then some [y]else none
 |.agg l=>bif l.all Cl.plain then some l else none
 |_=>none
theorem Xz(h:y.plain=true):one1 (y.v r)=true/\AJ (y.v r)=false/\Bs (y.v r)=true/\Go.Ve.cellsV (y.v r)=[y.v r]:=by
 cases y with
 |c t d x=>cases t<;>cases d<;>first|trivial|rfl
 |dead=>cases h
 |_=>trivial
theorem CL{y:Sl}(h:y.cells=some l):Bs (y.v r)=true/\Go.Ve.cellsV (y.v r)=l.map (Cl.v r)/\l.all Cl.plain=true:=by
 unfold Sl.cells at h;split at h
 .rename_i c
  cases A:c.plain with
  |false=>grind
  |true=>
   rw[A]at h;cases h;obtain⟨_,_,U,H⟩:=Xz A;exact⟨U,H,by grind⟩
 .rename_i B
  cases A:B.all Cl.plain with
  |false=>grind
  |true=>
   rw[A]at h;cases h;refine⟨?_,Pc,A⟩;show Bs (Ah _)=true;rw[XA,all_map,aET];intro y F;exact(Xz (aET.1 A y F)).1
 grind
def Sl.cellsF:Sl->Option (List Cl)
 |.one (.c (.clo g t) d x)=>some [.c (.clo g t) d x]
 |y=>y.cells
theorem Pe{y:Sl}(h:y.cellsF=some l):Bs (y.v r)=true/\Go.Ve.cellsV (y.v r)=l.map (Cl.v r):=by
 unfold Sl.cellsF at h;split at h
 .rename_i g t d x
  cases h;refine⟨?_,rfl⟩;show(!AJ (cV (.clo g t) d x))=true;have e:AJ (cV (.clo g t) d x)=false:=Hv (.clo g t) x _ (mem_singleton.2 rfl)
  grind
 .obtain⟨B,A,_⟩:=CL (r:=r) h
  grind
def Adj(cells:List Cl):Nat->List Cl->List Cl
 |_,[]=>cells
 |off,y::l=>Adj (cells.set off y) (off+1) l
theorem AbY:∀(l cells:List V) (off k:Nat),((l.zipIdx k).foldl (λcs (c,j)=>cs.set (off+j) c) cells)=Zo cells (off+k) l:=by
 have B:∀(l cells:List V) (off k:Nat),((l.zipIdx k).foldl (λcs (c,j)=>cs.set (off+j) c) cells)=((l.zipIdx 0).foldl (λcs (c,j)=>cs.set (off+k+j) c) cells):=by
  intro l
  induction l with
  |nil=>simp
  |cons v l A=>
   intro cells off k;simp[Nat.add_zero];rw[A _ off (k+1),A _ (off+k) (0+1)];rfl
 trivial
def W6{v:V}{l cells:List V}{off:Nat}:Zo cells off (v::l)=Zo (cells.set off v) (off+1) l:=by
 show((v::l).zipIdx 0).foldl _ cells=_;exact AbY l _ off (0+1)
def W8{r:List Aa}:∀(l cells:List Cl) (off:Nat),(Adj cells off l).map (Cl.v r)=Zo (cells.map (Cl.v r)) off (l.map (Cl.v r))
 |[],cells,off=>rfl
 |y::l,cells,off=>by
  rw[map_cons,W6];show(Adj (cells.set off y) (off+1) l).map (Cl.v r)=_;rw[W8 l,List.map_set]
def Vc(place:Nat->Option (Nat×Nat))(cells:List Cl):List (Nat×Option Sl)->Option (List Cl)
 |[]=>some cells
 |(i,y)::rest=>match place i,y with
  |some (off,size),some y=>match y.cellsF with
   |some l=>bif beq l.length size&&ble (off+size) cells.length then Vc place (Adj cells off l) rest else none
   |none=>none
  |_,_=>none
theorem Mu{s:St}{place:Nat->Option (Nat×Nat)}:∀(ps:List (Nat×Operand)) (cells l:List Cl),Vc place cells (ps.map λp=>(p.1,s.ev p.2))=some l->
  (ps.map λp=>(p.1,s.den.ev p.2)).all (λp=>Bs p.2)=true/\B8 place (cells.map (Cl.v s.r)) (ps.map λp=>(p.1,s.den.ev p.2))=some (l.map (Cl.v s.r))
 |[],cells,l,h=>by cases h;exact⟨rfl,rfl⟩
 |(i,x)::ps,cells,l,h=>by
  rw[map_cons]at h;unfold Vc at h;split at h
  case h_2=>cases h
  rename_i off size y A F;split at h
  case h_2=>cases h
  rename_i m hm;obtain⟨B,h⟩:=A1 h;simp only[bAE]at B;have U:=bqE B.1;have H:=blE B.2;obtain⟨g1,g2⟩:=Pe (r:=s.r) hm;obtain⟨k1,k2⟩:=Mu ps _ _ h;rw[map_cons,all_cons];refine⟨by simp only[Bg F,g1,Bool.true_and];exact k1,?_⟩
  unfold B8;simp only[A,Bg F,g2];rw[if_neg (by grind),<-W8]
  exact k2
def WW:Option TI->List (Nat×Option Sl)->Option TR
 |some i,ps=>bif i.agg then(match Vc (λk=>i.places[k]?) (Ii i.ty) ps with
   |some l=>some (.ok (.agg l))
   |none=>none)
  else none
 |none,_=>none
theorem NZ(A:Θ.OK P)(h:WW (Θ.look t) (ps.toList.map λp=>(p.1,s.ev p.2))=some a):QS P s (.build t ps) a.y:=by
 unfold WW at h;split at h
 case h_2=>grind
 rename_i i hi;cases B:i.agg with
 |false=>grind
 |true=>
  rw[B]at h;split at h
  case h_2=>grind
  rename_i l H;cases h;obtain⟨U,F⟩:=Mu _ _ _ H;show Lt (Abo P t) (ps.toList.map λp=>(p.1,s.den.ev p.2)) (SK s _)
  rw[A.bd hi,B];unfold Lt;rw[Jx]at F;simp only[if_true];rw[F];exact⟨U,Sub.refl _⟩
def OB(t:Ty)(d:Nat):Nat->List Cl->Option (List t.T)
 |0,[]=>some []
 |0,_::_=>none
 |n+1,l=>match Adl t d l with
  |some (x,l)=>match OB t d n l with
   |some xs=>some (x::xs)
   |none=>none
  |none=>none
theorem PV{t:Ty}(r:List Aa):∀(n:Nat) (l:List Cl) (xs:List t.T),OB t d n l=some xs->xs.length=n/\l.map (Cl.v r)=l.map Cl.v0/\
  ∀i k,i<n->k<t.w->Sub ((l.map (Cl.v r)).getD (i*t.w+k) .dead) ((tyV t d (xs.getD i t.dflt)).getD k .dead):=by
 intro n
 induction n with
 |zero=>
  intro l xs h;cases l with
  |nil=>cases h;exact⟨rfl,rfl,λi k hi=>by omega⟩
  |cons y l=>cases h
 |succ n F=>
  intro l xs h;unfold OB at h;split at h
  case h_2=>cases h
  rename_i x A W;split at h
  case h_2=>cases h
  rename_i ys U;cases h;obtain⟨m,e,s1,B⟩:=Ua r t d l A x W;obtain⟨g1,g2,Y⟩:=F A ys U;subst e;have hm:(m.map (Cl.v r)).length=t.w:=by rw[s1.len,Ax]
  refine⟨by simp[g1],by simp[B,g2],λi k hi H=>?_⟩
  rw[map_append];cases i with
  |zero=>
   simp only[Nat.zero_mul,Nat.zero_add,List.getD_cons_zero];have:=s1.getD k;rw[gDE,gAL (by omega),<-gDE]
   exact this
  |succ i=>
   have:=Y i k (by omega) H
   rw[List.getD_cons_succ];have e:(i+1)*t.w+k-(m.map (Cl.v r)).length=i*t.w+k:=by rw[hm,Nat.add_mul];omega
   rw[gDE,gAR (by rw[hm,Nat.add_mul];omega),e,<-gDE]
   exact this
def Ab6(n:Nat)(l:List Cl):List Cl:=match n with
 |0=>[]
 |n+1=>l++Ab6 n l
def Yg:∀(n w:Nat) (l:List V),l.length=w->0<w->∀j,j<n*w->((replicate n l).flatten).getD j .dead=l.getD (j % w) .dead:=by
 intro n w l B F
 induction n with
 |zero=>simp
 |succ n A=>
  intro j hj;rw[List.replicate_succ,List.flatten_cons];by_cases h:j<w
  .rw[gDE,gAL (by omega),<-gDE,Nat.mod_eq_of_lt h]
  .have:=Nat.add_one_mul n w
   rw[gDE,gAR (by omega),<-gDE,B,A (j-w) (by omega),<-Nat.mod_eq_sub_mod (by omega)]
theorem Xf(r:List Aa)(t:Ty)(n:Nat)(A:0<t.w):(Ab6 n (Ii t)).map (Cl.v r)=(range (n*t.w)).map λj=>.c ((BX t).getD (j % t.w) undef):=by
 have e:(Ab6 n (Ii t)).map (Cl.v r)=(replicate n ((BX t).map V.c)).flatten:=by
  induction n with
  |zero=>rfl
  |succ n B=>
   show((Ii t)++Ab6 n (Ii t)).map (Cl.v r)=_;rw[map_append,B,Jx,List.replicate_succ,List.flatten_cons]
 have F:((BX t).map V.c).length=t.w:=by rw[List.length_map,Ht]
 rw[e];apply List.ext_getElem
 .simp_all
 .intro j U H
  have hj:=by simpa using H
  have g:=Yg n t.w _ F A j hj;rw[gDE,gEE U]at g;simp at g;rw[g];have hm:j % t.w<(BX t).length:=by rw[Ht];exact Nat.mod_lt _ A
  simp[hm]
def Ty.noO:Ty->Bool
 |.osl _=>false
 |.mp _ _=>false
 |.clo _ t=>t.noO
 |.pair a b=>a.noO&&b.noO
 |_=>true
theorem Jo:∀(t:Ty) (x:t.T),t.noO=true->∀v∈tyV t 0 x,B7 v=true
 |.int _,_,_,v,h=>by simp[tyV]at h;subst h;rfl
 |.bool,_,_,v,h=>by simp[tyV]at h;subst h;rfl
 |.str,_,_,v,h=>by simp[tyV]at h;subst h;rfl
 |.sl _,_,_,v,h=>by simp only[tyV,mem_singleton]at h;subst h;rfl
 |.ptr _,_,_,v,h=>by simp only[tyV,mem_singleton]at h;subst h;rfl
 |.unit,_,_,v,h=>by trivial
 |.pair a b,x,ho,v,h=>by
  simp only[Ty.noO,bAE]at ho;simp only[tyV,mem_append]at h;exact h.elim (Jo a x.1 ho.1 v) (Jo b x.2 ho.2 v)
 |.osl _,_,ho,_,_=>by cases ho
 |.mp _ _,_,ho,_,_=>by cases ho
 |.clo g t,x,ho,v,h=>by
  simp only[tyV,mem_singleton]at h;subst h;show((range t.w).all λk=>B7 ((tyV t 0 x).getD k .dead))=true
  rw[aET];intro k A;have A:k<(tyV t 0 x).length:=by rw[Ax];grind
  rw[gDE,gEE A];exact Jo t x ho _ (getElem_mem A)
def Cl.imm:Cl->Bool
 |.c .unit _ _=>false
 |.c (.pair _ _) _ _=>false
 |.c (.clo _ _) _ _=>false
 |.c (.osl _) _ _=>false
 |.c (.mp _ _) _ _=>false
 |.c t d x=>!(Cl.c t d x).own
 |.nil=>true
 |.nilp=>true
 |.nilf=>true
 |.nilm=>true
 |.raw _ _=>true
 |_=>false
theorem Qc(h:y.imm=true):B7 (y.v r)=true/\y.v r=y.v0:=by
 cases y with
 |c t d x=>cases t<;>cases d<;>first|trivial|rfl
 |nil=>trivial
 |nilp=>trivial
 |nilf=>trivial
 |nilm=>trivial
 |raw _ _=>trivial
 |_=>cases h
def Cl.immF:Cl->Bool
 |.c (.clo _ t) _ _=>t.noO
 |y=>y.imm
theorem immF_v(h:y.immF=true):B7 (y.v r)=true:=by
 unfold Cl.immF at h;split at h
 .rename_i g t d x
  exact Jo (.clo g t) x h _ (mem_singleton.2 rfl)
 .exact(Qc h).1
theorem AcD(h:l.all Cl.immF=true):(l.map (Cl.v r)).all B7=true:=by
 rw[all_map,aET];intro y A;exact immF_v (aET.1 h y A)
theorem imms_v(h:l.all Cl.imm=true):(l.map (Cl.v r)).all B7=true/\l.map (Cl.v r)=l.map Cl.v0:=by
 refine⟨?_,map_congr_left λy A=>(Qc (aET.1 h y A)).2⟩
 rw[all_map,aET];intro y A;exact(Qc (aET.1 h y A)).1
def Hh(n:Nat)(ps:List (Nat×Option Sl)):Option TI->Option TR
 |some j=>bif blt 0 j.ty.w&&ble (n*j.ty.w) 16777216 then(bif beq n 0 then(match ps with
  |[]=>some (.ok (.one (.c (.sl j.ty) (j.sd+1) [])))
  |_::_=>none)else match Vc (λi=>some (i*j.ty.w,j.ty.w)) (Ab6 n (Ii j.ty)) ps with
   |some l=>bif l.all Cl.immF then(match OB j.ty j.sd n l with
    |some xs=>some (.ok (.one (.c (.sl j.ty) (j.sd+1) xs)))
    |none=>match OB j.ty 0 n l with
     |some xs=>some (.ok (.one (.c (.sl j.ty) 1 xs)))
     |none=>none)else none
   |none=>none)
  else none
 |none=>none
theorem Ip(W:Θ.OK P){n:Nat}(h:Hh n (ps.toList.map λp=>(p.1,s.ev p.2)) (((Θ.look t).bind (·.elem)).bind Θ.look)=some a):QS P s (.buildSlice t n ps) a.y:=by
 unfold Hh at h;split at h
 case h_2=>cases h
 rename_i j hj;obtain⟨e,B,_⟩:=DW W hj;cases H:(blt 0 j.ty.w&&ble (n*j.ty.w) 16777216)with
 |false=>rw[H]at h;cases h
 |true=>
  rw[H]at h;simp only[bAE]at H;have Y:=Mb H.1;have hn:=blE H.2;simp only[cond_true]at h;cases U:beq n 0 with
  |true=>
   rw[U]at h;simp only[cond_true]at h;have U:=bqE U;subst U;split at h
   case h_2=>cases h
   rename_i Z;cases h;have F:ps.toList=[]:=by simpa using Z
   show B2 (slI P t) (Ab3 P t) 0 (ps.toList.map λp=>(p.1,s.den.ev p.2)) (SK s _)
   rw[B,F];refine⟨rfl,⟨Y,hn⟩,?_⟩;simp only[Nat.zero_mul,List.range_zero,List.map_nil,B8];refine⟨rfl,?_⟩;refine(Eqv.sub (Eqv.symm (MB (Ab3 P t) j.ty.w 0 _))).trans ?_;show Sub _ (arr true j.ty.w (tyV j.ty j.sd) j.ty.dflt []);exact⟨_,rfl,λi k hi hk=>by omega⟩
  |false=>
  rw[U]at h;simp only[cond_false]at h;split at h
  case h_2=>cases h
  rename_i l hl;obtain⟨hi,h⟩:=A1 h
  have key:∀(d:Nat) (xs:List j.ty.T),OB j.ty d n l=some xs->a=.ok (.one (.c (.sl j.ty) (d+1) xs))->QS P s (.buildSlice t n ps) a.y:=by
   intro d xs A ha;subst ha;obtain⟨h1,h2⟩:=Mu _ _ _ hl;rw[Xf s.r j.ty n Y]at h2;show B2 (slI P t) (Ab3 P t) n (ps.toList.map λp=>(p.1,s.den.ev p.2)) (SK s _)
   rw[B];refine⟨h1,⟨Y,hn⟩,?_⟩;rw[h2];refine⟨AcD hi,?_⟩;obtain⟨g1,g2,g3⟩:=PV s.r n l xs A;refine(Eqv.sub (Eqv.symm (MB (Ab3 P t) j.ty.w n _))).trans ?_;show Sub _ (arr true j.ty.w (tyV j.ty d) j.ty.dflt xs);unfold arr;rw[g1];exact⟨_,rfl,λi k hi hk=>g3 i k hi hk⟩
  split at h
  .rename_i xs A
   cases h;exact key _ xs A rfl
  .split at h
   case h_2=>cases h
   rename_i xs A;cases h;exact key 0 xs A rfl
def WX:Option TI->Option TR
 |some i=>bif blt 0 i.ty.w then some (.ok (.new (Wj i.ty)))else none
 |none=>none
theorem N1(A:Θ.OK P)(h:WX (Θ.look t)=some a):QS P s (.alloc t) a.y:=by
 unfold WX at h;split at h
 case h_2=>grind
 rename_i i hi;cases B:blt 0 i.ty.w with
 |false=>grind
 |true=>
  rw[B]at h;cases h;show Ot (tyI P t) (SK s _);rw[A.ty hi];exact⟨Mb B,(Po i.ty).obj⟩
def tBox:Option Sl->Option TR
 |some y=>match y.cells with
  |some l=>bif l.all Cl.imm then some (.ok (.new l))else some (.ok (.pk .bx l))
  |none=>none
 |none=>none
theorem Vd{x:Operand}(h:tBox (s.ev x)=some a):QS P s (.box t x) a.y:=by
 unfold tBox at h;split at h
 case h_2=>grind
 rename_i y H;split at h
 case h_2=>grind
 rename_i l U;cases A:l.all Cl.imm with
 |false=>
  rw[A]at h;cases h;obtain⟨F,B,_⟩:=CL U;show qBox (s.den.ev x) (SK s _);rw[Bg H];refine⟨F,.inr ?_⟩;rw[B];exact Sub.refl _
 |true=>
  rw[A]at h;cases h;obtain⟨F,B,_⟩:=CL U;obtain⟨g1,g2⟩:=imms_v (r:=s.r) A;show qBox (s.den.ev x) (SK s _);rw[Bg H];refine⟨F,.inl ⟨by grind,?_⟩⟩
  rw[B,g2];exact Sub.refl _
def AbN:Option TI->Option Sl->Option Sl->Option TR
 |some j,some (.one (.c (.int _) _ l)),some (.one (.c (.int _) _ c))=>
  bif blt 0 j.ty.w&&j.ty.noPtr then some (.cnd (0<=l/\l<=c/\(j.bytes:Int)*c<=281474976710656/\c<=9223372036854775807) inferInstance (.one (.c (.sl j.ty) (j.sd+1) (AaP (K4 l) j.ty.dflt))))else none
 |_,_,_=>none
theorem VG(A:Bool){t:Ty}(d n:Nat)(h:t.noPtr=true):Sub (XO A t.w n (BX t)) (cV (.sl t) (d+1) (replicate n t.dflt)):=by
 have B:Sub (arr true t.w (λx=>x) [] (replicate n ((BX t).map .c))) (cV (.sl t) (d+1) (replicate n t.dflt)):=by
  have U:cV (.sl t) (d+1) (replicate n t.dflt)=arr true t.w (tyV t d) t.dflt (replicate n t.dflt):=by rfl
  rw[U];unfold arr;rw[List.length_replicate,List.length_replicate];refine⟨_,rfl,λi k hi _=>?_⟩
  have H:(replicate n ((BX t).map V.c)).getD i []=(BX t).map .c:=by grind
  have F:(replicate n t.dflt).getD i t.dflt=t.dflt:=by grind
  show Sub (((replicate n ((BX t).map V.c)).getD i []).getD k .dead) ((tyV t d ((replicate n t.dflt).getD i t.dflt)).getD k .dead);rw[H,F];exact(Pn d t h).getD k
 trivial
theorem Pz(B:Θ.OK P){l c:Operand}(h:AbN (((Θ.look t).bind (·.elem)).bind Θ.look) (s.ev l) (s.ev c)=some a)(H:a.p):QS P s (.makeSlice t l c) a.y:=by
 unfold AbN at h;split at h
 case h_2=>grind
 rename_i j _ _ Y _ _ Z hj U W;obtain⟨e,F,_⟩:=DW B hj;cases A:(blt 0 j.ty.w&&j.ty.noPtr)with
 |false=>grind
 |true=>
  rw[A]at h;simp only[bAE]at A;cases h;show Xu (slI P t) (Ab3 P t) (s.den.ev l) (s.den.ev c) (SK s _);rw[F,Bg U,Bg W];exact⟨Mb A.1,H,VG _ _ _ A.2⟩
def Lh:Option (Option Sl)->Option (Option Int)
 |none=>some none
 |some (some (.one (.c (.int _) _ n)))=>some (some n)
 |_=>none
def WH(s:St):Option TI->Option TI->Option Sl->Option (Option Int)->Option (Option Int)->Option TR
 |some i,_,some (.one (.c .str _ b)),some lo,some hi=>
  bif i.str then some (.cnd (0<=lo.getD 0/\lo.getD 0<=hi.getD (ofN (PG b))/\hi.getD (ofN (PG b))<=ofN (PG b)) inferInstance (.one (.c .str 0 (cutS b (K4 (lo.getD 0)) (K4 (hi.getD (ofN (PG b))))))))else none
 |some i,some j,some (.one (.c (.sl t) 0 xs)),some lo,some hi=>
  bif beq t.w j.ty.w&& !i.str then some (.cnd (0<=lo.getD 0/\lo.getD 0<=hi.getD (ofN (IE xs))/\hi.getD (ofN (IE xs))<=ofN (IE xs)) inferInstance
   (.one (.c (.sl t) 0 (match lo,hi with
    |none,none=>xs
    |some l,none=>Qh (K4 l) xs
    |none,some h=>Ps (K4 h) xs
    |some l,some h=>Ps (K4 h-K4 l) (Qh (K4 l) xs)))))else none
 |some i,some j,some (.one (.rf id p)),some lo,some hi=>
  match Ac s.r id p with
  |.arr _ t _ xs=>bif beq t.w j.ty.w&& !i.str then some (.cnd (0<=lo.getD 0/\lo.getD 0<=hi.getD (ofN (IE xs))/\hi.getD (ofN (IE xs))<=ofN (IE xs)) inferInstance
    (.one (.rs id p (K4 (lo.getD 0)) (K4 (hi.getD (ofN (IE xs)))-K4 (lo.getD 0)))))else none
  |_=>none
 |some i,some j,some (.one (.rs id p off len)),some lo,some hi=>
  match Ac s.r id p with
  |.arr _ t _ _=>bif beq t.w j.ty.w&& !i.str then some (.cnd (0<=lo.getD 0/\lo.getD 0<=hi.getD (ofN len)/\hi.getD (ofN len)<=ofN len) inferInstance
    (.one (.rs id p (off+K4 (lo.getD 0)) (K4 (hi.getD (ofN len))-K4 (lo.getD 0)))))else none
  |_=>none
 |_,_,_,_,_=>none
theorem CS{l:Option Int}(h:Lh (lo.map s.ev)=some l)(d:Int):bnd d (lo.map s.den.ev)=some (l.getD d):=by
 cases lo with
 |none=>cases h;rfl
 |some x=>
  simp at h⊢;unfold Lh at h;split at h
  .grind
  .rename_i A
   cases h;simp at A;rw[Bg A];rfl
  grind
theorem NS{s:St}(hΘ:Θ.OK P){t:TypeId}{x:Operand}{lo hi:Option Operand}{a:TR}
  (h:WH s (Θ.look t) (((Θ.look t).bind (·.elem)).bind Θ.look) (s.ev x) (Lh (lo.map s.ev)) (Lh (hi.map s.ev))=some a) (hp:a.p):QS P s (.slice t x lo hi none) a.y:=by
 unfold WH at h;have H:∀y,Lr (slK P t) (s.r.map Aa.v) (s.den.ev x) (lo.map s.den.ev) (hi.map s.den.ev) (SK s y)->QS P s (.slice t x lo hi none) y:=λy h=>⟨rfl,h⟩
 have Y:∀{i j:TI},Θ.look t=some i->((Θ.look t).bind (·.elem)).bind Θ.look=some j->i.str=false->slK P t=.slice j.ty.w:=by
  intro i j hi hj hs;rw[hΘ.sk hi,hs];rw[hi]at hj;simp only[Option.bind_some]at hj;rw[hj];rfl
 split at h
 case h_5=>cases h
 .rename_i i _ b l u hI Z B F
  obtain⟨hb,h⟩:=A1 h;cases h;refine H _ ?_;rw[hΘ.sk hI,hb,Bg Z];unfold Lr
  show(match bnd 0 (lo.map s.den.ev),bnd b.size (hi.map s.den.ev)with
   |some l,some h=>_
   |_,_=>False)
  rw[CS B,CS F];exact⟨hp,Sub.refl _⟩
 .rename_i i j A xs l u hI hj Z B F
  obtain⟨hb,h⟩:=A1 h;cases h;obtain⟨h1,U⟩:=IS hb;have U:i.str=false:=by simpa using U
  refine H _ ?_;rw[Y hI hj U,Bg Z]
  show(match bnd 0 (lo.map s.den.ev),bnd xs.length (hi.map s.den.ev)with
   |some l,some h=>_
   |_,_=>False)
  rw[CS B,CS F];refine⟨h1,hp,?_⟩;obtain⟨p1,p2,p3⟩:0<=l.getD 0/\l.getD 0<=u.getD xs.length/\u.getD xs.length<=xs.length:=hp;show Sub (V.nd true false A.w ((u.getD xs.length).toNat-(l.getD 0).toNat) λi k=>(tyV A 0 (xs.getD (i+(l.getD 0).toNat) A.dflt)).getD k .dead) (arr false A.w (tyV A 0) A.dflt _)
  have key:∀ys:List A.T,ys.length=(u.getD xs.length).toNat-(l.getD 0).toNat->(∀i,i<ys.length->ys.getD i A.dflt=xs.getD (i+(l.getD 0).toNat) A.dflt)->
    Sub (V.nd true false A.w ((u.getD xs.length).toNat-(l.getD 0).toNat) λi k=>(tyV A 0 (xs.getD (i+(l.getD 0).toNat) A.dflt)).getD k .dead) (arr false A.w (tyV A 0) A.dflt ys):=by
   intro ys hl hg;unfold arr;rw[hl];refine⟨_,rfl,λi k hi _=>?_⟩
   rw[hg i (by omega)]
   exact Sub.refl _
  cases l with
  |none=>cases u with
   |none=>exact key xs (by simp) λi hi=>by simp
   |some u=>
    simp only[getD_none,getD_some]at p1 p2 p3⊢;refine key _ ?_ λi hi=>?_
    .simp only[K4,length_take];simp;omega
    .simp only[K4,length_take]at hi
     have:i<u.toNat:=by omega
     simp[getElem?_take,this]
  |some l=>cases u with
   |none=>
    simp only[getD_none,getD_some]at p1 p2 p3⊢;refine key _ ?_ λi hi=>?_
    .simp
    .simp[Nat.add_comm]
   |some u=>
    simp only[getD_some]at p1 p2 p3⊢;refine key _ ?_ λi hi=>?_
    .simp only[K4,getD_some,length_take,length_drop];omega
    .simp only[K4,length_take,length_drop]at hi
     have:i<u.toNat-l.toNat:=by omega
     simp[getElem?_take,this,Nat.add_comm]
 .rename_i i j id p l u hI hj Z B F
  split at h
  case h_2=>cases h
  rename_i ro A d xs W;have hne:Ac s.r id p≠.dead:=by rw[W];simp
  obtain⟨hb,h⟩:=A1 h;cases h;obtain⟨h1,U⟩:=IS hb;have U:i.str=false:=by simpa using U
  refine H _ ?_;rw[Y hI hj U,Bg Z];have hl:(Ac s.r id p).len=xs.length:=by rw[W];rfl
  show(match bnd 0 (lo.map s.den.ev),bnd (Ac s.r id p).len (hi.map s.den.ev)with
   |some l,some h=>_
   |_,_=>False)
  rw[CS B,CS F,hl];refine⟨by rw[Cd (by rw[W];rfl),W];exact h1,hp,?_⟩
  show Sub (V.rs id p (0+(l.getD 0).toNat) _) (V.rs id p (l.getD 0).toNat _);rw[Nat.zero_add];exact Sub.refl _
 .rename_i i j id p off len l u hI hj Z B F
  split at h
  case h_2=>cases h
  rename_i ro A d xs W;have hne:Ac s.r id p≠.dead:=by rw[W];simp
  obtain⟨hb,h⟩:=A1 h;cases h;obtain⟨h1,U⟩:=IS hb;have U:i.str=false:=by simpa using U
  refine H _ ?_;rw[Y hI hj U,Bg Z]
  show(match bnd 0 (lo.map s.den.ev),bnd len (hi.map s.den.ev)with
   |some l,some h=>_
   |_,_=>False)
  rw[CS B,CS F];exact⟨by rw[Cd (by rw[W];rfl),W];exact h1,hp,Sub.refl _⟩
end Go.Ve


namespace Go.Ve
variable{b:Bool}{y y':Cl}{f:FuncId}{r:List Aa}{ys:List Sl}{g:Nat}{D fp:Nat->Prop}{t1 t2:Nat->Sl}{op:Op}{x:Operand}{P:Program}{s:St}{Θ:Tab}{t:Ty}{v:V}{R:V->Value->Prop}{cv:Value}{w:World}
def PT:List (Bool×Ty)->Ty
 |[]=>.unit
 |[p]=>p.2
 |p::q::l=>.pair p.2 (PT (q::l))
def vOf(b:Bool)(t:Ty)(d:Nat)(x:t.T):V:=if b then Ah (tyV t d x)else cV t d x
def CN:(l:List (Bool×Ty))->(PT l).T->List V
 |[],_=>[]
 |[p],x=>[vOf p.1 p.2 0 x]
 |p::q::l,x=>vOf p.1 p.2 0 x.1::CN (q::l) x.2
def RT:List (Bool×Nat×Ty)->Ty
 |[]=>.unit
 |[p]=>p.2.2
 |p::q::l=>.pair p.2.2 (RT (q::l))
def Ab4:(l:List (Bool×Nat×Ty))->(RT l).T->List V
 |[],_=>[]
 |[p],x=>[vOf p.1 p.2.2 p.2.1 x]
 |p::q::l,x=>vOf p.1 p.2.2 p.2.1 x.1::Ab4 (q::l) x.2
def Hj(l:List (Bool×Nat×Ty))(x:(RT l).T):V:=OA (Ab4 l x)
def isP(p:Bool×Nat×Ty):Bool:=!p.1&&match p.2.2 with
 |.ptr _=>true
 |_=>false
def YT(b:Bool)(p:Bool×Nat×Ty)(x:p.2.2.T):V:=bif b|| !isP p then vOf p.1 p.2.2 p.2.1 x else .c (.pointer none)
def Vm(b:Bool):(l:List (Bool×Nat×Ty))->(RT l).T->List V
 |[],_=>[]
 |[p],x=>[YT b p x]
 |p::q::l,x=>YT b p x.1::Vm b (q::l) x.2
def Xd:∀(l:List (Bool×Nat×Ty)) (x:(RT l).T),Vm true l x=Ab4 l x
 |[],_=>rfl
 |[_],_=>rfl
 |p::q::l,x=>congrArg (vOf p.1 p.2.2 p.2.1 x.1:: ·) (Xd (q::l) x.2)
def MH(b:Bool)(l:List (Bool×Nat×Ty))(x:(RT l).T):V:=OA (Vm b l x)
def Ir(l:List (Bool×Nat×Ty))(x:(RT l).T):MH true l x=Hj l x:=congrArg OA (Xd l x)
structure Sig where
 ps:List (Bool×Ty)
 rs:List (Bool×Nat×Ty)
def FT(P:Program)(f:FuncId)(S:Sig)(g:(PT S.ps).T->Option (RT S.rs).T):Prop:=∀x y,g x=some y->FC P f (CN S.ps x) (Hj S.rs y)
structure En where
 f:FuncId
 S:Sig
 g:(PT S.ps).T->Option (RT S.rs).T
variable{Γ:List En}
def look:List En->FuncId->Option En
 |[],_=>none
 |e::l,f=>bif beq e.f f then some e else look l f
def En.OK(P:Program)(e:En):Prop:=AE P e.f=true/\FT P e.f e.S e.g
def Id(P:Program)(Γ:List En):Prop:=∀e∈Γ,e.OK P
theorem FC.sub{P:Program}{f:FuncId}{args A:List V}{r:V}(h:FC P f args r)(F:CO A args):FC P f A r:=by
 intro w D cvs U hD B H;refine h w D cvs U hD (by rw[B,F.len]) λi hi=>Rel.sub (F.getD i) (H i (by rw[F.len];grind))
def FTN(P:Program)(f:FuncId)(S:Sig)(g:(PT S.ps).T->Option (Bool×(RT S.rs).T)):Prop:=∀x b y,g x=some (b,y)->FC P f (CN S.ps x) (MH b S.rs y)
structure EnN where
 f:FuncId
 S:Sig
 g:(PT S.ps).T->Option (Bool×(RT S.rs).T)
def EnN.OK(P:Program)(e:EnN):Prop:=AE P e.f=true/\FTN P e.f e.S e.g
def P9(s:St)(w:Nat):Cl->Option Cl
 |.c t _ x=>bif t.one then some (.c t 0 x)else none
 |.nil=>some .nil
 |.rf id p=>match Ac s.r id p with
  |.arr _ t _ xs=>some (.c (.sl t) 0 xs)
  |_=>none
 |.rs id p off len=>match Ac s.r id p with
  |.arr _ t _ xs=>some (.c (.sl t) 0 (Vi off len xs t.dflt))
  |_=>none
 |.rp id p j k=>match Ac s.r id p with
  |.obj _ l=>match j with
   |0=>bif ble (k+w) l.length then(match Hn ((l.drop k).take w)with
    |some ⟨t,x⟩=>some (.c (.ptr t) 0 x)
    |none=>none)else none
   |_+1=>none
  |.arr _ t _ xs=>bif ble (k+w) t.w then(match Hn (((Ar t 0 (Ado xs j t.dflt)).drop k).take w)with
   |some ⟨A,x⟩=>some (.c (.ptr A) 0 x)
   |none=>none)else none
  |_=>none
 |_=>none
theorem Uz(h:t.one=true)(d:Nat)(x:t.T):frz (cV t d x)=cV t 0 x:=by
 have:=Ba t d x;rw[Bm h,Bm h]at this
 grind
def Abs(v v':V):Prop:=Sub v v'\/∃sz A n f,v=.nd false false sz n f/\A<=sz/\Sub (.nd false false A n f) v'
theorem Rel.trunc{sz A n:Nat}{f:Nat->Nat->V}(h:Rel D w R (.nd false false sz n f) cv fp)(hs:A<=sz):Rel D w R (.nd false false A n f) cv fp:=by
 rcases h with h|⟨b,o,cap,F,Y,U,H,B,hr,hi,ho⟩
 .grind
 have hn:=B rfl;subst hn;refine .inr ⟨b,o,cap,F,Y,U,H,B,λi k hi hk=>?_,λhh=>?_,λh=>by cases h⟩
 .obtain rfl:i=0:=by omega
  obtain⟨x,Z,W⟩:=hr 0 k (by omega) (by omega)
  exact⟨x,by simpa using Z,W⟩
 grind
theorem Rel.sub1{v':V}(A:Abs v v')(h:Rel D w R v cv fp):Rel D w R v' cv fp:=by
 rcases A with A|⟨sz,B,n,f,rfl,F,A⟩
 .exact Rel.sub A h
 .exact Rel.sub A (h.trunc F)
def K9:List V->List V->Prop
 |[],[]=>True
 |a::l,b::m=>Abs a b/\K9 l m
 |_,_=>False
def K9.len:∀{l m:List V},K9 l m->l.length=m.length
 |[],[],_=>rfl
 |_::_,_::_,h=>by simp[K9.len h.2]
 |[],_::_,h=>h.elim
 |_::_,[],h=>h.elim
def K9.getD:∀{l m:List V} (_:K9 l m) (k:Nat),Abs (l.getD k .dead) (m.getD k .dead)
 |[],[],_,_=>.inl (Sub.refl _)
 |_::_,_::_,h,0=>h.1
 |_::_,_::_,h,k+1=>K9.getD h.2 k
 |[],_::_,h,_=>h.elim
 |_::_,[],h,_=>h.elim
theorem FC.sub1{P:Program}{f:FuncId}{args A:List V}{r:V}(h:FC P f args r)(F:K9 A args):FC P f A r:=by
 intro w D cvs U hD B H;refine h w D cvs U hD (by rw[B,F.len]) λi hi=>Rel.sub1 (F.getD i) (H i (by rw[F.len];grind))
theorem Jt{x:t.T}(h:v∈tyV t 0 x):Go.Ve.frz v=v:=by
 obtain⟨i,hi,rfl⟩:=List.getElem_of_mem h;have e:=Ba t 0 x
 grind
theorem De{σ:List V}:∀(t:Ty) (x:t.T),∀v∈tyV t 0 x,B6 σ v=v
 |.int _,_,v,h=>by simp[tyV]at h;subst h;rfl
 |.bool,_,v,h=>by simp[tyV]at h;subst h;rfl
 |.str,_,v,h=>by simp[tyV]at h;subst h;rfl
 |.sl t,x,v,h=>by
  have e:=Jt (x:=x) h;simp only[tyV,mem_singleton]at h;subst h;exact e
 |.ptr t,x,v,h=>by
  have e:=Jt (x:=x) h;simp only[tyV,mem_singleton]at h;subst h;exact e
 |.unit,_,v,h=>by simp[tyV]at h
 |.mp _ _,_,v,h=>by simp[tyV]at h;subst h;rfl
 |.pair a b,x,v,h=>by
  simp only[tyV,mem_append]at h;exact h.elim (De a x.1 v) (De b x.2 v)
 |.osl t,x,v,h=>by
  have e:=Jt (x:=x) h;simp only[tyV,mem_singleton]at h;subst h;cases x with
  |none=>rfl
  |some xs=>exact e
 |.clo g t,x,v,h=>by
  simp only[tyV,mem_singleton]at h;subst h;show(if Tg.cl g=.bx then _ else V.many (.cl g) t.w λk=>B6 σ ((tyV t 0 x).getD k .dead))=_
  rw[if_neg (by intro h;cases h)]
  congr 1
  funext k
  by_cases A:k<(tyV t 0 x).length
  .rw[gDE,gEE A]
   exact De t x _ (getElem_mem A)
  .rw[gDE,List.getElem?_eq_none (by omega)];rfl
theorem HS:∀(t:Ty) (x:t.T),∀v∈tyV t 0 x,AR v=false
 |.int _,_,v,h=>by simp[tyV]at h;subst h;rfl
 |.bool,_,v,h=>by simp[tyV]at h;subst h;rfl
 |.str,_,v,h=>by simp[tyV]at h;subst h;rfl
 |.sl _,_,v,h=>by simp[tyV,mem_singleton]at h;subst h;rfl
 |.ptr _,_,v,h=>by simp[tyV,mem_singleton]at h;subst h;rfl
 |.unit,_,v,h=>by trivial
 |.mp _ _,_,v,h=>by simp[tyV]at h;subst h;rfl
 |.pair a b,x,v,h=>by
  simp[tyV,mem_append]at h;exact h.elim (HS a x.1 v) (HS b x.2 v)
 |.osl t,x,v,h=>by
  simp[tyV,mem_singleton]at h;subst h;cases x<;>rfl
 |.clo g t,x,v,h=>by
  simp[tyV,mem_singleton]at h;subst h;show((range t.w).any λk=>AR ((tyV t 0 x).getD k .dead))=false
  rw[any_eq_false];intro k A;have A:k<(tyV t 0 x).length:=by rw[Ax];grind
  rw[gDE,gEE A];simp[HS t x _ (getElem_mem A)]
def ZQ{σ:List V}{u:Ty}{d:Nat}{x:u.T}:B6 σ (cV (.clo g u) d x)=Go.Ve.frz (cV (.clo g u) d x):=by
 have hm:cV (.clo g u) d x∈tyV (.clo g u) 0 x:=mem_singleton.2 rfl;rw[De _ _ _ hm,Jt hm]
theorem M7{w:Nat}(h:P9 s w y=some y'):Abs (B6 (s.r.map Aa.v) (y.v s.r)) y'.v0/\y'.v0=y'.v s.r/\((∀id p i k,y≠.rp id p i k)->Sub (B6 (s.r.map Aa.v) (y.v s.r)) y'.v0):=by
 have A:∀{v v':V},Sub v v'->Abs v v'/\((∀id p i k,y≠.rp id p i k)->Sub v v'):=λh=>⟨.inl h,λ_=>h⟩
 unfold P9 at h;split at h
 .rename_i t d x
  cases W:t.one with
  |false=>rw[W]at h;cases h
  |true=>
   rw[W]at h;cases h
   have:Sub (B6 (s.r.map Aa.v) (cV t d x)) (cV t 0 x):=by
    rw[<-Uz W d x];cases t<;>first|exact Sub.refl _|(cases W;done)|(cases x<;>exact Sub.refl _)|exact Sub.of_eq ZQ
   exact⟨(A this).1,rfl,(A this).2⟩
 .cases h;exact⟨(A (Sub.refl _)).1,rfl,(A (Sub.refl _)).2⟩
 .rename_i id p
  split at h
  case h_2=>cases h
  rename_i ro t d xs F;cases h;have B:Ac s.r id p≠.dead:=by rw[F];simp
  have:Sub (B6 (s.r.map Aa.v) (V.rs id p 0 (Ac s.r id p).len)) (cV (.sl t) 0 xs):=by
   rw[P6,AV B,F];show Sub (XV (arr true t.w (tyV t d) t.dflt xs) 0 xs.length) _;rw[OP rfl];have e:(λa=>(tyV t d a).map frz)=tyV t 0:=funext λx=>Ba t d x
   rw[e];exact Sub.refl _
  exact⟨(A this).1,rfl,(A this).2⟩
 .rename_i id p off len
  split at h
  case h_2=>cases h
  rename_i ro t d xs F;cases h;have B:Ac s.r id p≠.dead:=by rw[F];simp
  have:Sub (B6 (s.r.map Aa.v) (V.rs id p off len)) (cV (.sl t) 0 (Vi off len xs t.dflt)):=by
   rw[P6,AV B,F];show Sub (XV (arr true t.w (tyV t d) t.dflt xs) off len) (arr false t.w (tyV t 0) t.dflt (Vi off len xs t.dflt));unfold arr;have U:(Vi off len xs t.dflt).length=len:=by simp[Vi]
   rw[U];refine⟨_,rfl,λi k hi Y=>Sub.of_eq ?_⟩
   have hg:(Vi off len xs t.dflt).getD i t.dflt=xs.getD (off+i) t.dflt:=by simp[Vi,hi]
   rw[hg,<-Ba t d];exact(Aw (f:=frz) (a:=.dead) rfl (tyV t d (xs.getD (off+i) t.dflt)) k).symm
  exact⟨(A this).1,rfl,(A this).2⟩
 .rename_i id p j k
  split at h
  .rename_i ro l F
   have B:Ac s.r id p≠.dead:=by rw[F];simp
   split at h
   case h_2=>cases h
   cases H:ble (k+w) l.length with
   |false=>rw[H]at h;cases h
   |true=>
    rw[H]at h;have H:=blE H;simp only[cond_true]at h;split at h
    case h_2=>cases h
    rename_i t x hf;cases h;refine⟨.inr ⟨l.length-k,w,1,λi' k'=>([((l.drop k).map Cl.v0).map frz].getD i' []).getD k' .dead,?_,by omega,?_⟩,rfl,λh=>absurd rfl (h _ _ _ _)⟩
    .show B6 (s.r.map Aa.v) (V.rp id p 0 k)=_
     rw[P7,AV B,F];show ZS (A3 true (l.map Cl.v0)) 0 k=_;rw[LG];unfold A3;simp only[map_drop,length_drop,List.length_map]
    .show Sub _ (A3 false (tyV t 0 x))
     have e:=DV _ _ hf;unfold A3;have U:(tyV t 0 x).length=w:=by rw[e];simp;omega
     rw[U];refine⟨_,rfl,λi' k' hi Y=>?_⟩
     obtain rfl:i'=0:=by omega
     refine Sub.of_eq ?_;show(((l.drop k).map Cl.v0).map frz).getD k' .dead=(tyV t 0 x).getD k' .dead;rw[e];simp[getElem?_take,Y]
  .rename_i ro t d xs F
   have B:Ac s.r id p≠.dead:=by rw[F];simp
   cases H:ble (k+w) t.w with
   |false=>rw[H]at h;cases h
   |true=>
    rw[H]at h;have H:=blE H;simp only[cond_true]at h;split at h
    case h_2=>cases h
    rename_i Z x hd;cases h;refine⟨.inr ⟨t.w-k,w,1,λi' j'=>if i'=0 then frz ((tyV t d (xs.getD j t.dflt)).getD (k+j') .dead)else .dead,?_,by omega,?_⟩,rfl,λh=>absurd rfl (h _ _ _ _)⟩
    .show B6 (s.r.map Aa.v) (V.rp id p j k)=_
     rw[P7,AV B,F];rfl
    .show Sub _ (A3 false (tyV Z 0 x))
     have e:=DV _ _ hd;rw[map_take,map_drop,Br,map_take,map_drop,Ba]at e;unfold A3;have U:(tyV Z 0 x).length=w:=by rw[e];simp[Ax];omega
     rw[U];refine⟨_,rfl,λi' k' hi Y=>?_⟩
     obtain rfl:i'=0:=by omega
     refine Sub.of_eq ?_;simp only[if_true];show _=(tyV Z 0 x).getD k' .dead;rw[e,<-Ba t d];have:=Aw (f:=frz) (a:=.dead) rfl (tyV t d (xs.getD j t.dflt)) (k+k');rw[<-this];simp only[gDE,getElem?_take,Y,if_true,List.getElem?_drop]
  .cases h
 .cases h
def OQ(s:St):List Cl->Option (List Cl)
 |[]=>some []
 |y::l=>match(match y with
   |.rp _ _ _ _=>none
   |y=>P9 s 0 y)with
  |some y'=>match OQ s l with
   |some A=>some (y'::A)
   |none=>none
  |none=>none
theorem M5{s:St}:∀{l A:List Cl},OQ s l=some A->CO ((l.map (Cl.v s.r)).map (B6 (s.r.map Aa.v))) (A.map (Cl.v s.r))
 |[],A,h=>by cases h;trivial
 |y::l,A,h=>by
  unfold OQ at h;split at h
  case h_2=>grind
  rename_i y' B;split at h
  case h_2=>grind
  rename_i m hm;cases h;have F:∀id p i k,y≠.rp id p i k:=by grind
  have B:P9 s 0 y=some y':=by
   grind
  obtain⟨_,H,U⟩:=M7 B;exact⟨by grind,M5 hm⟩
def XW(s:St):Cl->Option Cl
 |.rp id p i k=>match i,k with
  |0,0=>match Ac s.r id p with
   |.obj _ l=>match Hn l with
    |some ⟨t,x⟩=>some (.c (.ptr t) 0 x)
    |none=>none
   |_=>none
  |_,_=>none
 |y=>P9 s 0 y
theorem Acv(h:XW s y=some y'):Sub (B6 (s.r.map Aa.v) (y.v s.r)) y'.v0/\y'.v0=y'.v s.r:=by
 by_cases B:∃id p i k,y=.rp id p i k
 .obtain⟨id,p,i,k,rfl⟩:=B
  unfold XW at h;simp at h;split at h
  case h_2=>cases h
  split at h
  case h_2=>cases h
  rename_i ro l F;split at h
  case h_2=>cases h
  rename_i t x H;cases h;have A:Ac s.r id p≠.dead:=by grind
  refine⟨?_,rfl⟩;show Sub (B6 (s.r.map Aa.v) (V.rp id p 0 0)) (A3 false (tyV t 0 x));rw[P7,AV A,F];show Sub (ZS (A3 true (l.map Cl.v0)) 0 0) _;rw[LG,DV _ _ H];exact Sub.refl _
 .have A:=λid p i k e=>B ⟨id,p,i,k,e⟩
  have h:P9 s 0 y=some y':=by
   cases y with
   |rp id p i k=>grind
   |_=>exact h
  obtain⟨_,U,W⟩:=M7 h
  grind
def Ke(s:St):List Cl->Option (List Cl)
 |[]=>some []
 |y::l=>match XW s y with
  |some y'=>match Ke s l with
   |some A=>some (y'::A)
   |none=>none
  |none=>none
theorem M6{s:St}:∀{l A:List Cl},Ke s l=some A->CO ((l.map (Cl.v s.r)).map (B6 (s.r.map Aa.v))) (A.map (Cl.v s.r))
 |[],A,h=>by cases h;trivial
 |y::l,A,h=>by
  unfold Ke at h;split at h
  case h_2=>grind
  rename_i y' B;split at h
  case h_2=>grind
  rename_i m hm;cases h;obtain⟨H,F⟩:=Acv B;exact⟨by grind,M6 hm⟩
theorem CO.pk{t:Tg}{l m:List V}(h:CO l m):Sub (pkL t l) (pkL t m):=by
 unfold pkL;rw[h.len];exact⟨_,rfl,λk _=>h.getD k⟩
def KX(s:St)(b:Bool)(t:Ty):Option Sl->Option t.T
 |some (.one y)=>bif b then none else bif t.one then(match P9 s (match t with
   |.ptr u=>u.w
   |_=>0) y with
  |some y'=>DM t 0 y'
  |none=>none)else none
 |some (.agg l)=>bif b then(match OQ s l with
  |some A=>IB t 0 A
  |none=>none)else none
 |some (.pk .bx l)=>bif b then none else(match t with
  |.ptr u=>(match OQ s l with
   |some A=>IB u 0 A
   |none=>none)
  |_=>none)
 |some (.pk (.cl g) l)=>bif b then none else(match t with
  |.clo B u=>bif beq g B then(match Ke s l with
   |some A=>IB u 0 A
   |none=>none)else none
  |_=>none)
 |_=>none
theorem CO.trans:∀{a b c:List V},CO a b->CO b c->CO a c:=by
 intro a
 induction a with
 |nil=>intro b c B A;cases b<;>first|rfl|trivial
 |cons v a F=>intro b c B A;cases b with
  |nil=>trivial
  |cons w b=>cases c with
   |nil=>trivial
   |cons u c=>exact⟨B.1.trans A.1,F B.2 A.2⟩
theorem N0{z:t.T}(h:KX s b t (s.ev x)=some z):Abs (B6 (s.r.map Aa.v) (s.den.ev x)) (vOf b t 0 z):=by
 unfold KX at h;split at h
 case h_5=>cases h
 .rename_i y A
  cases b with
  |true=>cases h
  |false=>
   cases Z:t.one with
   |false=>rw[Z]at h;cases h
   |true=>
    rw[Z]at h;simp only[cond_false,cond_true]at h;split at h
    case h_2=>cases h
    rename_i y' B;obtain⟨F,W,_⟩:=M7 B;obtain⟨g1,g2⟩:=J5 h s.r;rw[Bg A];have g1:Sub y'.v0 (vOf false t 0 z):=W▸g1;rcases F with F|⟨sz,H,n,f,e1,e2,e3⟩
    .exact .inl (F.trans g1)
    .exact .inr ⟨sz,H,n,f,e1,e2,e3.trans g1⟩
 .rename_i l A
  cases b with
  |false=>cases h
  |true=>
   simp only[cond_true]at h;split at h
   case h_2=>cases h
   rename_i Y B;rw[Bg A];left;show Sub (B6 _ (Ah _)) (Ah _);rw[Acs];refine CO.mk ?_;have F:=M5 B;have W:=(Dd h s.r).1;exact CO.trans F W
 .rename_i l A
  cases b with
  |true=>cases h
  |false=>
   simp only[cond_false]at h;split at h
   case h_2=>cases h
   rename_i u;split at h
   case h_2=>cases h
   rename_i Y B;rw[Bg A];left;show Sub (B6 _ (boxL _)) (A3 false (tyV u 0 z));rw[ZR];exact CO.obj (CO.trans (M5 B) (Dd h s.r).1)
 .rename_i g l A
  cases b with
  |true=>cases h
  |false=>
   simp only[cond_false]at h;split at h
   case h_2=>cases h
   rename_i g' u;cases U:beq g g' with
   |false=>rw[U]at h;cases h
   |true=>
    rw[U]at h;simp only[cond_true]at h;have hg:=bqE U;subst hg;split at h
    case h_2=>cases h
    rename_i Y B;rw[Bg A];left
    have e:V.many (.cl g) u.w (λk=>(tyV u 0 z).getD k .dead)=pkL (.cl g) (tyV u 0 z):=by
     unfold pkL;rw[Ax]
    show Sub (B6 _ (pkL (.cl g) _)) (V.many (.cl g) u.w λk=>(tyV u 0 z).getD k .dead)
    rw[e,Acu];exact CO.pk (CO.trans (M6 B) (Dd h s.r).1)
def JI(s:St):(l:List (Bool×Ty))->List (Option Sl)->Option (PT l).T
 |[],[]=>some ()
 |[p],[y]=>KX s p.1 p.2 y
 |p::q::l,y::ys=>match KX s p.1 p.2 y with
  |some z=>match JI s (q::l) ys with
   |some A=>some (z,A)
   |none=>none
  |none=>none
 |_,_=>none
theorem AbS{s:St}:∀(l:List (Bool×Ty)) (xs:List Operand) (z:(PT l).T),JI s l (xs.map s.ev)=some z->K9 ((xs.map s.den.ev).map (B6 (s.r.map Aa.v))) (CN l z)
 |[],[],z,h=>trivial
 |[p],[x],z,h=>⟨N0 h,trivial⟩
 |p::q::l,x::xs,z,h=>by
  have h:(match KX s p.1 p.2 (s.ev x)with
   |some z=>match JI s (q::l) (xs.map s.ev)with
    |some A=>some (z,A)
    |none=>none
   |none=>none:Option (PT (p::q::l)).T)=some z:=h
  split at h
  case h_2=>grind
  rename_i H F;split at h
  case h_2=>grind
  rename_i A B;cases h;exact⟨N0 F,AbS (q::l) xs A B⟩
 |[],_::_,_,h=>by cases h
 |[_],[],_,h=>by cases h
 |[_],_::_::_,_,h=>by cases h
 |_::_::_,[],_,h=>by cases h
def resC(b:Bool)(d:Nat)(t:Ty)(x:t.T):Bool×List Cl:=(b,Ar t d x)
def Vn(b:Bool)(p:Bool×Nat×Ty)(x:p.2.2.T):Bool×List Cl:=bif b|| !isP p then resC p.1 p.2.1 p.2.2 x else(false,[.nilp])
def resL(b:Bool):(l:List (Bool×Nat×Ty))->(RT l).T->List (Bool×List Cl)
 |[],_=>[]
 |[p],x=>[Vn b p x]
 |p::q::l,x=>Vn b p x.1::resL b (q::l) x.2
def Lo(b:Bool)(l:List (Bool×Nat×Ty))(x:(RT l).T):Sl:=match resL b l x with
 |[(true,cs)]=>.agg cs
 |[(false,cs)]=>.one (cs.getD 0 .dead)
 |m=>.tup m
theorem Ab5(b:Bool)(d:Nat)(t:Ty)(x:t.T)(h:b=true\/t.one=true):(if b then Ah ((Ar t d x).map (Cl.v r))else((Ar t d x).map (Cl.v r)).getD 0 .dead)=vOf b t d x:=by
 rw[Cl.v_c];cases b with
 |true=>rfl
 |false=>
  rcases h with h|h
  .grind
  .rw[Bm h];rfl
def HH:List (Bool×Nat×Ty)->Bool
 |[]=>true
 |p::l=>(p.1||p.2.2.one)&&HH l
def QV(b:Bool)(p:Bool×Nat×Ty)(x:p.2.2.T)(h:p.1=true\/p.2.2.one=true):(if(Vn b p x).1 then Ah ((Vn b p x).2.map (Cl.v r))else((Vn b p x).2.map (Cl.v r)).getD 0 .dead)=YT b p x:=by
 unfold Vn YT;cases b|| !isP p with
 |true=>exact Ab5 p.1 p.2.1 p.2.2 x h
 |false=>rfl
def AaO{r:List Aa}(b:Bool):∀(l:List (Bool×Nat×Ty)) (x:(RT l).T),HH l=true->(resL b l x).map (λp=>if p.1 then Ah (p.2.map (Cl.v r))else(p.2.map (Cl.v r)).getD 0 .dead)=Vm b l x
 |[],x,_=>rfl
 |[p],x,h=>by
  simp only[HH,bAE,or_eq_true]at h;show [_]=[YT _ _ _];rw[<-QV b p x h.1]
 |p::q::l,x,h=>by
  have A:((p.1||p.2.2.one)&&HH (q::l))=true:=h;simp[or_eq_true]at A;show _::(resL b (q::l) x.2).map _=YT _ _ _::_;rw[AaO b (q::l) x.2 A.2,<-QV b p x.1 A.1]
theorem Xe(b:Bool)(l:List (Bool×Nat×Ty))(x:(RT l).T)(h:HH l=true):(Lo b l x).v r=MH b l x:=by
 have e:=AaO (r:=r) b l x h;unfold MH;rw[<-e];unfold Lo;split
 .rename_i cs A
  rw[A];rfl
 .rename_i cs A
  rw[A];show(cs.getD 0 .dead).v r=(cs.map (Cl.v r)).getD 0 .dead;rw[Aw (a:=.dead) rfl]
 .rename_i m F B
  generalize resL b l x=m at*
  match m,F,B with
  |[],_,_=>rfl
  |[(true,cs)],F,_=>grind
  |[(false,cs)],_,B=>grind
  |a::b::m,_,_=>rfl
def Ty.noFn:Ty->Bool
 |.clo _ _=>false
 |.osl _=>false
 |.sl t=>t.noFn
 |.ptr t=>t.noFn
 |.pair a b=>a.noFn&&b.noFn
 |_=>true
theorem B4:∀(t:Ty) (d:Nat) (x:t.T),t.dep<=d->t.noFn=true->∀v∈tyV t d x,Bw v
 |.int _,_,_,_,_,v,h=>by simp only[tyV,mem_singleton]at h;subst h;trivial
 |.bool,_,_,_,_,v,h=>by simp only[tyV,mem_singleton]at h;subst h;trivial
 |.str,_,_,_,_,v,h=>by simp only[tyV,mem_singleton]at h;subst h;trivial
 |.unit,_,_,_,_,v,h=>by cases h
 |.clo _ _,_,_,_,hf,_,_=>by cases hf
 |.osl _,_,_,_,hf,_,_=>by cases hf
 |.mp _ _,d,_,hd,_,v,h=>by
  simp only[Ty.dep]at hd;simp only[tyV,mem_singleton]at h;subst h;exact dT (by omega)
 |.sl t,d,xs,hd,hf,v,h=>by
  simp only[Ty.dep]at hd;simp only[tyV,mem_singleton]at h;subst h;refine⟨dT (by omega),λi k _ A=>?_⟩
  exact B4 t (d-1) _ (by omega) hf _ (Jq (by rw[Ax];exact A))
 |.ptr t,d,x,hd,hf,v,h=>by
  simp only[Ty.dep]at hd;simp only[tyV,mem_singleton]at h;subst h;refine⟨dT (by omega),λi k hi A=>?_⟩
  obtain rfl:i=0:=by omega
  exact B4 t (d-1) _ (by omega) hf _ (Jq A)
 |.pair a b,d,x,hd,hf,v,h=>by
  simp only[Ty.noFn,bAE]at hf;simp only[Ty.dep]at hd;rcases mem_append.1 h with h|h
  .exact B4 a d _ (by omega) hf.1 v h
  .exact B4 b d _ (by omega) hf.2 v h
def He:List (Bool×Nat×Ty)->Bool
 |[]=>true
 |p::l=>ble p.2.2.dep p.2.1&&p.2.2.noFn&&(p.1||p.2.2.one)&&He l
theorem PX(b:Bool)(d:Nat)(t:Ty)(x:t.T)(h:t.dep<=d)(B:t.noFn=true)(A:b=true\/t.one=true):Bw (vOf b t d x):=by
 cases b with
 |true=>
  show Bw (Ah _);rw[VA];exact B4 t d x h B
 |false=>
  rcases A with A|A
  .grind
  .exact B4 t d x h B _ (by rw[Bm A];exact mem_singleton.2 rfl)
def I1(b:Bool)(p:Bool×Nat×Ty)(x:p.2.2.T)(h:p.2.2.dep<=p.2.1)(A:p.2.2.noFn=true)(B:p.1=true\/p.2.2.one=true):Bw (YT b p x):=by
 unfold YT;cases b|| !isP p with
 |true=>exact PX _ _ _ _ h A B
 |false=>trivial
def I2(b:Bool):∀(l:List (Bool×Nat×Ty)) (x:(RT l).T),He l=true->∀v∈Vm b l x,Bw v
 |[],_,_,v,h=>by cases h
 |[p],x,hr,v,h=>by
  simp only[He,bAE,or_eq_true]at hr;rw[mem_singleton.1 h];exact I1 b p x (blE hr.1.1.1) hr.1.1.2 hr.1.2
 |p::q::l,x,hr,v,h=>by
  have A:(ble p.2.2.dep p.2.1&&p.2.2.noFn&&(p.1||p.2.2.one)&&He (q::l))=true:=hr;simp only[bAE,or_eq_true]at A;rcases mem_cons.1 h with rfl|h
  .exact I1 b p x.1 (blE A.1.1.1) A.1.1.2 A.1.2
  .exact I2 b (q::l) x.2 A.2 v h
theorem MV(b:Bool)(l:List (Bool×Nat×Ty))(x:(RT l).T)(h:He l=true):Bw (MH b l x):=by
 have:=I2 b l x h;unfold MH OA;split
 .grind
 .have A:=this
  rw[<-PY]at A
  trivial
def Cl.lent:Cl->Bool
 |.rf _ _=>true
 |.rs _ _ _ _=>true
 |.rp _ _ _ _=>true
 |.rm _ _=>true
 |y=>y.own
def Sl.lent:Sl->Bool
 |.one c=>c.lent
 |.agg l=>l.any Cl.lent
 |.pk _ l=>l.any Cl.lent
 |_=>true
def Uf(xs:List (Option Sl)):Bool:=xs.all λx=>match x with
 |some y=>!y.lent
 |none=>false
theorem Cl.lent_v(c:Cl):c.lent=false->AR (c.v r)=false:=by
 intro h;cases c with
 |c t d x=>
  cases t<;>cases d<;>first|rfl|trivial|(cases x<;>first|rfl|trivial)|exact HS (.clo _ _) x _ (mem_singleton.2 rfl)
 |rf=>cases h
 |rs=>cases h
 |rp=>cases h
 |rm=>cases h
 |_=>rfl
theorem OH(A:Tg)(l:List Cl)(h:l.any Cl.lent=false):AR (.many A (l.map (Cl.v r)).length λk=>(l.map (Cl.v r)).getD k .dead)=false:=by
 show((range _).any λk=>AR ((l.map (Cl.v r)).getD k .dead))=false
 rw[any_eq_false];intro k B;rw[Aw (a:=.dead) rfl]
 have:(l.getD k .dead).lent=false:=by
  grind
 rw[Cl.lent_v _ this];simp
theorem ZK{xs:List Operand}(h:Uf (xs.map s.ev)=true):(xs.map s.den.ev).any AR=false:=by
 rw[any_eq_false];intro v hv;obtain⟨x,F,rfl⟩:=mem_map.1 hv;have A:=aET.1 h (s.ev x) (mem_map.2 ⟨x,F,rfl⟩);cases B:s.ev x with
 |none=>grind
 |some y=>
  rw[B]at A;have A:=by simpa using A
  rw[Bg B]
  have:AR (y.v s.r)=false:=by
   cases y with
   |one c=>exact Cl.lent_v c A
   |agg l=>exact OH .ag l A
   |pk t l=>exact OH t l A
   |new l=>trivial
   |tup l=>trivial
  grind
def MX(s:St):Option Sl->Option Sl
 |some (.one (.rf id p))=>match Ac s.r id p with
  |.opt _ u _ x=>some (.one (.c (.sl u) 0 (getO x)))
  |_=>some (.one (.rf id p))
 |y=>y
def Ac3(s:St):Option Sl->List Bool
 |some (.one (.rf id p))=>match Ac s.r id p with
  |.opt _ _ _ x=>[isO x]
  |_=>[]
 |_=>[]
def UK(s:St):List (Option Sl)->List Bool
 |[]=>[]
 |y::l=>Ac3 s y++UK s l
def gate{α:Type}:List Bool->Option α->Option α
 |[],o=>o
 |b::l,o=>V5 b (gate l o) none
structure Wc where
 α:Type
 o:Option α
 y:α->Sl
variable{a:Wc}
structure CallN where
 α:Type
 o:Option (Bool×α)
 y:Bool->α->Sl
def QL(e:En)(s:St)(xs:List (Option Sl)):Option Wc:=
 bif He e.S.rs||(HH e.S.rs&&Uf xs)then(match JI s e.S.ps (xs.map (MX s))with
  |some z=>some ⟨(RT e.S.rs).T,gate (UK s xs) (e.g z),λy=>Lo true e.S.rs y⟩
  |none=>none)else none
def JH:List En->St->FuncId->List (Option Sl)->Option Wc
 |[],_,_,_=>none
 |e::Γ,s,f,xs=>bif beq e.f f then(match QL e s xs with
  |some a=>some a
  |none=>JH Γ s f xs)else JH Γ s f xs
theorem QJ{s:St}{f:FuncId}{xs:List (Option Sl)}{a:Wc}:∀{Γ:List En},JH Γ s f xs=some a->∃e∈Γ,e.f=f/\QL e s xs=some a
 |[],h=>by cases h
 |e::Γ,h=>by
  have back:JH Γ s f xs=some a->∃A∈e::Γ,A.f=f/\QL A s xs=some a:=λh=>by
   obtain⟨A,H,F⟩:=QJ h
   grind
  unfold JH at h;cases B:beq e.f f with
  |false=>grind
  |true=>
   rw[B]at h;split at h
   .simp_all
   grind
def WV(_:List EnN)(_:St)(_:FuncId)(_:List (Option Sl)):Option CallN:=none
def N7:∀{l:List (Bool×Nat×Ty)},He l=true->HH l=true
 |[],_=>rfl
 |p::l,h=>by
  simp only[He,bAE]at h;simp only[HH,bAE];exact⟨h.1.2,N7 h.2⟩
def P8{t1 t2:Nat->Sl}{r:List Aa}:∀l:List Cl,OQ ⟨t1,r⟩ l=OQ ⟨t2,r⟩ l
 |[]=>rfl
 |y::l=>by
  unfold OQ;rw[P8 l];rfl
def Acw:XW ⟨t1,r⟩ y=XW ⟨t2,r⟩ y:=by rfl
def Uq{t1 t2:Nat->Sl}{r:List Aa}:∀l:List Cl,Ke ⟨t1,r⟩ l=Ke ⟨t2,r⟩ l
 |[]=>rfl
 |y::l=>by
  unfold Ke;rw[Uq l,Acw]
theorem tArg_r{o:Option Sl}:KX ⟨t1,r⟩ b t o=KX ⟨t2,r⟩ b t o:=by
 cases o with
 |none=>rfl
 |some y=>
  cases y with
  |one y=>rfl
  |agg l=>unfold KX;simp[P8 (t2:=t2)]
  |pk t l=>cases t<;>first|rfl|(unfold KX;simp[Uq (t2:=t2)];done)|(unfold KX;simp[P8 (t2:=t2)])
  |_=>rfl
theorem tArg_y{y:Sl}{z:t.T}(h:KX s b t (some y)=some z):Abs (B6 (s.r.map Aa.v) (y.v s.r)) (vOf b t 0 z):=
 N0 (x:=.tmp 0) (by
  have:KX ⟨λ_=>y,s.r⟩ b t (some y)=some z:=by rw[<-h];exact tArg_r
  trivial)
theorem OW{α:Type}{u:α}:∀{l:List Bool}{o:Option α},gate l o=some u->o=some u/\∀b∈l,b=true
 |[],_,h=>⟨h,λ_ h=>by grind⟩
 |b::l,o,h=>by
  cases b with
  |false=>cases h
  |true=>
   obtain⟨B,A⟩:=OW (l:=l) h
   grind
theorem XF{z:t.T}(h:KX s b t (MX s (s.ev x))=some z)(F:∀c∈Ac3 s (s.ev x),c=true):Abs (B6 (s.r.map Aa.v) (s.den.ev x)) (vOf b t 0 z):=by
 cases A:s.ev x with
 |none=>rw[A]at h;exact N0 (by rw[A];exact h)
 |some y=>
  by_cases W:∃id p ro u d v,y=.one (.rf id p)/\Ac s.r id p=.opt ro u d v
  .obtain⟨id,p,ro,u,d,v,rfl,B⟩:=W
   rw[A]at h F;simp only[MX,Ac3,B]at h F;have hv:isO v=true:=F _ (mem_singleton.2 rfl);cases v with
   |none=>cases hv
   |some ys=>
    have U:=tArg_y h;have Z:B6 (s.r.map Aa.v) ((Sl.one (.c (.sl u) 0 ys)).v s.r)=cV (.sl u) 0 ys:=De (.sl u) ys _ (mem_singleton.2 rfl);have H:B6 (s.r.map Aa.v) ((Sl.one (.c (.sl u) 0 (getO (some ys)))).v s.r)=cV (.sl u) 0 ys:=Z;rw[H]at U
    have Y:B6 (s.r.map Aa.v) (s.den.ev x)=cV (.sl u) 0 ys:=by
     rw[Bg A];show B6 (s.r.map Aa.v) (V.rs id p 0 (Ac s.r id p).len)=_;rw[P6,AV (by rw[B];simp),B]
     show XV (arr true u.w (tyV u d) u.dflt ys) 0 ys.length=_;rw[OP rfl];have e:=funext λx=>Ba u d x
     rw[e];rfl
    rw[Y];exact U
  .have e:MX s (some y)=some y:=by
    cases y with
    |one c=>
     cases c with
     |rf id p=>
      cases B:Ac s.r id p with
      |opt ro u d v=>grind
      |_=>simp only[MX,B]
     |_=>rfl
    |_=>rfl
   rw[A,e,<-A]at h;exact N0 h
theorem QO{s:St}:∀(l:List (Bool×Ty)) (xs:List Operand) (z:(PT l).T),JI s l ((xs.map s.ev).map (MX s))=some z->(∀c∈UK s (xs.map s.ev),c=true)->K9 ((xs.map s.den.ev).map (B6 (s.r.map Aa.v))) (CN l z)
 |[],[],z,h,_=>trivial
 |[p],[x],z,h,hc=>⟨XF h λc h=>hc c (List.mem_append_left _ h),trivial⟩
 |p::q::l,x::xs,z,h,hc=>by
  have h:(match KX s p.1 p.2 (MX s (s.ev x))with
   |some z=>match JI s (q::l) ((xs.map s.ev).map (MX s))with
    |some A=>some (z,A)
    |none=>none
   |none=>none:Option (PT (p::q::l)).T)=some z:=h
  split at h
  case h_2=>grind
  rename_i H F;split at h
  case h_2=>grind
  rename_i A B;cases h;exact⟨XF F λc h=>hc c (List.mem_append_left _ h),QO (q::l) xs A B λc h=>hc c (List.mem_append_right _ h)⟩
 |[],_::_,_,h,_=>by cases h
 |[_],[],_,h,_=>by cases h
 |[_],_::_::_,_,h,_=>by cases h
 |_::_::_,[],_,h,_=>by cases h
theorem V4{xs:Array Operand}{ats}{ps:List (Bool×Ty)}{rs:List (Bool×Nat×Ty)}{z:(PT ps).T}{u:(RT rs).T}(Y:AE P f=true)(F:FC P f (CN ps z) (MH b rs u))(U:JI s ps ((xs.toList.map s.ev).map (MX s))=some z)(H:∀c∈UK s (xs.toList.map s.ev),c=true)
  (A:(He rs||(HH rs&&Uf (xs.toList.map s.ev)))=true):QS P s (.call ⟨.value (.func f),xs,ats⟩) (Lo b rs u):=by
 rw[or_eq_true,bAE]at A;have B:=A.elim N7 (·.1)
 refine⟨MH b rs u,⟨Y,F.sub1 (QO _ _ _ U H)⟩,λW=>?_,?_⟩
 .rcases A with A|⟨_,A⟩
  .exact MV _ _ _ A
  .rw[ZK A]at W;grind
 .show Sub _ ((Lo b rs u).v s.r)
  rw[Xe _ _ _ B];exact Sub.refl _
theorem PF(A:Id P Γ){xs ats}(h:JH Γ s f (xs.toList.map s.ev)=some a){u:a.α}(B:a.o=some u):QS P s (.call ⟨.value (.func f),xs,ats⟩) (a.y u):=by
 obtain⟨e,he,H,W⟩:=QJ h;subst H;unfold QL at W;have h:=W;cases Y:(He e.S.rs||(HH e.S.rs&&Uf (xs.toList.map s.ev)))with
 |false=>grind
 |true=>
  rw[Y]at h;split at h
  case h_2=>grind
  rename_i z Z;cases h;obtain⟨hc,F⟩:=A e he;obtain⟨B,U⟩:=OW B;exact V4 hc (by rw[Ir];exact F z u B) Z U Y
def NX{Γ:List EnN}(A:∀e∈Γ,e.OK P){xs ats}{a:CallN}(h:WV Γ s f (xs.toList.map s.ev)=some a){u:a.α}(B:a.o=some (b,u)):QS P s (.call ⟨.value (.func f),xs,ats⟩) (a.y b u):=by
 unfold WV at h;cases h
def cloS(s:St)(y:Nat):Option (FuncId×List Sl):=match s.t y with
 |.one (.c (.clo g t) _ x)=>bif blt g 1000000 then some (g,(Ar t 0 x).map .one)else none
 |.pk (.cl g) l=>bif blt g 1000000 then some (g,l.map .one)else none
 |_=>none
def cloF(_:St)(_:Op):Option (FuncId×List Sl):=none
def V1(B:Id P Γ){g:FuncId}(A:cloF s op=some (g,ys))(h:JH Γ s g (ys.map some)=some a){u:a.α}(F:a.o=some u):QS P s op (a.y u):=by
 unfold cloF at A;cases A
def cloI(_:Tab)(_:St)(_:Op):Option (FuncId×List Sl):=none
def VZ(B:Θ.OK P)(F:Id P Γ){g:FuncId}(A:cloI Θ s op=some (g,ys))(h:JH Γ s g (ys.map some)=some a){u:a.α}(H:a.o=some u):QS P s op (a.y u):=by
 unfold cloI at A;cases A
def capL(s:St):List Operand->Option (List Cl)
 |[]=>some []
 |x::xs=>match s.ev x with
  |some (.one (.c t d y))=>bif t.one&& !(Cl.c t d y).own then(match capL s xs with
   |some l=>some (.c t 0 y::l)
   |none=>none)else none
  |_=>none
def capR(s:St):List Operand->Option (List Cl)
 |[]=>some []
 |x::xs=>match s.ev x with
  |some (.one y)=>bif y.own then none else(match capR s xs with
   |some l=>some (y::l)
   |none=>none)
  |_=>none
theorem Abk{s:St}:∀{xs:List Operand}{l:List Cl},capR s xs=some l->xs.map s.den.ev=l.map (Cl.v s.r)/\(xs.map s.den.ev).all (λv=>!AJ v)=true
 |[],l,h=>by cases h;simp
 |x::xs,l,h=>by
  unfold capR at h;split at h
  case h_2=>grind
  rename_i y F;cases B:y.own with
  |true=>grind
  |false=>
   rw[B]at h;split at h
   case h_2=>grind
   rename_i m hm;obtain⟨U,H⟩:=Abk hm;have A:s.den.ev x=y.v s.r:=Bg F;refine⟨by grind,?_⟩
   rw[map_cons,all_cons,A,Cl.own_v,B,H];rfl
def tMkG(g:Nat)(s:St)(A:List Operand):Option TR:=match capL s A with
  |some l=>match Hn l with
   |some ⟨t,x⟩=>some (.ok (.one (.c (.clo g t) 0 x)))
   |none=>none
  |none=>match capR s A with
   |some l=>some (.ok (.pk (.cl g) l))
   |none=>none
def tMkF(s:St)(fn:Fn)(first:List Operand)(A:List Operand):Option TR:=match fn,first with
 |.func g,[]=>bif blt g 1000000 then tMkG g s A else none
 |_,_=>none
def tMkI(_:Tab)(_:St)(_:TypeId)(_:Operand):Option TR:=none
theorem Abl{s:St}:∀{xs:List Operand}{l:List Cl},capL s xs=some l->xs.map s.den.ev=(l.map Cl.v0).map frz/\(xs.map s.den.ev).all (λv=>!AJ v)=true/\l.length=xs.length
 |[],l,h=>by cases h;exact⟨rfl,rfl,rfl⟩
 |x::xs,l,h=>by
  unfold capL at h;split at h
  case h_2=>cases h
  rename_i t d y U;cases B:(t.one&& !(Cl.c t d y).own)with
  |false=>rw[B]at h;cases h
  |true=>
   rw[B]at h;simp only[cond_true]at h;split at h
   case h_2=>cases h
   rename_i m hm;cases h;rw[bAE]at B;obtain⟨W,Y,h3⟩:=Abl hm;have F:s.den.ev x=cV t d y:=Bg U
   have A:AJ (cV t d y)=false:=by
    have:=Cl.own_v (r:=s.r) (.c t d y);have e:(Cl.c t d y).own=false:=by simpa using B.2
    rw[e]at this;exact this
   have H:cV t d y=frz (cV t 0 y):=by
    rw[Uz B.1];cases t<;>first|rfl|(cases d<;>first|rfl|(cases A;done))|(cases y<;>cases d<;>first|rfl|(cases A;done))
   refine⟨?_,?_,by simp[h3]⟩
   .rw[map_cons,map_cons,map_cons,F,W,H];rfl
   grind
theorem tMkG_v{A:List Operand}{a:TR}(h:tMkG g s A=some a):∃y,a=.ok y/\(A.map s.den.ev).all (λv=>!AJ v)=true/\Sub (V.many (.cl g) (A.map s.den.ev).length λk=>(A.map s.den.ev).getD k .dead) (y.v s.r):=by
 unfold tMkG at h;split at h
 case h_2=>
  split at h
  case h_2=>grind
  rename_i l B;cases h;obtain⟨H,F⟩:=Abk B;refine⟨_,rfl,F,?_⟩;rw[H];exact Sub.refl _
 rename_i l B;split at h
 case h_2=>grind
 rename_i t x hd;cases h;obtain⟨H,F,h3⟩:=Abl B;have e:=DV _ _ hd;refine⟨_,rfl,F,?_⟩;rw[H,<-e,Ax];exact Sub.refl _
theorem U7{fn:Fn}{first A:Array Operand}{a:TR}(h:tMkF s fn first.toList A.toList=some a):QS P s (.makeFunc fn first A) a.y:=by
 unfold tMkF at h;split at h
 case h_2=>grind
 rename_i g F;cases B:blt g 1000000 with
 |false=>grind
 |true=>
 rw[B]at h;obtain⟨y,rfl,U,H⟩:=tMkG_v h
 show(match Fn.func g,first.toList with
  |.func g,[]=>qMkF g (A.toList.map s.den.ev) (SK s _)
  |_,_=>False)
 rw[F]
 trivial
def U6(A:Θ.OK P){t:TypeId}{a:TR}(h:tMkI Θ s t x=some a):QS P s (.makeInterface t x) a.y:=by
 unfold tMkI at h;cases h
end Go.Ve


namespace Go.Ve
inductive CM where
 |p (t:Ty)
 |r (i:Nat) (p:AI) (j k:Nat)
inductive AM where
 |p (b:Bool) (t:Ty)
 |r (i:Nat) (p:AI) (j k:Nat)
 |k (g:Nat) (l:List CM)
def CsM:List CM->Ty
 |[]=>.unit
 |.p t::l=>.pair t (CsM l)
 |.r _ _ _ _::l=>CsM l
def PM:List AM->Ty
 |[]=>.unit
 |.p _ t::l=>.pair t (PM l)
 |.r _ _ _ _::l=>PM l
 |.k _ c::l=>.pair (CsM c) (PM l)
def Ns:(l:List CM)->(CsM l).T->List Cl
 |[],_=>[]
 |.p t::l,x=>.c t 0 x.1::Ns l x.2
 |.r i p j k::l,x=>.rp i p j k::Ns l x
def slM(b:Bool)(t:Ty)(x:t.T):Sl:=bif b then .agg (Ar t 0 x)else .one (.c t 0 x)
def K8:(l:List AM)->(PM l).T->List Sl
 |[],_=>[]
 |.p b t::l,x=>slM b t x.1::K8 l x.2
 |.r i p j k::l,x=>.one (.rp i p j k)::K8 l x
 |.k g c::l,x=>.pk (.cl g) (Ns c x.1)::K8 l x.2
def TM:List (Nat×Ty)->Ty
 |[]=>.unit
 |p::l=>.pair p.2 (TM l)
def AK:(l:List (Nat×Ty))->(TM l).T->List Aa
 |[],_=>[]
 |p::l,x=>.obj false (Ar p.2 p.1 x.1)::AK l x.2
structure Abt where
 ps:List AM
 ts:List (Nat×Ty)
 rs:List (Bool×Nat×Ty)
def FTM(P:Program)(f:FuncId)(S:Abt)(g:(PM S.ps).T->(TM S.ts).T->Option ((RT S.rs).T×(TM S.ts).T)):Prop:=
 ∀z x u,g z x=some u->FCM P f ((K8 S.ps z).map (Sl.v [])) ((AK S.ts x).map Aa.v) (Hj S.rs u.1) ((AK S.ts u.2).map Aa.v)
structure EnM where
 f:FuncId
 S:Abt
 g:(PM S.ps).T->(TM S.ts).T->Option ((RT S.rs).T×(TM S.ts).T)
def EnM.OK(P:Program)(e:EnM):Prop:=AE P e.f=true/\FTM P e.f e.S e.g
def Kr{P:Program}:∀e∈([]:List EnM),e.OK P:=by simp
def Cx:∀(l:List (Nat×Ty)) (x:(TM l).T),(AK l x).length=l.length
 |[],_=>rfl
 |_::l,x=>congrArg (· +1) (Cx l x.2)
def eqP:AI->AI->Bool
 |[],[]=>true
 |a::p,b::q=>beq a.1 b.1&&beq a.2 b.2&&eqP p q
 |_,_=>false
def O3:∀p q:AI,eqP p q=true->p=q
 |[],[],_=>rfl
 |(a,a')::p,(b,b')::q,h=>by
  have h:(beq a b&&beq a' b'&&eqP p q)=true:=h;simp only[bAE]at h;rw[bqE h.1.1,bqE h.1.2,O3 p q h.2]
 |[],_::_,h=>by cases h
 |_::_,[],h=>by cases h
end Go.Ve


namespace Go.Ve
variable{b:Bool}{c:Cl}{r:List Aa}{l σ:List V}{d i k:Nat}{P:Program}{s:St}{t:Ty}
structure Add where
 k:Nat
 ps:List (Bool×Ty)
 t:Ty
 d:Nat
 eat:Bool
 rs:List (Bool×Nat×Ty)
def ZX(k:Nat)(l:List V):List V:=l.take k++ .dead::l.drop k
theorem ZW:(ZX k l).length=l.length+1:=by
 unfold ZX
 grind
theorem AcB(h:i<k)(A:k<=l.length):(ZX k l).getD i .dead=l.getD i .dead:=by
 unfold ZX
 grind
theorem AcC(h:k<=i)(A:k<=l.length):(ZX k l).getD (i+1) .dead=l.getD i .dead:=by
 unfold ZX;have e:(l.take k).length=k:=by grind
 simp;rw[gAR (by omega),e,show i+1-k=(i-k)+1 by omega,List.getElem?_cons_succ,List.getElem?_drop,show k+(i-k)=i by omega]
def isTr:Ty->Bool
 |.sl _=>true
 |.ptr _=>true
 |_=>false
def Add.ok(S:Add):Bool:=blt 0 S.d&&ble S.k S.ps.length&&isTr S.t
def FTU(P:Program)(f:FuncId)(S:Add)(g:(PT S.ps).T->S.t.T->Option ((RT S.rs).T×S.t.T)):Prop:=
 ∀z x u,g z x=some u->FCU P f S.k (ZX S.k (CN S.ps z)) (cV S.t S.d x) (Hj S.rs u.1) (bif S.eat then .dead else cV S.t S.d u.2)
structure EnU where
 f:FuncId
 S:Add
 g:(PT S.ps).T->S.t.T->Option ((RT S.rs).T×S.t.T)
def Kc:List EnU->FuncId->Option EnU
 |[],_=>none
 |e::l,f=>bif beq e.f f then some e else Kc l f
def EnU.OK(P:Program)(e:EnU):Prop:=AE P e.f=true/\e.S.ok=true/\FTU P e.f e.S e.g
def Uo{P:Program}{f:FuncId}{e:EnU}:∀{Γ:List EnU},(∀e∈Γ,e.OK P)->Kc Γ f=some e->e.OK P/\e.f=f
 |[],_,h=>by cases h
 |a::l,hΓ,h=>by
  unfold Kc at h;cases B:beq a.f f with
  |true=>
   simp_all
  |false=>rw[B]at h;exact Uo (λe A=>hΓ e (mCM _ A)) h
theorem Cl.lend_id(h:c.lent=false):B6 σ (c.v r)=c.v r:=by
 cases c with
 |c t d x=>
  have A:∀{t:Ty} (x:t.T),t.one=true->B6 σ (cV t 0 x)=cV t 0 x:=fun{t} x ht=>De t x _ (by rw[Bm ht];simp)
  cases t with
  |int k=>rfl
  |bool=>rfl
  |str=>rfl
  |unit=>rfl
  |pair a b=>rfl
  |sl t=>cases d with
   |zero=>exact A x rfl
   |succ d=>cases h
  |ptr t=>cases d with
   |zero=>exact A x rfl
   |succ d=>cases h
  |clo g t=>exact A x rfl
  |mp k v=>cases d with
   |zero=>exact A x rfl
   |succ d=>cases h
  |osl t=>cases d with
   |zero=>exact A x rfl
   |succ d=>cases x with
    |none=>rfl
    |some y=>cases h
 |rf=>cases h
 |rs=>cases h
 |rp=>cases h
 |rm=>cases h
 |_=>rfl
theorem Cl.clean_v(h:c.lent=false):clean (c.v r):=by
 cases c with
 |c t d x=>
  cases t with
  |osl t=>cases x<;>exact trivial
  |clo g t=>
   have:∀(t:Ty) (x:t.T),∀v∈tyV t 0 x,clean v:=by
    intro t
    induction t with
    |int k=>intro x v hv;simp[tyV]at hv;subst hv;trivial
    |bool=>intro x v hv;simp[tyV]at hv;subst hv;trivial
    |str=>intro x v hv;simp[tyV]at hv;subst hv;trivial
    |sl t _=>intro x v hv;simp only[tyV,mem_singleton]at hv;subst hv;trivial
    |ptr t _=>intro x v hv;simp only[tyV,mem_singleton]at hv;subst hv;trivial
    |unit=>intro x v hv;simp[tyV]at hv
    |pair a b B A=>
     intro x v hv;simp only[tyV,mem_append]at hv
     grind
    |mp k v _ _=>intro x v hv;simp only[tyV,mem_singleton]at hv;subst hv;trivial
    |osl t _=>
     intro x v hv;simp only[tyV,mem_singleton]at hv;subst hv;cases x<;>trivial
    |clo g t F=>
     intro x v hv;simp only[tyV,mem_singleton]at hv;subst hv;intro k H;refine F x _ ?_;show(tyV t 0 x).getD k .dead∈_;rw[gDE,gEE (by rw[Ax];exact H)]
     simp
   exact this (.clo g t) x _ (mem_singleton.2 rfl)
  |_=>trivial
 |rf=>cases h
 |rs=>cases h
 |rp=>cases h
 |_=>trivial
theorem Nw{l:List Cl}(h:l.any Cl.lent=false):∀c∈l,c.lent=false:=by grind
theorem Uk{l:List Cl}(h:l.any Cl.lent=false):(l.map (Cl.v r)).map (B6 σ)=l.map (Cl.v r):=by
 rw[map_map];exact map_congr_left λc A=>Cl.lend_id (Nw h c A)
def Sl.notB:Sl->Bool
 |.one _=>true
 |.agg _=>true
 |.pk (.cl _) _=>true
 |_=>false
theorem AaG{y:Sl}{z:t.T}(W:y.lent=false)(H:y.notB=true)(h:KX s b t (some y)=some z):Sub (y.v s.r) (vOf b t 0 z)/\AJ (y.v s.r)=false/\clean (y.v s.r):=by
 have many:∀(B:Tg) (l:List Cl),l.any Cl.lent=false->AJ (pkL B (l.map (Cl.v s.r)))=false/\clean (pkL B (l.map (Cl.v s.r))):=by
  intro B l h;refine⟨?_,λk Y=>?_⟩
  .have e:AJ ((Sl.pk B l).v s.r)=l.any Cl.own:=Sl.own_v (.pk B l)
   refine e.trans ?_;rw[any_eq_false];intro c A;have U:=Nw h c A;cases c with
   |c t d x=>rw[show(Cl.c t d x).own=false from U];simp
   |_=>simp[Cl.own]
  .have Y:k<l.length:=by simpa using Y
   show clean ((l.map (Cl.v s.r)).getD k .dead);rw[Aw (f:=Cl.v s.r) (a:=.dead) rfl];refine Cl.clean_v (Nw h _ ?_);simp[Y]
 cases y with
 |one c=>
  have A:c.lent=false:=W;refine⟨?_,?_,Cl.clean_v A⟩
  .unfold KX at h
   cases b with
   |true=>cases h
   |false=>
    cases Z:t.one with
    |false=>rw[Z]at h;cases h
    |true=>
     rw[Z]at h;simp only[cond_false,cond_true]at h;split at h
     case h_2=>cases h
     rename_i y' hy;obtain⟨_,h2,h3⟩:=M7 hy;have h3:=h3 λid p i k e=>by rw[e]at A;cases A
     rw[Cl.lend_id A]at h3;obtain⟨g1,_⟩:=J5 h s.r;have g1:Sub y'.v0 (vOf false t 0 z):=h2▸g1;exact h3.trans g1
  .have e:AJ (c.v s.r)=c.own:=Cl.own_v c
   refine e.trans ?_;cases c with
   |c t d x=>exact A
   |_=>rfl
 |agg l=>
  have A:l.any Cl.lent=false:=W;refine⟨?_,many .ag l A⟩;unfold KX at h;cases b with
  |false=>cases h
  |true=>
   simp only[cond_true]at h;split at h
   case h_2=>cases h
   rename_i l' F;show Sub (Ah _) (Ah _);refine CO.mk ?_;have U:=M5 F;rw[Uk A]at U;exact CO.trans U (Dd h s.r).1
 |pk B l=>
  have A:l.any Cl.lent=false:=W;cases B with
  |cl g=>
   refine⟨?_,many (.cl g) l A⟩;unfold KX at h;cases b with
   |true=>cases h
   |false=>
    simp only[cond_false]at h;split at h
    case h_2=>cases h
    rename_i g' u;obtain⟨H,h⟩:=A1 h;have hg:=bqE H;subst hg;split at h
    case h_2=>cases h
    rename_i l' F
    have e:V.many (.cl g) u.w (λk=>(tyV u 0 z).getD k .dead)=pkL (.cl g) (tyV u 0 z):=by
     unfold pkL;rw[Ax]
    show Sub (pkL (.cl g) _) (V.many (.cl g) u.w λk=>(tyV u 0 z).getD k .dead)
    rw[e];have U:=M6 F;rw[Uk A]at U;exact CO.pk (CO.trans U (Dd h s.r).1)
  |ag=>cases H
  |tu=>cases H
  |bx=>cases H
 |new l=>cases H
 |tup l=>cases H
def uok:Option Sl->Bool
 |some y=>!y.lent&&y.notB
 |none=>false
theorem uok_v{x:Operand}{z:t.T}(A:uok (s.ev x)=true)(h:KX s b t (s.ev x)=some z):AJ (s.den.ev x)=false/\clean (s.den.ev x)/\Sub (s.den.ev x) (vOf b t 0 z):=by
 cases B:s.ev x with
 |none=>rw[B]at A;trivial
 |some y=>
  rw[B]at A h;simp[uok,Bool.not_eq_true']at A;obtain⟨H,F,h3⟩:=AaG A.1 A.2 h;rw[Bg B]
  grind
theorem Wr{s:St}:∀(ps:List (Bool×Ty)) (xs:List Operand) (z:(PT ps).T),JI s ps (xs.map s.ev)=some z->(xs.map s.ev).all uok=true->
  xs.length=(CN ps z).length/\∀i x,xs[i]? =some x->AJ (s.den.ev x)=false/\clean (s.den.ev x)/\Sub (s.den.ev x) ((CN ps z).getD i .dead)
 |[],[],z,_,_=>⟨rfl,λi x h=>by simp at h⟩
 |[p],[x],z,h,A=>by
  have A:(uok (s.ev x)&&true)=true:=A;rw[Bool.and_true]at A;refine⟨rfl,λi H B=>?_⟩
  cases i with
  |zero=>
   cases B;exact uok_v A h
  |succ i=>simp at B
 |p::q::l,x::xs,z,h,A=>by
  have h:(match KX s p.1 p.2 (s.ev x)with
   |some z=>match JI s (q::l) (xs.map s.ev)with
    |some F=>some (z,F)
    |none=>none
   |none=>none:Option (PT (p::q::l)).T)=some z:=h
  have A:(uok (s.ev x)&&(xs.map s.ev).all uok)=true:=A;rw[bAE]at A;split at h
  case h_2=>cases h
  rename_i Y W;split at h
  case h_2=>cases h
  rename_i F U;cases h;obtain⟨k1,k2⟩:=Wr (q::l) xs F U A.2;refine⟨by show xs.length+1=(CN (q::l) F).length+1;rw[k1],λi H B=>?_⟩
  cases i with
  |zero=>
   cases B;exact uok_v A.1 W
  |succ i=>exact k2 i H (by simpa using B)
 |[],_::_,_,h,_=>by cases h
 |[_],[],_,h,_=>by cases h
 |[_],_::_::_,_,h,_=>by cases h
 |_::_::_,[],_,h,_=>by cases h
def CJ(k:Nat)(l:List Operand):List Operand:=l.take k++l.drop (k+1)
theorem VX{l:List Operand}(h:k<l.length):(CJ k l).length+1=l.length:=by
 unfold CJ
 grind
theorem O1{l:List Operand}(h:i<k)(A:k<l.length):(CJ k l)[i]? =l[i]?:=by
 unfold CJ
 grind
theorem O2{l:List Operand}(h:k<=i)(A:k<l.length):(CJ k l)[i]? =l[i+1]?:=by
 unfold CJ
 grind
theorem Abz{ps:List (Bool×Ty)}{xs:List Operand}{z:(PT ps).T}(A:k<xs.length)(h:JI s ps ((CJ k xs).map s.ev)=some z)(H:((CJ k xs).map s.ev).all uok=true):
  xs.length=(ZX k (CN ps z)).length/\∀i x,i≠k->xs[i]? =some x->AJ (s.den.ev x)=false/\clean (s.den.ev x)/\Sub (s.den.ev x) ((ZX k (CN ps z)).getD i .dead):=by
 obtain⟨Y,B⟩:=Wr ps (CJ k xs) z h H;have W:=VX A;refine⟨by rw[ZW];omega,λi x U F=>?_⟩
 rcases Nat.lt_or_ge i k with hlt|hge
 .have:=B i x (by rw[O1 hlt A];exact F)
  rw[AcB hlt (by omega)]
  grind
 .obtain⟨j,rfl⟩:∃j,i=j+1:=⟨i-1,by omega⟩
  have:=B j x (by rw[O2 (by omega) A];grind)
  rw[AcC (by omega) (by omega)]
  grind
def AcG:(t:Ty)->t.T->Bool
 |.sl _,xs=>ltI (Int.ofNat 0) (ofN (IE xs))
 |.ptr _,_=>true
 |_,_=>false
theorem AcF{x:t.T}(hd:0<d)(h:AcG t x=true):LM (cV t d x):=by
 have hd:=dT hd;cases t with
 |sl t=>
  refine⟨true,_,_,_,show arr (decide (0<d)) _ _ _ x=_ by rw[hd];rfl,.inr ?_⟩
  have h:decide (0<(x.length:Int))=true:=h
  grind
 |ptr t=>exact⟨false,_,_,_,show A3 (decide (0<d)) _=_ by rw[hd];rfl,.inl rfl⟩
 |_=>cases h
def treeND{x:t.T}(hd:0<d)(h:isTr t=true):∃s sz n f,cV t d x=.nd s true sz n f:=by
 have hd:=dT hd;cases t with
 |sl t=>exact⟨true,_,_,_,show arr (decide (0<d)) _ _ _ x=_ by rw[hd];rfl⟩
 |ptr t=>exact⟨false,_,_,_,show A3 (decide (0<d)) _=_ by rw[hd];rfl⟩
 |_=>cases h
def IK:∀e∈([]:List EnU),e.OK P:=by simp
theorem Aag{e:EnU}{l:List EnU}(H:AE P e.f=true)(U:e.S.ok=true)(F:FTU P e.f e.S e.g)(B:∀e∈l,e.OK P):∀x∈e::l,x.OK P:=by
 intro x A;rcases mem_cons.1 A with rfl|A
 .trivial
 grind
end Go.Ve


namespace Go.Ve
def Bn(m:Nat):List Cl->List Cl×List Aa
 |[]=>([],[])
 |.c (.sl u) (d+1) xs::l=>(.rf m []::(Bn (m+1) l).1,.arr false u d xs::(Bn (m+1) l).2)
 |y::l=>(y::(Bn m l).1,(Bn m l).2)
abbrev WP:=Bool×Bool×Ty
def UZ(p:WP)(x:p.2.2.T)(m:Nat):Sl×List Aa:=
 bif p.1 then(bif p.2.1 then .agg (Bn m (Ar p.2.2 p.2.2.dep x)).1 else .one ((Bn m (Ar p.2.2 p.2.2.dep x)).1.getD 0 .dead),(Bn m (Ar p.2.2 p.2.2.dep x)).2)
 else(bif p.2.1 then .agg (Ar p.2.2 0 x)else .one (.c p.2.2 0 x),[])
def PTW:List WP->Ty
 |[]=>.unit
 |[p]=>p.2.2
 |p::q::l=>.pair p.2.2 (PTW (q::l))
def AT:(ps:List WP)->(PTW ps).T->Nat->List Sl×List Aa
 |[],_,_=>([],[])
 |[p],x,m=>([(UZ p x m).1],(UZ p x m).2)
 |p::q::l,x,m=>((UZ p x.1 m).1::(AT (q::l) x.2 (m+(UZ p x.1 m).2.length)).1,(UZ p x.1 m).2++(AT (q::l) x.2 (m+(UZ p x.1 m).2.length)).2)
def AbU:Ty->List Ty
 |.sl t=>[.sl t]
 |.pair a b=>AbU a++AbU b
 |_=>[]
def Di:List WP->List Ty
 |[]=>[]
 |p::l=>(bif p.1 then AbU p.2.2 else [])++Di l
structure Adc where
 ps:List WP
 rt:Ty
def Ty.sc:Ty->Bool
 |.int _=>true
 |.bool=>true
 |.str=>true
 |_=>false
def scV:(t:Ty)->t.T->Value
 |.int k,n=>.int k n
 |.bool,b=>.bool b
 |.str,s=>.string s
 |_,_=>undef
def wty:List Ty->Ty
 |[]=>.unit
 |[t]=>t
 |t::u::l=>.pair t (wty (u::l))
def wOf:(A:List Ty)->(wty A).T->List (Σ t:Ty,t.T)
 |[],_=>[]
 |[t],x=>[⟨t,x⟩]
 |t::u::l,x=>⟨t,x.1⟩::wOf (u::l) x.2
def C7:Aa->(Σ t:Ty,t.T)->Aa
 |.arr ro u d _,⟨.sl u',xs⟩=>if h:u'=u then .arr ro u d (h▸xs)else .dead
 |_,_=>.dead
def Bq:List Aa->List (Σ t:Ty,t.T)->List Aa
 |r::rs,y::ys=>C7 r y::Bq rs ys
 |_,_=>[]
def FTW(P:Program)(f:FuncId)(S:Adc)(g:(PTW S.ps).T->Option (S.rt.T×(wty (Di S.ps)).T)):Prop:=
 ∀x u,g x=some u->S.rt.sc=true/\(wOf (Di S.ps) u.2).length=(AT S.ps x 0).2.length/\(∀k,k<(AT S.ps x 0).2.length->(Bq (AT S.ps x 0).2 (wOf (Di S.ps) u.2)).getD k .dead≠.dead)/\
  FCW P f ((AT S.ps x 0).1.map (Sl.v (AT S.ps x 0).2)) ((AT S.ps x 0).2.map Aa.v) (scV S.rt u.1) ((Bq (AT S.ps x 0).2 (wOf (Di S.ps) u.2)).map Aa.v)
structure EnW where
 f:FuncId
 S:Adc
 g:(PTW S.ps).T->Option (S.rt.T×(wty (Di S.ps)).T)
def XS:List EnW->FuncId->Option EnW
 |[],_=>none
 |e::l,f=>bif beq e.f f then some e else XS l f
def EnW.OK(P:Program)(e:EnW):Prop:=AE P e.f=true/\FTW P e.f e.S e.g
def Un{P:Program}{f:FuncId}{e:EnW}:∀{Γ:List EnW},(∀e∈Γ,e.OK P)->XS Γ f=some e->e.OK P/\e.f=f
 |[],_,h=>by cases h
 |a::l,hΓ,h=>by
  unfold XS at h;cases B:beq a.f f with
  |true=>
   simp_all
  |false=>rw[B]at h;exact Un (λe A=>hΓ e (mCM _ A)) h
end Go.Ve


namespace Go.Ve
variable{r:List Aa}{l m:List V}{op:Op}{i:Option TI}{P:Program}{s:St}{a:TR}{w:World}
def O5(Θ:Tab)(t:TypeId):Option TI:=((Θ.look t).bind (·.elem)).bind Θ.look
def QM(Θ:Tab)(s:St):Builtin->List Operand->List TypeId->Option TR
 |.len,[x],[t]=>match AbO s (Θ.look t) (s.ev x)with
  |some a=>some a
  |none=>tLen s (Θ.look t) (s.ev x)
 |.min,[x,y],_=>tMin (s.ev x) (s.ev y)
 |.max,[x,y],_=>tMax (s.ev x) (s.ev y)
 |_,_,_=>none
def Acz:Operand->Bool
 |.const (.slice none 0 0)=>true
 |_=>false
def QH(s:St)(i:Option TI)(x:Operand):Option TR:=bif Acz x then(match i with
 |some j=>some (.ok (.one (.c (.sl j.ty) (j.sd+1) [])))
 |none=>none)else AbM (s.ev x)
theorem IW{x:Operand}(B:op=.move x\/op=.assign x)(h:QH s i x=some a):QS P s op a.y:=by
 unfold QH at h;cases A:Acz x with
 |false=>rw[A]at h;exact Px B h
 |true=>
  rw[A]at h;split at h
  case h_2=>grind
  rename_i j;cases h;unfold Acz at A;split at A
  case h_2=>grind
  have:Xt (s.den.ev (.const (.slice none 0 0))) (SK s (.one (.c (.sl j.ty) (j.sd+1) []))):=⟨rfl,.inr ⟨rfl,_,_,_,rfl⟩⟩;rcases B with rfl|rfl<;>exact this
def Mr(_:Option TI)(_:Option Operand):Option TR:=none
def KV{t:TypeId}{n:Option Operand}(h:Mr i n=some a):QS P s (.makeMap t n) a.y:=by
 unfold Mr at h;cases h
def tq(Θ:Tab)(s:St)(ty:TypeId):Op->Option TR
 |.move x=>QH s (O5 Θ ty) x
 |.assign x=>QH s (O5 Θ ty) x
 |.pick c x y=>AbK (s.ev c) (s.ev x) (s.ev y)
 |.load t x=>WO s (Θ.look t) (s.ev x)
 |.fieldAddr t x k=>WR s (Θ.look t) k (s.ev x)
 |.indexAddr t x i=>Io s (O5 Θ t) (s.ev x) (s.ev i)
 |.index t x i=>WQ (Θ.look t) (s.ev x) (s.ev i)
 |.nilCheck x=>tNil (s.ev x)
 |.binOp op t x y _=>tBin (Θ.look t) op (s.ev x) (s.ev y)
 |.unOp op _ x=>tUn op (s.ev x)
 |.convert u v x=>AbP s.r (Θ.look u) (Θ.look v) (O5 Θ u) (O5 Θ v) (s.ev x)
 |.extract x k=>Mx k (s.ev x)
 |.build t ps=>WW (Θ.look t) (ps.toList.map λp=>(p.1,s.ev p.2))
 |.buildSlice t n ps=>Hh n (ps.toList.map λp=>(p.1,s.ev p.2)) (O5 Θ t)
 |.alloc t=>WX (Θ.look t)
 |.box _ x=>tBox (s.ev x)
 |.makeSlice t l c=>AbN (O5 Θ t) (s.ev l) (s.ev c)
 |.slice t x lo hi B=>match B with
  |none=>WH s (Θ.look t) (O5 Θ t) (s.ev x) (Lh (lo.map s.ev)) (Lh (hi.map s.ev))
  |some _=>none
 |.call c=>match c.callee with
  |.builtin b=>QM Θ s b c.args.toList c.argTypes.toList
  |_=>none
 |.makeFunc fn first A=>tMkF s fn first.toList A.toList
 |.makeInterface t x=>tMkI Θ s t x
 |.makeMap t n=>Mr (Θ.look t) n
 |.lookup t x i F=>PA s (Θ.look t) (s.ev x) (s.ev i) F
 |_=>none
theorem QA{Θ:Tab}(A:Θ.OK P){ty:TypeId}(h:tq Θ s ty op=some a)(F:a.p):QS P s op a.y:=by
 unfold tq at h;split at h
 case h_1=>exact IW (.inl rfl) h
 case h_2=>exact IW (.inr rfl) h
 case h_3=>exact Pw h
 case h_4=>exact PB A h F
 case h_5=>exact NV A h
 case h_6=>exact I9 A h F
 case h_7=>exact NT A h F
 case h_8=>exact U5 h
 case h_9=>exact Vf A h F
 case h_10=>exact WE h
 case h_11=>exact PE A h F
 case h_12=>exact KW h
 case h_13=>exact NZ A h
 case h_14=>exact Ip A h
 case h_15=>exact N1 A h
 case h_16=>exact Vd h
 case h_17=>exact Pz A h F
 case h_18=>
  split at h
  .exact NS A h F
  .cases h
 case h_19 c=>
  obtain⟨callee,args,ats⟩:=c;split at h
  case h_2=>cases h
  rename_i b H;have H:callee=.builtin b:=H;subst H;unfold QM at h;split at h
  case h_4=>cases h
  .rename_i x t B U
   rw[ZO (show args.toList=[x]from B),ZO (show ats.toList=[t]from U)]
   split at h
   .rename_i Y W
    cases h;exact PC A W
   .exact Vb A h
  .rename_i x y B
   have e:args= #[x,y]:=by have B:args.toList=[x,y]:=B;cases args;simp at B;simp[B]
   subst e;exact U8 h
  .rename_i x y B
   have e:args= #[x,y]:=by grind
   subst e;exact U9 h
 case h_20=>exact U7 h
 case h_21=>exact U6 A h
 case h_22=>exact KV h
 case h_23=>exact Mt A h
 case h_24=>cases h
def Ak:V->V->Prop
 |.many t n f,v'=>v'=.dead\/∃g,v'=.many t n g/\∀k,k<n->Ak (f k) (g k)
 |v,v'=>v'=.dead\/Sub v v'
theorem Ak.of:∀{v v':V},Sub v v'->Ak v v':=by
 intro v
 induction v with
 |many t n f A=>intro v' h;obtain⟨g,rfl,h⟩:=h;exact .inr ⟨g,rfl,λk B=>A k (h k B)⟩
 |_=>intro v' h;exact .inr h
def Ak.refl(v:V):Ak v v:=Ak.of (Sub.refl v)
def Ak.dead:∀(v:V),Ak v .dead:=by
 intro v;cases v<;>exact .inl rfl
def Ak.mk(A:l.length=m.length)(h:∀k,k<l.length->Ak (l.getD k .dead) (m.getD k .dead)):Ak (Ah l) (Ah m):=by
 unfold Ah;rw[<-A];exact .inr ⟨_,rfl,h⟩
def Ak.tup(A:l.length=m.length)(h:∀k,k<l.length->Ak (l.getD k .dead) (m.getD k .dead)):Ak (Dj l) (Dj m):=by
 unfold Dj;rw[<-A];exact .inr ⟨_,rfl,h⟩
def Ak.pk{t:Tg}(A:l.length=m.length)(h:∀k,k<l.length->Ak (l.getD k .dead) (m.getD k .dead)):Ak (pkL t l) (pkL t m):=by
 unfold pkL;rw[<-A];exact .inr ⟨_,rfl,h⟩
theorem Rel.subS{D:Nat->Prop}{R:V->Value->Prop}:∀{v v':V}{cv:Value},Ak v v'->Rel D w R v cv noF->Rel D w R v' cv noF:=by
 intro v
 induction v with
 |many t n f U=>
  intro v' cv h A;rcases h with rfl|⟨g,rfl,h⟩
  .exact λ_ h=>h
  obtain⟨cs,F,H,W,A,hd,Y⟩:=A;have hF:=λk B=>A2 λb Z=>(Y b).2 ⟨k,B,Z⟩
  exact⟨cs,λ_=>noF,H,W,λk B=>U k (h k B) (by grind),λ_ _ _ _ _ _ h=>h.elim,λb=>⟨λh=>h.elim,fun⟨_,_,h⟩=>h⟩⟩
 |_=>
  intro v' cv h A;rcases h with rfl|h
  .exact λ_ h=>h
  .exact Rel.sub h A
theorem At.sub'{w:World}:∀{p:AI}{v A:V}{cv:Value}{s:Bool}{sz n:Nat}{f:Nat->Nat->V}{c:Value},Sub v A->At w p v cv (.nd s true sz n f) c->∃B,At w p A cv (.nd s true sz n B) c
 |[],v,A,cv,s,sz,n,f,c,h,ha=>by
  obtain⟨rfl,rfl⟩:=ha;obtain⟨g,rfl,_⟩:=h;exact⟨g,rfl,rfl⟩
 |(i,k)::p,.nd s0 true sz0 n0 f0,A,cv,s,sz,n,f,c,h,ha=>by
  obtain⟨g,rfl,h⟩:=h;obtain⟨H,F,b,o,cap,x,h3,h4,U⟩:=ha;obtain⟨B,W⟩:=At.sub' (h i k H F) U;exact⟨B,H,F,b,o,cap,x,h3,h4,W⟩
 |_::_,.nd _ false _ _ _,_,_,_,_,_,_,_,_,ha=>ha.elim
 |_::_,.c _,_,_,_,_,_,_,_,_,ha=>ha.elim
 |_::_,.dead,_,_,_,_,_,_,_,_,ha=>ha.elim
 |_::_,.many ..,_,_,_,_,_,_,_,_,ha=>ha.elim
 |_::_,.rs ..,_,_,_,_,_,_,_,_,ha=>ha.elim
 |_::_,.rp ..,_,_,_,_,_,_,_,_,ha=>ha.elim
 |_::_,.rm ..,_,_,_,_,_,_,_,_,ha=>ha.elim
 |_::_,.mp ..,_,_,_,_,_,_,_,_,ha=>ha.elim
theorem At.subM{w:World}:∀{p:AI}{v A:V}{cv:Value}{l:List (Value×Value)}{c:Value},Sub v A->At w p v cv (.mp true l) c->At w p A cv (.mp true l) c
 |[],v,A,cv,l,c,h,ha=>by
  obtain⟨rfl,rfl⟩:=ha;cases h;exact⟨rfl,rfl⟩
 |(i,k)::p,.nd s0 true sz0 n0 f0,A,cv,l,c,h,ha=>by
  obtain⟨g,rfl,h⟩:=h;obtain⟨F,B,b,o,cap,x,h3,h4,H⟩:=ha;exact⟨F,B,b,o,cap,x,h3,h4,At.subM (h i k F B) H⟩
 |_::_,.nd _ false _ _ _,_,_,_,_,_,ha=>ha.elim
 |_::_,.c _,_,_,_,_,_,ha=>ha.elim
 |_::_,.dead,_,_,_,_,_,ha=>ha.elim
 |_::_,.many ..,_,_,_,_,_,ha=>ha.elim
 |_::_,.rs ..,_,_,_,_,_,ha=>ha.elim
 |_::_,.rp ..,_,_,_,_,_,ha=>ha.elim
 |_::_,.rm ..,_,_,_,_,_,ha=>ha.elim
 |_::_,.mp ..,_,_,_,_,_,ha=>ha.elim
theorem Ae.sub{σ σ':List V}{ρ:Nat->Value}(Y:σ'.length=σ.length)(H:∀i,i<σ.length->Sub (σ.getD i .dead) (σ'.getD i .dead)):∀v cv,Ae σ ρ w v cv->Ae σ' ρ w v cv
 |.rs id p off len,cv,⟨A,sz,n,f,W,F,r⟩=>by
  obtain⟨U,B⟩:=At.sub' (H id A) F;exact⟨by grind,sz,n,U,W,B,r⟩
 |.rp id p i k,cv,⟨A,s,sz,n,f,b,o,cap,F,r⟩=>by
  obtain⟨U,B⟩:=At.sub' (H id A) F;exact⟨by omega,s,sz,n,U,b,o,cap,B,r⟩
 |.rm id p,cv,⟨A,l,b,F,r⟩=>⟨by omega,l,b,At.subM (H id A) F,r⟩
 |.mp ..,_,h=>h.elim
 |.c _,_,h=>h.elim
 |.dead,_,h=>h.elim
 |.many ..,_,h=>h.elim
 |.nd ..,_,h=>h.elim
theorem CR.sub{C:Ctx}{σ σ' ts ts':List V}{cts:Array Value}{w:World}{D:Nat->Prop}{ρ:Nat->Value}{F:Nat->Nat->Prop}(h:CR C σ ts cts w D ρ F)(H:σ'.length=σ.length)(B:∀i,i<σ.length->Sub (σ.getD i .dead) (σ'.getD i .dead))
  (A:ts'.length=ts.length) (W:∀i,i<ts.length->Ak (ts.getD i .dead) (ts'.getD i .dead)):CR C σ' ts' cts w D ρ F:=by
 refine⟨⟨λi hi=>Rel.sub (B i (by omega)) (h.wr.rel i (by omega)),h.wr.disj,h.wr.dD,h.wr.Dlt,λi b hi=>h.wr.out i b (by omega)⟩,by rw[h.sz,A],λt U=>?_,h.fr,h.Fn,h.D1,h.D2,h.rt,by rw[H];exact h.ml⟩
 exact Rel.subS (W t (by omega)) (Rel.mono (λ_ h=>h) (Ae.sub H B) _ _ _ (λ_ _=>rfl) (h.tm t (by omega)))
theorem AA.sub{C:Ctx}{N:Nat}{S S':Ms}{a:Act}{w:World}(h:AA C N S a w)(Y:S'.σ.length=S.σ.length)(W:∀i,i<S.σ.length->Sub (S.σ.getD i .dead) (S'.σ.getD i .dead))(U:∀i,Ak (S.t i) (S'.t i)):AA C N S' a w:=by
 obtain⟨hd,A,D,ρ,F,B⟩:=h;refine⟨hd,λx H=>?_,D,ρ,F,B.sub Y W (by simp) λi hi=>?_⟩
 .have:=U x
  rw[A x H]at this;rcases this with h|h
  .exact h
  trivial
 grind
def Cl.frz:Cl->Cl
 |.c t _ x=>.c t 0 x
 |y=>y
def Sl.frz:Sl->Option Sl
 |.one y=>some (.one y.frz)
 |.new l=>match Hn l with
  |some ⟨t,x⟩=>some (.one (.c (.ptr t) 0 x))
  |none=>none
 |.agg l=>some (.agg (l.map Cl.frz))
 |.pk t l=>some (.pk t (l.map Cl.frz))
 |.tup l=>some (.tup (l.map λp=>(p.1,p.2.map Cl.frz)))
theorem Cl.frz_v(y:Cl):Go.Ve.frz (y.v r)=y.frz.v r:=by
 cases y with
 |c t d x=>
  cases A:t.one with
  |true=>exact Uz A d x
  |false=>cases t<;>first|rfl|trivial
 |_=>rfl
theorem UT(l:List Cl):Go.Ve.frz (Ah (l.map (Cl.v r)))=Ah ((l.map Cl.frz).map (Cl.v r)):=by
 rw[frz_mk,map_map,map_map]
 congr 1
 exact map_congr_left λy _=>Cl.frz_v y
theorem Sl.frz_v{r:List Aa}{y y':Sl}(h:y.frz=some y'):Go.Ve.frz (y.v r)=y'.v r:=by
 cases y with
 |one c=>cases h;exact Cl.frz_v c
 |new l=>
  unfold Sl.frz at h;simp only at h;split at h
  .rename_i t x A
   cases h;show Go.Ve.frz (A3 true (l.map Cl.v0))=A3 false (tyV t 0 x);rw[Nh,DV _ _ A]
  .cases h
 |agg l=>cases h;exact UT l
 |pk t l=>
  cases h;show Go.Ve.frz (pkL t (l.map (Cl.v r)))=pkL t ((l.map Cl.frz).map (Cl.v r));rw[frz_pk,map_map,map_map]
  congr 1
  exact map_congr_left λy _=>Cl.frz_v y
 |tup l=>
  cases h;show Go.Ve.frz (Dj _)=Dj _;rw[AcL,map_map,map_map]
  congr 1
  refine map_congr_left λp _=>?_
  obtain⟨b,l⟩:=p;cases b with
  |true=>exact UT l
  |false=>
   show Go.Ve.frz ((l.map (Cl.v r)).getD 0 .dead)=((l.map Cl.frz).map (Cl.v r)).getD 0 .dead;rw[Aw (a:=.dead) rfl,Cl.frz_v];simp only[gDE,List.getElem?_map];cases l[0]? <;>rfl
def Cl.chk(m:Nat):Cl->Cl
 |.rf id p=>bif blt id m then .rf id p else .dead
 |.rs id p off len=>bif blt id m then .rs id p off len else .dead
 |.rp id p i k=>bif blt id m then .rp id p i k else .dead
 |y=>y
def Sl.chk(m:Nat):Sl->Sl
 |.one y=>.one (y.chk m)
 |.new l=>.new l
 |.agg l=>.agg (l.map (Cl.chk m))
 |.pk t l=>.pk t (l.map (Cl.chk m))
 |.tup l=>.tup (l.map λp=>(p.1,p.2.map (Cl.chk m)))
def Cl.chk_v{r':List Aa}(B:∀id,id<r.length->r'.getD id .dead=r.getD id .dead)(y:Cl):Ak (y.v r) ((y.chk r.length).v r'):=by
 cases y with
 |rf id p=>
  show Ak _ ((bif blt id r.length then Cl.rf id p else .dead).v r');cases A:blt id r.length with
  |false=>exact Ak.dead _
  |true=>
   have A:=blE A;show Ak (V.rs id p 0 (Ac r id p).len) (V.rs id p 0 (Ac r' id p).len);unfold Ac;rw[B id A];exact Ak.refl _
 |rs id p off len=>
  show Ak _ ((bif blt id r.length then Cl.rs id p off len else .dead).v r');cases A:blt id r.length with
  |false=>exact Ak.dead _
  |true=>exact Ak.refl _
 |rp id p off len=>
  show Ak _ ((bif blt id r.length then Cl.rp id p off len else .dead).v r');cases A:blt id r.length with
  |false=>exact Ak.dead _
  |true=>exact Ak.refl _
 |_=>exact Ak.refl _
theorem BA{l:List Cl}{f g:Cl->V}(B:f .dead=.dead)(A:g .dead=.dead)(h:∀y,Ak (f y) (g y))(k:Nat):Ak ((l.map f).getD k .dead) ((l.map g).getD k .dead):=by grind
theorem Sl.chk_v{r r':List Aa}(A:∀id,id<r.length->r'.getD id .dead=r.getD id .dead)(y:Sl):Ak (y.v r) ((y.chk r.length).v r'):=by
 have agg:∀l:List Cl,Ak (Ah (l.map (Cl.v r))) (Ah ((l.map (Cl.chk r.length)).map (Cl.v r'))):=by
  intro l;refine Ak.mk (by simp) λk _=>?_
  rw[map_map];exact BA rfl rfl (λy=>Cl.chk_v A y) k
 cases y with
 |one c=>exact Cl.chk_v A c
 |new l=>exact Ak.refl _
 |agg l=>exact agg l
 |pk t l=>
  refine Ak.pk (by simp) λk _=>?_
  rw[map_map];exact BA rfl rfl (λy=>Cl.chk_v A y) k
 |tup l=>
  refine Ak.tup (by simp) λk B=>?_
  have B:k<l.length:=by simpa using B
  simp only[gDE,List.getElem?_map,gEE B,Option.map_some,getD_some];generalize l[k]=p;obtain⟨b,m⟩:=p;cases b with
  |true=>exact agg m
  |false=>
   have:=BA (l:=m) (f:=Cl.v r) rfl rfl (λy=>Cl.chk_v A y) 0
   have e:(m.map λy=>(y.chk r.length).v r')=(m.map (Cl.chk r.length)).map (Cl.v r'):=by rw[map_map];rfl
   grind
end Go.Ve

