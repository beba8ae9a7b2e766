/- The typed machine. -/
import Derived.Test.YteakdlfnmhlifaaTc
import Derived.Test.YteakdlfnmhlifaaVr
import Derived.Test.YteakdlfnmhlifaaXa
import Derived.Test.YteakdlfnmhlifaaVwa
open Nat(ble beq blt le_refl)
open Bool(or_eq_true)
open List(map_append all_map mem_singleton map_cons all_cons replicate range ext_getElem mem_append getElem_mem map_congr_left length_take getElem?_take length_drop any_eq_false map_drop map_take mem_cons mem_map mem_append_left map_map)
open Option(getD_none getD_some)
set_option linter.all false
namespace Go.Ve
variable{ps:Array (Nat×Operand)}{y:Cl}{r:List Ab}{l:List Cl}{m:List V}{d:Nat}{lo:Option Operand}{P:Program}{s:St}{a:TR}{Θ:Tab}{t:TypeId}
def CY:List V->List V->Prop
 |[],[]=>True
 |a::l,b::m=>Sub a b/\CY l m
 |_,_=>False
def CY.len:∀{l m:List V},CY l m->l.length=m.length
 |[],[],_=>rfl
 |_::_,_::_,h=>by simp[CY.len h.2]
 |[],_::_,h=>h.elim
 |_::_,[],h=>h.elim
def CY.getD:∀{l m:List V} (_:CY l m) (k:Nat),Sub (l.getD k .dead) (m.getD k .dead)
 |[],[],_,_=>Sub.refl _
 |_::_,_::_,h,0=>h.1
 |_::_,_::_,h,k+1=>CY.getD h.2 k
 |[],_::_,h,_=>h.elim
 |_::_,[],h,_=>h.elim
def CY.app:∀{l m u e:List V},CY l m->CY u e->CY (l++u) (m++e)
 |[],[],_,_,_,h=>h
 |_::_,_::_,_,_,h,h'=>⟨h.1,CY.app h.2 h'⟩
 |[],_::_,_,_,h,_=>h.elim
 |_::_,[],_,_,h,_=>h.elim
theorem CY.mk{l:List V}(h:CY l m):Sub (Ag l) (Ag m):=by
 unfold Ag;rw[h.len];exact⟨_,rfl,λk _=>h.getD k⟩
theorem CY.obj{o:Bool}{l:List V}(h:CY l m):Sub (A8 o l) (A8 o m):=by
 unfold A8;rw[h.len];refine⟨_,rfl,λi k hi _=>?_⟩
 obtain rfl:i=0:=by omega
 exact h.getD k
theorem Eqv.symm:∀{v v':V},Eqv v v'->Eqv v' v:=by
 intro v
 induction v with
 |c v=>intro v' h;cases h;rfl
 |dead=>intro v' h;cases h;rfl
 |many t n f e=>intro v' h;obtain⟨g,rfl,h⟩:=h;exact⟨f,rfl,λk u=>e k (h k u)⟩
 |nd s own sz n f e=>intro v' h;obtain⟨g,rfl,h⟩:=h;exact⟨f,rfl,λi k hi u=>e i k (h i k hi u)⟩
 |rs id p off len=>intro v' h;cases h;rfl
 |rp id p i k=>intro v' h;cases h;rfl
 |rm id p=>intro v' h;cases h;rfl
 |mp own l=>intro v' h;cases h;rfl
def PC(a b:Nat):Nat:=bif ble a b then a else b
theorem IJ(a b:Nat):PC a b=min a b:=by
 unfold PC;cases h:ble a b with
 |true=>simp_all
 |false=>
  have:¬a<=b:=λe=>by rw[Nat.ble_eq_true_of_le e]at h;grind
  grind
def dOK(t:Ty)(d e:Nat):Bool:=beq t.dep 0||beq d e
theorem KH{t:Ty}{e:Nat}(h:dOK t d e=true):min d t.dep=min e t.dep:=by
 unfold dOK at h;rw[or_eq_true]at h;rcases h with h|h
 .simp_all
 simp_all
def fit(e:Nat):Cl->Cl
 |.c t d x=>bif beq (PC d t.dep) (PC e t.dep)then .c t e x else .c t d x
 |y=>y
def DV(t:Ty)(d:Nat):Cl->Option t.T
 |.c e u x=>if h:e=t then(bif dOK t u d then some (h▸x)else none)else none
 |.nil=>match t with
  |.sl _=>some []
  |_=>none
 |_=>none
def Lb(t:Ty)(d:Nat):List Cl->Option (t.T×List Cl)
 |c::l=>match DV t d c with
  |some x=>some (x,l)
  |none=>none
 |[]=>none
def AdM:(t:Ty)->Nat->List Cl->Option (t.T×List Cl)
 |.unit,_,l=>some ((),l)
 |.pair a b,d,l=>match AdM a d l with
  |some (x,l)=>match AdM b d l with
   |some (y,l)=>some ((x,y),l)
   |none=>none
  |none=>none
 |.int k,d,l=>Lb (.int k) d l
 |.bool,d,l=>Lb .bool d l
 |.str,d,l=>Lb .str d l
 |.sl t,d,l=>Lb (.sl t) d l
 |.ptr t,d,l=>Lb (.ptr t) d l
 |.clo g t,d,l=>Lb (.clo g t) d l
 |.osl t,d,l=>Lb (.osl t) d l
 |.mp k v,d,l=>Lb (.mp k v) d l
def IG(t:Ty)(d:Nat)(l:List Cl):Option t.T:=match AdM t d l with
 |some (x,[])=>some x
 |_=>none
theorem Kc{t:Ty}{c:Cl}{x:t.T}(h:DV t d c=some x)(r:List Ab):Sub (c.v r) (cV t d x)/\c.v r=c.v0:=by
 unfold DV at h;split at h
 .rename_i e A B
  split at h
  case isFalse=>grind
  rename_i u;subst u;cases hd:dOK e A d with
  |false=>grind
  |true=>
   rw[hd]at h;cases h;exact⟨Sub.of_eq (Mk (KH hd)),rfl⟩
 .split at h
  .cases h
   exact⟨.inr ⟨rfl,_,_,_,rfl⟩,rfl⟩
  grind
 grind
theorem DU{t:Ty}(A:t.one=true){e:List Cl}{x:t.T}(h:Lb t d l=some (x,e))(r:List Ab):∃m,l=m++e/\CY (m.map (Cl.v r)) (tyV t d x)/\m.map (Cl.v r)=m.map Cl.v0:=by
 unfold Lb at h;split at h
 .rename_i c B
  split at h
  .rename_i y u
   cases h;obtain⟨F,E⟩:=Kc u r;exact⟨[c],rfl,by rw[Bh A];trivial,by grind⟩
  grind
 grind
theorem UB(r:List Ab):∀(t:Ty) (d:Nat) (l e:List Cl) (x:t.T),AdM t d l=some (x,e)->∃m,l=m++e/\CY (m.map (Cl.v r)) (tyV t d x)/\m.map (Cl.v r)=m.map Cl.v0
 |.unit,d,l,e,x,h=>by cases h;exact⟨[],rfl,trivial,rfl⟩
 |.int k,d,l,e,x,h=>DU rfl h r
 |.bool,d,l,e,x,h=>DU rfl h r
 |.str,d,l,e,x,h=>DU rfl h r
 |.sl t,d,l,e,x,h=>DU rfl h r
 |.ptr t,d,l,e,x,h=>DU rfl h r
 |.clo g t,d,l,e,x,h=>DU rfl h r
 |.osl t,d,l,e,x,h=>DU rfl h r
 |.mp k v,d,l,e,x,h=>DU rfl h r
 |.pair a b,d,l,e,x,h=>by
  unfold AdM at h;split at h
  .rename_i y l1 F
   split at h
   .rename_i z l2 E
    cases h;obtain⟨B,J,s1,t1⟩:=UB r a d l l1 y F;obtain⟨A,H,u,t2⟩:=UB r b d l1 e z E;subst H;subst J;exact⟨B++A,by simp,by rw[map_append];exact s1.app u,by grind⟩
   grind
  grind
theorem Dj{t:Ty}{x:t.T}(h:IG t d l=some x)(r:List Ab):CY (l.map (Cl.v r)) (tyV t d x)/\l.map (Cl.v r)=l.map Cl.v0:=by
 unfold IG at h;split at h
 .rename_i y u
  cases h;obtain⟨m,e,B,A⟩:=UB r t d l [] x u
  grind
 grind
def JG(r:List Ab):∀t:Ty,(Ir t).map (Cl.v r)=(B2 t).map .c
 |.int _=>rfl
 |.bool=>rfl
 |.str=>rfl
 |.sl _=>rfl
 |.ptr _=>rfl
 |.unit=>rfl
 |.clo _ _=>rfl
 |.osl _=>rfl
 |.mp _ _=>rfl
 |.pair a b=>by simp[Ir,B2,JG r a,JG r b]
def PG:∀t:Ty,CY ((B2 t).map .c) ((WL t).map Cl.v0)
 |.int _=>⟨Sub.refl _,trivial⟩
 |.bool=>⟨Sub.refl _,trivial⟩
 |.str=>⟨Sub.refl _,trivial⟩
 |.sl _=>⟨.inr ⟨rfl,_,_,_,rfl⟩,trivial⟩
 |.ptr _=>⟨Sub.refl _,trivial⟩
 |.clo _ _=>⟨Sub.refl _,trivial⟩
 |.osl _=>⟨.inr ⟨rfl,_,_,_,rfl⟩,trivial⟩
 |.mp _ _=>⟨Sub.refl _,trivial⟩
 |.unit=>trivial
 |.pair a b=>by simp[B2,WL,map_append];exact(PG a).app (PG b)
def Ty.noPtr:Ty->Bool
 |.ptr _=>false
 |.clo _ _=>false
 |.osl _=>false
 |.mp _ _=>false
 |.pair a b=>a.noPtr&&b.noPtr
 |_=>true
def PE(d:Nat):∀t:Ty,t.noPtr=true->CY ((B2 t).map .c) (tyV t d t.dflt)
 |.int _,_=>⟨Sub.refl _,trivial⟩
 |.bool,_=>⟨Sub.refl _,trivial⟩
 |.str,_=>⟨Sub.refl _,trivial⟩
 |.sl _,_=>⟨.inr ⟨rfl,_,_,_,rfl⟩,trivial⟩
 |.unit,_=>trivial
 |.pair a b,h=>by
  simp[Ty.noPtr,bAE]at h;simp[B2,tyV];exact(PE d a h.1).app (PE d b h.2)
def HJ:∀t:Ty,(B2 t).length=t.w
 |.int _=>rfl
 |.bool=>rfl
 |.str=>rfl
 |.sl _=>rfl
 |.ptr _=>rfl
 |.unit=>rfl
 |.clo _ _=>rfl
 |.osl _=>rfl
 |.mp _ _=>rfl
 |.pair a b=>by simp[B2,Ty.w,HJ a,HJ b]
def Cl.plain:Cl->Bool
 |.dead=>false
 |.c .unit _ _=>false
 |.c (.pair _ _) _ _=>false
 |.c (.clo _ _) _ _=>false
 |.c (.osl _) _ _=>false
 |.c (.mp _ _) _ _=>false
 |y=>!y.own
def Sl.cells:Sl->Option (List Cl)
 |.one y=>bif y.plain then some [y]else none
 |.agg l=>bif l.all Cl.plain then some l else none
 |_=>none
theorem X5(h:y.plain=true):one1 (y.v r)=true/\AK (y.v r)=false/\Bv (y.v r)=true/\Go.Ve.cellsV (y.v r)=[y.v r]:=by
 cases y with
 |c t d x=>cases t<;>cases d<;>first|trivial|rfl
 |dead=>cases h
 |_=>trivial
theorem CW{y:Sl}(h:y.cells=some l):Bv (y.v r)=true/\Go.Ve.cellsV (y.v r)=l.map (Cl.v r)/\l.all Cl.plain=true:=by
 unfold Sl.cells at h;split at h
 .rename_i c
  cases e:c.plain with
  |false=>grind
  |true=>
   rw[e]at h;cases h;obtain⟨_,_,E,B⟩:=X5 e;exact⟨E,B,by grind⟩
 .rename_i u
  cases e:u.all Cl.plain with
  |false=>grind
  |true=>
   rw[e]at h;cases h;refine⟨?_,Pr,e⟩;show Bv (Ag _)=true;rw[X6,all_map,aET];intro y A;exact(X5 (aET.1 e y A)).1
 grind
def Sl.cellsF:Sl->Option (List Cl)
 |.one (.c (.clo g t) d x)=>some [.c (.clo g t) d x]
 |y=>y.cells
theorem Pt{y:Sl}(h:y.cellsF=some l):Bv (y.v r)=true/\Go.Ve.cellsV (y.v r)=l.map (Cl.v r):=by
 unfold Sl.cellsF at h;split at h
 .rename_i g t d x
  cases h;refine⟨?_,rfl⟩;show(!AK (cV (.clo g t) d x))=true;have e:AK (cV (.clo g t) d x)=false:=HL (.clo g t) x _ (mem_singleton.2 rfl)
  grind
 .obtain⟨A,u,_⟩:=CW (r:=r) h
  grind
def AdK(cells:List Cl):Nat->List Cl->List Cl
 |_,[]=>cells
 |off,y::l=>AdK (cells.set off y) (off+1) l
theorem Acu:∀(l cells:List V) (off k:Nat),((l.zipIdx k).foldl (λcs (c,j)=>cs.set (off+j) c) cells)=ZX cells (off+k) l:=by
 have gen:∀(l cells:List V) (off k:Nat),((l.zipIdx k).foldl (λcs (c,j)=>cs.set (off+j) c) cells)=((l.zipIdx 0).foldl (λcs (c,j)=>cs.set (off+k+j) c) cells):=by
  intro l
  induction l with
  |nil=>simp
  |cons v l e=>
   intro cells off k;simp[Nat.add_zero];rw[e _ off (k+1),e _ (off+k) (0+1)];rfl
 trivial
def Xy{v:V}{l cells:List V}{off:Nat}:ZX cells off (v::l)=ZX (cells.set off v) (off+1) l:=by
 show((v::l).zipIdx 0).foldl _ cells=_;exact Acu l _ off (0+1)
def XA{r:List Ab}:∀(l cells:List Cl) (off:Nat),(AdK cells off l).map (Cl.v r)=ZX (cells.map (Cl.v r)) off (l.map (Cl.v r))
 |[],cells,off=>rfl
 |y::l,cells,off=>by
  rw[map_cons,Xy];show(AdK (cells.set off y) (off+1) l).map (Cl.v r)=_;rw[XA l,List.map_set]
def VB(place:Nat->Option (Nat×Nat))(cells:List Cl):List (Nat×Option Sl)->Option (List Cl)
 |[]=>some cells
 |(i,y)::rest=>match place i,y with
  |some (off,size),some y=>match y.cellsF with
   |some l=>bif beq l.length size&&ble (off+size) cells.length then VB place (AdK cells off l) rest else none
   |none=>none
  |_,_=>none
theorem MC{s:St}{place:Nat->Option (Nat×Nat)}:∀(ps:List (Nat×Operand)) (cells l:List Cl),VB place cells (ps.map λp=>(p.1,s.ev p.2))=some l->
  (ps.map λp=>(p.1,s.den.ev p.2)).all (λp=>Bv p.2)=true/\Cb place (cells.map (Cl.v s.r)) (ps.map λp=>(p.1,s.den.ev p.2))=some (l.map (Cl.v s.r))
 |[],cells,l,h=>by cases h;exact⟨rfl,rfl⟩
 |(i,x)::ps,cells,l,h=>by
  rw[map_cons]at h;unfold VB at h;split at h
  case h_2=>cases h
  rename_i off size y e A;split at h
  case h_2=>cases h
  rename_i m B;obtain⟨u,h⟩:=A1 h;simp only[bAE]at u;have F:=bqE u.1;have E:=blE u.2;obtain⟨g1,g2⟩:=Pt (r:=s.r) B;obtain⟨k1,k2⟩:=MC ps _ _ h;rw[map_cons,all_cons];refine⟨by simp only[Bd A,g1,Bool.true_and];exact k1,?_⟩
  unfold Cb;simp only[e,Bd A,g2];rw[if_neg (by grind),<-XA]
  exact k2
def Xn:Option TI->List (Nat×Option Sl)->Option TR
 |some i,ps=>bif i.agg then(match VB (λk=>i.places[k]?) (Ir i.ty) ps with
   |some l=>some (.ok (.agg l))
   |none=>none)
  else none
 |none,_=>none
theorem N9(e:Θ.OK P)(h:Xn (Θ.look t) (ps.toList.map λp=>(p.1,s.ev p.2))=some a):QS P s (.build t ps) a.y:=by
 unfold Xn at h;split at h
 case h_2=>grind
 rename_i i hi;cases u:i.agg with
 |false=>grind
 |true=>
  rw[u]at h;split at h
  case h_2=>grind
  rename_i l B;cases h;obtain⟨E,A⟩:=MC _ _ _ B;show LC (AbT P t) (ps.toList.map λp=>(p.1,s.den.ev p.2)) (SK s _)
  rw[e.bd hi,u];unfold LC;rw[JG]at A;simp only[if_true];rw[A];exact⟨E,Sub.refl _⟩
def OQ(t:Ty)(d:Nat):Nat->List Cl->Option (List t.T)
 |0,[]=>some []
 |0,_::_=>none
 |n+1,l=>match AdM t d l with
  |some (x,l)=>match OQ t d n l with
   |some xs=>some (x::xs)
   |none=>none
  |none=>none
theorem Qk{t:Ty}(r:List Ab):∀(n:Nat) (l:List Cl) (xs:List t.T),OQ t d n l=some xs->xs.length=n/\l.map (Cl.v r)=l.map Cl.v0/\
  ∀i k,i<n->k<t.w->Sub ((l.map (Cl.v r)).getD (i*t.w+k) .dead) ((tyV t d (xs.getD i t.dflt)).getD k .dead):=by
 intro n
 induction n with
 |zero=>
  intro l xs h;cases l with
  |nil=>cases h;exact⟨rfl,rfl,λi k hi=>by omega⟩
  |cons y l=>cases h
 |succ n B=>
  intro l xs h;unfold OQ at h;split at h
  case h_2=>cases h
  rename_i x l1 H;split at h
  case h_2=>cases h
  rename_i ys F;cases h;obtain⟨m,e,s1,A⟩:=UB r t d l l1 x H;obtain⟨g1,g2,J⟩:=B l1 ys F;subst e;have u:(m.map (Cl.v r)).length=t.w:=by rw[s1.len,Av]
  refine⟨by simp[g1],by simp[A,g2],λi k hi E=>?_⟩
  rw[map_append];cases i with
  |zero=>
   simp only[Nat.zero_mul,Nat.zero_add,List.getD_cons_zero];have:=s1.getD k;rw[gDE,gAL (by omega),<-gDE]
   exact this
  |succ i=>
   have:=J i k (by omega) E
   rw[List.getD_cons_succ];have e:(i+1)*t.w+k-(m.map (Cl.v r)).length=i*t.w+k:=by rw[u,Nat.add_mul];omega
   rw[gDE,gAR (by rw[u,Nat.add_mul];omega),e,<-gDE]
   exact this
def AcC(n:Nat)(l:List Cl):List Cl:=match n with
 |0=>[]
 |n+1=>l++AcC n l
def YN:∀(n w:Nat) (l:List V),l.length=w->0<w->∀j,j<n*w->((replicate n l).flatten).getD j .dead=l.getD (j % w) .dead:=by
 intro n w l u A
 induction n with
 |zero=>simp
 |succ n e=>
  intro j hj;rw[List.replicate_succ,List.flatten_cons];by_cases h:j<w
  .rw[gDE,gAL (by omega),<-gDE,Nat.mod_eq_of_lt h]
  .have:=Nat.add_one_mul n w
   rw[gDE,gAR (by omega),<-gDE,u,e (j-w) (by omega),<-Nat.mod_eq_sub_mod (by omega)]
theorem XI(r:List Ab)(t:Ty)(n:Nat)(u:0<t.w):(AcC n (Ir t)).map (Cl.v r)=(range (n*t.w)).map λj=>.c ((B2 t).getD (j % t.w) undef):=by
 have e:(AcC n (Ir t)).map (Cl.v r)=(replicate n ((B2 t).map V.c)).flatten:=by
  induction n with
  |zero=>rfl
  |succ n A=>
   show((Ir t)++AcC n (Ir t)).map (Cl.v r)=_;rw[map_append,A,JG,List.replicate_succ,List.flatten_cons]
 have E:((B2 t).map V.c).length=t.w:=by rw[List.length_map,HJ]
 rw[e];apply ext_getElem
 .simp_all
 .intro j H F
  have hj:=by simpa using F
  have g:=YN n t.w _ E u j hj;rw[gDE,gEE H]at g;simp at g;rw[g];have B:j % t.w<(B2 t).length:=by rw[HJ];exact Nat.mod_lt _ u
  simp[B]
def Ty.noO:Ty->Bool
 |.osl _=>false
 |.mp _ _=>false
 |.clo _ t=>t.noO
 |.pair a b=>a.noO&&b.noO
 |_=>true
theorem JA:∀(t:Ty) (x:t.T),t.noO=true->∀v∈tyV t 0 x,B9 v=true
 |.int _,_,_,v,h=>by simp[tyV]at h;subst h;rfl
 |.bool,_,_,v,h=>by simp[tyV]at h;subst h;rfl
 |.str,_,_,v,h=>by simp[tyV]at h;subst h;rfl
 |.sl _,_,_,v,h=>by simp only[tyV,mem_singleton]at h;subst h;rfl
 |.ptr _,_,_,v,h=>by simp only[tyV,mem_singleton]at h;subst h;rfl
 |.unit,_,_,v,h=>by trivial
 |.pair a b,x,ho,v,h=>by
  simp only[Ty.noO,bAE]at ho;simp only[tyV,mem_append]at h;exact h.elim (JA a x.1 ho.1 v) (JA b x.2 ho.2 v)
 |.osl _,_,ho,_,_=>by cases ho
 |.mp _ _,_,ho,_,_=>by cases ho
 |.clo g t,x,ho,v,h=>by
  simp only[tyV,mem_singleton]at h;subst h;show((range t.w).all λk=>B9 ((tyV t 0 x).getD k .dead))=true
  rw[aET];intro k e;have e:k<(tyV t 0 x).length:=by rw[Av];grind
  rw[gDE,gEE e];exact JA t x ho _ (getElem_mem e)
def Cl.imm:Cl->Bool
 |.c .unit _ _=>false
 |.c (.pair _ _) _ _=>false
 |.c (.clo _ _) _ _=>false
 |.c (.osl _) _ _=>false
 |.c (.mp _ _) _ _=>false
 |.c t d x=>!(Cl.c t d x).own
 |.nil=>true
 |.nilp=>true
 |.nilf=>true
 |.nilm=>true
 |_=>false
theorem QA(h:y.imm=true):B9 (y.v r)=true/\y.v r=y.v0:=by
 cases y with
 |c t d x=>cases t<;>cases d<;>first|trivial|rfl
 |nil=>trivial
 |nilp=>trivial
 |nilf=>trivial
 |nilm=>trivial
 |_=>cases h
def Cl.immF:Cl->Bool
 |.c (.clo _ t) _ _=>t.noO
 |y=>y.imm
theorem immF_v(h:y.immF=true):B9 (y.v r)=true:=by
 unfold Cl.immF at h;split at h
 .rename_i g t d x
  exact JA (.clo g t) x h _ (mem_singleton.2 rfl)
 .exact(QA h).1
theorem Adc(h:l.all Cl.immF=true):(l.map (Cl.v r)).all B9=true:=by
 rw[all_map,aET];intro y e;exact immF_v (aET.1 h y e)
theorem imms_v(h:l.all Cl.imm=true):(l.map (Cl.v r)).all B9=true/\l.map (Cl.v r)=l.map Cl.v0:=by
 refine⟨?_,map_congr_left λy e=>(QA (aET.1 h y e)).2⟩
 rw[all_map,aET];intro y e;exact(QA (aET.1 h y e)).1
def Hw(n:Nat)(ps:List (Nat×Option Sl)):Option TI->Option TR
 |some j=>bif blt 0 j.ty.w&&ble (n*j.ty.w) 16777216 then(bif beq n 0 then(match ps with
  |[]=>some (.ok (.one (.c (.sl j.ty) (j.sd+1) [])))
  |_::_=>none)else match VB (λi=>some (i*j.ty.w,j.ty.w)) (AcC n (Ir j.ty)) ps with
   |some l=>bif l.all Cl.immF then(match OQ j.ty j.sd n l with
    |some xs=>some (.ok (.one (.c (.sl j.ty) (j.sd+1) xs)))
    |none=>match OQ j.ty 0 n l with
     |some xs=>some (.ok (.one (.c (.sl j.ty) 1 xs)))
     |none=>none)else none
   |none=>none)
  else none
 |none=>none
theorem Ix(H:Θ.OK P){n:Nat}(h:Hw n (ps.toList.map λp=>(p.1,s.ev p.2)) (((Θ.look t).bind (·.elem)).bind Θ.look)=some a):QS P s (.buildSlice t n ps) a.y:=by
 unfold Hw at h;split at h
 case h_2=>cases h
 rename_i j hj;obtain⟨e,A,_⟩:=Hd H hj;cases E:(blt 0 j.ty.w&&ble (n*j.ty.w) 16777216)with
 |false=>rw[E]at h;cases h
 |true=>
  rw[E]at h;simp only[bAE]at E;have J:=Ml E.1;have U:=blE E.2;simp only[cond_true]at h;cases F:beq n 0 with
  |true=>
   rw[F]at h;simp only[cond_true]at h;have F:=bqE F;subst F;split at h
   case h_2=>cases h
   rename_i O;cases h;have B:ps.toList=[]:=by simpa using O
   show B6 (slI P t) (Acz P t) 0 (ps.toList.map λp=>(p.1,s.den.ev p.2)) (SK s _)
   rw[A,B];refine⟨rfl,⟨J,U⟩,?_⟩;simp only[Nat.zero_mul,List.range_zero,List.map_nil,Cb];refine⟨rfl,?_⟩;refine(Eqv.sub (Eqv.symm (MJ (Acz P t) j.ty.w 0 _))).trans ?_;show Sub _ (arr true j.ty.w (tyV j.ty j.sd) j.ty.dflt []);exact⟨_,rfl,λi k hi W=>by omega⟩
  |false=>
  rw[F]at h;simp only[cond_false]at h;split at h
  case h_2=>cases h
  rename_i l Z;obtain⟨hi,h⟩:=A1 h
  have key:∀(d:Nat) (xs:List j.ty.T),OQ j.ty d n l=some xs->a=.ok (.one (.c (.sl j.ty) (d+1) xs))->QS P s (.buildSlice t n ps) a.y:=by
   intro d xs u ha;subst ha;obtain⟨h1,Y⟩:=MC _ _ _ Z;rw[XI s.r j.ty n J]at Y;show B6 (slI P t) (Acz P t) n (ps.toList.map λp=>(p.1,s.den.ev p.2)) (SK s _)
   rw[A];refine⟨h1,⟨J,U⟩,?_⟩;rw[Y];refine⟨Adc hi,?_⟩;obtain⟨g1,g2,g3⟩:=Qk s.r n l xs u;refine(Eqv.sub (Eqv.symm (MJ (Acz P t) j.ty.w n _))).trans ?_;show Sub _ (arr true j.ty.w (tyV j.ty d) j.ty.dflt xs);unfold arr;rw[g1];exact⟨_,rfl,λi k hi W=>g3 i k hi W⟩
  split at h
  .rename_i xs u
   cases h;exact key _ xs u rfl
  .split at h
   case h_2=>cases h
   rename_i xs u;cases h;exact key 0 xs u rfl
def Xp:Option TI->Option TR
 |some i=>bif blt 0 i.ty.w then some (.ok (.new (WL i.ty)))else none
 |none=>none
theorem Ob(e:Θ.OK P)(h:Xp (Θ.look t)=some a):QS P s (.alloc t) a.y:=by
 unfold Xp at h;split at h
 case h_2=>grind
 rename_i i hi;cases u:blt 0 i.ty.w with
 |false=>grind
 |true=>
  rw[u]at h;cases h;show OG (tyI P t) (SK s _);rw[e.ty hi];exact⟨Ml u,(PG i.ty).obj⟩
def tBox:Option Sl->Option TR
 |some y=>match y.cells with
  |some l=>bif l.all Cl.imm then some (.ok (.new l))else some (.ok (.pk .bx l))
  |none=>none
 |none=>none
theorem VC{x:Operand}(h:tBox (s.ev x)=some a):QS P s (.box t x) a.y:=by
 unfold tBox at h;split at h
 case h_2=>grind
 rename_i y B;split at h
 case h_2=>grind
 rename_i l E;cases e:l.all Cl.imm with
 |false=>
  rw[e]at h;cases h;obtain⟨A,u,_⟩:=CW E;show qBox (s.den.ev x) (SK s _);rw[Bd B];refine⟨A,.inr ?_⟩;rw[u];exact Sub.refl _
 |true=>
  rw[e]at h;cases h;obtain⟨A,u,_⟩:=CW E;obtain⟨g1,g2⟩:=imms_v (r:=s.r) e;show qBox (s.den.ev x) (SK s _);rw[Bd B];refine⟨A,.inl ⟨by grind,?_⟩⟩
  rw[u,g2];exact Sub.refl _
def Acj:Option TI->Option Sl->Option Sl->Option TR
 |some j,some (.one (.c (.int _) _ l)),some (.one (.c (.int _) _ c))=>
  bif blt 0 j.ty.w&&j.ty.noPtr then some (.cnd (0<=l/\l<=c/\(j.bytes:Int)*c<=281474976710656/\c<=9223372036854775807) inferInstance (.one (.c (.sl j.ty) (j.sd+1) (Abm (Lc l) j.ty.dflt))))else none
 |_,_,_=>none
theorem V6(e:Bool){t:Ty}(d n:Nat)(h:t.noPtr=true):Sub (Yk e t.w n (B2 t)) (cV (.sl t) (d+1) (replicate n t.dflt)):=by
 have gen:Sub (arr true t.w (λx=>x) [] (replicate n ((B2 t).map .c))) (cV (.sl t) (d+1) (replicate n t.dflt)):=by
  have B:cV (.sl t) (d+1) (replicate n t.dflt)=arr true t.w (tyV t d) t.dflt (replicate n t.dflt):=by rfl
  rw[B];unfold arr;rw[List.length_replicate,List.length_replicate];refine⟨_,rfl,λi k hi _=>?_⟩
  have A:(replicate n ((B2 t).map V.c)).getD i []=(B2 t).map .c:=by grind
  have u:(replicate n t.dflt).getD i t.dflt=t.dflt:=by grind
  show Sub (((replicate n ((B2 t).map V.c)).getD i []).getD k .dead) ((tyV t d ((replicate n t.dflt).getD i t.dflt)).getD k .dead);rw[A,u];exact(PE d t h).getD k
 trivial
theorem PW(A:Θ.OK P){l c:Operand}(h:Acj (((Θ.look t).bind (·.elem)).bind Θ.look) (s.ev l) (s.ev c)=some a)(E:a.p):QS P s (.makeSlice t l c) a.y:=by
 unfold Acj at h;split at h
 case h_2=>grind
 rename_i j _ _ J _ _ O hj F H;obtain⟨e,B,_⟩:=Hd A hj;cases u:(blt 0 j.ty.w&&j.ty.noPtr)with
 |false=>grind
 |true=>
  rw[u]at h;simp only[bAE]at u;cases h;show XY (slI P t) (Acz P t) (s.den.ev l) (s.den.ev c) (SK s _);rw[B,Bd F,Bd H];exact⟨Ml u.1,E,V6 _ _ _ u.2⟩
def Lo:Option (Option Sl)->Option (Option Int)
 |none=>some none
 |some (some (.one (.c (.int _) _ n)))=>some (some n)
 |_=>none
def Xa(s:St):Option TI->Option TI->Option Sl->Option (Option Int)->Option (Option Int)->Option TR
 |some i,_,some (.one (.c .str _ b)),some lo,some hi=>
  bif i.str then some (.cnd (0<=lo.getD 0/\lo.getD 0<=hi.getD (ofN (P4 b))/\hi.getD (ofN (P4 b))<=ofN (P4 b)) inferInstance (.one (.c .str 0 (cutS b (Lc (lo.getD 0)) (Lc (hi.getD (ofN (P4 b))))))))else none
 |some i,some j,some (.one (.c (.sl t) 0 xs)),some lo,some hi=>
  bif beq t.w j.ty.w&& !i.str then some (.cnd (0<=lo.getD 0/\lo.getD 0<=hi.getD (ofN (H7 xs))/\hi.getD (ofN (H7 xs))<=ofN (H7 xs)) inferInstance
   (.one (.c (.sl t) 0 (match lo,hi with
    |none,none=>xs
    |some l,none=>QJ (Lc l) xs
    |none,some h=>PN (Lc h) xs
    |some l,some h=>PN (Lc h-Lc l) (QJ (Lc l) xs)))))else none
 |some i,some j,some (.one (.rf id p)),some lo,some hi=>
  match Ac s.r id p with
  |.arr _ t _ xs=>bif beq t.w j.ty.w&& !i.str then some (.cnd (0<=lo.getD 0/\lo.getD 0<=hi.getD (ofN (H7 xs))/\hi.getD (ofN (H7 xs))<=ofN (H7 xs)) inferInstance
    (.one (.rs id p (Lc (lo.getD 0)) (Lc (hi.getD (ofN (H7 xs)))-Lc (lo.getD 0)))))else none
  |_=>none
 |some i,some j,some (.one (.rs id p off len)),some lo,some hi=>
  match Ac s.r id p with
  |.arr _ t _ _=>bif beq t.w j.ty.w&& !i.str then some (.cnd (0<=lo.getD 0/\lo.getD 0<=hi.getD (ofN len)/\hi.getD (ofN len)<=ofN len) inferInstance
    (.one (.rs id p (off+Lc (lo.getD 0)) (Lc (hi.getD (ofN len))-Lc (lo.getD 0)))))else none
  |_=>none
 |_,_,_,_,_=>none
theorem C1{l:Option Int}(h:Lo (lo.map s.ev)=some l)(d:Int):bnd d (lo.map s.den.ev)=some (l.getD d):=by
 cases lo with
 |none=>cases h;rfl
 |some x=>
  simp at h⊢;unfold Lo at h;split at h
  .grind
  .rename_i e
   cases h;simp at e;rw[Bd e];rfl
  grind
theorem N2{s:St}(Y:Θ.OK P){t:TypeId}{x:Operand}{lo hi:Option Operand}{a:TR}
  (h:Xa s (Θ.look t) (((Θ.look t).bind (·.elem)).bind Θ.look) (s.ev x) (Lo (lo.map s.ev)) (Lo (hi.map s.ev))=some a) (Z:a.p):QS P s (.slice t x lo hi none) a.y:=by
 unfold Xa at h;have E:∀y,Lz (slK P t) (s.r.map Ab.v) (s.den.ev x) (lo.map s.den.ev) (hi.map s.den.ev) (SK s y)->QS P s (.slice t x lo hi none) y:=λy h=>⟨rfl,h⟩
 have J:∀{i j:TI},Θ.look t=some i->((Θ.look t).bind (·.elem)).bind Θ.look=some j->i.str=false->slK P t=.slice j.ty.w:=by
  intro i j hi hj hs;rw[Y.sk hi,hs];rw[hi]at hj;simp only[Option.bind_some]at hj;rw[hj];rfl
 split at h
 case h_5=>cases h
 .rename_i i _ b l u W O A B
  obtain⟨U,h⟩:=A1 h;cases h;refine E _ ?_;rw[Y.sk W,U,Bd O];unfold Lz
  show(match bnd 0 (lo.map s.den.ev),bnd b.size (hi.map s.den.ev)with
   |some l,some h=>_
   |_,_=>False)
  rw[C1 A,C1 B];exact⟨Z,Sub.refl _⟩
 .rename_i i j e xs l u W hj O A B
  obtain⟨U,h⟩:=A1 h;cases h;obtain⟨h1,F⟩:=IY U;have F:i.str=false:=by simpa using F
  refine E _ ?_;rw[J W hj F,Bd O]
  show(match bnd 0 (lo.map s.den.ev),bnd xs.length (hi.map s.den.ev)with
   |some l,some h=>_
   |_,_=>False)
  rw[C1 A,C1 B];refine⟨h1,Z,?_⟩;obtain⟨p1,p2,p3⟩:0<=l.getD 0/\l.getD 0<=u.getD xs.length/\u.getD xs.length<=xs.length:=Z;show Sub (V.nd true false e.w ((u.getD xs.length).toNat-(l.getD 0).toNat) λi k=>(tyV e 0 (xs.getD (i+(l.getD 0).toNat) e.dflt)).getD k .dead) (arr false e.w (tyV e 0) e.dflt _)
  have key:∀ys:List e.T,ys.length=(u.getD xs.length).toNat-(l.getD 0).toNat->(∀i,i<ys.length->ys.getD i e.dflt=xs.getD (i+(l.getD 0).toNat) e.dflt)->
    Sub (V.nd true false e.w ((u.getD xs.length).toNat-(l.getD 0).toNat) λi k=>(tyV e 0 (xs.getD (i+(l.getD 0).toNat) e.dflt)).getD k .dead) (arr false e.w (tyV e 0) e.dflt ys):=by
   intro ys hl hg;unfold arr;rw[hl];refine⟨_,rfl,λi k hi _=>?_⟩
   rw[hg i (by omega)]
   exact Sub.refl _
  cases l with
  |none=>cases u with
   |none=>exact key xs (by simp) λi hi=>by simp
   |some u=>
    simp only[getD_none,getD_some]at p1 p2 p3⊢;refine key _ ?_ λi hi=>?_
    .simp only[Lc,length_take];simp;omega
    .simp only[Lc,length_take]at hi
     have:i<u.toNat:=by omega
     simp[getElem?_take,this]
  |some l=>cases u with
   |none=>
    simp only[getD_none,getD_some]at p1 p2 p3⊢;refine key _ ?_ λi hi=>?_
    .simp
    .simp[Nat.add_comm]
   |some u=>
    simp only[getD_some]at p1 p2 p3⊢;refine key _ ?_ λi hi=>?_
    .simp only[Lc,getD_some,length_take,length_drop];omega
    .simp only[Lc,length_take,length_drop]at hi
     have:i<u.toNat-l.toNat:=by omega
     simp[getElem?_take,this,Nat.add_comm]
 .rename_i i j id p l u W hj O A B
  split at h
  case h_2=>cases h
  rename_i ro e d xs H;have hne:Ac s.r id p≠.dead:=by rw[H];simp
  obtain⟨U,h⟩:=A1 h;cases h;obtain⟨h1,F⟩:=IY U;have F:i.str=false:=by simpa using F
  refine E _ ?_;rw[J W hj F,Bd O];have hl:(Ac s.r id p).len=xs.length:=by rw[H];rfl
  show(match bnd 0 (lo.map s.den.ev),bnd (Ac s.r id p).len (hi.map s.den.ev)with
   |some l,some h=>_
   |_,_=>False)
  rw[C1 A,C1 B,hl];refine⟨by rw[Cg (by rw[H];rfl),H];exact h1,Z,?_⟩
  show Sub (V.rs id p (0+(l.getD 0).toNat) _) (V.rs id p (l.getD 0).toNat _);rw[Nat.zero_add];exact Sub.refl _
 .rename_i i j id p off len l u W hj O A B
  split at h
  case h_2=>cases h
  rename_i ro e d xs H;have hne:Ac s.r id p≠.dead:=by rw[H];simp
  obtain⟨U,h⟩:=A1 h;cases h;obtain⟨h1,F⟩:=IY U;have F:i.str=false:=by simpa using F
  refine E _ ?_;rw[J W hj F,Bd O]
  show(match bnd 0 (lo.map s.den.ev),bnd len (hi.map s.den.ev)with
   |some l,some h=>_
   |_,_=>False)
  rw[C1 A,C1 B];exact⟨by rw[Cg (by rw[H];rfl),H];exact h1,Z,Sub.refl _⟩
end Go.Ve


namespace Go.Ve
variable{b:Bool}{y y':Cl}{f:FuncId}{r:List Ab}{ys:List Sl}{g:Nat}{D fp:Nat->Prop}{t1 t2:Nat->Sl}{op:Op}{x:Operand}{P:Program}{s:St}{Θ:Tab}{t:Ty}{v:V}{R:V->Value->Prop}{cv:Value}{w:World}
def PT:List (Bool×Ty)->Ty
 |[]=>.unit
 |[p]=>p.2
 |p::q::l=>.pair p.2 (PT (q::l))
def vOf(b:Bool)(t:Ty)(d:Nat)(x:t.T):V:=if b then Ag (tyV t d x)else cV t d x
def CX:(l:List (Bool×Ty))->(PT l).T->List V
 |[],_=>[]
 |[p],x=>[vOf p.1 p.2 0 x]
 |p::q::l,x=>vOf p.1 p.2 0 x.1::CX (q::l) x.2
def RT:List (Bool×Nat×Ty)->Ty
 |[]=>.unit
 |[p]=>p.2.2
 |p::q::l=>.pair p.2.2 (RT (q::l))
def AcA:(l:List (Bool×Nat×Ty))->(RT l).T->List V
 |[],_=>[]
 |[p],x=>[vOf p.1 p.2.2 p.2.1 x]
 |p::q::l,x=>vOf p.1 p.2.2 p.2.1 x.1::AcA (q::l) x.2
def P7(l:List (Bool×Nat×Ty))(x:(RT l).T):V:=OP (AcA l x)
def isP(p:Bool×Nat×Ty):Bool:=!p.1&&match p.2.2 with
 |.ptr _=>true
 |_=>false
def Zp(b:Bool)(p:Bool×Nat×Ty)(x:p.2.2.T):V:=bif b|| !isP p then vOf p.1 p.2.2 p.2.1 x else .c (.pointer none)
def VK(b:Bool):(l:List (Bool×Nat×Ty))->(RT l).T->List V
 |[],_=>[]
 |[p],x=>[Zp b p x]
 |p::q::l,x=>Zp b p x.1::VK b (q::l) x.2
def XH:∀(l:List (Bool×Nat×Ty)) (x:(RT l).T),VK true l x=AcA l x
 |[],_=>rfl
 |[_],_=>rfl
 |p::q::l,x=>congrArg (vOf p.1 p.2.2 p.2.1 x.1:: ·) (XH (q::l) x.2)
def J1(b:Bool)(l:List (Bool×Nat×Ty))(x:(RT l).T):V:=OP (VK b l x)
def Hz(l:List (Bool×Nat×Ty))(x:(RT l).T):J1 true l x=P7 l x:=congrArg OP (XH l x)
structure Sig where
 ps:List (Bool×Ty)
 rs:List (Bool×Nat×Ty)
def FT(P:Program)(f:FuncId)(S:Sig)(g:(PT S.ps).T->Option (RT S.rs).T):Prop:=∀x y,g x=some y->FC P f (CX S.ps x) (P7 S.rs y)
structure En where
 f:FuncId
 S:Sig
 g:(PT S.ps).T->Option (RT S.rs).T
variable{Γ:List En}
def look:List En->FuncId->Option En
 |[],_=>none
 |e::l,f=>bif beq e.f f then some e else look l f
def En.OK(P:Program)(e:En):Prop:=AA P e.f=true/\FT P e.f e.S e.g
def Io(P:Program)(Γ:List En):Prop:=∀e∈Γ,e.OK P
theorem FC.sub{P:Program}{f:FuncId}{args e:List V}{r:V}(h:FC P f args r)(A:CY e args):FC P f e r:=by
 intro w D cvs E F u B;refine h w D cvs E F (by rw[u,A.len]) λi hi=>Rel.sub (A.getD i) (B i (by rw[A.len];grind))
def FTN(P:Program)(f:FuncId)(S:Sig)(g:(PT S.ps).T->Option (Bool×(RT S.rs).T)):Prop:=∀x b y,g x=some (b,y)->FC P f (CX S.ps x) (J1 b S.rs y)
structure EnN where
 f:FuncId
 S:Sig
 g:(PT S.ps).T->Option (Bool×(RT S.rs).T)
def UR:List EnN->FuncId->Option EnN
 |[],_=>none
 |e::l,f=>bif beq e.f f then some e else UR l f
def EnN.OK(P:Program)(e:EnN):Prop:=AA P e.f=true/\FTN P e.f e.S e.g
def UQ{P:Program}{f:FuncId}{e:EnN}:∀{Γ:List EnN},(∀e∈Γ,e.OK P)->UR Γ f=some e->e.OK P/\e.f=f
 |[],_,h=>by cases h
 |e'::l,hΓ,h=>by
  unfold UR at h;cases A:beq e'.f f with
  |true=>
   simp_all
  |false=>
   rw[A]at h;exact UQ (λe u=>hΓ e (mCM _ u)) h
def Qy(s:St)(w:Nat):Cl->Option Cl
 |.c t _ x=>bif t.one then some (.c t 0 x)else none
 |.nil=>some .nil
 |.rf id p=>match Ac s.r id p with
  |.arr _ t _ xs=>some (.c (.sl t) 0 xs)
  |_=>none
 |.rs id p off len=>match Ac s.r id p with
  |.arr _ t _ xs=>some (.c (.sl t) 0 (VG off len xs t.dflt))
  |_=>none
 |.rp id p j k=>match Ac s.r id p with
  |.obj _ l=>match j with
   |0=>bif ble (k+w) l.length then(match DH ((l.drop k).take w)with
    |some ⟨t,x⟩=>some (.c (.ptr t) 0 x)
    |none=>none)else none
   |_+1=>none
  |.arr _ t _ xs=>bif ble (k+w) t.w then(match DH (((Aq t 0 (AdR xs j t.dflt)).drop k).take w)with
   |some ⟨e,x⟩=>some (.c (.ptr e) 0 x)
   |none=>none)else none
  |_=>none
 |_=>none
theorem UY(h:t.one=true)(d:Nat)(x:t.T):frz (cV t d x)=cV t 0 x:=by
 have:=Be t d x;rw[Bh h,Bh h]at this
 grind
def Aa3(v v':V):Prop:=Sub v v'\/∃sz e n f,v=.nd false false sz n f/\e<=sz/\Sub (.nd false false e n f) v'
theorem Rel.trunc{sz e n:Nat}{f:Nat->Nat->V}(h:Rel D w R (.nd false false sz n f) cv fp)(W:e<=sz):Rel D w R (.nd false false e n f) cv fp:=by
 rcases h with h|⟨b,o,cap,F,H,B,A,u,O,hi,Y⟩
 .grind
 have U:=u rfl;subst U;refine .inr ⟨b,o,cap,F,H,B,A,u,λi k hi Z=>?_,λhh=>?_,λh=>by cases h⟩
 .obtain rfl:i=0:=by omega
  obtain⟨x,J,E⟩:=O 0 k (by omega) (by omega)
  exact⟨x,by simpa using J,E⟩
 grind
theorem Rel.sub1{v':V}(e:Aa3 v v')(h:Rel D w R v cv fp):Rel D w R v' cv fp:=by
 rcases e with e|⟨sz,u,n,f,rfl,A,e⟩
 .exact Rel.sub e h
 .exact Rel.sub e (h.trunc A)
def Jr:List V->List V->Prop
 |[],[]=>True
 |a::l,b::m=>Aa3 a b/\Jr l m
 |_,_=>False
def Jr.len:∀{l m:List V},Jr l m->l.length=m.length
 |[],[],_=>rfl
 |_::_,_::_,h=>by simp[Jr.len h.2]
 |[],_::_,h=>h.elim
 |_::_,[],h=>h.elim
def Jr.getD:∀{l m:List V} (_:Jr l m) (k:Nat),Aa3 (l.getD k .dead) (m.getD k .dead)
 |[],[],_,_=>.inl (Sub.refl _)
 |_::_,_::_,h,0=>h.1
 |_::_,_::_,h,k+1=>Jr.getD h.2 k
 |[],_::_,h,_=>h.elim
 |_::_,[],h,_=>h.elim
theorem FC.sub1{P:Program}{f:FuncId}{args e:List V}{r:V}(h:FC P f args r)(A:Jr e args):FC P f e r:=by
 intro w D cvs E F u B;refine h w D cvs E F (by rw[u,A.len]) λi hi=>Rel.sub1 (A.getD i) (B i (by rw[A.len];grind))
theorem JE{x:t.T}(h:v∈tyV t 0 x):Go.Ve.frz v=v:=by
 obtain⟨i,hi,rfl⟩:=List.getElem_of_mem h;have e:=Be t 0 x
 grind
theorem Dk{σ:List V}:∀(t:Ty) (x:t.T),∀v∈tyV t 0 x,BQ σ v=v
 |.int _,_,v,h=>by simp[tyV]at h;subst h;rfl
 |.bool,_,v,h=>by simp[tyV]at h;subst h;rfl
 |.str,_,v,h=>by simp[tyV]at h;subst h;rfl
 |.sl t,x,v,h=>by
  have e:=JE (x:=x) h;simp only[tyV,mem_singleton]at h;subst h;exact e
 |.ptr t,x,v,h=>by
  have e:=JE (x:=x) h;simp only[tyV,mem_singleton]at h;subst h;exact e
 |.unit,_,v,h=>by simp[tyV]at h
 |.mp _ _,_,v,h=>by simp[tyV]at h;subst h;rfl
 |.pair a b,x,v,h=>by
  simp only[tyV,mem_append]at h;exact h.elim (Dk a x.1 v) (Dk b x.2 v)
 |.osl t,x,v,h=>by
  have e:=JE (x:=x) h;simp only[tyV,mem_singleton]at h;subst h;cases x with
  |none=>rfl
  |some xs=>exact e
 |.clo g t,x,v,h=>by
  simp only[tyV,mem_singleton]at h;subst h;show(if Tg.cl g=.bx then _ else V.many (.cl g) t.w λk=>BQ σ ((tyV t 0 x).getD k .dead))=_
  rw[if_neg (by intro h;cases h)]
  congr 1
  funext k
  by_cases u:k<(tyV t 0 x).length
  .rw[gDE,gEE u]
   exact Dk t x _ (getElem_mem u)
  .rw[gDE,List.getElem?_eq_none (by omega)];rfl
theorem H6:∀(t:Ty) (x:t.T),∀v∈tyV t 0 x,AL v=false
 |.int _,_,v,h=>by simp[tyV]at h;subst h;rfl
 |.bool,_,v,h=>by simp[tyV]at h;subst h;rfl
 |.str,_,v,h=>by simp[tyV]at h;subst h;rfl
 |.sl _,_,v,h=>by simp[tyV,mem_singleton]at h;subst h;rfl
 |.ptr _,_,v,h=>by simp[tyV,mem_singleton]at h;subst h;rfl
 |.unit,_,v,h=>by trivial
 |.mp _ _,_,v,h=>by simp[tyV]at h;subst h;rfl
 |.pair a b,x,v,h=>by
  simp[tyV,mem_append]at h;exact h.elim (H6 a x.1 v) (H6 b x.2 v)
 |.osl t,x,v,h=>by
  simp[tyV,mem_singleton]at h;subst h;cases x<;>rfl
 |.clo g t,x,v,h=>by
  simp[tyV,mem_singleton]at h;subst h;show((range t.w).any λk=>AL ((tyV t 0 x).getD k .dead))=false
  rw[any_eq_false];intro k e;have e:k<(tyV t 0 x).length:=by rw[Av];grind
  rw[gDE,gEE e];simp[H6 t x _ (getElem_mem e)]
def Aas{σ:List V}{u:Ty}{d:Nat}{x:u.T}:BQ σ (cV (.clo g u) d x)=Go.Ve.frz (cV (.clo g u) d x):=by
 have e:cV (.clo g u) d x∈tyV (.clo g u) 0 x:=mem_singleton.2 rfl;rw[Dk _ _ _ e,JE e]
theorem Ng{w:Nat}(h:Qy s w y=some y'):Aa3 (BQ (s.r.map Ab.v) (y.v s.r)) y'.v0/\y'.v0=y'.v s.r/\((∀id p i k,y≠.rp id p i k)->Sub (BQ (s.r.map Ab.v) (y.v s.r)) y'.v0):=by
 have u:∀{v v':V},Sub v v'->Aa3 v v'/\((∀id p i k,y≠.rp id p i k)->Sub v v'):=λh=>⟨.inl h,λ_=>h⟩
 unfold Qy at h;split at h
 .rename_i t d x
  cases H:t.one with
  |false=>rw[H]at h;cases h
  |true=>
   rw[H]at h;cases h
   have:Sub (BQ (s.r.map Ab.v) (cV t d x)) (cV t 0 x):=by
    rw[<-UY H d x];cases t<;>first|exact Sub.refl _|(cases H;done)|(cases x<;>exact Sub.refl _)|exact Sub.of_eq Aas
   exact⟨(u this).1,rfl,(u this).2⟩
 .cases h;exact⟨(u (Sub.refl _)).1,rfl,(u (Sub.refl _)).2⟩
 .rename_i id p
  split at h
  case h_2=>cases h
  rename_i ro t d xs B;cases h;have A:Ac s.r id p≠.dead:=by rw[B];simp
  have:Sub (BQ (s.r.map Ab.v) (V.rs id p 0 (Ac s.r id p).len)) (cV (.sl t) 0 xs):=by
   rw[Qv,AS A,B];show Sub (Yu (arr true t.w (tyV t d) t.dflt xs) 0 xs.length) _;rw[O2 rfl];have e:(λa=>(tyV t d a).map frz)=tyV t 0:=funext λx=>Be t d x
   rw[e];exact Sub.refl _
  exact⟨(u this).1,rfl,(u this).2⟩
 .rename_i id p off len
  split at h
  case h_2=>cases h
  rename_i ro t d xs B;cases h;have A:Ac s.r id p≠.dead:=by rw[B];simp
  have:Sub (BQ (s.r.map Ab.v) (V.rs id p off len)) (cV (.sl t) 0 (VG off len xs t.dflt)):=by
   rw[Qv,AS A,B];show Sub (Yu (arr true t.w (tyV t d) t.dflt xs) off len) (arr false t.w (tyV t 0) t.dflt (VG off len xs t.dflt));unfold arr;have F:(VG off len xs t.dflt).length=len:=by simp[VG]
   rw[F];refine⟨_,rfl,λi k hi J=>Sub.of_eq ?_⟩
   have W:(VG off len xs t.dflt).getD i t.dflt=xs.getD (off+i) t.dflt:=by simp[VG,hi]
   rw[W,<-Be t d];exact(Az (f:=frz) (a:=.dead) rfl (tyV t d (xs.getD (off+i) t.dflt)) k).symm
  exact⟨(u this).1,rfl,(u this).2⟩
 .rename_i id p j k
  split at h
  .rename_i ro l B
   have A:Ac s.r id p≠.dead:=by rw[B];simp
   split at h
   case h_2=>cases h
   cases E:ble (k+w) l.length with
   |false=>rw[E]at h;cases h
   |true=>
    rw[E]at h;have E:=blE E;simp only[cond_true]at h;split at h
    case h_2=>cases h
    rename_i t x Y;cases h;refine⟨.inr ⟨l.length-k,w,1,λi' k'=>([((l.drop k).map Cl.v0).map frz].getD i' []).getD k' .dead,?_,by omega,?_⟩,rfl,λh=>absurd rfl (h _ _ _ _)⟩
    .show BQ (s.r.map Ab.v) (V.rp id p 0 k)=_
     rw[Qw,AS A,B];show Aau (A8 true (l.map Cl.v0)) 0 k=_;rw[LU];unfold A8;simp only[map_drop,length_drop,List.length_map]
    .show Sub _ (A8 false (tyV t 0 x))
     have e:=Hc _ _ Y;unfold A8;have F:(tyV t 0 x).length=w:=by rw[e];simp;omega
     rw[F];refine⟨_,rfl,λi' k' hi J=>?_⟩
     obtain rfl:i'=0:=by omega
     refine Sub.of_eq ?_;show(((l.drop k).map Cl.v0).map frz).getD k' .dead=(tyV t 0 x).getD k' .dead;rw[e];simp[getElem?_take,J]
  .rename_i ro t d xs B
   have A:Ac s.r id p≠.dead:=by rw[B];simp
   cases E:ble (k+w) t.w with
   |false=>rw[E]at h;cases h
   |true=>
    rw[E]at h;have E:=blE E;simp only[cond_true]at h;split at h
    case h_2=>cases h
    rename_i O x hd;cases h;refine⟨.inr ⟨t.w-k,w,1,λi' U=>if i'=0 then frz ((tyV t d (xs.getD j t.dflt)).getD (k+U) .dead)else .dead,?_,by omega,?_⟩,rfl,λh=>absurd rfl (h _ _ _ _)⟩
    .show BQ (s.r.map Ab.v) (V.rp id p j k)=_
     rw[Qw,AS A,B];rfl
    .show Sub _ (A8 false (tyV O 0 x))
     have e:=Hc _ _ hd;rw[map_take,map_drop,Bs,map_take,map_drop,Be]at e;unfold A8;have F:(tyV O 0 x).length=w:=by rw[e];simp[Av];omega
     rw[F];refine⟨_,rfl,λi' k' hi J=>?_⟩
     obtain rfl:i'=0:=by omega
     refine Sub.of_eq ?_;simp only[if_true];show _=(tyV O 0 x).getD k' .dead;rw[e,<-Be t d];have:=Az (f:=frz) (a:=.dead) rfl (tyV t d (xs.getD j t.dflt)) (k+k');rw[<-this];simp only[gDE,getElem?_take,J,if_true,List.getElem?_drop]
  .cases h
 .cases h
def O3(s:St):List Cl->Option (List Cl)
 |[]=>some []
 |y::l=>match(match y with
   |.rp _ _ _ _=>none
   |y=>Qy s 0 y)with
  |some y'=>match O3 s l with
   |some e=>some (y'::e)
   |none=>none
  |none=>none
theorem Nd{s:St}:∀{l e:List Cl},O3 s l=some e->CY ((l.map (Cl.v s.r)).map (BQ (s.r.map Ab.v))) (e.map (Cl.v s.r))
 |[],e,h=>by cases h;trivial
 |y::l,e,h=>by
  unfold O3 at h;split at h
  case h_2=>grind
  rename_i y' u;split at h
  case h_2=>grind
  rename_i m B;cases h;have A:∀id p i k,y≠.rp id p i k:=by grind
  have u:Qy s 0 y=some y':=by
   grind
  obtain⟨_,E,F⟩:=Ng u;exact⟨by grind,Nd B⟩
def Yv(s:St):Cl->Option Cl
 |.rp id p i k=>match i,k with
  |0,0=>match Ac s.r id p with
   |.obj _ l=>match DH l with
    |some ⟨t,x⟩=>some (.c (.ptr t) 0 x)
    |none=>none
   |_=>none
  |_,_=>none
 |y=>Qy s 0 y
theorem Ac2(h:Yv s y=some y'):Sub (BQ (s.r.map Ab.v) (y.v s.r)) y'.v0/\y'.v0=y'.v s.r:=by
 by_cases A:∃id p i k,y=.rp id p i k
 .obtain⟨id,p,i,k,rfl⟩:=A
  unfold Yv at h;simp at h;split at h
  case h_2=>cases h
  split at h
  case h_2=>cases h
  rename_i ro l B;split at h
  case h_2=>cases h
  rename_i t x E;cases h;have u:Ac s.r id p≠.dead:=by grind
  refine⟨?_,rfl⟩;show Sub (BQ (s.r.map Ab.v) (V.rp id p 0 0)) (A8 false (tyV t 0 x));rw[Qw,AS u,B];show Sub (Aau (A8 true (l.map Cl.v0)) 0 0) _;rw[LU,Hc _ _ E];exact Sub.refl _
 .have u:=λid p i k e=>A ⟨id,p,i,k,e⟩
  have h:Qy s 0 y=some y':=by
   cases y with
   |rp id p i k=>grind
   |_=>exact h
  obtain⟨_,F,H⟩:=Ng h
  grind
def Km(s:St):List Cl->Option (List Cl)
 |[]=>some []
 |y::l=>match Yv s y with
  |some y'=>match Km s l with
   |some e=>some (y'::e)
   |none=>none
  |none=>none
theorem Nf{s:St}:∀{l e:List Cl},Km s l=some e->CY ((l.map (Cl.v s.r)).map (BQ (s.r.map Ab.v))) (e.map (Cl.v s.r))
 |[],e,h=>by cases h;trivial
 |y::l,e,h=>by
  unfold Km at h;split at h
  case h_2=>grind
  rename_i y' u;split at h
  case h_2=>grind
  rename_i m A;cases h;obtain⟨E,B⟩:=Ac2 u;exact⟨by grind,Nf A⟩
theorem CY.pk{t:Tg}{l m:List V}(h:CY l m):Sub (pkL t l) (pkL t m):=by
 unfold pkL;rw[h.len];exact⟨_,rfl,λk _=>h.getD k⟩
def Jj(s:St)(b:Bool)(t:Ty):Option Sl->Option t.T
 |some (.one y)=>bif b then none else bif t.one then(match Qy s (match t with
   |.ptr u=>u.w
   |_=>0) y with
  |some y'=>DV t 0 y'
  |none=>none)else none
 |some (.agg l)=>bif b then(match O3 s l with
  |some e=>IG t 0 e
  |none=>none)else none
 |some (.pk .bx l)=>bif b then none else(match t with
  |.ptr u=>(match O3 s l with
   |some e=>IG u 0 e
   |none=>none)
  |_=>none)
 |some (.pk (.cl g) l)=>bif b then none else(match t with
  |.clo A u=>bif beq g A then(match Km s l with
   |some e=>IG u 0 e
   |none=>none)else none
  |_=>none)
 |_=>none
theorem CY.trans:∀{a b c:List V},CY a b->CY b c->CY a c:=by
 intro a
 induction a with
 |nil=>intro b c A e;cases b<;>first|rfl|trivial
 |cons v a B=>intro b c A e;cases b with
  |nil=>trivial
  |cons w b=>cases c with
   |nil=>trivial
   |cons u c=>exact⟨A.1.trans e.1,B A.2 e.2⟩
theorem Oa{z:t.T}(h:Jj s b t (s.ev x)=some z):Aa3 (BQ (s.r.map Ab.v) (s.den.ev x)) (vOf b t 0 z):=by
 unfold Jj at h;split at h
 case h_5=>cases h
 .rename_i y A
  cases b with
  |true=>cases h
  |false=>
   cases U:t.one with
   |false=>rw[U]at h;cases h
   |true=>
    rw[U]at h;simp only[cond_false,cond_true]at h;split at h
    case h_2=>cases h
    rename_i y' B;obtain⟨E,J,_⟩:=Ng B;obtain⟨g1,g2⟩:=Kc h s.r;rw[Bd A];have g1:Sub y'.v0 (vOf false t 0 z):=J▸g1;rcases E with E|⟨sz,F,n,f,e1,e2,Z⟩
    .exact .inl (E.trans g1)
    .exact .inr ⟨sz,F,n,f,e1,e2,Z.trans g1⟩
 .rename_i l A
  cases b with
  |false=>cases h
  |true=>
   simp only[cond_true]at h;split at h
   case h_2=>cases h
   rename_i O B;rw[Bd A];left;show Sub (BQ _ (Ag _)) (Ag _);rw[Ac0];refine CY.mk ?_;have E:=Nd B;have J:=(Dj h s.r).1;exact CY.trans E J
 .rename_i l A
  cases b with
  |true=>cases h
  |false=>
   simp only[cond_false]at h;split at h
   case h_2=>cases h
   rename_i u;split at h
   case h_2=>cases h
   rename_i O B;rw[Bd A];left;show Sub (BQ _ (boxL _)) (A8 false (tyV u 0 z));rw[Aat];exact CY.obj (CY.trans (Nd B) (Dj h s.r).1)
 .rename_i g l A
  cases b with
  |true=>cases h
  |false=>
   simp only[cond_false]at h;split at h
   case h_2=>cases h
   rename_i Y u;cases H:beq g Y with
   |false=>rw[H]at h;cases h
   |true=>
    rw[H]at h;simp only[cond_true]at h;have W:=bqE H;subst W;split at h
    case h_2=>cases h
    rename_i O B;rw[Bd A];left
    have e:V.many (.cl g) u.w (λk=>(tyV u 0 z).getD k .dead)=pkL (.cl g) (tyV u 0 z):=by
     unfold pkL;rw[Av]
    show Sub (BQ _ (pkL (.cl g) _)) (V.many (.cl g) u.w λk=>(tyV u 0 z).getD k .dead)
    rw[e,Ac1];exact CY.pk (CY.trans (Nf B) (Dj h s.r).1)
def Hn(s:St):(l:List (Bool×Ty))->List (Option Sl)->Option (PT l).T
 |[],[]=>some ()
 |[p],[y]=>Jj s p.1 p.2 y
 |p::q::l,y::ys=>match Jj s p.1 p.2 y with
  |some z=>match Hn s (q::l) ys with
   |some e=>some (z,e)
   |none=>none
  |none=>none
 |_,_=>none
theorem Acp{s:St}:∀(l:List (Bool×Ty)) (xs:List Operand) (z:(PT l).T),Hn s l (xs.map s.ev)=some z->Jr ((xs.map s.den.ev).map (BQ (s.r.map Ab.v))) (CX l z)
 |[],[],z,h=>trivial
 |[p],[x],z,h=>⟨Oa h,trivial⟩
 |p::q::l,x::xs,z,h=>by
  have h:(match Jj s p.1 p.2 (s.ev x)with
   |some z=>match Hn s (q::l) (xs.map s.ev)with
    |some e=>some (z,e)
    |none=>none
   |none=>none:Option (PT (p::q::l)).T)=some z:=h
  split at h
  case h_2=>grind
  rename_i B A;split at h
  case h_2=>grind
  rename_i e u;cases h;exact⟨Oa A,Acp (q::l) xs e u⟩
 |[],_::_,_,h=>by cases h
 |[_],[],_,h=>by cases h
 |[_],_::_::_,_,h=>by cases h
 |_::_::_,[],_,h=>by cases h
def resC(b:Bool)(d:Nat)(t:Ty)(x:t.T):Bool×List Cl:=(b,Aq t d x)
def VL(b:Bool)(p:Bool×Nat×Ty)(x:p.2.2.T):Bool×List Cl:=bif b|| !isP p then resC p.1 p.2.1 p.2.2 x else(false,[.nilp])
def resL(b:Bool):(l:List (Bool×Nat×Ty))->(RT l).T->List (Bool×List Cl)
 |[],_=>[]
 |[p],x=>[VL b p x]
 |p::q::l,x=>VL b p x.1::resL b (q::l) x.2
def MP(b:Bool)(l:List (Bool×Nat×Ty))(x:(RT l).T):Sl:=match resL b l x with
 |[(true,cs)]=>.agg cs
 |[(false,cs)]=>.one (cs.getD 0 .dead)
 |m=>.tup m
theorem AcB(b:Bool)(d:Nat)(t:Ty)(x:t.T)(h:b=true\/t.one=true):(if b then Ag ((Aq t d x).map (Cl.v r))else((Aq t d x).map (Cl.v r)).getD 0 .dead)=vOf b t d x:=by
 rw[Cl.v_c];cases b with
 |true=>rfl
 |false=>
  rcases h with h|h
  .grind
  .rw[Bh h];rfl
def DF:List (Bool×Nat×Ty)->Bool
 |[]=>true
 |p::l=>(p.1||p.2.2.one)&&DF l
def Ul(b:Bool)(p:Bool×Nat×Ty)(x:p.2.2.T)(h:p.1=true\/p.2.2.one=true):(if(VL b p x).1 then Ag ((VL b p x).2.map (Cl.v r))else((VL b p x).2.map (Cl.v r)).getD 0 .dead)=Zp b p x:=by
 unfold VL Zp;cases b|| !isP p with
 |true=>exact AcB p.1 p.2.1 p.2.2 x h
 |false=>rfl
def Abl{r:List Ab}(b:Bool):∀(l:List (Bool×Nat×Ty)) (x:(RT l).T),DF l=true->(resL b l x).map (λp=>if p.1 then Ag (p.2.map (Cl.v r))else(p.2.map (Cl.v r)).getD 0 .dead)=VK b l x
 |[],x,_=>rfl
 |[p],x,h=>by
  simp only[DF,bAE,or_eq_true]at h;show [_]=[Zp _ _ _];rw[<-Ul b p x h.1]
 |p::q::l,x,h=>by
  have e:((p.1||p.2.2.one)&&DF (q::l))=true:=h;simp[or_eq_true]at e;show _::(resL b (q::l) x.2).map _=Zp _ _ _::_;rw[Abl b (q::l) x.2 e.2,<-Ul b p x.1 e.1]
theorem Oi(b:Bool)(l:List (Bool×Nat×Ty))(x:(RT l).T)(h:DF l=true):(MP b l x).v r=J1 b l x:=by
 have e:=Abl (r:=r) b l x h;unfold J1;rw[<-e];unfold MP;split
 .rename_i cs u
  rw[u];rfl
 .rename_i cs u
  rw[u];show(cs.getD 0 .dead).v r=(cs.map (Cl.v r)).getD 0 .dead;rw[Az (a:=.dead) rfl]
 .rename_i m B A
  generalize resL b l x=m at*
  match m,B,A with
  |[],_,_=>rfl
  |[(true,cs)],B,_=>grind
  |[(false,cs)],_,A=>grind
  |a::b::m,_,_=>rfl
def Ty.noFn:Ty->Bool
 |.clo _ _=>false
 |.osl _=>false
 |.sl t=>t.noFn
 |.ptr t=>t.noFn
 |.pair a b=>a.noFn&&b.noFn
 |_=>true
theorem B8:∀(t:Ty) (d:Nat) (x:t.T),t.dep<=d->t.noFn=true->∀v∈tyV t d x,BE v
 |.int _,_,_,_,_,v,h=>by simp only[tyV,mem_singleton]at h;subst h;trivial
 |.bool,_,_,_,_,v,h=>by simp only[tyV,mem_singleton]at h;subst h;trivial
 |.str,_,_,_,_,v,h=>by simp only[tyV,mem_singleton]at h;subst h;trivial
 |.unit,_,_,_,_,v,h=>by cases h
 |.clo _ _,_,_,_,hf,_,_=>by cases hf
 |.osl _,_,_,_,hf,_,_=>by cases hf
 |.mp _ _,d,_,hd,_,v,h=>by
  simp only[Ty.dep]at hd;simp only[tyV,mem_singleton]at h;subst h;exact dT (by omega)
 |.sl t,d,xs,hd,hf,v,h=>by
  simp only[Ty.dep]at hd;simp only[tyV,mem_singleton]at h;subst h;refine⟨dT (by omega),λi k _ e=>?_⟩
  exact B8 t (d-1) _ (by omega) hf _ (JD (by rw[Av];exact e))
 |.ptr t,d,x,hd,hf,v,h=>by
  simp only[Ty.dep]at hd;simp only[tyV,mem_singleton]at h;subst h;refine⟨dT (by omega),λi k hi e=>?_⟩
  obtain rfl:i=0:=by omega
  exact B8 t (d-1) _ (by omega) hf _ (JD e)
 |.pair a b,d,x,hd,hf,v,h=>by
  simp only[Ty.noFn,bAE]at hf;simp only[Ty.dep]at hd;rcases mem_append.1 h with h|h
  .exact B8 a d _ (by omega) hf.1 v h
  .exact B8 b d _ (by omega) hf.2 v h
def Di:List (Bool×Nat×Ty)->Bool
 |[]=>true
 |p::l=>ble p.2.2.dep p.2.1&&p.2.2.noFn&&(p.1||p.2.2.one)&&Di l
theorem Qm(b:Bool)(d:Nat)(t:Ty)(x:t.T)(h:t.dep<=d)(u:t.noFn=true)(e:b=true\/t.one=true):BE (vOf b t d x):=by
 cases b with
 |true=>
  show BE (Ag _);rw[VZ];exact B8 t d x h u
 |false=>
  rcases e with e|e
  .grind
  .exact B8 t d x h u _ (by rw[Bh e];exact mem_singleton.2 rfl)
def I8(b:Bool)(p:Bool×Nat×Ty)(x:p.2.2.T)(h:p.2.2.dep<=p.2.1)(e:p.2.2.noFn=true)(u:p.1=true\/p.2.2.one=true):BE (Zp b p x):=by
 unfold Zp;cases b|| !isP p with
 |true=>exact Qm _ _ _ _ h e u
 |false=>trivial
def I9(b:Bool):∀(l:List (Bool×Nat×Ty)) (x:(RT l).T),Di l=true->∀v∈VK b l x,BE v
 |[],_,_,v,h=>by cases h
 |[p],x,hr,v,h=>by
  simp only[Di,bAE,or_eq_true]at hr;rw[mem_singleton.1 h];exact I8 b p x (blE hr.1.1.1) hr.1.1.2 hr.1.2
 |p::q::l,x,hr,v,h=>by
  have e:(ble p.2.2.dep p.2.1&&p.2.2.noFn&&(p.1||p.2.2.one)&&Di (q::l))=true:=hr;simp only[bAE,or_eq_true]at e;rcases mem_cons.1 h with rfl|h
  .exact I8 b p x.1 (blE e.1.1.1) e.1.1.2 e.1.2
  .exact I9 b (q::l) x.2 e.2 v h
theorem Du(b:Bool)(l:List (Bool×Nat×Ty))(x:(RT l).T)(h:Di l=true):BE (J1 b l x):=by
 have:=I9 b l x h;unfold J1 OP;split
 .grind
 .have e:=this
  rw[<-Qn]at e
  trivial
def Cl.lent:Cl->Bool
 |.rf _ _=>true
 |.rs _ _ _ _=>true
 |.rp _ _ _ _=>true
 |.rm _ _=>true
 |y=>y.own
def Sl.lent:Sl->Bool
 |.one c=>c.lent
 |.agg l=>l.any Cl.lent
 |.pk _ l=>l.any Cl.lent
 |_=>true
def Ja(xs:List (Option Sl)):Bool:=xs.all λx=>match x with
 |some y=>!y.lent
 |none=>false
theorem Cl.lent_v(c:Cl):c.lent=false->AL (c.v r)=false:=by
 intro h;cases c with
 |c t d x=>
  cases t<;>cases d<;>first|rfl|trivial|(cases x<;>first|rfl|trivial)|exact H6 (.clo _ _) x _ (mem_singleton.2 rfl)
 |rf=>cases h
 |rs=>cases h
 |rp=>cases h
 |rm=>cases h
 |_=>rfl
theorem OU(e:Tg)(l:List Cl)(h:l.any Cl.lent=false):AL (.many e (l.map (Cl.v r)).length λk=>(l.map (Cl.v r)).getD k .dead)=false:=by
 show((range _).any λk=>AL ((l.map (Cl.v r)).getD k .dead))=false
 rw[any_eq_false];intro k u;rw[Az (a:=.dead) rfl]
 have:(l.getD k .dead).lent=false:=by
  grind
 rw[Cl.lent_v _ this];simp
theorem UG{xs:List Operand}(h:Ja (xs.map s.ev)=true):(xs.map s.den.ev).any AL=false:=by
 rw[any_eq_false];intro v B;obtain⟨x,A,rfl⟩:=mem_map.1 B;have e:=aET.1 h (s.ev x) (mem_map.2 ⟨x,A,rfl⟩);cases u:s.ev x with
 |none=>grind
 |some y=>
  rw[u]at e;have e:=by simpa using e
  rw[Bd u]
  have:AL (y.v s.r)=false:=by
   cases y with
   |one c=>exact Cl.lent_v c e
   |agg l=>exact OU .ag l e
   |pk t l=>exact OU t l e
   |new l=>trivial
   |tup l=>trivial
  grind
def DW(s:St):Option Sl->Option Sl
 |some (.one (.rf id p))=>match Ac s.r id p with
  |.opt _ u _ x=>some (.one (.c (.sl u) 0 (getO x)))
  |_=>some (.one (.rf id p))
 |y=>y
def AaR(s:St):Option Sl->List Bool
 |some (.one (.rf id p))=>match Ac s.r id p with
  |.opt _ _ _ x=>[isO x]
  |_=>[]
 |_=>[]
def Ma(s:St):List (Option Sl)->List Bool
 |[]=>[]
 |y::l=>AaR s y++Ma s l
def gate{α:Type}:List Bool->Option α->Option α
 |[],o=>o
 |b::l,o=>Wx b (gate l o) none
structure WE where
 α:Type
 o:Option α
 y:α->Sl
variable{a:WE}
structure CallN where
 α:Type
 o:Option (Bool×α)
 y:Bool->α->Sl
def Ln(e:En)(s:St)(xs:List (Option Sl)):Option WE:=
 bif Di e.S.rs||(DF e.S.rs&&Ja xs)then(match Hn s e.S.ps (xs.map (DW s))with
  |some z=>some ⟨(RT e.S.rs).T,gate (Ma s xs) (e.g z),λy=>MP true e.S.rs y⟩
  |none=>none)else none
def JQ:List En->St->FuncId->List (Option Sl)->Option WE
 |[],_,_,_=>none
 |e::Γ,s,f,xs=>bif beq e.f f then(match Ln e s xs with
  |some a=>some a
  |none=>JQ Γ s f xs)else JQ Γ s f xs
theorem Jw{s:St}{f:FuncId}{xs:List (Option Sl)}{a:WE}:∀{Γ:List En},JQ Γ s f xs=some a->∃e∈Γ,e.f=f/\Ln e s xs=some a
 |[],h=>by cases h
 |e::Γ,h=>by
  have back:JQ Γ s f xs=some a->∃u∈e::Γ,u.f=f/\Ln u s xs=some a:=λh=>by
   obtain⟨u,E,B⟩:=Jw h
   grind
  unfold JQ at h;cases A:beq e.f f with
  |false=>grind
  |true=>
   rw[A]at h;split at h
   .simp_all
   grind
def Xm(Γ:List EnN)(s:St)(f:FuncId)(xs:List (Option Sl)):Option CallN:=
 match UR Γ f with
 |some e=>bif Di e.S.rs||(DF e.S.rs&&Ja xs)then(match Hn s e.S.ps (xs.map (DW s))with
  |some z=>some ⟨(RT e.S.rs).T,gate (Ma s xs) (e.g z),λb y=>MP b e.S.rs y⟩
  |none=>none)else none
 |none=>none
def HV:∀{l:List (Bool×Nat×Ty)},Di l=true->DF l=true
 |[],_=>rfl
 |p::l,h=>by
  simp only[Di,bAE]at h;simp only[DF,bAE];exact⟨h.1.2,HV h.2⟩
def Qx{t1 t2:Nat->Sl}{r:List Ab}:∀l:List Cl,O3 ⟨t1,r⟩ l=O3 ⟨t2,r⟩ l
 |[]=>rfl
 |y::l=>by
  unfold O3;rw[Qx l];rfl
def Ac3:Yv ⟨t1,r⟩ y=Yv ⟨t2,r⟩ y:=by rfl
def US{t1 t2:Nat->Sl}{r:List Ab}:∀l:List Cl,Km ⟨t1,r⟩ l=Km ⟨t2,r⟩ l
 |[]=>rfl
 |y::l=>by
  unfold Km;rw[US l,Ac3]
theorem Abh{o:Option Sl}:Jj ⟨t1,r⟩ b t o=Jj ⟨t2,r⟩ b t o:=by
 cases o with
 |none=>rfl
 |some y=>
  cases y with
  |one y=>rfl
  |agg l=>unfold Jj;simp[Qx (t2:=t2)]
  |pk t l=>cases t<;>first|rfl|(unfold Jj;simp[US (t2:=t2)];done)|(unfold Jj;simp[Qx (t2:=t2)])
  |_=>rfl
theorem Xo{y:Sl}{z:t.T}(h:Jj s b t (some y)=some z):Aa3 (BQ (s.r.map Ab.v) (y.v s.r)) (vOf b t 0 z):=
 Oa (x:=.tmp 0) (by
  have:Jj ⟨λ_=>y,s.r⟩ b t (some y)=some z:=by rw[<-h];exact Abh
  trivial)
theorem Aco{s:St}:∀(l:List (Bool×Ty)) (ys:List Sl) (z:(PT l).T),Hn s l (ys.map some)=some z->Jr ((ys.map (Sl.v s.r)).map (BQ (s.r.map Ab.v))) (CX l z)
 |[],[],z,h=>trivial
 |[p],[y],z,h=>⟨Xo h,trivial⟩
 |p::q::l,y::ys,z,h=>by
  have h:(match Jj s p.1 p.2 (some y)with
   |some z=>match Hn s (q::l) (ys.map some)with
    |some e=>some (z,e)
    |none=>none
   |none=>none:Option (PT (p::q::l)).T)=some z:=h
  split at h
  case h_2=>grind
  rename_i B A;split at h
  case h_2=>grind
  rename_i e u;cases h;exact⟨Xo A,Aco (q::l) ys e u⟩
 |[],_::_,_,h=>by cases h
 |[_],[],_,h=>by cases h
 |[_],_::_::_,_,h=>by cases h
 |_::_::_,[],_,h=>by cases h
theorem Hb{α:Type}{u:α}:∀{l:List Bool}{o:Option α},gate l o=some u->o=some u/\∀b∈l,b=true
 |[],_,h=>⟨h,λ_ h=>by grind⟩
 |b::l,o,h=>by
  cases b with
  |false=>cases h
  |true=>
   obtain⟨A,e⟩:=Hb (l:=l) h
   grind
theorem Qo{z:t.T}(h:Jj s b t (DW s (s.ev x))=some z)(E:∀c∈AaR s (s.ev x),c=true):Aa3 (BQ (s.r.map Ab.v) (s.den.ev x)) (vOf b t 0 z):=by
 cases A:s.ev x with
 |none=>rw[A]at h;exact Oa (by rw[A];exact h)
 |some y=>
  by_cases J:∃id p ro u d v,y=.one (.rf id p)/\Ac s.r id p=.opt ro u d v
  .obtain⟨id,p,ro,u,d,v,rfl,B⟩:=J
   rw[A]at h E;simp only[DW,AaR,B]at h E;have O:isO v=true:=E _ (mem_singleton.2 rfl);cases v with
   |none=>cases O
   |some ys=>
    have H:=Xo h;have W:BQ (s.r.map Ab.v) ((Sl.one (.c (.sl u) 0 ys)).v s.r)=cV (.sl u) 0 ys:=Dk (.sl u) ys _ (mem_singleton.2 rfl);have F:BQ (s.r.map Ab.v) ((Sl.one (.c (.sl u) 0 (getO (some ys)))).v s.r)=cV (.sl u) 0 ys:=W;rw[F]at H
    have U:BQ (s.r.map Ab.v) (s.den.ev x)=cV (.sl u) 0 ys:=by
     rw[Bd A];show BQ (s.r.map Ab.v) (V.rs id p 0 (Ac s.r id p).len)=_;rw[Qv,AS (by rw[B];simp),B]
     show Yu (arr true u.w (tyV u d) u.dflt ys) 0 ys.length=_;rw[O2 rfl];have e:=funext λx=>Be u d x
     rw[e];rfl
    rw[U];exact H
  .have e:DW s (some y)=some y:=by
    cases y with
    |one c=>
     cases c with
     |rf id p=>
      cases B:Ac s.r id p with
      |opt ro u d v=>grind
      |_=>simp only[DW,B]
     |_=>rfl
    |_=>rfl
   rw[A,e,<-A]at h;exact Oa h
theorem Yd{y:Sl}{z:t.T}(h:Jj s b t (DW s (some y))=some z)(e:∀c∈AaR s (some y),c=true):Aa3 (BQ (s.r.map Ab.v) (y.v s.r)) (vOf b t 0 z):=by
 have u:DW ⟨λ_=>y,s.r⟩ (some y)=DW s (some y):=by
  rfl
 refine Qo (s:=⟨λ_=>y,s.r⟩) (x:=.tmp 0) ?_ ?_
 .show Jj ⟨λ_=>y,s.r⟩ b t (DW ⟨λ_=>y,s.r⟩ (some y))=some z
  rw[<-h];exact Abh
 trivial
theorem MG{s:St}:∀(l:List (Bool×Ty)) (ys:List Sl) (z:(PT l).T),Hn s l ((ys.map some).map (DW s))=some z->(∀c∈Ma s (ys.map some),c=true)->Jr ((ys.map (Sl.v s.r)).map (BQ (s.r.map Ab.v))) (CX l z)
 |[],[],z,h,_=>trivial
 |[p],[y],z,h,hc=>⟨Yd h λc h=>hc c (mem_append_left _ h),trivial⟩
 |p::q::l,y::ys,z,h,hc=>by
  have h:(match Jj s p.1 p.2 (DW s (some y))with
   |some z=>match Hn s (q::l) ((ys.map some).map (DW s))with
    |some e=>some (z,e)
    |none=>none
   |none=>none:Option (PT (p::q::l)).T)=some z:=h
  split at h
  case h_2=>grind
  rename_i B A;split at h
  case h_2=>grind
  rename_i e u;cases h;exact⟨Yd A λc h=>hc c (mem_append_left _ h),MG (q::l) ys e u λc h=>hc c (List.mem_append_right _ h)⟩
 |[],_::_,_,h,_=>by cases h
 |[_],[],_,h,_=>by cases h
 |[_],_::_::_,_,h,_=>by cases h
 |_::_::_,[],_,h,_=>by cases h
theorem Uc{s:St}:∀(l:List (Bool×Ty)) (xs:List Operand) (z:(PT l).T),Hn s l ((xs.map s.ev).map (DW s))=some z->(∀c∈Ma s (xs.map s.ev),c=true)->Jr ((xs.map s.den.ev).map (BQ (s.r.map Ab.v))) (CX l z)
 |[],[],z,h,_=>trivial
 |[p],[x],z,h,hc=>⟨Qo h λc h=>hc c (mem_append_left _ h),trivial⟩
 |p::q::l,x::xs,z,h,hc=>by
  have h:(match Jj s p.1 p.2 (DW s (s.ev x))with
   |some z=>match Hn s (q::l) ((xs.map s.ev).map (DW s))with
    |some e=>some (z,e)
    |none=>none
   |none=>none:Option (PT (p::q::l)).T)=some z:=h
  split at h
  case h_2=>grind
  rename_i B A;split at h
  case h_2=>grind
  rename_i e u;cases h;exact⟨Qo A λc h=>hc c (mem_append_left _ h),Uc (q::l) xs e u λc h=>hc c (List.mem_append_right _ h)⟩
 |[],_::_,_,h,_=>by cases h
 |[_],[],_,h,_=>by cases h
 |[_],_::_::_,_,h,_=>by cases h
 |_::_::_,[],_,h,_=>by cases h
theorem Mj{xs:Array Operand}{F}{ps:List (Bool×Ty)}{rs:List (Bool×Nat×Ty)}{z:(PT ps).T}{u:(RT rs).T}(O:AA P f=true)(B:FC P f (CX ps z) (J1 b rs u))(H:Hn s ps ((xs.toList.map s.ev).map (DW s))=some z)(E:∀c∈Ma s (xs.toList.map s.ev),c=true)
  (e:(Di rs||(DF rs&&Ja (xs.toList.map s.ev)))=true):QS P s (.call ⟨.value (.func f),xs,F⟩) (MP b rs u):=by
 rw[or_eq_true,bAE]at e;have A:=e.elim HV (·.1)
 refine⟨J1 b rs u,⟨O,B.sub1 (Uc _ _ _ H E)⟩,λJ=>?_,?_⟩
 .rcases e with e|⟨_,e⟩
  .exact Du _ _ _ e
  .rw[UG e]at J;grind
 .show Sub _ ((MP b rs u).v s.r)
  rw[Oi _ _ _ A];exact Sub.refl _
theorem P2(A:Io P Γ){xs J}(h:JQ Γ s f (xs.toList.map s.ev)=some a){u:a.α}(B:a.o=some u):QS P s (.call ⟨.value (.func f),xs,J⟩) (a.y u):=by
 obtain⟨e,Y,F,O⟩:=Jw h;subst F;unfold Ln at O;have h:=O;cases U:(Di e.S.rs||(DF e.S.rs&&Ja (xs.toList.map s.ev)))with
 |false=>grind
 |true=>
  rw[U]at h;split at h
  case h_2=>grind
  rename_i z W;cases h;obtain⟨Z,E⟩:=A e Y;obtain⟨B,H⟩:=Hb B;exact Mj Z (by rw[Hz];exact E z u B) W H U
theorem N7{Γ:List EnN}(A:∀e∈Γ,e.OK P){xs H}{a:CallN}(h:Xm Γ s f (xs.toList.map s.ev)=some a){u:a.α}(B:a.o=some (b,u)):QS P s (.call ⟨.value (.func f),xs,H⟩) (a.y b u):=by
 unfold Xm at h;split at h
 case h_2=>grind
 rename_i e U;cases J:(Di e.S.rs||(DF e.S.rs&&Ja (xs.toList.map s.ev)))with
 |false=>grind
 |true=>
  rw[J]at h;split at h
  case h_2=>grind
  rename_i z O;cases h;obtain⟨⟨W,E⟩,rfl⟩:=UQ A U;obtain⟨B,F⟩:=Hb B;exact Mj W (E z b u B) O F J
theorem UF(h:Ja (ys.map some)=true):(ys.map (Sl.v s.r)).any AL=false:=by
 have:=UG (s:=⟨λi=>ys.getD i (.one .dead),s.r⟩) (by
  have e:((range ys.length).map Operand.tmp).map (St.ev ⟨λi=>ys.getD i (.one .dead),s.r⟩)=ys.map some:=by
   rw[map_map];apply ext_getElem (by simp)
   intro i u A;have hi:i<ys.length:=by simpa using u
   have:(St.ev ⟨λi=>ys.getD i (.one .dead),s.r⟩ (.tmp i))=some (ys.getD i (.one .dead)):=rfl
   grind
  rw[e];exact h)
 have B:((range ys.length).map Operand.tmp).map (St.den ⟨λi=>ys.getD i (.one .dead),s.r⟩).ev=ys.map (Sl.v s.r):=by
  rw[map_map];apply ext_getElem (by simp)
  intro i u A;have hi:=by simpa using u
  have:(St.den ⟨λi=>ys.getD i (.one .dead),s.r⟩).ev (.tmp i)=(ys.getD i (.one .dead)).v s.r:=rfl
  grind
 rw[B]at this;exact this
def allS:List (Option Sl)->Option (List Sl)
 |[]=>some []
 |some y::l=>match allS l with
  |some m=>some (y::m)
  |none=>none
 |none::_=>none
def Ze{s:St}:∀{xs:List Operand}{ys:List Sl},allS (xs.map s.ev)=some ys->xs.map s.den.ev=ys.map (Sl.v s.r)
 |[],ys,h=>by cases h;rfl
 |x::xs,ys,h=>by
  rw[map_cons]at h;cases e:s.ev x with
  |none=>rw[e]at h;cases h
  |some y=>
   rw[e]at h;unfold allS at h;split at h
   case h_2=>grind
   rename_i m u;cases h;rw[map_cons,map_cons,Bd e,Ze u]
def cloS(s:St)(y:Nat):Option (FuncId×List Sl):=match s.t y with
 |.one (.c (.clo g t) _ x)=>bif blt g 1000000 then some (g,(Aq t 0 x).map .one)else none
 |.pk (.cl g) l=>bif blt g 1000000 then some (g,l.map .one)else none
 |_=>none
def cloF(s:St):Op->Option (FuncId×List Sl)
 |.call c=>match c.callee with
  |.value (.tmp y)=>match cloS s y,allS (c.args.toList.map s.ev)with
   |some (g,cs),some ys=>some (g,ys++cs)
   |_,_=>none
  |_=>none
 |_=>none
theorem Wv(W:Io P Γ){g:FuncId}(H:cloF s op=some (g,ys))(h:JQ Γ s g (ys.map some)=some a){u:a.α}(hu:a.o=some u):QS P s op (a.y u):=by
 unfold cloF at H;split at H
 case h_2=>cases H
 rename_i c;obtain⟨callee,xs,ats⟩:=c;split at H
 case h_2=>cases H
 rename_i y E;have E:callee=.value (.tmp y):=E;subst E;split at H
 case h_2=>cases H
 rename_i g' cs zs A Y;cases H
 have key:blt g 1000000=true/\∃(n:Nat) (F:Nat->V),s.den.ev (.tmp y)=.many (.cl g) n F/\tab n F=cs.map (Sl.v s.r):=by
  have tk:∀l:List V,tab l.length (λk=>l.getD k .dead)=l:=λl=>by
   rw[Jv (l:=l) l.length (le_refl _),List.take_length]
  unfold cloS at A;split at A
  case h_3=>cases A
  .rename_i g2 t d x Z
   obtain⟨B,A⟩:=A1 A;cases A;refine⟨B,t.w,λk=>(tyV t 0 x).getD k .dead,?_,?_⟩
   .show(s.t y).v s.r=_
    rw[Z];rfl
   .have:=tk (tyV t 0 x)
    rw[Av]at this;rw[this,map_map];exact(Cl.v_c (r:=s.r) t 0 x).symm
  .rename_i g2 l Z
   obtain⟨B,A⟩:=A1 A;cases A;refine⟨B,(l.map (Cl.v s.r)).length,λk=>(l.map (Cl.v s.r)).getD k .dead,?_,?_⟩
   .show(s.t y).v s.r=_
    rw[Z];rfl
   .rw[tk,map_map];rfl
 obtain⟨B,n,F,hev,U⟩:=key;obtain⟨e,he,hef,hx⟩:=Jw h;subst hef;clear h;unfold Ln at hx;obtain⟨J,h⟩:=A1 hx;split at h
 case h_2=>cases h
 rename_i z hz;cases h;obtain⟨hc,hft⟩:=W e he;obtain⟨hu,hcd⟩:=Hb hu
 have O:(xs.toList.map s.den.ev)++tab n F=(zs++cs).map (Sl.v s.r):=by
  rw[Ze Y,map_append,U]
 rw[or_eq_true,bAE]at J;have hok:DF e.S.rs=true:=J.elim HV (·.1)
 show OB P (s.r.map Ab.v) (s.den.ev (.tmp y)) (xs.toList.map s.den.ev) (SK s _);rw[hev];show blt e.f 1000000=true/\Call P e.f (((xs.toList.map s.den.ev)++tab n F).any AL) (((xs.toList.map s.den.ev)++tab n F).map (BQ (s.r.map Ab.v))) (SK s _);rw[O];refine⟨B,J1 true e.S.rs u,⟨hc,FC.sub1 (by rw[Hz];exact hft z u hu) (MG _ _ _ hz hcd)⟩,λhl=>?_,?_⟩
 .rcases J with J|⟨_,J⟩
  .exact Du _ _ _ J
  .rw[UF J]at hl;cases hl
 .show Sub _ ((MP true e.S.rs u).v s.r)
  rw[Oi _ _ _ hok];exact Sub.refl _
def strB(a b:String):Bool:=a==b
def Aam:List (String×Nat)->String->Option Nat
 |[],_=>none
 |(a,f)::l,s=>bif strB a s then some f else Aam l s
theorem OW{s:String}{f:Nat}:∀{l:List (String×Nat)},Aam l s=some f->(s,f)∈l
 |[],h=>by cases h
 |(a,f')::l,h=>by
  unfold Aam at h;cases e:strB a s with
  |false=>rw[e]at h;exact mCM _ (OW h)
  |true=>
   rw[e]at h;have:a=s:=by unfold strB at e;grind
   grind
def cloI(Θ:Tab)(s:St):Op->Option (FuncId×List Sl)
 |.call c=>match c.callee with
  |.invoke (.tmp y) nm=>match s.t y with
   |.one (.c (.clo g t) _ x)=>bif ble 1000000 g&&beq t.w 1 then(match Θ.look (g-1000000)with
    |some i=>match Aam i.met nm,allS (c.args.toList.map s.ev)with
     |some f,some ys=>some (f,(Aq t 0 x).map .one++ys)
     |_,_=>none
    |none=>none)else none
   |_=>none
  |_=>none
 |_=>none
theorem Wu(Y:Θ.OK P)(Z:Io P Γ){g:FuncId}(A:cloI Θ s op=some (g,ys))(h:JQ Γ s g (ys.map some)=some a){u:a.α}(hu:a.o=some u):QS P s op (a.y u):=by
 unfold cloI at A;split at A
 case h_2=>cases A
 rename_i c;obtain⟨callee,xs,ats⟩:=c;split at A
 case h_2=>cases A
 rename_i y W B;have B:callee=.invoke (.tmp y) W:=B;subst B;split at A
 case h_2=>cases A
 rename_i g2 t d x hy;cases F:(ble 1000000 g2&&beq t.w 1)with
 |false=>rw[F]at A;cases A
 |true=>
 rw[F]at A;simp only[cond_true]at A;rw[bAE]at F;obtain⟨U,H⟩:=F;have U:=blE U;have H:t.w=1:=bqE H;split at A
 case h_2=>cases A
 rename_i i hi;split at A
 case h_2=>cases A
 rename_i f zs hfm hzs;cases A;have O:=Y.met hi (OW hfm);obtain⟨e,he,hef,hx⟩:=Jw h;subst hef;clear h;unfold Ln at hx;have h:=hx;clear hx;cases E:(Di e.S.rs||(DF e.S.rs&&Ja (((Aq t 0 x).map Sl.one++zs).map some)))with
 |false=>rw[E]at h;cases h
 |true=>
  rw[E]at h;simp only[cond_true]at h;split at h
  case h_2=>cases h
  rename_i z hz;cases h;obtain⟨hc,hft⟩:=Z e he;obtain⟨hu,hcd⟩:=Hb hu
  have hev:s.den.ev (.tmp y)=.many (.cl g2) t.w λk=>(tyV t 0 x).getD k .dead:=by
   show(s.t y).v s.r=_;rw[hy];rfl
  have J:tab t.w (λk=>(tyV t 0 x).getD k .dead)++(xs.toList.map s.den.ev)=((Aq t 0 x).map Sl.one++zs).map (Sl.v s.r):=by
   rw[Ze hzs,map_append]
   congr 1
   have h1:tab t.w (λk=>(tyV t 0 x).getD k .dead)=tyV t 0 x:=by
    have:=Jv (l:=tyV t 0 x) t.w (by rw[Av];exact le_refl _)
    rw[this];exact List.take_of_length_le (by rw[Av];exact le_refl _)
   rw[h1,map_map];exact(Cl.v_c (r:=s.r) t 0 x).symm
  rw[or_eq_true,bAE]at E;have hok:DF e.S.rs=true:=E.elim HV (·.1)
  show OD P (s.r.map Ab.v) (s.den.ev (.tmp y)) W (xs.toList.map s.den.ev) (SK s _);rw[hev];show ∃t' fn,(g2=1000000+t'/\t.w=1/\AcU P t' W=some fn)/\Call P fn ((tab t.w (λk=>(tyV t 0 x).getD k .dead)++(xs.toList.map s.den.ev)).any AL) ((tab t.w (λk=>(tyV t 0 x).getD k .dead)++(xs.toList.map s.den.ev)).map (BQ (s.r.map Ab.v))) (SK s _)
  rw[J];refine⟨g2-1000000,e.f,⟨by omega,H,O⟩,J1 true e.S.rs u,⟨hc,FC.sub1 (by rw[Hz];exact hft z u hu) (MG _ _ _ hz hcd)⟩,λhl=>?_,?_⟩
  .rcases E with E|⟨_,E⟩
   .exact Du _ _ _ E
   .rw[UF E]at hl;cases hl
  .show Sub _ ((MP true e.S.rs u).v s.r)
   rw[Oi _ _ _ hok];exact Sub.refl _
def capL(s:St):List Operand->Option (List Cl)
 |[]=>some []
 |x::xs=>match s.ev x with
  |some (.one (.c t d y))=>bif t.one&& !(Cl.c t d y).own then(match capL s xs with
   |some l=>some (.c t 0 y::l)
   |none=>none)else none
  |_=>none
def capR(s:St):List Operand->Option (List Cl)
 |[]=>some []
 |x::xs=>match s.ev x with
  |some (.one y)=>bif y.own then none else(match capR s xs with
   |some l=>some (y::l)
   |none=>none)
  |_=>none
theorem AbP{s:St}:∀{xs:List Operand}{l:List Cl},capR s xs=some l->xs.map s.den.ev=l.map (Cl.v s.r)/\(xs.map s.den.ev).all (λv=>!AK v)=true
 |[],l,h=>by cases h;simp
 |x::xs,l,h=>by
  unfold capR at h;split at h
  case h_2=>grind
  rename_i y A;cases u:y.own with
  |true=>grind
  |false=>
   rw[u]at h;split at h
   case h_2=>grind
   rename_i m B;obtain⟨F,E⟩:=AbP B;have e:s.den.ev x=y.v s.r:=Bd A;refine⟨by grind,?_⟩
   rw[map_cons,all_cons,e,Cl.own_v,u,E];rfl
def tMkG(g:Nat)(s:St)(e:List Operand):Option TR:=match capL s e with
  |some l=>match DH l with
   |some ⟨t,x⟩=>some (.ok (.one (.c (.clo g t) 0 x)))
   |none=>none
  |none=>match capR s e with
   |some l=>some (.ok (.pk (.cl g) l))
   |none=>none
def tMkF(s:St)(fn:Fn)(first:List Operand)(e:List Operand):Option TR:=match fn,first with
 |.func g,[]=>bif blt g 1000000 then tMkG g s e else none
 |_,_=>none
def tMkI(_:Tab)(_:St)(_:TypeId)(_:Operand):Option TR:=none
theorem AbQ{s:St}:∀{xs:List Operand}{l:List Cl},capL s xs=some l->xs.map s.den.ev=(l.map Cl.v0).map frz/\(xs.map s.den.ev).all (λv=>!AK v)=true/\l.length=xs.length
 |[],l,h=>by cases h;exact⟨rfl,rfl,rfl⟩
 |x::xs,l,h=>by
  unfold capL at h;split at h
  case h_2=>cases h
  rename_i t d y F;cases A:(t.one&& !(Cl.c t d y).own)with
  |false=>rw[A]at h;cases h
  |true=>
   rw[A]at h;simp only[cond_true]at h;split at h
   case h_2=>cases h
   rename_i m H;cases h;rw[bAE]at A;obtain⟨O,U,J⟩:=AbQ H;have B:s.den.ev x=cV t d y:=Bd F
   have u:AK (cV t d y)=false:=by
    have:=Cl.own_v (r:=s.r) (.c t d y);have e:(Cl.c t d y).own=false:=by simpa using A.2
    rw[e]at this;exact this
   have E:cV t d y=frz (cV t 0 y):=by
    rw[UY A.1];cases t<;>first|rfl|(cases d<;>first|rfl|(cases u;done))|(cases y<;>cases d<;>first|rfl|(cases u;done))
   refine⟨?_,?_,by simp[J]⟩
   .rw[map_cons,map_cons,map_cons,B,O,E];rfl
   grind
theorem tMkG_v{u:List Operand}{a:TR}(h:tMkG g s u=some a):∃y,a=.ok y/\(u.map s.den.ev).all (λv=>!AK v)=true/\Sub (V.many (.cl g) (u.map s.den.ev).length λk=>(u.map s.den.ev).getD k .dead) (y.v s.r):=by
 unfold tMkG at h;split at h
 case h_2=>
  split at h
  case h_2=>grind
  rename_i l A;cases h;obtain⟨E,B⟩:=AbP A;refine⟨_,rfl,B,?_⟩;rw[E];exact Sub.refl _
 rename_i l A;split at h
 case h_2=>grind
 rename_i t x hd;cases h;obtain⟨E,B,F⟩:=AbQ A;have e:=Hc _ _ hd;refine⟨_,rfl,B,?_⟩;rw[E,<-e,Av];exact Sub.refl _
theorem Vw{fn:Fn}{first e:Array Operand}{a:TR}(h:tMkF s fn first.toList e.toList=some a):QS P s (.makeFunc fn first e) a.y:=by
 unfold tMkF at h;split at h
 case h_2=>grind
 rename_i g A;cases u:blt g 1000000 with
 |false=>grind
 |true=>
 rw[u]at h;obtain⟨y,rfl,E,B⟩:=tMkG_v h
 show(match Fn.func g,first.toList with
  |.func g,[]=>qMkF g (e.toList.map s.den.ev) (SK s _)
  |_,_=>False)
 rw[A]
 trivial
def Vv(e:Θ.OK P){t:TypeId}{a:TR}(h:tMkI Θ s t x=some a):QS P s (.makeInterface t x) a.y:=by
 unfold tMkI at h;cases h
end Go.Ve


namespace Go.Ve
variable{P:Program}
inductive CM where
 |p (t:Ty)
 |r (i:Nat) (p:AG) (j k:Nat)
inductive AM where
 |p (b:Bool) (t:Ty)
 |r (i:Nat) (p:AG) (j k:Nat)
 |k (g:Nat) (l:List CM)
def CsM:List CM->Ty
 |[]=>.unit
 |.p t::l=>.pair t (CsM l)
 |.r _ _ _ _::l=>CsM l
def PM:List AM->Ty
 |[]=>.unit
 |.p _ t::l=>.pair t (PM l)
 |.r _ _ _ _::l=>PM l
 |.k _ c::l=>.pair (CsM c) (PM l)
def ND:(l:List CM)->(CsM l).T->List Cl
 |[],_=>[]
 |.p t::l,x=>.c t 0 x.1::ND l x.2
 |.r i p j k::l,x=>.rp i p j k::ND l x
def slM(b:Bool)(t:Ty)(x:t.T):Sl:=bif b then .agg (Aq t 0 x)else .one (.c t 0 x)
def Jq:(l:List AM)->(PM l).T->List Sl
 |[],_=>[]
 |.p b t::l,x=>slM b t x.1::Jq l x.2
 |.r i p j k::l,x=>.one (.rp i p j k)::Jq l x
 |.k g c::l,x=>.pk (.cl g) (ND c x.1)::Jq l x.2
def TM:List (Nat×Ty)->Ty
 |[]=>.unit
 |p::l=>.pair p.2 (TM l)
def A7:(l:List (Nat×Ty))->(TM l).T->List Ab
 |[],_=>[]
 |p::l,x=>.obj false (Aq p.2 p.1 x.1)::A7 l x.2
structure Ab0 where
 ps:List AM
 ts:List (Nat×Ty)
 rs:List (Bool×Nat×Ty)
def FTM(P:Program)(f:FuncId)(S:Ab0)(g:(PM S.ps).T->(TM S.ts).T->Option ((RT S.rs).T×(TM S.ts).T)):Prop:=
 ∀z x u,g z x=some u->FCM P f ((Jq S.ps z).map (Sl.v [])) ((A7 S.ts x).map Ab.v) (P7 S.rs u.1) ((A7 S.ts u.2).map Ab.v)
structure EnM where
 f:FuncId
 S:Ab0
 g:(PM S.ps).T->(TM S.ts).T->Option ((RT S.rs).T×(TM S.ts).T)
def EnM.OK(P:Program)(e:EnM):Prop:=AA P e.f=true/\FTM P e.f e.S e.g
def KC:∀e∈([]:List EnM),e.OK P:=by simp
def U3{e:EnM}{l:List EnM}(E:AA P e.f=true)(B:FTM P e.f e.S e.g)(A:∀e∈l,e.OK P):∀x∈e::l,x.OK P:=by
 intro x u;rcases mem_cons.1 u with rfl|u
 .exact⟨E,B⟩
 .exact A x u
def CE:∀(l:List (Nat×Ty)) (x:(TM l).T),(A7 l x).length=l.length
 |[],_=>rfl
 |_::l,x=>congrArg (· +1) (CE l x.2)
def eqP:AG->AG->Bool
 |[],[]=>true
 |a::p,b::q=>beq a.1 b.1&&beq a.2 b.2&&eqP p q
 |_,_=>false
def Pj:∀p q:AG,eqP p q=true->p=q
 |[],[],_=>rfl
 |(a,a')::p,(b,b')::q,h=>by
  have h:(beq a b&&beq a' b'&&eqP p q)=true:=h;simp only[bAE]at h;rw[bqE h.1.1,bqE h.1.2,Pj p q h.2]
 |[],_::_,h=>by cases h
 |_::_,[],h=>by cases h
end Go.Ve


namespace Go.Ve
variable{b:Bool}{c:Cl}{r:List Ab}{l σ:List V}{d i k:Nat}{P:Program}{s:St}{t:Ty}
structure AdD where
 k:Nat
 ps:List (Bool×Ty)
 t:Ty
 d:Nat
 eat:Bool
 rs:List (Bool×Nat×Ty)
def Aaz(k:Nat)(l:List V):List V:=l.take k++ .dead::l.drop k
theorem Aay:(Aaz k l).length=l.length+1:=by
 unfold Aaz
 grind
theorem Ac9(h:i<k)(e:k<=l.length):(Aaz k l).getD i .dead=l.getD i .dead:=by
 unfold Aaz
 grind
theorem Ada(h:k<=i)(u:k<=l.length):(Aaz k l).getD (i+1) .dead=l.getD i .dead:=by
 unfold Aaz;have e:(l.take k).length=k:=by grind
 simp;rw[gAR (by omega),e,show i+1-k=(i-k)+1 by omega,List.getElem?_cons_succ,List.getElem?_drop,show k+(i-k)=i by omega]
def isTr:Ty->Bool
 |.sl _=>true
 |.ptr _=>true
 |_=>false
def AdD.ok(S:AdD):Bool:=blt 0 S.d&&ble S.k S.ps.length&&isTr S.t
def FTU(P:Program)(f:FuncId)(S:AdD)(g:(PT S.ps).T->S.t.T->Option ((RT S.rs).T×S.t.T)):Prop:=
 ∀z x u,g z x=some u->FCU P f S.k (Aaz S.k (CX S.ps z)) (cV S.t S.d x) (P7 S.rs u.1) (bif S.eat then .dead else cV S.t S.d u.2)
structure EnU where
 f:FuncId
 S:AdD
 g:(PT S.ps).T->S.t.T->Option ((RT S.rs).T×S.t.T)
def Kk:List EnU->FuncId->Option EnU
 |[],_=>none
 |e::l,f=>bif beq e.f f then some e else Kk l f
def EnU.OK(P:Program)(e:EnU):Prop:=AA P e.f=true/\e.S.ok=true/\FTU P e.f e.S e.g
def UP{P:Program}{f:FuncId}{e:EnU}:∀{Γ:List EnU},(∀e∈Γ,e.OK P)->Kk Γ f=some e->e.OK P/\e.f=f
 |[],_,h=>by cases h
 |a::l,hΓ,h=>by
  unfold Kk at h;cases A:beq a.f f with
  |true=>
   simp_all
  |false=>rw[A]at h;exact UP (λe u=>hΓ e (mCM _ u)) h
theorem Cl.lend_id(h:c.lent=false):BQ σ (c.v r)=c.v r:=by
 cases c with
 |c t d x=>
  have e:∀{t:Ty} (x:t.T),t.one=true->BQ σ (cV t 0 x)=cV t 0 x:=fun{t} x ht=>Dk t x _ (by rw[Bh ht];simp)
  cases t with
  |int k=>rfl
  |bool=>rfl
  |str=>rfl
  |unit=>rfl
  |pair a b=>rfl
  |sl t=>cases d with
   |zero=>exact e x rfl
   |succ d=>cases h
  |ptr t=>cases d with
   |zero=>exact e x rfl
   |succ d=>cases h
  |clo g t=>exact e x rfl
  |mp k v=>cases d with
   |zero=>exact e x rfl
   |succ d=>cases h
  |osl t=>cases d with
   |zero=>exact e x rfl
   |succ d=>cases x with
    |none=>rfl
    |some y=>cases h
 |rf=>cases h
 |rs=>cases h
 |rp=>cases h
 |rm=>cases h
 |_=>rfl
theorem Cl.clean_v(h:c.lent=false):clean (c.v r):=by
 cases c with
 |c t d x=>
  cases t with
  |osl t=>cases x<;>exact trivial
  |clo g t=>
   have:∀(t:Ty) (x:t.T),∀v∈tyV t 0 x,clean v:=by
    intro t
    induction t with
    |int k=>intro x v e;simp[tyV]at e;subst e;trivial
    |bool=>intro x v e;simp[tyV]at e;subst e;trivial
    |str=>intro x v e;simp[tyV]at e;subst e;trivial
    |sl t _=>intro x v e;simp only[tyV,mem_singleton]at e;subst e;trivial
    |ptr t _=>intro x v e;simp only[tyV,mem_singleton]at e;subst e;trivial
    |unit=>intro x v e;simp[tyV]at e
    |pair a b A u=>
     intro x v e;simp only[tyV,mem_append]at e
     grind
    |mp k v _ _=>intro x v e;simp only[tyV,mem_singleton]at e;subst e;trivial
    |osl t _=>
     intro x v e;simp only[tyV,mem_singleton]at e;subst e;cases x<;>trivial
    |clo g t B=>
     intro x v e;simp only[tyV,mem_singleton]at e;subst e;intro k E;refine B x _ ?_;show(tyV t 0 x).getD k .dead∈_;rw[gDE,gEE (by rw[Av];exact E)]
     simp
   exact this (.clo g t) x _ (mem_singleton.2 rfl)
  |_=>trivial
 |rf=>cases h
 |rs=>cases h
 |rp=>cases h
 |_=>trivial
theorem NH{l:List Cl}(h:l.any Cl.lent=false):∀c∈l,c.lent=false:=by grind
theorem UL{l:List Cl}(h:l.any Cl.lent=false):(l.map (Cl.v r)).map (BQ σ)=l.map (Cl.v r):=by
 rw[map_map];exact map_congr_left λc e=>Cl.lend_id (NH h c e)
def Sl.notB:Sl->Bool
 |.one _=>true
 |.agg _=>true
 |.pk (.cl _) _=>true
 |_=>false
theorem Abe{y:Sl}{z:t.T}(O:y.lent=false)(F:y.notB=true)(h:Jj s b t (some y)=some z):Sub (y.v s.r) (vOf b t 0 z)/\AK (y.v s.r)=false/\clean (y.v s.r):=by
 have many:∀(B:Tg) (l:List Cl),l.any Cl.lent=false->AK (pkL B (l.map (Cl.v s.r)))=false/\clean (pkL B (l.map (Cl.v s.r))):=by
  intro B l h;refine⟨?_,λk U=>?_⟩
  .have e:AK ((Sl.pk B l).v s.r)=l.any Cl.own:=Sl.own_v (.pk B l)
   refine e.trans ?_;rw[any_eq_false];intro c A;have H:=NH h c A;cases c with
   |c t d x=>rw[show(Cl.c t d x).own=false from H];simp
   |_=>simp[Cl.own]
  .have U:k<l.length:=by simpa using U
   show clean ((l.map (Cl.v s.r)).getD k .dead);rw[Az (f:=Cl.v s.r) (a:=.dead) rfl];refine Cl.clean_v (NH h _ ?_);simp[U]
 cases y with
 |one c=>
  have A:c.lent=false:=O;refine⟨?_,?_,Cl.clean_v A⟩
  .unfold Jj at h
   cases b with
   |true=>cases h
   |false=>
    cases W:t.one with
    |false=>rw[W]at h;cases h
    |true=>
     rw[W]at h;simp only[cond_false,cond_true]at h;split at h
     case h_2=>cases h
     rename_i y' Z;obtain⟨_,h2,J⟩:=Ng Z;have J:=J λid p i k e=>by rw[e]at A;cases A
     rw[Cl.lend_id A]at J;obtain⟨g1,_⟩:=Kc h s.r;have g1:Sub y'.v0 (vOf false t 0 z):=h2▸g1;exact J.trans g1
  .have e:AK (c.v s.r)=c.own:=Cl.own_v c
   refine e.trans ?_;cases c with
   |c t d x=>exact A
   |_=>rfl
 |agg l=>
  have A:l.any Cl.lent=false:=O;refine⟨?_,many .ag l A⟩;unfold Jj at h;cases b with
  |false=>cases h
  |true=>
   simp only[cond_true]at h;split at h
   case h_2=>cases h
   rename_i Y E;show Sub (Ag _) (Ag _);refine CY.mk ?_;have H:=Nd E;rw[UL A]at H;exact CY.trans H (Dj h s.r).1
 |pk B l=>
  have A:l.any Cl.lent=false:=O;cases B with
  |cl g=>
   refine⟨?_,many (.cl g) l A⟩;unfold Jj at h;cases b with
   |true=>cases h
   |false=>
    simp only[cond_false]at h;split at h
    case h_2=>cases h
    rename_i g' u;obtain⟨F,h⟩:=A1 h;have hg:=bqE F;subst hg;split at h
    case h_2=>cases h
    rename_i Y E
    have e:V.many (.cl g) u.w (λk=>(tyV u 0 z).getD k .dead)=pkL (.cl g) (tyV u 0 z):=by
     unfold pkL;rw[Av]
    show Sub (pkL (.cl g) _) (V.many (.cl g) u.w λk=>(tyV u 0 z).getD k .dead)
    rw[e];have H:=Nf E;rw[UL A]at H;exact CY.pk (CY.trans H (Dj h s.r).1)
  |ag=>cases F
  |tu=>cases F
  |bx=>cases F
 |new l=>cases F
 |tup l=>cases F
def uok:Option Sl->Bool
 |some y=>!y.lent&&y.notB
 |none=>false
theorem uok_v{x:Operand}{z:t.T}(e:uok (s.ev x)=true)(h:Jj s b t (s.ev x)=some z):AK (s.den.ev x)=false/\clean (s.den.ev x)/\Sub (s.den.ev x) (vOf b t 0 z):=by
 cases u:s.ev x with
 |none=>rw[u]at e;trivial
 |some y=>
  rw[u]at e h;simp[uok,Bool.not_eq_true']at e;obtain⟨E,B,A⟩:=Abe e.1 e.2 h;rw[Bd u]
  grind
theorem WW{s:St}:∀(ps:List (Bool×Ty)) (xs:List Operand) (z:(PT ps).T),Hn s ps (xs.map s.ev)=some z->(xs.map s.ev).all uok=true->
  xs.length=(CX ps z).length/\∀i x,xs[i]? =some x->AK (s.den.ev x)=false/\clean (s.den.ev x)/\Sub (s.den.ev x) ((CX ps z).getD i .dead)
 |[],[],z,_,_=>⟨rfl,λi x h=>by simp at h⟩
 |[p],[x],z,h,e=>by
  have e:(uok (s.ev x)&&true)=true:=e;rw[Bool.and_true]at e;refine⟨rfl,λi B u=>?_⟩
  cases i with
  |zero=>
   cases u;exact uok_v e h
  |succ i=>simp at u
 |p::q::l,x::xs,z,h,e=>by
  have h:(match Jj s p.1 p.2 (s.ev x)with
   |some z=>match Hn s (q::l) (xs.map s.ev)with
    |some A=>some (z,A)
    |none=>none
   |none=>none:Option (PT (p::q::l)).T)=some z:=h
  have e:(uok (s.ev x)&&(xs.map s.ev).all uok)=true:=e;rw[bAE]at e;split at h
  case h_2=>cases h
  rename_i H F;split at h
  case h_2=>cases h
  rename_i A E;cases h;obtain⟨k1,k2⟩:=WW (q::l) xs A E e.2;refine⟨by show xs.length+1=(CX (q::l) A).length+1;rw[k1],λi B u=>?_⟩
  cases i with
  |zero=>
   cases u;exact uok_v e.1 F
  |succ i=>exact k2 i B (by simpa using u)
 |[],_::_,_,h,_=>by cases h
 |[_],[],_,h,_=>by cases h
 |[_],_::_::_,_,h,_=>by cases h
 |_::_::_,[],_,h,_=>by cases h
def CS(k:Nat)(l:List Operand):List Operand:=l.take k++l.drop (k+1)
theorem Wr{l:List Operand}(h:k<l.length):(CS k l).length+1=l.length:=by
 unfold CS
 grind
theorem Pg{l:List Operand}(h:i<k)(e:k<l.length):(CS k l)[i]? =l[i]?:=by
 unfold CS
 grind
theorem Ph{l:List Operand}(h:k<=i)(e:k<l.length):(CS k l)[i]? =l[i+1]?:=by
 unfold CS
 grind
theorem Ab3{ps:List (Bool×Ty)}{xs:List Operand}{z:(PT ps).T}(e:k<xs.length)(h:Hn s ps ((CS k xs).map s.ev)=some z)(B:((CS k xs).map s.ev).all uok=true):
  xs.length=(Aaz k (CX ps z)).length/\∀i x,i≠k->xs[i]? =some x->AK (s.den.ev x)=false/\clean (s.den.ev x)/\Sub (s.den.ev x) ((Aaz k (CX ps z)).getD i .dead):=by
 obtain⟨H,u⟩:=WW ps (CS k xs) z h B;have F:=Wr e;refine⟨by rw[Aay];omega,λi x E A=>?_⟩
 rcases Nat.lt_or_ge i k with hlt|hge
 .have:=u i x (by rw[Pg hlt e];exact A)
  rw[Ac9 hlt (by omega)]
  grind
 .obtain⟨j,rfl⟩:∃j,i=j+1:=⟨i-1,by omega⟩
  have:=u j x (by rw[Ph (by omega) e];grind)
  rw[Ada (by omega) (by omega)]
  grind
def Ade:(t:Ty)->t.T->Bool
 |.sl _,xs=>ltI (Int.ofNat 0) (ofN (H7 xs))
 |.ptr _,_=>true
 |_,_=>false
theorem Add{x:t.T}(hd:0<d)(h:Ade t x=true):LX (cV t d x):=by
 have hd:=dT hd;cases t with
 |sl t=>
  refine⟨true,_,_,_,show arr (decide (0<d)) _ _ _ x=_ by rw[hd];rfl,.inr ?_⟩
  have h:decide (0<(x.length:Int))=true:=h
  grind
 |ptr t=>exact⟨false,_,_,_,show A8 (decide (0<d)) _=_ by rw[hd];rfl,.inl rfl⟩
 |_=>cases h
def treeND{x:t.T}(hd:0<d)(h:isTr t=true):∃s sz n f,cV t d x=.nd s true sz n f:=by
 have hd:=dT hd;cases t with
 |sl t=>exact⟨true,_,_,_,show arr (decide (0<d)) _ _ _ x=_ by rw[hd];rfl⟩
 |ptr t=>exact⟨false,_,_,_,show A8 (decide (0<d)) _=_ by rw[hd];rfl⟩
 |_=>cases h
def HE:∀e∈([]:List EnU),e.OK P:=by simp
theorem AaP{e:EnU}{l:List EnU}(E:AA P e.f=true)(F:e.S.ok=true)(B:FTU P e.f e.S e.g)(A:∀e∈l,e.OK P):∀x∈e::l,x.OK P:=by
 intro x u;rcases mem_cons.1 u with rfl|u
 .trivial
 grind
end Go.Ve


namespace Go.Ve
def Bo(m:Nat):List Cl->List Cl×List Ab
 |[]=>([],[])
 |.c (.sl u) (d+1) xs::l=>(.rf m []::(Bo (m+1) l).1,.arr false u d xs::(Bo (m+1) l).2)
 |y::l=>(y::(Bo m l).1,(Bo m l).2)
abbrev WP:=Bool×Bool×Ty
def Vo(p:WP)(x:p.2.2.T)(m:Nat):Sl×List Ab:=
 bif p.1 then(bif p.2.1 then .agg (Bo m (Aq p.2.2 p.2.2.dep x)).1 else .one ((Bo m (Aq p.2.2 p.2.2.dep x)).1.getD 0 .dead),(Bo m (Aq p.2.2 p.2.2.dep x)).2)
 else(bif p.2.1 then .agg (Aq p.2.2 0 x)else .one (.c p.2.2 0 x),[])
def PTW:List WP->Ty
 |[]=>.unit
 |[p]=>p.2.2
 |p::q::l=>.pair p.2.2 (PTW (q::l))
def AW:(ps:List WP)->(PTW ps).T->Nat->List Sl×List Ab
 |[],_,_=>([],[])
 |[p],x,m=>([(Vo p x m).1],(Vo p x m).2)
 |p::q::l,x,m=>((Vo p x.1 m).1::(AW (q::l) x.2 (m+(Vo p x.1 m).2.length)).1,(Vo p x.1 m).2++(AW (q::l) x.2 (m+(Vo p x.1 m).2.length)).2)
def Acq:Ty->List Ty
 |.sl t=>[.sl t]
 |.pair a b=>Acq a++Acq b
 |_=>[]
def Dp:List WP->List Ty
 |[]=>[]
 |p::l=>(bif p.1 then Acq p.2.2 else [])++Dp l
structure Aa4 where
 ps:List WP
 rt:Ty
def Ty.sc:Ty->Bool
 |.int _=>true
 |.bool=>true
 |.str=>true
 |_=>false
def scV:(t:Ty)->t.T->Value
 |.int k,n=>.int k n
 |.bool,b=>.bool b
 |.str,s=>.string s
 |_,_=>undef
def wty:List Ty->Ty
 |[]=>.unit
 |[t]=>t
 |t::u::l=>.pair t (wty (u::l))
def wOf:(e:List Ty)->(wty e).T->List (Σ t:Ty,t.T)
 |[],_=>[]
 |[t],x=>[⟨t,x⟩]
 |t::u::l,x=>⟨t,x.1⟩::wOf (u::l) x.2
def Dd:Ab->(Σ t:Ty,t.T)->Ab
 |.arr ro u d _,⟨.sl u',xs⟩=>if h:u'=u then .arr ro u d (h▸xs)else .dead
 |_,_=>.dead
def Br:List Ab->List (Σ t:Ty,t.T)->List Ab
 |r::rs,y::ys=>Dd r y::Br rs ys
 |_,_=>[]
def FTW(P:Program)(f:FuncId)(S:Aa4)(g:(PTW S.ps).T->Option (S.rt.T×(wty (Dp S.ps)).T)):Prop:=
 ∀x u,g x=some u->S.rt.sc=true/\(wOf (Dp S.ps) u.2).length=(AW S.ps x 0).2.length/\(∀k,k<(AW S.ps x 0).2.length->(Br (AW S.ps x 0).2 (wOf (Dp S.ps) u.2)).getD k .dead≠.dead)/\
  FCW P f ((AW S.ps x 0).1.map (Sl.v (AW S.ps x 0).2)) ((AW S.ps x 0).2.map Ab.v) (scV S.rt u.1) ((Br (AW S.ps x 0).2 (wOf (Dp S.ps) u.2)).map Ab.v)
structure EnW where
 f:FuncId
 S:Aa4
 g:(PTW S.ps).T->Option (S.rt.T×(wty (Dp S.ps)).T)
def Yq:List EnW->FuncId->Option EnW
 |[],_=>none
 |e::l,f=>bif beq e.f f then some e else Yq l f
def EnW.OK(P:Program)(e:EnW):Prop:=AA P e.f=true/\FTW P e.f e.S e.g
def UO{P:Program}{f:FuncId}{e:EnW}:∀{Γ:List EnW},(∀e∈Γ,e.OK P)->Yq Γ f=some e->e.OK P/\e.f=f
 |[],_,h=>by cases h
 |a::l,hΓ,h=>by
  unfold Yq at h;cases A:beq a.f f with
  |true=>
   simp_all
  |false=>rw[A]at h;exact UO (λe u=>hΓ e (mCM _ u)) h
end Go.Ve


namespace Go.Ve
variable{r:List Ab}{l m:List V}{op:Op}{i:Option TI}{P:Program}{s:St}{a:TR}{w:World}
def Pl(Θ:Tab)(t:TypeId):Option TI:=((Θ.look t).bind (·.elem)).bind Θ.look
def Ub(Θ:Tab)(s:St):Builtin->List Operand->List TypeId->Option TR
 |.len,[x],[t]=>match Ack s (Θ.look t) (s.ev x)with
  |some a=>some a
  |none=>tLen s (Θ.look t) (s.ev x)
 |.min,[x,y],_=>tMin (s.ev x) (s.ev y)
 |.max,[x,y],_=>tMax (s.ev x) (s.ev y)
 |_,_,_=>none
def Ac7:Operand->Bool
 |.const (.slice none 0 0)=>true
 |_=>false
def Q9(s:St)(i:Option TI)(x:Operand):Option TR:=bif Ac7 x then(match i with
 |some j=>some (.ok (.one (.c (.sl j.ty) (j.sd+1) [])))
 |none=>none)else Aci (s.ev x)
theorem I3{x:Operand}(u:op=.move x\/op=.assign x)(h:Q9 s i x=some a):QS P s op a.y:=by
 unfold Q9 at h;cases e:Ac7 x with
 |false=>rw[e]at h;exact PU u h
 |true=>
  rw[e]at h;split at h
  case h_2=>grind
  rename_i j;cases h;unfold Ac7 at e;split at e
  case h_2=>grind
  have:XX (s.den.ev (.const (.slice none 0 0))) (SK s (.one (.c (.sl j.ty) (j.sd+1) []))):=⟨rfl,.inr ⟨rfl,_,_,_,rfl⟩⟩;rcases u with rfl|rfl<;>exact this
def MA:Option TI->Option Operand->Option TR
 |some i,none=>match i.ty with
  |.mp k v=>some (.ok (.one (.c (.mp k v) 1 [])))
  |_=>none
 |_,_=>none
def K5{t:TypeId}{n:Option Operand}(h:MA i n=some a):QS P s (.makeMap t n) a.y:=by
 unfold MA at h;split at h
 case h_2=>cases h
 split at h
 case h_2=>cases h
 cases h;exact⟨rfl,Sub.refl _⟩
def tq(Θ:Tab)(s:St)(ty:TypeId):Op->Option TR
 |.move x=>Q9 s (Pl Θ ty) x
 |.assign x=>Q9 s (Pl Θ ty) x
 |.pick c x y=>Acg (s.ev c) (s.ev x) (s.ev y)
 |.load t x=>Xh s (Θ.look t) (s.ev x)
 |.fieldAddr t x k=>Xj s (Θ.look t) k (s.ev x)
 |.indexAddr t x i=>Iw s (Pl Θ t) (s.ev x) (s.ev i)
 |.index t x i=>Xi (Θ.look t) (s.ev x) (s.ev i)
 |.nilCheck x=>tNil (s.ev x)
 |.binOp op t x y _=>tBin (Θ.look t) op (s.ev x) (s.ev y)
 |.unOp op _ x=>tUn op (s.ev x)
 |.convert u v x=>Acl s.r (Θ.look u) (Θ.look v) (Pl Θ u) (Pl Θ v) (s.ev x)
 |.extract x k=>ME k (s.ev x)
 |.build t ps=>Xn (Θ.look t) (ps.toList.map λp=>(p.1,s.ev p.2))
 |.buildSlice t n ps=>Hw n (ps.toList.map λp=>(p.1,s.ev p.2)) (Pl Θ t)
 |.alloc t=>Xp (Θ.look t)
 |.box _ x=>tBox (s.ev x)
 |.makeSlice t l c=>Acj (Pl Θ t) (s.ev l) (s.ev c)
 |.slice t x lo hi A=>match A with
  |none=>Xa s (Θ.look t) (Pl Θ t) (s.ev x) (Lo (lo.map s.ev)) (Lo (hi.map s.ev))
  |some _=>none
 |.call c=>match c.callee with
  |.builtin b=>Ub Θ s b c.args.toList c.argTypes.toList
  |_=>none
 |.makeFunc fn first e=>tMkF s fn first.toList e.toList
 |.makeInterface t x=>tMkI Θ s t x
 |.makeMap t n=>MA (Θ.look t) n
 |.lookup t x i co=>PX s (Θ.look t) (s.ev x) (s.ev i) co
 |_=>none
theorem Q5{Θ:Tab}(u:Θ.OK P){ty:TypeId}(h:tq Θ s ty op=some a)(B:a.p):QS P s op a.y:=by
 unfold tq at h;split at h
 case h_1=>exact I3 (.inl rfl) h
 case h_2=>exact I3 (.inr rfl) h
 case h_3=>exact PS h
 case h_4=>exact PY u h B
 case h_5=>exact N5 u h
 case h_6=>exact Ji u h B
 case h_7=>exact N3 u h B
 case h_8=>exact Vu h
 case h_9=>exact VD u h B
 case h_10=>exact W7 h
 case h_11=>exact P1 u h B
 case h_12=>exact K6 h
 case h_13=>exact N9 u h
 case h_14=>exact Ix u h
 case h_15=>exact Ob u h
 case h_16=>exact VC h
 case h_17=>exact PW u h B
 case h_18=>
  split at h
  .exact N2 u h B
  .cases h
 case h_19 c=>
  obtain⟨callee,args,F⟩:=c;split at h
  case h_2=>cases h
  rename_i b E;have E:callee=.builtin b:=E;subst E;unfold Ub at h;split at h
  case h_4=>cases h
  .rename_i x t A H
   rw[Aaq (show args.toList=[x]from A),Aaq (show F.toList=[t]from H)]
   split at h
   .rename_i O J
    cases h;exact PZ u J
   .exact VA u h
  .rename_i x y A
   have e:args= #[x,y]:=by have A:args.toList=[x,y]:=A;cases args;simp at A;simp[A]
   subst e;exact Vx h
  .rename_i x y A
   have e:args= #[x,y]:=by grind
   subst e;exact Vy h
 case h_20=>exact Vw h
 case h_21=>exact Vv u h
 case h_22=>exact K5 h
 case h_23=>exact MB u h
 case h_24=>cases h
def An:V->V->Prop
 |.many t n f,v'=>v'=.dead\/∃g,v'=.many t n g/\∀k,k<n->An (f k) (g k)
 |v,v'=>v'=.dead\/Sub v v'
theorem An.of:∀{v v':V},Sub v v'->An v v':=by
 intro v
 induction v with
 |many t n f e=>intro v' h;obtain⟨g,rfl,h⟩:=h;exact .inr ⟨g,rfl,λk u=>e k (h k u)⟩
 |_=>intro v' h;exact .inr h
def An.refl(v:V):An v v:=An.of (Sub.refl v)
def An.dead:∀(v:V),An v .dead:=by
 intro v;cases v<;>exact .inl rfl
def An.mk(e:l.length=m.length)(h:∀k,k<l.length->An (l.getD k .dead) (m.getD k .dead)):An (Ag l) (Ag m):=by
 unfold Ag;rw[<-e];exact .inr ⟨_,rfl,h⟩
def An.tup(e:l.length=m.length)(h:∀k,k<l.length->An (l.getD k .dead) (m.getD k .dead)):An (Dq l) (Dq m):=by
 unfold Dq;rw[<-e];exact .inr ⟨_,rfl,h⟩
def An.pk{t:Tg}(e:l.length=m.length)(h:∀k,k<l.length->An (l.getD k .dead) (m.getD k .dead)):An (pkL t l) (pkL t m):=by
 unfold pkL;rw[<-e];exact .inr ⟨_,rfl,h⟩
theorem Rel.subS{D:Nat->Prop}{R:V->Value->Prop}:∀{v v':V}{cv:Value},An v v'->Rel D w R v cv noF->Rel D w R v' cv noF:=by
 intro v
 induction v with
 |many t n f B=>
  intro v' cv h e;rcases h with rfl|⟨g,rfl,h⟩
  .exact λ_ h=>h
  obtain⟨cs,F,A,E,e,hd,H⟩:=e;have O:=λk u=>A4 λb J=>(H b).2 ⟨k,u,J⟩
  exact⟨cs,λ_=>noF,A,E,λk u=>B k (h k u) (by grind),λ_ _ _ _ _ _ h=>h.elim,λb=>⟨λh=>h.elim,fun⟨_,_,h⟩=>h⟩⟩
 |_=>
  intro v' cv h e;rcases h with rfl|h
  .exact λ_ h=>h
  .exact Rel.sub h e
theorem At.sub'{w:World}:∀{p:AG}{v e:V}{cv:Value}{s:Bool}{sz n:Nat}{f:Nat->Nat->V}{c:Value},Sub v e->At w p v cv (.nd s true sz n f) c->∃u,At w p e cv (.nd s true sz n u) c
 |[],v,e,cv,s,sz,n,f,c,h,ha=>by
  obtain⟨rfl,rfl⟩:=ha;obtain⟨g,rfl,_⟩:=h;exact⟨g,rfl,rfl⟩
 |(i,k)::p,.nd s0 true sz0 n0 f0,e,cv,s,sz,n,f,c,h,ha=>by
  obtain⟨g,rfl,h⟩:=h;obtain⟨B,A,b,o,cap,x,H,F,E⟩:=ha;obtain⟨u,J⟩:=At.sub' (h i k B A) E;exact⟨u,B,A,b,o,cap,x,H,F,J⟩
 |_::_,.nd _ false _ _ _,_,_,_,_,_,_,_,_,ha=>ha.elim
 |_::_,.c _,_,_,_,_,_,_,_,_,ha=>ha.elim
 |_::_,.dead,_,_,_,_,_,_,_,_,ha=>ha.elim
 |_::_,.many ..,_,_,_,_,_,_,_,_,ha=>ha.elim
 |_::_,.rs ..,_,_,_,_,_,_,_,_,ha=>ha.elim
 |_::_,.rp ..,_,_,_,_,_,_,_,_,ha=>ha.elim
 |_::_,.rm ..,_,_,_,_,_,_,_,_,ha=>ha.elim
 |_::_,.mp ..,_,_,_,_,_,_,_,_,ha=>ha.elim
theorem At.subM{w:World}:∀{p:AG}{v e:V}{cv:Value}{l:List (Value×Value)}{c:Value},Sub v e->At w p v cv (.mp true l) c->At w p e cv (.mp true l) c
 |[],v,e,cv,l,c,h,ha=>by
  obtain⟨rfl,rfl⟩:=ha;cases h;exact⟨rfl,rfl⟩
 |(i,k)::p,.nd s0 true sz0 n0 f0,e,cv,l,c,h,ha=>by
  obtain⟨g,rfl,h⟩:=h;obtain⟨A,u,b,o,cap,x,F,E,B⟩:=ha;exact⟨A,u,b,o,cap,x,F,E,At.subM (h i k A u) B⟩
 |_::_,.nd _ false _ _ _,_,_,_,_,_,ha=>ha.elim
 |_::_,.c _,_,_,_,_,_,ha=>ha.elim
 |_::_,.dead,_,_,_,_,_,ha=>ha.elim
 |_::_,.many ..,_,_,_,_,_,ha=>ha.elim
 |_::_,.rs ..,_,_,_,_,_,ha=>ha.elim
 |_::_,.rp ..,_,_,_,_,_,ha=>ha.elim
 |_::_,.rm ..,_,_,_,_,_,ha=>ha.elim
 |_::_,.mp ..,_,_,_,_,_,ha=>ha.elim
theorem Ai.sub{σ σ':List V}{ρ:Nat->Value}(H:σ'.length=σ.length)(B:∀i,i<σ.length->Sub (σ.getD i .dead) (σ'.getD i .dead)):∀v cv,Ai σ ρ w v cv->Ai σ' ρ w v cv
 |.rs id p off len,cv,⟨e,sz,n,f,F,A,r⟩=>by
  obtain⟨E,u⟩:=At.sub' (B id e) A;exact⟨by grind,sz,n,E,F,u,r⟩
 |.rp id p i k,cv,⟨e,s,sz,n,f,b,o,cap,A,r⟩=>by
  obtain⟨E,u⟩:=At.sub' (B id e) A;exact⟨by omega,s,sz,n,E,b,o,cap,u,r⟩
 |.rm id p,cv,⟨e,l,b,A,r⟩=>⟨by omega,l,b,At.subM (B id e) A,r⟩
 |.mp ..,_,h=>h.elim
 |.c _,_,h=>h.elim
 |.dead,_,h=>h.elim
 |.many ..,_,h=>h.elim
 |.nd ..,_,h=>h.elim
theorem CR.sub{C:Ctx}{σ σ' ts ts':List V}{cts:Array Value}{w:World}{D:Nat->Prop}{ρ:Nat->Value}{F:Nat->Nat->Prop}(h:CR C σ ts cts w D ρ F)(A:σ'.length=σ.length)(u:∀i,i<σ.length->Sub (σ.getD i .dead) (σ'.getD i .dead))
  (e:ts'.length=ts.length) (E:∀i,i<ts.length->An (ts.getD i .dead) (ts'.getD i .dead)):CR C σ' ts' cts w D ρ F:=by
 refine⟨⟨λi hi=>Rel.sub (u i (by omega)) (h.wr.rel i (by omega)),h.wr.disj,h.wr.dD,h.wr.Dlt,λi b hi=>h.wr.out i b (by omega)⟩,by rw[h.sz,e],λt B=>?_,h.fr,h.Fn,h.D1,h.D2,h.rt,by rw[A];exact h.ml⟩
 exact Rel.subS (E t (by omega)) (Rel.mono (λ_ h=>h) (Ai.sub A u) _ _ _ (λ_ _=>rfl) (h.tm t (by omega)))
theorem AN.sub{C:Ctx}{N:Nat}{S S':Ms}{a:Act}{w:World}(h:AN C N S a w)(H:S'.σ.length=S.σ.length)(E:∀i,i<S.σ.length->Sub (S.σ.getD i .dead) (S'.σ.getD i .dead))(B:∀i,An (S.t i) (S'.t i)):AN C N S' a w:=by
 obtain⟨hd,e,D,ρ,F,u⟩:=h;refine⟨hd,λx A=>?_,D,ρ,F,u.sub H E (by simp) λi hi=>?_⟩
 .have:=B x
  rw[e x A]at this;rcases this with h|h
  .exact h
  trivial
 grind
def Cl.frz:Cl->Cl
 |.c t _ x=>.c t 0 x
 |y=>y
def Sl.frz:Sl->Option Sl
 |.one y=>some (.one y.frz)
 |.new l=>match DH l with
  |some ⟨t,x⟩=>some (.one (.c (.ptr t) 0 x))
  |none=>none
 |.agg l=>some (.agg (l.map Cl.frz))
 |.pk t l=>some (.pk t (l.map Cl.frz))
 |.tup l=>some (.tup (l.map λp=>(p.1,p.2.map Cl.frz)))
theorem Cl.frz_v(y:Cl):Go.Ve.frz (y.v r)=y.frz.v r:=by
 cases y with
 |c t d x=>
  cases e:t.one with
  |true=>exact UY e d x
  |false=>cases t<;>first|rfl|trivial
 |_=>rfl
theorem Vi(l:List Cl):Go.Ve.frz (Ag (l.map (Cl.v r)))=Ag ((l.map Cl.frz).map (Cl.v r)):=by
 rw[frz_mk,map_map,map_map]
 congr 1
 exact map_congr_left λy _=>Cl.frz_v y
theorem Sl.frz_v{r:List Ab}{y y':Sl}(h:y.frz=some y'):Go.Ve.frz (y.v r)=y'.v r:=by
 cases y with
 |one c=>cases h;exact Cl.frz_v c
 |new l=>
  unfold Sl.frz at h;simp only at h;split at h
  .rename_i t x e
   cases h;show Go.Ve.frz (A8 true (l.map Cl.v0))=A8 false (tyV t 0 x);rw[Nr,Hc _ _ e]
  .cases h
 |agg l=>cases h;exact Vi l
 |pk t l=>
  cases h;show Go.Ve.frz (pkL t (l.map (Cl.v r)))=pkL t ((l.map Cl.frz).map (Cl.v r));rw[frz_pk,map_map,map_map]
  congr 1
  exact map_congr_left λy _=>Cl.frz_v y
 |tup l=>
  cases h;show Go.Ve.frz (Dq _)=Dq _;rw[Adk,map_map,map_map]
  congr 1
  refine map_congr_left λp _=>?_
  obtain⟨b,l⟩:=p;cases b with
  |true=>exact Vi l
  |false=>
   show Go.Ve.frz ((l.map (Cl.v r)).getD 0 .dead)=((l.map Cl.frz).map (Cl.v r)).getD 0 .dead;rw[Az (a:=.dead) rfl,Cl.frz_v];simp only[gDE,List.getElem?_map];cases l[0]? <;>rfl
def Cl.chk(m:Nat):Cl->Cl
 |.rf id p=>bif blt id m then .rf id p else .dead
 |.rs id p off len=>bif blt id m then .rs id p off len else .dead
 |.rp id p i k=>bif blt id m then .rp id p i k else .dead
 |y=>y
def Sl.chk(m:Nat):Sl->Sl
 |.one y=>.one (y.chk m)
 |.new l=>.new l
 |.agg l=>.agg (l.map (Cl.chk m))
 |.pk t l=>.pk t (l.map (Cl.chk m))
 |.tup l=>.tup (l.map λp=>(p.1,p.2.map (Cl.chk m)))
def Cl.chk_v{r':List Ab}(u:∀id,id<r.length->r'.getD id .dead=r.getD id .dead)(y:Cl):An (y.v r) ((y.chk r.length).v r'):=by
 cases y with
 |rf id p=>
  show An _ ((bif blt id r.length then Cl.rf id p else .dead).v r');cases e:blt id r.length with
  |false=>exact An.dead _
  |true=>
   have e:=blE e;show An (V.rs id p 0 (Ac r id p).len) (V.rs id p 0 (Ac r' id p).len);unfold Ac;rw[u id e];exact An.refl _
 |rs id p off len=>
  show An _ ((bif blt id r.length then Cl.rs id p off len else .dead).v r');cases e:blt id r.length with
  |false=>exact An.dead _
  |true=>exact An.refl _
 |rp id p off len=>
  show An _ ((bif blt id r.length then Cl.rp id p off len else .dead).v r');cases e:blt id r.length with
  |false=>exact An.dead _
  |true=>exact An.refl _
 |_=>exact An.refl _
theorem BJ{l:List Cl}{f g:Cl->V}(u:f .dead=.dead)(e:g .dead=.dead)(h:∀y,An (f y) (g y))(k:Nat):An ((l.map f).getD k .dead) ((l.map g).getD k .dead):=by grind
theorem Sl.chk_v{r r':List Ab}(u:∀id,id<r.length->r'.getD id .dead=r.getD id .dead)(y:Sl):An (y.v r) ((y.chk r.length).v r'):=by
 have agg:∀l:List Cl,An (Ag (l.map (Cl.v r))) (Ag ((l.map (Cl.chk r.length)).map (Cl.v r'))):=by
  intro l;refine An.mk (by simp) λk _=>?_
  rw[map_map];exact BJ rfl rfl (λy=>Cl.chk_v u y) k
 cases y with
 |one c=>exact Cl.chk_v u c
 |new l=>exact An.refl _
 |agg l=>exact agg l
 |pk t l=>
  refine An.pk (by simp) λk _=>?_
  rw[map_map];exact BJ rfl rfl (λy=>Cl.chk_v u y) k
 |tup l=>
  refine An.tup (by simp) λk A=>?_
  have A:k<l.length:=by simpa using A
  simp only[gDE,List.getElem?_map,gEE A,Option.map_some,getD_some];generalize l[k]=p;obtain⟨b,m⟩:=p;cases b with
  |true=>exact agg m
  |false=>
   have:=BJ (l:=m) (f:=Cl.v r) rfl rfl (λy=>Cl.chk_v u y) 0
   have e:(m.map λy=>(y.chk r.length).v r')=(m.map (Cl.chk r.length)).map (Cl.v r'):=by rw[map_map];rfl
   grind
end Go.Ve

