/- The typed machine. -/
import Derived.Test.YtojjlnbnneemaaaTc
import Derived.Test.YtojjlnbnneemaaaVr
import Derived.Test.YtojjlnbnneemaaaVwa
import Derived.Test.YtojjlnbnneemaaaXa
open Nat(ble beq blt)
open Bool(or_eq_true)
open List(map_append all_map mem_singleton map_cons replicate range mem_append getElem_mem map_congr_left length_take getElem?_take length_drop any_eq_false map_drop map_take mem_cons mem_map map_map)
open Option(getD_none getD_some)
set_option linter.all false
namespace Go.Ve
variable{ps:Array (Nat×Operand)}{y:Cl}{r:List Ae}{l:List Cl}{m:List V}{d:Nat}{lo:Option Operand}{P:Program}{s:St}{a:TR}{Θ:Tab}{t:TypeId}
def CV:List V->List V->Prop
 |[],[]=>True
 |a::l,b::m=>Sub a b/\CV l m
 |_,_=>False
def CV.len:∀{l m:List V},CV l m->l.length=m.length
 |[],[],_=>rfl
 |_::_,_::_,h=>by simp[CV.len h.2]
 |[],_::_,h=>h.elim
 |_::_,[],h=>h.elim
def CV.getD:∀{l m:List V} (_:CV l m) (k:Nat),Sub (l.getD k .dead) (m.getD k .dead)
 |[],[],_,_=>Sub.refl _
 |_::_,_::_,h,0=>h.1
 |_::_,_::_,h,k+1=>CV.getD h.2 k
 |[],_::_,h,_=>h.elim
 |_::_,[],h,_=>h.elim
def CV.refl:∀(l:List V),CV l l
 |[]=>trivial
 |v::l=>⟨Sub.refl v,CV.refl l⟩
def CV.app:∀{l m A u:List V},CV l m->CV A u->CV (l++A) (m++u)
 |[],[],_,_,_,h=>h
 |_::_,_::_,_,_,h,h'=>⟨h.1,CV.app h.2 h'⟩
 |[],_::_,_,_,h,_=>h.elim
 |_::_,[],_,_,h,_=>h.elim
theorem CV.mk{l:List V}(h:CV l m):Sub (Am l) (Am m):=by
 unfold Am;rw[h.len];exact⟨_,rfl,λk _=>h.getD k⟩
theorem CV.obj{o:Bool}{l:List V}(h:CV l m):Sub (Bp o l) (Bp o m):=by
 unfold Bp;rw[h.len];refine⟨_,rfl,λi k u _=>?_⟩
 obtain rfl:i=0:=by omega
 exact h.getD k
theorem Eqv.symm:∀{v v':V},Eqv v v'->Eqv v' v:=by
 intro v
 induction v with
 |c v=>intro v' h;cases h;rfl
 |dead=>intro v' h;cases h;rfl
 |many t n f u=>intro v' h;obtain⟨g,rfl,h⟩:=h;exact⟨f,rfl,λk A=>u k (h k A)⟩
 |nd s own sz n f u=>intro v' h;obtain⟨g,rfl,h⟩:=h;exact⟨f,rfl,λi k B A=>u i k (h i k B A)⟩
 |rs id p off len=>intro v' h;cases h;rfl
 |rp id p i k=>intro v' h;cases h;rfl
 |rm id p=>intro v' h;cases h;rfl
 |mp own l=>intro v' h;cases h;rfl
def Ou(a b:Nat):Nat:=bif ble a b then a else b
theorem Il(a b:Nat):Ou a b=min a b:=by
 unfold Ou;cases h:ble a b with
 |true=>simp_all
 |false=>
  have:¬a<=b:=λe=>by rw[Nat.ble_eq_true_of_le e]at h;grind
  grind
def dOK(t:Ty)(d u:Nat):Bool:=beq t.dep 0||beq d u
theorem Mx{t:Ty}{u:Nat}(h:dOK t d u=true):min d t.dep=min u t.dep:=by
 unfold dOK at h;rw[or_eq_true]at h;rcases h with h|h
 .simp_all
 simp_all
def fit(u:Nat):Cl->Cl
 |.c t d x=>bif beq (Ou d t.dep) (Ou u t.dep)then .c t u x else .c t d x
 |y=>y
def DX(t:Ty)(d:Nat):Cl->Option t.T
 |.c u A x=>if h:u=t then(bif dOK t A d then some (h▸x)else none)else none
 |.nil=>match t with
  |.sl _=>some []
  |_=>none
 |_=>none
def Kj(t:Ty)(d:Nat):List Cl->Option (t.T×List Cl)
 |c::l=>match DX t d c with
  |some x=>some (x,l)
  |none=>none
 |[]=>none
def Acp:(t:Ty)->Nat->List Cl->Option (t.T×List Cl)
 |.unit,_,l=>some ((),l)
 |.pair a b,d,l=>match Acp a d l with
  |some (x,l)=>match Acp b d l with
   |some (y,l)=>some ((x,y),l)
   |none=>none
  |none=>none
 |.int k,d,l=>Kj (.int k) d l
 |.bool,d,l=>Kj .bool d l
 |.str,d,l=>Kj .str d l
 |.sl t,d,l=>Kj (.sl t) d l
 |.ptr t,d,l=>Kj (.ptr t) d l
 |.clo g t,d,l=>Kj (.clo g t) d l
 |.osl t,d,l=>Kj (.osl t) d l
 |.mp k v,d,l=>Kj (.mp k v) d l
def Ij(t:Ty)(d:Nat)(l:List Cl):Option t.T:=match Acp t d l with
 |some (x,[])=>some x
 |_=>none
theorem LZ{t:Ty}{c:Cl}{x:t.T}(h:DX t d c=some x)(r:List Ae):Sub (c.v r) (cV t d x)/\c.v r=c.v0:=by
 unfold DX at h;split at h
 .rename_i u B E
  split at h
  case isFalse=>grind
  rename_i A;subst A;cases hd:dOK u B d with
  |false=>grind
  |true=>
   rw[hd]at h;cases h;exact⟨Sub.of_eq (Lj (Mx hd)),rfl⟩
 .split at h
  .cases h
   exact⟨.inr ⟨rfl,_,_,_,rfl⟩,rfl⟩
  grind
 grind
theorem DH{t:Ty}(B:t.one=true){u:List Cl}{x:t.T}(h:Kj t d l=some (x,u))(r:List Ae):∃m,l=m++u/\CV (m.map (Cl.v r)) (tyV t d x)/\m.map (Cl.v r)=m.map Cl.v0:=by
 unfold Kj at h;split at h
 .rename_i c l0
  split at h
  .rename_i y A
   cases h;obtain⟨J,E⟩:=LZ A r;exact⟨[c],rfl,by rw[BN B];trivial,by grind⟩
  grind
 grind
theorem Qi(r:List Ae):∀(t:Ty) (d:Nat) (l u:List Cl) (x:t.T),Acp t d l=some (x,u)->∃m,l=m++u/\CV (m.map (Cl.v r)) (tyV t d x)/\m.map (Cl.v r)=m.map Cl.v0
 |.unit,d,l,u,x,h=>by cases h;exact⟨[],rfl,trivial,rfl⟩
 |.int k,d,l,u,x,h=>DH rfl h r
 |.bool,d,l,u,x,h=>DH rfl h r
 |.str,d,l,u,x,h=>DH rfl h r
 |.sl t,d,l,u,x,h=>DH rfl h r
 |.ptr t,d,l,u,x,h=>DH rfl h r
 |.clo g t,d,l,u,x,h=>DH rfl h r
 |.osl t,d,l,u,x,h=>DH rfl h r
 |.mp k v,d,l,u,x,h=>DH rfl h r
 |.pair a b,d,l,u,x,h=>by
  unfold Acp at h;split at h
  .rename_i y l1 O
   split at h
   .rename_i z l2 J
    cases h;obtain⟨E,W,s1,t1⟩:=Qi r a d l l1 y O;obtain⟨B,U,A,t2⟩:=Qi r b d l1 u z J;subst U;subst W;exact⟨E++B,by simp,by rw[map_append];exact s1.app A,by grind⟩
   grind
  grind
theorem Dc{t:Ty}{x:t.T}(h:Ij t d l=some x)(r:List Ae):CV (l.map (Cl.v r)) (tyV t d x)/\l.map (Cl.v r)=l.map Cl.v0:=by
 unfold Ij at h;split at h
 .rename_i y u
  cases h;obtain⟨m,e,B,A⟩:=Qi r t d l [] x u
  grind
 grind
def I7(r:List Ae):∀t:Ty,(H2 t).map (Cl.v r)=(B2 t).map .c
 |.int _=>rfl
 |.bool=>rfl
 |.str=>rfl
 |.sl _=>rfl
 |.ptr _=>rfl
 |.unit=>rfl
 |.clo _ _=>rfl
 |.osl _=>rfl
 |.mp _ _=>rfl
 |.pair a b=>by simp[H2,B2,I7 r a,I7 r b]
def Oz:∀t:Ty,CV ((B2 t).map .c) ((Vh t).map Cl.v0)
 |.int _=>⟨Sub.refl _,trivial⟩
 |.bool=>⟨Sub.refl _,trivial⟩
 |.str=>⟨Sub.refl _,trivial⟩
 |.sl _=>⟨.inr ⟨rfl,_,_,_,rfl⟩,trivial⟩
 |.ptr _=>⟨Sub.refl _,trivial⟩
 |.clo _ _=>⟨Sub.refl _,trivial⟩
 |.osl _=>⟨.inr ⟨rfl,_,_,_,rfl⟩,trivial⟩
 |.mp _ _=>⟨Sub.refl _,trivial⟩
 |.unit=>trivial
 |.pair a b=>by simp[B2,Vh,map_append];exact(Oz a).app (Oz b)
def Ty.noPtr:Ty->Bool
 |.ptr _=>false
 |.clo _ _=>false
 |.osl _=>false
 |.mp _ _=>false
 |.pair a b=>a.noPtr&&b.noPtr
 |_=>true
def Ox(d:Nat):∀t:Ty,t.noPtr=true->CV ((B2 t).map .c) (tyV t d t.dflt)
 |.int _,_=>⟨Sub.refl _,trivial⟩
 |.bool,_=>⟨Sub.refl _,trivial⟩
 |.str,_=>⟨Sub.refl _,trivial⟩
 |.sl _,_=>⟨.inr ⟨rfl,_,_,_,rfl⟩,trivial⟩
 |.unit,_=>trivial
 |.pair a b,h=>by
  simp[Ty.noPtr,bAE]at h;simp[B2,tyV];exact(Ox d a h.1).app (Ox d b h.2)
def Hk:∀t:Ty,(B2 t).length=t.w
 |.int _=>rfl
 |.bool=>rfl
 |.str=>rfl
 |.sl _=>rfl
 |.ptr _=>rfl
 |.unit=>rfl
 |.clo _ _=>rfl
 |.osl _=>rfl
 |.mp _ _=>rfl
 |.pair a b=>by simp[B2,Ty.w,Hk a,Hk b]
def Cl.plain:Cl->Bool
 |.dead=>false
 |.c .unit _ _=>false
 |.c (.pair _ _) _ _=>false
 |.c (.clo _ _) _ _=>false
 |.c (.osl _) _ _=>false
 |.c (.mp _ _) _ _=>false
 |y=>!y.own
def Sl.cells:Sl->Option (List Cl)
 |.one y=>bif y.plain then some [y]else none
 |.agg l=>bif l.all Cl.plain then some l else none
 |_=>none
theorem Wy(h:y.plain=true):one1 (y.v r)=true/\AN (y.v r)=false/\Bv (y.v r)=true/\Go.Ve.cellsV (y.v r)=[y.v r]:=by
 cases y with
 |c t d x=>cases t<;>cases d<;>first|trivial|rfl
 |dead=>cases h
 |_=>trivial
theorem CT{y:Sl}(h:y.cells=some l):Bv (y.v r)=true/\Go.Ve.cellsV (y.v r)=l.map (Cl.v r)/\l.all Cl.plain=true:=by
 unfold Sl.cells at h;split at h
 .rename_i c
  cases u:c.plain with
  |false=>grind
  |true=>
   rw[u]at h;cases h;obtain⟨_,_,J,E⟩:=Wy u;exact⟨J,E,by grind⟩
 .rename_i A
  cases u:A.all Cl.plain with
  |false=>grind
  |true=>
   rw[u]at h;cases h;refine⟨?_,Oi,u⟩;show Bv (Am _)=true;rw[Wz,all_map,aET];intro y B;exact(Wy (aET.1 u y B)).1
 grind
def Sl.cellsF:Sl->Option (List Cl)
 |.one (.c (.clo g t) d x)=>some [.c (.clo g t) d x]
 |y=>y.cells
theorem Ok{y:Sl}(h:y.cellsF=some l):Bv (y.v r)=true/\Go.Ve.cellsV (y.v r)=l.map (Cl.v r):=by
 unfold Sl.cellsF at h;split at h
 .rename_i g t d x
  cases h;refine⟨?_,rfl⟩;show(!AN (cV (.clo g t) d x))=true;have e:AN (cV (.clo g t) d x)=false:=Hm (.clo g t) x _ (mem_singleton.2 rfl)
  grind
 .obtain⟨A,u,_⟩:=CT (r:=r) h
  grind
def Acm(cells:List Cl):Nat->List Cl->List Cl
 |_,[]=>cells
 |off,y::l=>Acm (cells.set off y) (off+1) l
theorem Aa2:∀(l cells:List V) (off k:Nat),((l.zipIdx k).foldl (λcs (c,j)=>cs.set (off+j) c) cells)=Yw cells (off+k) l:=by
 have gen:∀(l cells:List V) (off k:Nat),((l.zipIdx k).foldl (λcs (c,j)=>cs.set (off+j) c) cells)=((l.zipIdx 0).foldl (λcs (c,j)=>cs.set (off+k+j) c) cells):=by
  intro l
  induction l with
  |nil=>simp
  |cons v l u=>
   intro cells off k;simp[Nat.add_zero];rw[u _ off (k+1),u _ (off+k) (0+1)];rfl
 trivial
def V2{v:V}{l cells:List V}{off:Nat}:Yw cells off (v::l)=Yw (cells.set off v) (off+1) l:=by
 show((v::l).zipIdx 0).foldl _ cells=_;exact Aa2 l _ off (0+1)
def V5{r:List Ae}:∀(l cells:List Cl) (off:Nat),(Acm cells off l).map (Cl.v r)=Yw (cells.map (Cl.v r)) off (l.map (Cl.v r))
 |[],cells,off=>rfl
 |y::l,cells,off=>by
  rw[map_cons,V2];show(Acm (cells.set off y) (off+1) l).map (Cl.v r)=_;rw[V5 l,List.map_set]
def Uc(place:Nat->Option (Nat×Nat))(cells:List Cl):List (Nat×Option Sl)->Option (List Cl)
 |[]=>some cells
 |(i,y)::rest=>match place i,y with
  |some (off,size),some y=>match y.cellsF with
   |some l=>bif beq l.length size&&ble (off+size) cells.length then Uc place (Acm cells off l) rest else none
   |none=>none
  |_,_=>none
theorem LC{s:St}{place:Nat->Option (Nat×Nat)}:∀(ps:List (Nat×Operand)) (cells l:List Cl),Uc place cells (ps.map λp=>(p.1,s.ev p.2))=some l->
  (ps.map λp=>(p.1,s.den.ev p.2)).all (λp=>Bv p.2)=true/\Cg place (cells.map (Cl.v s.r)) (ps.map λp=>(p.1,s.den.ev p.2))=some (l.map (Cl.v s.r))
 |[],cells,l,h=>by cases h;exact⟨rfl,rfl⟩
 |(i,x)::ps,cells,l,h=>by
  rw[map_cons]at h;unfold Uc at h;split at h
  case h_2=>cases h
  rename_i off size y u B;split at h
  case h_2=>cases h
  rename_i m E;obtain⟨A,h⟩:=Bc h;simp only[bAE]at A;have O:=bqE A.1;have J:=blE A.2;obtain⟨g1,g2⟩:=Ok (r:=s.r) E;obtain⟨k1,k2⟩:=LC ps _ _ h;rw[map_cons,List.all_cons];refine⟨by simp only[Bf B,g1,Bool.true_and];exact k1,?_⟩
  unfold Cg;simp only[u,Bf B,g2];rw[if_neg (by grind),<-V5]
  exact k2
def VU:Option TI->List (Nat×Option Sl)->Option TR
 |some i,ps=>bif i.agg then(match Uc (λk=>i.places[k]?) (H2 i.ty) ps with
   |some l=>some (.ok (.agg l))
   |none=>none)
  else none
 |none,_=>none
theorem Na(u:Θ.OK P)(h:VU (Θ.look t) (ps.toList.map λp=>(p.1,s.ev p.2))=some a):QS P s (.build t ps) a.y:=by
 unfold VU at h;split at h
 case h_2=>grind
 rename_i i J;cases A:i.agg with
 |false=>grind
 |true=>
  rw[A]at h;split at h
  case h_2=>grind
  rename_i l E;cases h;obtain⟨O,B⟩:=LC _ _ _ E;show KO (Aas P t) (ps.toList.map λp=>(p.1,s.den.ev p.2)) (SK s _)
  rw[u.bd J,A];unfold KO;rw[I7]at B;simp only[if_true];rw[B];exact⟨O,Sub.refl _⟩
def NM(t:Ty)(d:Nat):Nat->List Cl->Option (List t.T)
 |0,[]=>some []
 |0,_::_=>none
 |n+1,l=>match Acp t d l with
  |some (x,l)=>match NM t d n l with
   |some xs=>some (x::xs)
   |none=>none
  |none=>none
theorem O8{t:Ty}(r:List Ae):∀(n:Nat) (l:List Cl) (xs:List t.T),NM t d n l=some xs->xs.length=n/\l.map (Cl.v r)=l.map Cl.v0/\
  ∀i k,i<n->k<t.w->Sub ((l.map (Cl.v r)).getD (i*t.w+k) .dead) ((tyV t d (xs.getD i t.dflt)).getD k .dead):=by
 intro n
 induction n with
 |zero=>
  intro l xs h;cases l with
  |nil=>cases h;exact⟨rfl,rfl,λi k J=>by omega⟩
  |cons y l=>cases h
 |succ n B=>
  intro l xs h;unfold NM at h;split at h
  case h_2=>cases h
  rename_i x l1 U;split at h
  case h_2=>cases h
  rename_i ys O;cases h;obtain⟨m,e,s1,A⟩:=Qi r t d l l1 x U;obtain⟨g1,g2,W⟩:=B l1 ys O;subst e;have u:(m.map (Cl.v r)).length=t.w:=by rw[s1.len,AB]
  refine⟨by simp[g1],by simp[A,g2],λi k J E=>?_⟩
  rw[map_append];cases i with
  |zero=>
   simp only[Nat.zero_mul,Nat.zero_add,List.getD_cons_zero];have:=s1.getD k;rw[gDE,gAL (by omega),<-gDE]
   exact this
  |succ i=>
   have:=W i k (by omega) E
   rw[List.getD_cons_succ];have e:(i+1)*t.w+k-(m.map (Cl.v r)).length=i*t.w+k:=by rw[u,Nat.add_mul];omega
   rw[gDE,gAR (by rw[u,Nat.add_mul];omega),e,<-gDE]
   exact this
def Aa9(n:Nat)(l:List Cl):List Cl:=match n with
 |0=>[]
 |n+1=>l++Aa9 n l
def Xl:∀(n w:Nat) (l:List V),l.length=w->0<w->∀j,j<n*w->((replicate n l).flatten).getD j .dead=l.getD (j % w) .dead:=by
 intro n w l A B
 induction n with
 |zero=>simp
 |succ n u=>
  intro j E;rw[List.replicate_succ,List.flatten_cons];by_cases h:j<w
  .rw[gDE,gAL (by omega),<-gDE,Nat.mod_eq_of_lt h]
  .have:=Nat.add_one_mul n w
   rw[gDE,gAR (by omega),<-gDE,A,u (j-w) (by omega),<-Nat.mod_eq_sub_mod (by omega)]
theorem We(r:List Ae)(t:Ty)(n:Nat)(u:0<t.w):(Aa9 n (H2 t)).map (Cl.v r)=(range (n*t.w)).map λj=>.c ((B2 t).getD (j % t.w) undef):=by
 have e:(Aa9 n (H2 t)).map (Cl.v r)=(replicate n ((B2 t).map V.c)).flatten:=by
  induction n with
  |zero=>rfl
  |succ n A=>
   show((H2 t)++Aa9 n (H2 t)).map (Cl.v r)=_;rw[map_append,A,I7,List.replicate_succ,List.flatten_cons]
 have E:((B2 t).map V.c).length=t.w:=by rw[List.length_map,Hk]
 rw[e];apply List.ext_getElem
 .simp_all
 .intro j U O
  have J:=by simpa using O
  have g:=Xl n t.w _ E u j J;rw[gDE,gEE U]at g;simp at g;rw[g];have B:j % t.w<(B2 t).length:=by rw[Hk];exact Nat.mod_lt _ u
  simp[B]
def Ty.noO:Ty->Bool
 |.osl _=>false
 |.mp _ _=>false
 |.clo _ t=>t.noO
 |.pair a b=>a.noO&&b.noO
 |_=>true
theorem I0:∀(t:Ty) (x:t.T),t.noO=true->∀v∈tyV t 0 x,Cf v=true
 |.int _,_,_,v,h=>by simp[tyV]at h;subst h;rfl
 |.bool,_,_,v,h=>by simp[tyV]at h;subst h;rfl
 |.str,_,_,v,h=>by simp[tyV]at h;subst h;rfl
 |.sl _,_,_,v,h=>by simp only[tyV,mem_singleton]at h;subst h;rfl
 |.ptr _,_,_,v,h=>by simp only[tyV,mem_singleton]at h;subst h;rfl
 |.unit,_,_,v,h=>by trivial
 |.pair a b,x,ho,v,h=>by
  simp only[Ty.noO,bAE]at ho;simp only[tyV,mem_append]at h;exact h.elim (I0 a x.1 ho.1 v) (I0 b x.2 ho.2 v)
 |.osl _,_,ho,_,_=>by cases ho
 |.mp _ _,_,ho,_,_=>by cases ho
 |.clo g t,x,ho,v,h=>by
  simp only[tyV,mem_singleton]at h;subst h;show((range t.w).all λk=>Cf ((tyV t 0 x).getD k .dead))=true
  rw[aET];intro k u;have u:k<(tyV t 0 x).length:=by rw[AB];grind
  rw[gDE,gEE u];exact I0 t x ho _ (getElem_mem u)
def Cl.imm:Cl->Bool
 |.c .unit _ _=>false
 |.c (.pair _ _) _ _=>false
 |.c (.clo _ _) _ _=>false
 |.c (.osl _) _ _=>false
 |.c (.mp _ _) _ _=>false
 |.c t d x=>!(Cl.c t d x).own
 |.nil=>true
 |.nilp=>true
 |.nilf=>true
 |.nilm=>true
 |_=>false
theorem Pm(h:y.imm=true):Cf (y.v r)=true/\y.v r=y.v0:=by
 cases y with
 |c t d x=>cases t<;>cases d<;>first|trivial|rfl
 |nil=>trivial
 |nilp=>trivial
 |nilf=>trivial
 |nilm=>trivial
 |_=>cases h
def Cl.immF:Cl->Bool
 |.c (.clo _ t) _ _=>t.noO
 |y=>y.imm
theorem immF_v(h:y.immF=true):Cf (y.v r)=true:=by
 unfold Cl.immF at h;split at h
 .rename_i g t d x
  exact I0 (.clo g t) x h _ (mem_singleton.2 rfl)
 .exact(Pm h).1
theorem AbJ(h:l.all Cl.immF=true):(l.map (Cl.v r)).all Cf=true:=by
 rw[all_map,aET];intro y u;exact immF_v (aET.1 h y u)
theorem imms_v(h:l.all Cl.imm=true):(l.map (Cl.v r)).all Cf=true/\l.map (Cl.v r)=l.map Cl.v0:=by
 refine⟨?_,map_congr_left λy u=>(Pm (aET.1 h y u)).2⟩
 rw[all_map,aET];intro y u;exact(Pm (aET.1 h y u)).1
def D9(n:Nat)(ps:List (Nat×Option Sl)):Option TI->Option TR
 |some j=>bif blt 0 j.ty.w&&ble (n*j.ty.w) 16777216 then(bif beq n 0 then(match ps with
  |[]=>some (.ok (.one (.c (.sl j.ty) (j.sd+1) [])))
  |_::_=>none)else match Uc (λi=>some (i*j.ty.w,j.ty.w)) (Aa9 n (H2 j.ty)) ps with
   |some l=>bif l.all Cl.immF then(match NM j.ty j.sd n l with
    |some xs=>some (.ok (.one (.c (.sl j.ty) (j.sd+1) xs)))
    |none=>match NM j.ty 0 n l with
     |some xs=>some (.ok (.one (.c (.sl j.ty) 1 xs)))
     |none=>none)else none
   |none=>none)
  else none
 |none=>none
theorem H8(U:Θ.OK P){n:Nat}(h:D9 n (ps.toList.map λp=>(p.1,s.ev p.2)) (((Θ.look t).bind (·.elem)).bind Θ.look)=some a):QS P s (.buildSlice t n ps) a.y:=by
 unfold D9 at h;split at h
 case h_2=>cases h
 rename_i j hj;obtain⟨e,A,_⟩:=Dz U hj;cases E:(blt 0 j.ty.w&&ble (n*j.ty.w) 16777216)with
 |false=>rw[E]at h;cases h
 |true=>
  rw[E]at h;simp only[bAE]at E;have W:=Lk E.1;have Z:=blE E.2;simp only[cond_true]at h;cases J:beq n 0 with
  |true=>
   rw[J]at h;simp only[cond_true]at h;have J:=bqE J;subst J;split at h
   case h_2=>cases h
   rename_i Y;cases h;have B:ps.toList=[]:=by simpa using Y
   show Cb (slI P t) (Bs P t) 0 (ps.toList.map λp=>(p.1,s.den.ev p.2)) (SK s _)
   rw[A,B];refine⟨rfl,⟨W,Z⟩,?_⟩;simp only[Nat.zero_mul,List.range_zero,List.map_nil,Cg];refine⟨rfl,?_⟩;refine(Eqv.sub (Eqv.symm (LJ (Bs P t) j.ty.w 0 _))).trans ?_;show Sub _ (arr true j.ty.w (tyV j.ty j.sd) j.ty.dflt []);exact⟨_,rfl,λi k O hk=>by omega⟩
  |false=>
  rw[J]at h;simp only[cond_false]at h;split at h
  case h_2=>cases h
  rename_i l hl;obtain⟨O,h⟩:=Bc h
  have key:∀(d:Nat) (xs:List j.ty.T),NM j.ty d n l=some xs->a=.ok (.one (.c (.sl j.ty) (d+1) xs))->QS P s (.buildSlice t n ps) a.y:=by
   intro d xs u ha;subst ha;obtain⟨h1,h2⟩:=LC _ _ _ hl;rw[We s.r j.ty n W]at h2;show Cb (slI P t) (Bs P t) n (ps.toList.map λp=>(p.1,s.den.ev p.2)) (SK s _)
   rw[A];refine⟨h1,⟨W,Z⟩,?_⟩;rw[h2];refine⟨AbJ O,?_⟩;obtain⟨g1,g2,g3⟩:=O8 s.r n l xs u;refine(Eqv.sub (Eqv.symm (LJ (Bs P t) j.ty.w n _))).trans ?_;show Sub _ (arr true j.ty.w (tyV j.ty d) j.ty.dflt xs);unfold arr;rw[g1];exact⟨_,rfl,λi k O hk=>g3 i k O hk⟩
  split at h
  .rename_i xs u
   cases h;exact key _ xs u rfl
  .split at h
   case h_2=>cases h
   rename_i xs u;cases h;exact key 0 xs u rfl
def VV:Option TI->Option TR
 |some i=>bif blt 0 i.ty.w then some (.ok (.new (Vh i.ty)))else none
 |none=>none
theorem Nc(u:Θ.OK P)(h:VV (Θ.look t)=some a):QS P s (.alloc t) a.y:=by
 unfold VV at h;split at h
 case h_2=>grind
 rename_i i B;cases A:blt 0 i.ty.w with
 |false=>grind
 |true=>
  rw[A]at h;cases h;show NG (tyI P t) (SK s _);rw[u.ty B];exact⟨Lk A,(Oz i.ty).obj⟩
def tBox:Option Sl->Option TR
 |some y=>match y.cells with
  |some l=>bif l.all Cl.imm then some (.ok (.new l))else some (.ok (.pk .bx l))
  |none=>none
 |none=>none
theorem Ud{x:Operand}(h:tBox (s.ev x)=some a):QS P s (.box t x) a.y:=by
 unfold tBox at h;split at h
 case h_2=>grind
 rename_i y E;split at h
 case h_2=>grind
 rename_i l J;cases u:l.all Cl.imm with
 |false=>
  rw[u]at h;cases h;obtain⟨B,A,_⟩:=CT J;show qBox (s.den.ev x) (SK s _);rw[Bf E];refine⟨B,.inr ?_⟩;rw[A];exact Sub.refl _
 |true=>
  rw[u]at h;cases h;obtain⟨B,A,_⟩:=CT J;obtain⟨g1,g2⟩:=imms_v (r:=s.r) u;show qBox (s.den.ev x) (SK s _);rw[Bf E];refine⟨B,.inl ⟨by grind,?_⟩⟩
  rw[A,g2];exact Sub.refl _
def AaT:Option TI->Option Sl->Option Sl->Option TR
 |some j,some (.one (.c (.int _) _ l)),some (.one (.c (.int _) _ c))=>
  bif blt 0 j.ty.w&&j.ty.noPtr then some (.cnd (0<=l/\l<=c/\(j.bytes:Int)*c<=281474976710656/\c<=9223372036854775807) inferInstance (.one (.c (.sl j.ty) (j.sd+1) (ZK (Kk l) j.ty.dflt))))else none
 |_,_,_=>none
theorem UC(u:Bool){t:Ty}(d n:Nat)(h:t.noPtr=true):Sub (WN u t.w n (B2 t)) (cV (.sl t) (d+1) (replicate n t.dflt)):=by
 have gen:Sub (arr true t.w (λx=>x) [] (replicate n ((B2 t).map .c))) (cV (.sl t) (d+1) (replicate n t.dflt)):=by
  have E:cV (.sl t) (d+1) (replicate n t.dflt)=arr true t.w (tyV t d) t.dflt (replicate n t.dflt):=by rfl
  rw[E];unfold arr;rw[List.length_replicate,List.length_replicate];refine⟨_,rfl,λi k J _=>?_⟩
  have B:(replicate n ((B2 t).map V.c)).getD i []=(B2 t).map .c:=by grind
  have A:(replicate n t.dflt).getD i t.dflt=t.dflt:=by grind
  show Sub (((replicate n ((B2 t).map V.c)).getD i []).getD k .dead) ((tyV t d ((replicate n t.dflt).getD i t.dflt)).getD k .dead);rw[B,A];exact(Ox d t h).getD k
 trivial
theorem ON(A:Θ.OK P){l c:Operand}(h:AaT (((Θ.look t).bind (·.elem)).bind Θ.look) (s.ev l) (s.ev c)=some a)(E:a.p):QS P s (.makeSlice t l c) a.y:=by
 unfold AaT at h;split at h
 case h_2=>grind
 rename_i j _ _ li _ _ W O J U;obtain⟨e,B,_⟩:=Dz A O;cases u:(blt 0 j.ty.w&&j.ty.noPtr)with
 |false=>grind
 |true=>
  rw[u]at h;simp only[bAE]at u;cases h;show Wq (slI P t) (Bs P t) (s.den.ev l) (s.den.ev c) (SK s _);rw[B,Bf J,Bf U];exact⟨Lk u.1,E,UC _ _ _ u.2⟩
def KA:Option (Option Sl)->Option (Option Int)
 |none=>some none
 |some (some (.one (.c (.int _) _ n)))=>some (some n)
 |_=>none
def VH(s:St):Option TI->Option TI->Option Sl->Option (Option Int)->Option (Option Int)->Option TR
 |some i,_,some (.one (.c .str _ b)),some lo,some hi=>
  bif i.str then some (.cnd (0<=lo.getD 0/\lo.getD 0<=hi.getD (ofN (OV b))/\hi.getD (ofN (OV b))<=ofN (OV b)) inferInstance (.one (.c .str 0 (cutS b (Kk (lo.getD 0)) (Kk (hi.getD (ofN (OV b))))))))else none
 |some i,some j,some (.one (.c (.sl t) 0 xs)),some lo,some hi=>
  bif beq t.w j.ty.w&& !i.str then some (.cnd (0<=lo.getD 0/\lo.getD 0<=hi.getD (ofN (HL xs))/\hi.getD (ofN (HL xs))<=ofN (HL xs)) inferInstance
   (.one (.c (.sl t) 0 (match lo,hi with
    |none,none=>xs
    |some l,none=>Pw (Kk l) xs
    |none,some h=>OF (Kk h) xs
    |some l,some h=>OF (Kk h-Kk l) (Pw (Kk l) xs)))))else none
 |some i,some j,some (.one (.rf id p)),some lo,some hi=>
  match Ag s.r id p with
  |.arr _ t _ xs=>bif beq t.w j.ty.w&& !i.str then some (.cnd (0<=lo.getD 0/\lo.getD 0<=hi.getD (ofN (HL xs))/\hi.getD (ofN (HL xs))<=ofN (HL xs)) inferInstance
    (.one (.rs id p (Kk (lo.getD 0)) (Kk (hi.getD (ofN (HL xs)))-Kk (lo.getD 0)))))else none
  |_=>none
 |some i,some j,some (.one (.rs id p off len)),some lo,some hi=>
  match Ag s.r id p with
  |.arr _ t _ _=>bif beq t.w j.ty.w&& !i.str then some (.cnd (0<=lo.getD 0/\lo.getD 0<=hi.getD (ofN len)/\hi.getD (ofN len)<=ofN len) inferInstance
    (.one (.rs id p (off+Kk (lo.getD 0)) (Kk (hi.getD (ofN len))-Kk (lo.getD 0)))))else none
  |_=>none
 |_,_,_,_,_=>none
theorem CZ{l:Option Int}(h:KA (lo.map s.ev)=some l)(d:Int):bnd d (lo.map s.den.ev)=some (l.getD d):=by
 cases lo with
 |none=>cases h;rfl
 |some x=>
  simp at h⊢;unfold KA at h;split at h
  .grind
  .rename_i u
   cases h;simp at u;rw[Bf u];rfl
  grind
theorem M4{s:St}(hΘ:Θ.OK P){t:TypeId}{x:Operand}{lo A:Option Operand}{a:TR}
  (h:VH s (Θ.look t) (((Θ.look t).bind (·.elem)).bind Θ.look) (s.ev x) (KA (lo.map s.ev)) (KA (A.map s.ev))=some a) (hp:a.p):QS P s (.slice t x lo A none) a.y:=by
 unfold VH at h;have O:∀y,KL (slK P t) (s.r.map Ae.v) (s.den.ev x) (lo.map s.den.ev) (A.map s.den.ev) (SK s y)->QS P s (.slice t x lo A none) y:=λy h=>⟨rfl,h⟩
 have Z:∀{i j:TI},Θ.look t=some i->((Θ.look t).bind (·.elem)).bind Θ.look=some j->i.str=false->slK P t=.slice j.ty.w:=by
  intro i j A W hs;rw[hΘ.sk A,hs];rw[A]at W;simp only[Option.bind_some]at W;rw[W];rfl
 split at h
 case h_5=>cases h
 .rename_i i _ b l u hI hx E J
  obtain⟨hb,h⟩:=Bc h;cases h;refine O _ ?_;rw[hΘ.sk hI,hb,Bf hx];unfold KL
  show(match bnd 0 (lo.map s.den.ev),bnd b.size (A.map s.den.ev)with
   |some l,some h=>_
   |_,_=>False)
  rw[CZ E,CZ J];exact⟨hp,Sub.refl _⟩
 .rename_i i j B xs l u hI W hx E J
  obtain⟨hb,h⟩:=Bc h;cases h;obtain⟨h1,U⟩:=Iw hb;have U:i.str=false:=by simpa using U
  refine O _ ?_;rw[Z hI W U,Bf hx]
  show(match bnd 0 (lo.map s.den.ev),bnd xs.length (A.map s.den.ev)with
   |some l,some h=>_
   |_,_=>False)
  rw[CZ E,CZ J];refine⟨h1,hp,?_⟩;obtain⟨p1,p2,p3⟩:0<=l.getD 0/\l.getD 0<=u.getD xs.length/\u.getD xs.length<=xs.length:=hp;show Sub (V.nd true false B.w ((u.getD xs.length).toNat-(l.getD 0).toNat) λi k=>(tyV B 0 (xs.getD (i+(l.getD 0).toNat) B.dflt)).getD k .dead) (arr false B.w (tyV B 0) B.dflt _)
  have key:∀ys:List B.T,ys.length=(u.getD xs.length).toNat-(l.getD 0).toNat->(∀i,i<ys.length->ys.getD i B.dflt=xs.getD (i+(l.getD 0).toNat) B.dflt)->
    Sub (V.nd true false B.w ((u.getD xs.length).toNat-(l.getD 0).toNat) λi k=>(tyV B 0 (xs.getD (i+(l.getD 0).toNat) B.dflt)).getD k .dead) (arr false B.w (tyV B 0) B.dflt ys):=by
   intro ys hl hg;unfold arr;rw[hl];refine⟨_,rfl,λi k A _=>?_⟩
   rw[hg i (by omega)]
   exact Sub.refl _
  cases l with
  |none=>cases u with
   |none=>exact key xs (by simp) λi A=>by simp
   |some u=>
    simp only[getD_none,getD_some]at p1 p2 p3⊢;refine key _ ?_ λi A=>?_
    .simp only[Kk,length_take];simp;omega
    .simp only[Kk,length_take]at A
     have:i<u.toNat:=by omega
     simp[getElem?_take,this]
  |some l=>cases u with
   |none=>
    simp only[getD_none,getD_some]at p1 p2 p3⊢;refine key _ ?_ λi A=>?_
    .simp
    .simp[Nat.add_comm]
   |some u=>
    simp only[getD_some]at p1 p2 p3⊢;refine key _ ?_ λi A=>?_
    .simp only[Kk,getD_some,length_take,length_drop];omega
    .simp only[Kk,length_take,length_drop]at A
     have:i<u.toNat-l.toNat:=by omega
     simp[getElem?_take,this,Nat.add_comm]
 .rename_i i j id p l u hI W hx E J
  split at h
  case h_2=>cases h
  rename_i ro B d xs Y;have hne:Ag s.r id p≠.dead:=by rw[Y];simp
  obtain⟨hb,h⟩:=Bc h;cases h;obtain⟨h1,U⟩:=Iw hb;have U:i.str=false:=by simpa using U
  refine O _ ?_;rw[Z hI W U,Bf hx];have hl:(Ag s.r id p).len=xs.length:=by rw[Y];rfl
  show(match bnd 0 (lo.map s.den.ev),bnd (Ag s.r id p).len (A.map s.den.ev)with
   |some l,some h=>_
   |_,_=>False)
  rw[CZ E,CZ J,hl];refine⟨by rw[Cn (by rw[Y];rfl),Y];exact h1,hp,?_⟩
  show Sub (V.rs id p (0+(l.getD 0).toNat) _) (V.rs id p (l.getD 0).toNat _);rw[Nat.zero_add];exact Sub.refl _
 .rename_i i j id p off len l u hI W hx E J
  split at h
  case h_2=>cases h
  rename_i ro B d xs Y;have hne:Ag s.r id p≠.dead:=by rw[Y];simp
  obtain⟨hb,h⟩:=Bc h;cases h;obtain⟨h1,U⟩:=Iw hb;have U:i.str=false:=by simpa using U
  refine O _ ?_;rw[Z hI W U,Bf hx]
  show(match bnd 0 (lo.map s.den.ev),bnd len (A.map s.den.ev)with
   |some l,some h=>_
   |_,_=>False)
  rw[CZ E,CZ J];exact⟨by rw[Cn (by rw[Y];rfl),Y];exact h1,hp,Sub.refl _⟩
end Go.Ve


namespace Go.Ve
variable{b:Bool}{y y':Cl}{f g:FuncId}{r:List Ae}{ys:List Sl}{D fp:Nat->Prop}{t1 t2:Nat->Sl}{op:Op}{x:Operand}{P:Program}{s:St}{Θ:Tab}{t:Ty}{v:V}{R:V->Value->Prop}{cv:Value}{w:World}
def PT:List (Bool×Ty)->Ty
 |[]=>.unit
 |[p]=>p.2
 |p::q::l=>.pair p.2 (PT (q::l))
def vOf(b:Bool)(t:Ty)(d:Nat)(x:t.T):V:=if b then Am (tyV t d x)else cV t d x
def CU:(l:List (Bool×Ty))->(PT l).T->List V
 |[],_=>[]
 |[p],x=>[vOf p.1 p.2 0 x]
 |p::q::l,x=>vOf p.1 p.2 0 x.1::CU (q::l) x.2
def RT:List (Bool×Nat×Ty)->Ty
 |[]=>.unit
 |[p]=>p.2.2
 |p::q::l=>.pair p.2.2 (RT (q::l))
def Aa7:(l:List (Bool×Nat×Ty))->(RT l).T->List V
 |[],_=>[]
 |[p],x=>[vOf p.1 p.2.2 p.2.1 x]
 |p::q::l,x=>vOf p.1 p.2.2 p.2.1 x.1::Aa7 (q::l) x.2
def Wd(l:List (Bool×Nat×Ty))(x:(RT l).T):V:=NL (Aa7 l x)
def isP(p:Bool×Nat×Ty):Bool:=!p.1&&match p.2.2 with
 |.ptr _=>true
 |_=>false
def XZ(b:Bool)(p:Bool×Nat×Ty)(x:p.2.2.T):V:=bif b|| !isP p then vOf p.1 p.2.2 p.2.1 x else .c (.pointer none)
def Ul(b:Bool):(l:List (Bool×Nat×Ty))->(RT l).T->List V
 |[],_=>[]
 |[p],x=>[XZ b p x]
 |p::q::l,x=>XZ b p x.1::Ul b (q::l) x.2
def Wc:∀(l:List (Bool×Nat×Ty)) (x:(RT l).T),Ul true l x=Aa7 l x
 |[],_=>rfl
 |[_],_=>rfl
 |p::q::l,x=>congrArg (vOf p.1 p.2.2 p.2.1 x.1:: ·) (Wc (q::l) x.2)
def Nk(b:Bool)(l:List (Bool×Nat×Ty))(x:(RT l).T):V:=NL (Ul b l x)
def Jq(l:List (Bool×Nat×Ty))(x:(RT l).T):Nk true l x=Wd l x:=congrArg NL (Wc l x)
structure Sig where
 ps:List (Bool×Ty)
 rs:List (Bool×Nat×Ty)
def FT(P:Program)(f:FuncId)(S:Sig)(g:(PT S.ps).T->Option (RT S.rs).T):Prop:=∀x y,g x=some y->FC P f (CU S.ps x) (Wd S.rs y)
structure En where
 f:FuncId
 S:Sig
 g:(PT S.ps).T->Option (RT S.rs).T
variable{Γ:List En}
def look:List En->FuncId->Option En
 |[],_=>none
 |e::l,f=>bif beq e.f f then some e else look l f
def En.OK(P:Program)(e:En):Prop:=Be P e.f=true/\FT P e.f e.S e.g
def Hh(P:Program)(Γ:List En):Prop:=∀e∈Γ,e.OK P
theorem FC.sub{P:Program}{f:FuncId}{args u:List V}{r:V}(h:FC P f args r)(B:CV u args):FC P f u r:=by
 intro w D cvs J O A E;refine h w D cvs J O (by rw[A,B.len]) λi U=>Rel.sub (B.getD i) (E i (by rw[B.len];grind))
structure EnN where
 f:FuncId
 S:Sig
 g:(PT S.ps).T->Option (Bool×(RT S.rs).T)
def EnN.OK(_:Program)(_:EnN):Prop:=False
def Pk(s:St)(w:Nat):Cl->Option Cl
 |.c t _ x=>bif t.one then some (.c t 0 x)else none
 |.nil=>some .nil
 |.rf id p=>match Ag s.r id p with
  |.arr _ t _ xs=>some (.c (.sl t) 0 xs)
  |_=>none
 |.rs id p off len=>match Ag s.r id p with
  |.arr _ t _ xs=>some (.c (.sl t) 0 (Oq off len xs t.dflt))
  |_=>none
 |.rp id p j k=>match Ag s.r id p with
  |.obj _ l=>match j with
   |0=>bif ble (k+w) l.length then(match DO ((l.drop k).take w)with
    |some ⟨t,x⟩=>some (.c (.ptr t) 0 x)
    |none=>none)else none
   |_+1=>none
  |.arr _ t _ xs=>bif ble (k+w) t.w then(match DO (((AA t 0 (Acv xs j t.dflt)).drop k).take w)with
   |some ⟨u,x⟩=>some (.c (.ptr u) 0 x)
   |none=>none)else none
  |_=>none
 |_=>none
theorem Xn(h:t.one=true)(d:Nat)(x:t.T):frz (cV t d x)=cV t 0 x:=by
 have:=Bj t d x;rw[BN h,BN h]at this
 grind
def Aay(v v':V):Prop:=Sub v v'\/∃sz u n f,v=.nd false false sz n f/\u<=sz/\Sub (.nd false false u n f) v'
theorem Rel.trunc{sz u n:Nat}{f:Nat->Nat->V}(h:Rel D w R (.nd false false sz n f) cv fp)(hs:u<=sz):Rel D w R (.nd false false u n f) cv fp:=by
 rcases h with h|⟨b,o,cap,F,O,E,B,A,W,Z,ho⟩
 .grind
 have Y:=A rfl;subst Y;refine .inr ⟨b,o,cap,F,O,E,B,A,λi k Z hk=>?_,λhh=>?_,λh=>by cases h⟩
 .obtain rfl:i=0:=by omega
  obtain⟨x,U,J⟩:=W 0 k (by omega) (by omega)
  exact⟨x,by simpa using U,J⟩
 grind
theorem Rel.sub1{v':V}(u:Aay v v')(h:Rel D w R v cv fp):Rel D w R v' cv fp:=by
 rcases u with u|⟨sz,A,n,f,rfl,B,u⟩
 .exact Rel.sub u h
 .exact Rel.sub u (h.trunc B)
def Ks:List V->List V->Prop
 |[],[]=>True
 |a::l,b::m=>Aay a b/\Ks l m
 |_,_=>False
def Ks.len:∀{l m:List V},Ks l m->l.length=m.length
 |[],[],_=>rfl
 |_::_,_::_,h=>by simp[Ks.len h.2]
 |[],_::_,h=>h.elim
 |_::_,[],h=>h.elim
def Ks.getD:∀{l m:List V} (_:Ks l m) (k:Nat),Aay (l.getD k .dead) (m.getD k .dead)
 |[],[],_,_=>.inl (Sub.refl _)
 |_::_,_::_,h,0=>h.1
 |_::_,_::_,h,k+1=>Ks.getD h.2 k
 |[],_::_,h,_=>h.elim
 |_::_,[],h,_=>h.elim
theorem FC.sub1{P:Program}{f:FuncId}{args u:List V}{r:V}(h:FC P f args r)(B:Ks u args):FC P f u r:=by
 intro w D cvs J O A E;refine h w D cvs J O (by rw[A,B.len]) λi U=>Rel.sub1 (B.getD i) (E i (by rw[B.len];grind))
theorem I5{x:t.T}(h:v∈tyV t 0 x):Go.Ve.frz v=v:=by
 obtain⟨i,u,rfl⟩:=List.getElem_of_mem h;have e:=Bj t 0 x
 grind
theorem Dg{σ:List V}:∀(t:Ty) (x:t.T),∀v∈tyV t 0 x,Ce σ v=v
 |.int _,_,v,h=>by simp[tyV]at h;subst h;rfl
 |.bool,_,v,h=>by simp[tyV]at h;subst h;rfl
 |.str,_,v,h=>by simp[tyV]at h;subst h;rfl
 |.sl t,x,v,h=>by
  have e:=I5 (x:=x) h;simp only[tyV,mem_singleton]at h;subst h;exact e
 |.ptr t,x,v,h=>by
  have e:=I5 (x:=x) h;simp only[tyV,mem_singleton]at h;subst h;exact e
 |.unit,_,v,h=>by simp[tyV]at h
 |.mp _ _,_,v,h=>by simp[tyV]at h;subst h;rfl
 |.pair a b,x,v,h=>by
  simp only[tyV,mem_append]at h;exact h.elim (Dg a x.1 v) (Dg b x.2 v)
 |.osl t,x,v,h=>by
  have e:=I5 (x:=x) h;simp only[tyV,mem_singleton]at h;subst h;cases x with
  |none=>rfl
  |some xs=>exact e
 |.clo g t,x,v,h=>by
  simp only[tyV,mem_singleton]at h;subst h;show(if Tg.cl g=.bx then _ else V.many (.cl g) t.w λk=>Ce σ ((tyV t 0 x).getD k .dead))=_
  rw[if_neg (by intro h;cases h)]
  congr 1
  funext k
  by_cases u:k<(tyV t 0 x).length
  .rw[gDE,gEE u]
   exact Dg t x _ (getElem_mem u)
  .rw[gDE,List.getElem?_eq_none (by omega)];rfl
theorem HK:∀(t:Ty) (x:t.T),∀v∈tyV t 0 x,AU v=false
 |.int _,_,v,h=>by simp[tyV]at h;subst h;rfl
 |.bool,_,v,h=>by simp[tyV]at h;subst h;rfl
 |.str,_,v,h=>by simp[tyV]at h;subst h;rfl
 |.sl _,_,v,h=>by simp[tyV,mem_singleton]at h;subst h;rfl
 |.ptr _,_,v,h=>by simp[tyV,mem_singleton]at h;subst h;rfl
 |.unit,_,v,h=>by trivial
 |.mp _ _,_,v,h=>by simp[tyV]at h;subst h;rfl
 |.pair a b,x,v,h=>by
  simp[tyV,mem_append]at h;exact h.elim (HK a x.1 v) (HK b x.2 v)
 |.osl t,x,v,h=>by
  simp[tyV,mem_singleton]at h;subst h;cases x<;>rfl
 |.clo g t,x,v,h=>by
  simp[tyV,mem_singleton]at h;subst h;show((range t.w).any λk=>AU ((tyV t 0 x).getD k .dead))=false
  rw[any_eq_false];intro k u;have u:k<(tyV t 0 x).length:=by rw[AB];grind
  rw[gDE,gEE u];simp[HK t x _ (getElem_mem u)]
def YX{σ:List V}{g:Nat}{u:Ty}{d:Nat}{x:u.T}:Ce σ (cV (.clo g u) d x)=Go.Ve.frz (cV (.clo g u) d x):=by
 have A:cV (.clo g u) d x∈tyV (.clo g u) 0 x:=mem_singleton.2 rfl;rw[Dg _ _ _ A,I5 A]
theorem Mh{w:Nat}(h:Pk s w y=some y'):Aay (Ce (s.r.map Ae.v) (y.v s.r)) y'.v0/\y'.v0=y'.v s.r/\((∀id p i k,y≠.rp id p i k)->Sub (Ce (s.r.map Ae.v) (y.v s.r)) y'.v0):=by
 have u:∀{v v':V},Sub v v'->Aay v v'/\((∀id p i k,y≠.rp id p i k)->Sub v v'):=λh=>⟨.inl h,λ_=>h⟩
 unfold Pk at h;split at h
 .rename_i t d x
  cases O:t.one with
  |false=>rw[O]at h;cases h
  |true=>
   rw[O]at h;cases h
   have:Sub (Ce (s.r.map Ae.v) (cV t d x)) (cV t 0 x):=by
    rw[<-Xn O d x];cases t<;>first|exact Sub.refl _|(cases O;done)|(cases x<;>exact Sub.refl _)|exact Sub.of_eq YX
   exact⟨(u this).1,rfl,(u this).2⟩
 .cases h;exact⟨(u (Sub.refl _)).1,rfl,(u (Sub.refl _)).2⟩
 .rename_i id p
  split at h
  case h_2=>cases h
  rename_i ro t d xs B;cases h;have A:Ag s.r id p≠.dead:=by rw[B];simp
  have:Sub (Ce (s.r.map Ae.v) (V.rs id p 0 (Ag s.r id p).len)) (cV (.sl t) 0 xs):=by
   rw[Ph,AV A,B];show Sub (WY (arr true t.w (tyV t d) t.dflt xs) 0 xs.length) _;rw[NX rfl];have e:(λa=>(tyV t d a).map frz)=tyV t 0:=funext λx=>Bj t d x
   rw[e];exact Sub.refl _
  exact⟨(u this).1,rfl,(u this).2⟩
 .rename_i id p off len
  split at h
  case h_2=>cases h
  rename_i ro t d xs B;cases h;have A:Ag s.r id p≠.dead:=by rw[B];simp
  have:Sub (Ce (s.r.map Ae.v) (V.rs id p off len)) (cV (.sl t) 0 (Oq off len xs t.dflt)):=by
   rw[Ph,AV A,B];show Sub (WY (arr true t.w (tyV t d) t.dflt xs) off len) (arr false t.w (tyV t 0) t.dflt (Oq off len xs t.dflt));unfold arr;have J:(Oq off len xs t.dflt).length=len:=by simp[Oq]
   rw[J];refine⟨_,rfl,λi k Y U=>Sub.of_eq ?_⟩
   have hg:(Oq off len xs t.dflt).getD i t.dflt=xs.getD (off+i) t.dflt:=by simp[Oq,Y]
   rw[hg,<-Bj t d];exact(AM (f:=frz) (a:=.dead) rfl (tyV t d (xs.getD (off+i) t.dflt)) k).symm
  exact⟨(u this).1,rfl,(u this).2⟩
 .rename_i id p j k
  split at h
  .rename_i ro l B
   have A:Ag s.r id p≠.dead:=by rw[B];simp
   split at h
   case h_2=>cases h
   cases E:ble (k+w) l.length with
   |false=>rw[E]at h;cases h
   |true=>
    rw[E]at h;have E:=blE E;simp only[cond_true]at h;split at h
    case h_2=>cases h
    rename_i t x hf;cases h;refine⟨.inr ⟨l.length-k,w,1,λi' k'=>([((l.drop k).map Cl.v0).map frz].getD i' []).getD k' .dead,?_,by omega,?_⟩,rfl,λh=>absurd rfl (h _ _ _ _)⟩
    .show Ce (s.r.map Ae.v) (V.rp id p 0 k)=_
     rw[Pi,AV A,B];show YZ (Bp true (l.map Cl.v0)) 0 k=_;rw[KZ];unfold Bp;simp only[map_drop,length_drop,List.length_map]
    .show Sub _ (Bp false (tyV t 0 x))
     have e:=Hd _ _ hf;unfold Bp;have J:(tyV t 0 x).length=w:=by rw[e];simp;omega
     rw[J];refine⟨_,rfl,λi' k' Y U=>?_⟩
     obtain rfl:i'=0:=by omega
     refine Sub.of_eq ?_;show(((l.drop k).map Cl.v0).map frz).getD k' .dead=(tyV t 0 x).getD k' .dead;rw[e];simp[getElem?_take,U]
  .rename_i ro t d xs B
   have A:Ag s.r id p≠.dead:=by rw[B];simp
   cases E:ble (k+w) t.w with
   |false=>rw[E]at h;cases h
   |true=>
    rw[E]at h;have E:=blE E;simp only[cond_true]at h;split at h
    case h_2=>cases h
    rename_i W x hd;cases h;refine⟨.inr ⟨t.w-k,w,1,λi' Z=>if i'=0 then frz ((tyV t d (xs.getD j t.dflt)).getD (k+Z) .dead)else .dead,?_,by omega,?_⟩,rfl,λh=>absurd rfl (h _ _ _ _)⟩
    .show Ce (s.r.map Ae.v) (V.rp id p j k)=_
     rw[Pi,AV A,B];rfl
    .show Sub _ (Bp false (tyV W 0 x))
     have e:=Hd _ _ hd;rw[map_take,map_drop,BM,map_take,map_drop,Bj]at e;unfold Bp;have J:(tyV W 0 x).length=w:=by rw[e];simp[AB];omega
     rw[J];refine⟨_,rfl,λi' k' Y U=>?_⟩
     obtain rfl:i'=0:=by omega
     refine Sub.of_eq ?_;simp only[if_true];show _=(tyV W 0 x).getD k' .dead;rw[e,<-Bj t d];have:=AM (f:=frz) (a:=.dead) rfl (tyV t d (xs.getD j t.dflt)) (k+k');rw[<-this];simp only[gDE,getElem?_take,U,if_true,List.getElem?_drop]
  .cases h
 .cases h
def NY(s:St):List Cl->Option (List Cl)
 |[]=>some []
 |y::l=>match(match y with
   |.rp _ _ _ _=>none
   |y=>Pk s 0 y)with
  |some y'=>match NY s l with
   |some u=>some (y'::u)
   |none=>none
  |none=>none
theorem Mf{s:St}:∀{l u:List Cl},NY s l=some u->CV ((l.map (Cl.v s.r)).map (Ce (s.r.map Ae.v))) (u.map (Cl.v s.r))
 |[],u,h=>by cases h;trivial
 |y::l,u,h=>by
  unfold NY at h;split at h
  case h_2=>grind
  rename_i y' A;split at h
  case h_2=>grind
  rename_i m E;cases h;have B:∀id p i k,y≠.rp id p i k:=by grind
  have A:Pk s 0 y=some y':=by
   grind
  obtain⟨_,J,O⟩:=Mh A;exact⟨by grind,Mf E⟩
def WZ(s:St):Cl->Option Cl
 |.rp id p i k=>match i,k with
  |0,0=>match Ag s.r id p with
   |.obj _ l=>match DO l with
    |some ⟨t,x⟩=>some (.c (.ptr t) 0 x)
    |none=>none
   |_=>none
  |_,_=>none
 |y=>Pk s 0 y
theorem Abw(h:WZ s y=some y'):Sub (Ce (s.r.map Ae.v) (y.v s.r)) y'.v0/\y'.v0=y'.v s.r:=by
 by_cases A:∃id p i k,y=.rp id p i k
 .obtain⟨id,p,i,k,rfl⟩:=A
  unfold WZ at h;simp at h;split at h
  case h_2=>cases h
  split at h
  case h_2=>cases h
  rename_i ro l B;split at h
  case h_2=>cases h
  rename_i t x E;cases h;have u:Ag s.r id p≠.dead:=by grind
  refine⟨?_,rfl⟩;show Sub (Ce (s.r.map Ae.v) (V.rp id p 0 0)) (Bp false (tyV t 0 x));rw[Pi,AV u,B];show Sub (YZ (Bp true (l.map Cl.v0)) 0 0) _;rw[KZ,Hd _ _ E];exact Sub.refl _
 .have u:=λid p i k e=>A ⟨id,p,i,k,e⟩
  have h:Pk s 0 y=some y':=by
   cases y with
   |rp id p i k=>grind
   |_=>exact h
  obtain⟨_,J,O⟩:=Mh h
  grind
def JE(s:St):List Cl->Option (List Cl)
 |[]=>some []
 |y::l=>match WZ s y with
  |some y'=>match JE s l with
   |some u=>some (y'::u)
   |none=>none
  |none=>none
theorem Mg{s:St}:∀{l u:List Cl},JE s l=some u->CV ((l.map (Cl.v s.r)).map (Ce (s.r.map Ae.v))) (u.map (Cl.v s.r))
 |[],u,h=>by cases h;trivial
 |y::l,u,h=>by
  unfold JE at h;split at h
  case h_2=>grind
  rename_i y' A;split at h
  case h_2=>grind
  rename_i m B;cases h;obtain⟨J,E⟩:=Abw A;exact⟨by grind,Mg B⟩
theorem CV.pk{t:Tg}{l m:List V}(h:CV l m):Sub (pkL t l) (pkL t m):=by
 unfold pkL;rw[h.len];exact⟨_,rfl,λk _=>h.getD k⟩
def KB(s:St)(b:Bool)(t:Ty):Option Sl->Option t.T
 |some (.one y)=>bif b then none else bif t.one then(match Pk s (match t with
   |.ptr u=>u.w
   |_=>0) y with
  |some y'=>DX t 0 y'
  |none=>none)else none
 |some (.agg l)=>bif b then(match NY s l with
  |some A=>Ij t 0 A
  |none=>none)else none
 |some (.pk .bx l)=>bif b then none else(match t with
  |.ptr u=>(match NY s l with
   |some A=>Ij u 0 A
   |none=>none)
  |_=>none)
 |some (.pk (.cl g) l)=>bif b then none else(match t with
  |.clo B u=>bif beq g B then(match JE s l with
   |some A=>Ij u 0 A
   |none=>none)else none
  |_=>none)
 |_=>none
theorem CV.trans:∀{a b c:List V},CV a b->CV b c->CV a c:=by
 intro a
 induction a with
 |nil=>intro b c B A;cases b<;>first|rfl|trivial
 |cons v a E=>intro b c B A;cases b with
  |nil=>trivial
  |cons w b=>cases c with
   |nil=>trivial
   |cons u c=>exact⟨B.1.trans A.1,E B.2 A.2⟩
theorem Nb{z:t.T}(h:KB s b t (s.ev x)=some z):Aay (Ce (s.r.map Ae.v) (s.den.ev x)) (vOf b t 0 z):=by
 unfold KB at h;split at h
 case h_5=>cases h
 .rename_i y A
  cases b with
  |true=>cases h
  |false=>
   cases Y:t.one with
   |false=>rw[Y]at h;cases h
   |true=>
    rw[Y]at h;simp only[cond_false,cond_true]at h;split at h
    case h_2=>cases h
    rename_i y' B;obtain⟨E,U,_⟩:=Mh B;obtain⟨g1,g2⟩:=LZ h s.r;rw[Bf A];have g1:Sub y'.v0 (vOf false t 0 z):=U▸g1;rcases E with E|⟨sz,J,n,f,e1,e2,e3⟩
    .exact .inl (E.trans g1)
    .exact .inr ⟨sz,J,n,f,e1,e2,e3.trans g1⟩
 .rename_i l A
  cases b with
  |false=>cases h
  |true=>
   simp only[cond_true]at h;split at h
   case h_2=>cases h
   rename_i W B;rw[Bf A];left;show Sub (Ce _ (Am _)) (Am _);rw[Abu];refine CV.mk ?_;have E:=Mf B;have U:=(Dc h s.r).1;exact CV.trans E U
 .rename_i l A
  cases b with
  |true=>cases h
  |false=>
   simp only[cond_false]at h;split at h
   case h_2=>cases h
   rename_i u;split at h
   case h_2=>cases h
   rename_i W B;rw[Bf A];left;show Sub (Ce _ (boxL _)) (Bp false (tyV u 0 z));rw[YY];exact CV.obj (CV.trans (Mf B) (Dc h s.r).1)
 .rename_i g l A
  cases b with
  |true=>cases h
  |false=>
   simp only[cond_false]at h;split at h
   case h_2=>cases h
   rename_i g' u;cases O:beq g g' with
   |false=>rw[O]at h;cases h
   |true=>
    rw[O]at h;simp only[cond_true]at h;have Z:=bqE O;subst Z;split at h
    case h_2=>cases h
    rename_i W B;rw[Bf A];left
    have e:V.many (.cl g) u.w (λk=>(tyV u 0 z).getD k .dead)=pkL (.cl g) (tyV u 0 z):=by
     unfold pkL;rw[AB]
    show Sub (Ce _ (pkL (.cl g) _)) (V.many (.cl g) u.w λk=>(tyV u 0 z).getD k .dead)
    rw[e,Abv];exact CV.pk (CV.trans (Mg B) (Dc h s.r).1)
def Jf(s:St):(l:List (Bool×Ty))->List (Option Sl)->Option (PT l).T
 |[],[]=>some ()
 |[p],[y]=>KB s p.1 p.2 y
 |p::q::l,y::ys=>match KB s p.1 p.2 y with
  |some z=>match Jf s (q::l) ys with
   |some u=>some (z,u)
   |none=>none
  |none=>none
 |_,_=>none
theorem AaY{s:St}:∀(l:List (Bool×Ty)) (xs:List Operand) (z:(PT l).T),Jf s l (xs.map s.ev)=some z->Ks ((xs.map s.den.ev).map (Ce (s.r.map Ae.v))) (CU l z)
 |[],[],z,h=>trivial
 |[p],[x],z,h=>⟨Nb h,trivial⟩
 |p::q::l,x::xs,z,h=>by
  have h:(match KB s p.1 p.2 (s.ev x)with
   |some z=>match Jf s (q::l) (xs.map s.ev)with
    |some u=>some (z,u)
    |none=>none
   |none=>none:Option (PT (p::q::l)).T)=some z:=h
  split at h
  case h_2=>grind
  rename_i E B;split at h
  case h_2=>grind
  rename_i u A;cases h;exact⟨Nb B,AaY (q::l) xs u A⟩
 |[],_::_,_,h=>by cases h
 |[_],[],_,h=>by cases h
 |[_],_::_::_,_,h=>by cases h
 |_::_::_,[],_,h=>by cases h
def resC(b:Bool)(d:Nat)(t:Ty)(x:t.T):Bool×List Cl:=(b,AA t d x)
def Um(b:Bool)(p:Bool×Nat×Ty)(x:p.2.2.T):Bool×List Cl:=bif b|| !isP p then resC p.1 p.2.1 p.2.2 x else(false,[.nilp])
def resL(b:Bool):(l:List (Bool×Nat×Ty))->(RT l).T->List (Bool×List Cl)
 |[],_=>[]
 |[p],x=>[Um b p x]
 |p::q::l,x=>Um b p x.1::resL b (q::l) x.2
def OY(b:Bool)(l:List (Bool×Nat×Ty))(x:(RT l).T):Sl:=match resL b l x with
 |[(true,cs)]=>.agg cs
 |[(false,cs)]=>.one (cs.getD 0 .dead)
 |m=>.tup m
theorem Aa8(b:Bool)(d:Nat)(t:Ty)(x:t.T)(h:b=true\/t.one=true):(if b then Am ((AA t d x).map (Cl.v r))else((AA t d x).map (Cl.v r)).getD 0 .dead)=vOf b t d x:=by
 rw[Cl.v_c];cases b with
 |true=>rfl
 |false=>
  rcases h with h|h
  .grind
  .rw[BN h];rfl
def IP:List (Bool×Nat×Ty)->Bool
 |[]=>true
 |p::l=>(p.1||p.2.2.one)&&IP l
def P6(b:Bool)(p:Bool×Nat×Ty)(x:p.2.2.T)(h:p.1=true\/p.2.2.one=true):(if(Um b p x).1 then Am ((Um b p x).2.map (Cl.v r))else((Um b p x).2.map (Cl.v r)).getD 0 .dead)=XZ b p x:=by
 unfold Um XZ;cases b|| !isP p with
 |true=>exact Aa8 p.1 p.2.1 p.2.2 x h
 |false=>rfl
def ZJ{r:List Ae}(b:Bool):∀(l:List (Bool×Nat×Ty)) (x:(RT l).T),IP l=true->(resL b l x).map (λp=>if p.1 then Am (p.2.map (Cl.v r))else(p.2.map (Cl.v r)).getD 0 .dead)=Ul b l x
 |[],x,_=>rfl
 |[p],x,h=>by
  simp only[IP,bAE,or_eq_true]at h;show [_]=[XZ _ _ _];rw[<-P6 b p x h.1]
 |p::q::l,x,h=>by
  have u:((p.1||p.2.2.one)&&IP (q::l))=true:=h;simp[or_eq_true]at u;show _::(resL b (q::l) x.2).map _=XZ _ _ _::_;rw[ZJ b (q::l) x.2 u.2,<-P6 b p x.1 u.1]
theorem ZI(b:Bool)(l:List (Bool×Nat×Ty))(x:(RT l).T)(h:IP l=true):(OY b l x).v r=Nk b l x:=by
 have e:=ZJ (r:=r) b l x h;unfold Nk;rw[<-e];unfold OY;split
 .rename_i cs u
  rw[u];rfl
 .rename_i cs u
  rw[u];show(cs.getD 0 .dead).v r=(cs.map (Cl.v r)).getD 0 .dead;rw[AM (a:=.dead) rfl]
 .rename_i m B A
  generalize resL b l x=m at*
  match m,B,A with
  |[],_,_=>rfl
  |[(true,cs)],B,_=>grind
  |[(false,cs)],_,A=>grind
  |a::b::m,_,_=>rfl
def Ty.noFn:Ty->Bool
 |.clo _ _=>false
 |.osl _=>false
 |.sl t=>t.noFn
 |.ptr t=>t.noFn
 |.pair a b=>a.noFn&&b.noFn
 |_=>true
theorem Cd:∀(t:Ty) (d:Nat) (x:t.T),t.dep<=d->t.noFn=true->∀v∈tyV t d x,BH v
 |.int _,_,_,_,_,v,h=>by simp only[tyV,mem_singleton]at h;subst h;trivial
 |.bool,_,_,_,_,v,h=>by simp only[tyV,mem_singleton]at h;subst h;trivial
 |.str,_,_,_,_,v,h=>by simp only[tyV,mem_singleton]at h;subst h;trivial
 |.unit,_,_,_,_,v,h=>by cases h
 |.clo _ _,_,_,_,hf,_,_=>by cases hf
 |.osl _,_,_,_,hf,_,_=>by cases hf
 |.mp _ _,d,_,hd,_,v,h=>by
  simp only[Ty.dep]at hd;simp only[tyV,mem_singleton]at h;subst h;exact dT (by omega)
 |.sl t,d,xs,hd,hf,v,h=>by
  simp only[Ty.dep]at hd;simp only[tyV,mem_singleton]at h;subst h;refine⟨dT (by omega),λi k _ u=>?_⟩
  exact Cd t (d-1) _ (by omega) hf _ (I4 (by rw[AB];exact u))
 |.ptr t,d,x,hd,hf,v,h=>by
  simp only[Ty.dep]at hd;simp only[tyV,mem_singleton]at h;subst h;refine⟨dT (by omega),λi k A u=>?_⟩
  obtain rfl:i=0:=by omega
  exact Cd t (d-1) _ (by omega) hf _ (I4 u)
 |.pair a b,d,x,hd,hf,v,h=>by
  simp only[Ty.noFn,bAE]at hf;simp only[Ty.dep]at hd;rcases mem_append.1 h with h|h
  .exact Cd a d _ (by omega) hf.1 v h
  .exact Cd b d _ (by omega) hf.2 v h
def D3:List (Bool×Nat×Ty)->Bool
 |[]=>true
 |p::l=>ble p.2.2.dep p.2.1&&p.2.2.noFn&&(p.1||p.2.2.one)&&D3 l
theorem Pb(b:Bool)(d:Nat)(t:Ty)(x:t.T)(h:t.dep<=d)(A:t.noFn=true)(u:b=true\/t.one=true):BH (vOf b t d x):=by
 cases b with
 |true=>
  show BH (Am _);rw[Uy];exact Cd t d x h A
 |false=>
  rcases u with u|u
  .grind
  .exact Cd t d x h A _ (by rw[BN u];exact mem_singleton.2 rfl)
def IE(b:Bool)(p:Bool×Nat×Ty)(x:p.2.2.T)(h:p.2.2.dep<=p.2.1)(u:p.2.2.noFn=true)(A:p.1=true\/p.2.2.one=true):BH (XZ b p x):=by
 unfold XZ;cases b|| !isP p with
 |true=>exact Pb _ _ _ _ h u A
 |false=>trivial
def IF(b:Bool):∀(l:List (Bool×Nat×Ty)) (x:(RT l).T),D3 l=true->∀v∈Ul b l x,BH v
 |[],_,_,v,h=>by cases h
 |[p],x,hr,v,h=>by
  simp only[D3,bAE,or_eq_true]at hr;rw[mem_singleton.1 h];exact IE b p x (blE hr.1.1.1) hr.1.1.2 hr.1.2
 |p::q::l,x,hr,v,h=>by
  have u:(ble p.2.2.dep p.2.1&&p.2.2.noFn&&(p.1||p.2.2.one)&&D3 (q::l))=true:=hr;simp only[bAE,or_eq_true]at u;rcases mem_cons.1 h with rfl|h
  .exact IE b p x.1 (blE u.1.1.1) u.1.1.2 u.1.2
  .exact IF b (q::l) x.2 u.2 v h
theorem L5(b:Bool)(l:List (Bool×Nat×Ty))(x:(RT l).T)(h:D3 l=true):BH (Nk b l x):=by
 have:=IF b l x h;unfold Nk NL;split
 .grind
 .have u:=this
  rw[<-Pc]at u
  trivial
def Cl.lent:Cl->Bool
 |.rf _ _=>true
 |.rs _ _ _ _=>true
 |.rp _ _ _ _=>true
 |.rm _ _=>true
 |y=>y.own
def Sl.lent:Sl->Bool
 |.one c=>c.lent
 |.agg l=>l.any Cl.lent
 |.pk _ l=>l.any Cl.lent
 |_=>true
def Qm(xs:List (Option Sl)):Bool:=xs.all λx=>match x with
 |some y=>!y.lent
 |none=>false
theorem Cl.lent_v(c:Cl):c.lent=false->AU (c.v r)=false:=by
 intro h;cases c with
 |c t d x=>
  cases t<;>cases d<;>first|rfl|trivial|(cases x<;>first|rfl|trivial)|exact HK (.clo _ _) x _ (mem_singleton.2 rfl)
 |rf=>cases h
 |rs=>cases h
 |rp=>cases h
 |rm=>cases h
 |_=>rfl
theorem NQ(u:Tg)(l:List Cl)(h:l.any Cl.lent=false):AU (.many u (l.map (Cl.v r)).length λk=>(l.map (Cl.v r)).getD k .dead)=false:=by
 show((range _).any λk=>AU ((l.map (Cl.v r)).getD k .dead))=false
 rw[any_eq_false];intro k A;rw[AM (a:=.dead) rfl]
 have:(l.getD k .dead).lent=false:=by
  grind
 rw[Cl.lent_v _ this];simp
theorem YP{xs:List Operand}(h:Qm (xs.map s.ev)=true):(xs.map s.den.ev).any AU=false:=by
 rw[any_eq_false];intro v E;obtain⟨x,B,rfl⟩:=mem_map.1 E;have u:=aET.1 h (s.ev x) (mem_map.2 ⟨x,B,rfl⟩);cases A:s.ev x with
 |none=>grind
 |some y=>
  rw[A]at u;have u:=by simpa using u
  rw[Bf A]
  have:AU (y.v s.r)=false:=by
   cases y with
   |one c=>exact Cl.lent_v c u
   |agg l=>exact NQ .ag l u
   |pk t l=>exact NQ t l u
   |new l=>trivial
   |tup l=>trivial
  grind
def L7(s:St):Option Sl->Option Sl
 |some (.one (.rf id p))=>match Ag s.r id p with
  |.opt _ u _ x=>some (.one (.c (.sl u) 0 (getO x)))
  |_=>some (.one (.rf id p))
 |y=>y
def Acb(s:St):Option Sl->List Bool
 |some (.one (.rf id p))=>match Ag s.r id p with
  |.opt _ _ _ x=>[isO x]
  |_=>[]
 |_=>[]
def QM(s:St):List (Option Sl)->List Bool
 |[]=>[]
 |y::l=>Acb s y++QM s l
def gate{α:Type}:List Bool->Option α->Option α
 |[],o=>o
 |b::l,o=>Pz b (gate l o) none
structure U9 where
 α:Type
 o:Option α
 y:α->Sl
variable{a:U9}
structure CallN where
 α:Type
 o:Option (Bool×α)
 y:Bool->α->Sl
def PU(e:En)(s:St)(xs:List (Option Sl)):Option U9:=
 bif D3 e.S.rs||(IP e.S.rs&&Qm xs)then(match Jf s e.S.ps (xs.map (L7 s))with
  |some z=>some ⟨(RT e.S.rs).T,gate (QM s xs) (e.g z),λy=>OY true e.S.rs y⟩
  |none=>none)else none
def Je:List En->St->FuncId->List (Option Sl)->Option U9
 |[],_,_,_=>none
 |e::Γ,s,f,xs=>bif beq e.f f then(match PU e s xs with
  |some a=>some a
  |none=>Je Γ s f xs)else Je Γ s f xs
theorem PS{s:St}{f:FuncId}{xs:List (Option Sl)}{a:U9}:∀{Γ:List En},Je Γ s f xs=some a->∃e∈Γ,e.f=f/\PU e s xs=some a
 |[],h=>by cases h
 |e::Γ,h=>by
  have back:Je Γ s f xs=some a->∃u∈e::Γ,u.f=f/\PU u s xs=some a:=λh=>by
   obtain⟨u,E,B⟩:=PS h
   grind
  unfold Je at h;cases A:beq e.f f with
  |false=>grind
  |true=>
   rw[A]at h;split at h
   .simp_all
   grind
def VT(_:List EnN)(_:St)(_:FuncId)(_:List (Option Sl)):Option CallN:=none
def Nl:∀{l:List (Bool×Nat×Ty)},D3 l=true->IP l=true
 |[],_=>rfl
 |p::l,h=>by
  simp only[D3,bAE]at h;simp only[IP,bAE];exact⟨h.1.2,Nl h.2⟩
def Pj{t1 t2:Nat->Sl}{r:List Ae}:∀l:List Cl,NY ⟨t1,r⟩ l=NY ⟨t2,r⟩ l
 |[]=>rfl
 |y::l=>by
  unfold NY;rw[Pj l];rfl
def Abx:WZ ⟨t1,r⟩ y=WZ ⟨t2,r⟩ y:=by rfl
def Qu{t1 t2:Nat->Sl}{r:List Ae}:∀l:List Cl,JE ⟨t1,r⟩ l=JE ⟨t2,r⟩ l
 |[]=>rfl
 |y::l=>by
  unfold JE;rw[Qu l,Abx]
theorem tArg_r{o:Option Sl}:KB ⟨t1,r⟩ b t o=KB ⟨t2,r⟩ b t o:=by
 cases o with
 |none=>rfl
 |some y=>
  cases y with
  |one y=>rfl
  |agg l=>unfold KB;simp[Pj (t2:=t2)]
  |pk t l=>cases t<;>first|rfl|(unfold KB;simp[Qu (t2:=t2)];done)|(unfold KB;simp[Pj (t2:=t2)])
  |_=>rfl
theorem tArg_y{y:Sl}{z:t.T}(h:KB s b t (some y)=some z):Aay (Ce (s.r.map Ae.v) (y.v s.r)) (vOf b t 0 z):=
 Nb (x:=.tmp 0) (by
  have:KB ⟨λ_=>y,s.r⟩ b t (some y)=some z:=by rw[<-h];exact tArg_r
  trivial)
theorem N5{α:Type}{u:α}:∀{l:List Bool}{o:Option α},gate l o=some u->o=some u/\∀b∈l,b=true
 |[],_,h=>⟨h,λ_ h=>by grind⟩
 |b::l,o,h=>by
  cases b with
  |false=>cases h
  |true=>
   obtain⟨B,A⟩:=N5 (l:=l) h
   grind
theorem WE{z:t.T}(h:KB s b t (L7 s (s.ev x))=some z)(E:∀c∈Acb s (s.ev x),c=true):Aay (Ce (s.r.map Ae.v) (s.den.ev x)) (vOf b t 0 z):=by
 cases A:s.ev x with
 |none=>rw[A]at h;exact Nb (by rw[A];exact h)
 |some y=>
  by_cases U:∃id p ro u d v,y=.one (.rf id p)/\Ag s.r id p=.opt ro u d v
  .obtain⟨id,p,ro,u,d,v,rfl,B⟩:=U
   rw[A]at h E;simp only[L7,Acb,B]at h E;have W:isO v=true:=E _ (mem_singleton.2 rfl);cases v with
   |none=>cases W
   |some ys=>
    have O:=tArg_y h;have Z:Ce (s.r.map Ae.v) ((Sl.one (.c (.sl u) 0 ys)).v s.r)=cV (.sl u) 0 ys:=Dg (.sl u) ys _ (mem_singleton.2 rfl);have J:Ce (s.r.map Ae.v) ((Sl.one (.c (.sl u) 0 (getO (some ys)))).v s.r)=cV (.sl u) 0 ys:=Z;rw[J]at O
    have Y:Ce (s.r.map Ae.v) (s.den.ev x)=cV (.sl u) 0 ys:=by
     rw[Bf A];show Ce (s.r.map Ae.v) (V.rs id p 0 (Ag s.r id p).len)=_;rw[Ph,AV (by rw[B];simp),B]
     show WY (arr true u.w (tyV u d) u.dflt ys) 0 ys.length=_;rw[NX rfl];have e:=funext λx=>Bj u d x
     rw[e];rfl
    rw[Y];exact O
  .have e:L7 s (some y)=some y:=by
    cases y with
    |one c=>
     cases c with
     |rf id p=>
      cases B:Ag s.r id p with
      |opt ro u d v=>grind
      |_=>simp only[L7,B]
     |_=>rfl
    |_=>rfl
   rw[A,e,<-A]at h;exact Nb h
theorem PW{s:St}:∀(l:List (Bool×Ty)) (xs:List Operand) (z:(PT l).T),Jf s l ((xs.map s.ev).map (L7 s))=some z->(∀c∈QM s (xs.map s.ev),c=true)->Ks ((xs.map s.den.ev).map (Ce (s.r.map Ae.v))) (CU l z)
 |[],[],z,h,_=>trivial
 |[p],[x],z,h,hc=>⟨WE h λc h=>hc c (List.mem_append_left _ h),trivial⟩
 |p::q::l,x::xs,z,h,hc=>by
  have h:(match KB s p.1 p.2 (L7 s (s.ev x))with
   |some z=>match Jf s (q::l) ((xs.map s.ev).map (L7 s))with
    |some u=>some (z,u)
    |none=>none
   |none=>none:Option (PT (p::q::l)).T)=some z:=h
  split at h
  case h_2=>grind
  rename_i E B;split at h
  case h_2=>grind
  rename_i u A;cases h;exact⟨WE B λc h=>hc c (List.mem_append_left _ h),PW (q::l) xs u A λc h=>hc c (List.mem_append_right _ h)⟩
 |[],_::_,_,h,_=>by cases h
 |[_],[],_,h,_=>by cases h
 |[_],_::_::_,_,h,_=>by cases h
 |_::_::_,[],_,h,_=>by cases h
theorem U3{xs:Array Operand}{O}{ps:List (Bool×Ty)}{rs:List (Bool×Nat×Ty)}{z:(PT ps).T}{u:(RT rs).T}(Y:Be P f=true)(E:FC P f (CU ps z) (Nk b rs u))(U:Jf s ps ((xs.toList.map s.ev).map (L7 s))=some z)(J:∀c∈QM s (xs.toList.map s.ev),c=true)
  (A:(D3 rs||(IP rs&&Qm (xs.toList.map s.ev)))=true):QS P s (.call ⟨.value (.func f),xs,O⟩) (OY b rs u):=by
 rw[or_eq_true,bAE]at A;have B:=A.elim Nl (·.1)
 refine⟨Nk b rs u,⟨Y,E.sub1 (PW _ _ _ U J)⟩,λW=>?_,?_⟩
 .rcases A with A|⟨_,A⟩
  .exact L5 _ _ _ A
  .rw[YP A]at W;grind
 .show Sub _ ((OY b rs u).v s.r)
  rw[ZI _ _ _ B];exact Sub.refl _
theorem OS(A:Hh P Γ){xs U}(h:Je Γ s f (xs.toList.map s.ev)=some a){u:a.α}(B:a.o=some u):QS P s (.call ⟨.value (.func f),xs,U⟩) (a.y u):=by
 obtain⟨e,he,J,W⟩:=PS h;subst J;unfold PU at W;have h:=W;cases Y:(D3 e.S.rs||(IP e.S.rs&&Qm (xs.toList.map s.ev)))with
 |false=>grind
 |true=>
  rw[Y]at h;split at h
  case h_2=>grind
  rename_i z Z;cases h;obtain⟨hc,E⟩:=A e he;obtain⟨B,O⟩:=N5 B;exact U3 hc (by rw[Jq];exact E z u B) Z O Y
def M9{Γ:List EnN}(B:∀e∈Γ,e.OK P){xs A}{a:CallN}(h:VT Γ s f (xs.toList.map s.ev)=some a){u:a.α}(E:a.o=some (b,u)):QS P s (.call ⟨.value (.func f),xs,A⟩) (a.y b u):=by
 unfold VT at h;cases h
def cloF(_:St)(_:Op):Option (FuncId×List Sl):=none
def U0(B:Hh P Γ)(A:cloF s op=some (g,ys))(h:Je Γ s g (ys.map some)=some a){u:a.α}(E:a.o=some u):QS P s op (a.y u):=by
 unfold cloF at A;cases A
def cloI(_:Tab)(_:St)(_:Op):Option (FuncId×List Sl):=none
def UZ(B:Θ.OK P)(E:Hh P Γ)(A:cloI Θ s op=some (g,ys))(h:Je Γ s g (ys.map some)=some a){u:a.α}(J:a.o=some u):QS P s op (a.y u):=by
 unfold cloI at A;cases A
def tMkF(_:St)(_:Fn)(_ _:List Operand):Option TR:=none
def tMkI(_:Tab)(_:St)(_:TypeId)(_:Operand):Option TR:=none
def Q7{fn:Fn}{first u:Array Operand}{a:TR}(h:tMkF s fn first.toList u.toList=some a):QS P s (.makeFunc fn first u) a.y:=by
 unfold tMkF at h;cases h
def Q6(u:Θ.OK P){t:TypeId}{a:TR}(h:tMkI Θ s t x=some a):QS P s (.makeInterface t x) a.y:=by
 unfold tMkI at h;cases h
end Go.Ve


namespace Go.Ve
variable{b:Bool}{c:Cl}{r:List Ae}{l σ:List V}{d i k:Nat}{P:Program}{s:St}{t:Ty}
structure Ow where
 k:Nat
 ps:List (Bool×Ty)
 t:Ty
 d:Nat
 eat:Bool
 rs:List (Bool×Nat×Ty)
def UN(k:Nat)(l:List V):List V:=l.take k++ .dead::l.drop k
theorem IZ:(UN k l).length=l.length+1:=by
 unfold UN
 grind
theorem AbH(h:i<k)(u:k<=l.length):(UN k l).getD i .dead=l.getD i .dead:=by
 unfold UN
 grind
theorem AbI(h:k<=i)(u:k<=l.length):(UN k l).getD (i+1) .dead=l.getD i .dead:=by
 unfold UN;have e:(l.take k).length=k:=by grind
 simp;rw[gAR (by omega),e,show i+1-k=(i-k)+1 by omega,List.getElem?_cons_succ,List.getElem?_drop,show k+(i-k)=i by omega]
def isTr:Ty->Bool
 |.sl _=>true
 |.ptr _=>true
 |_=>false
def Ow.ok(S:Ow):Bool:=blt 0 S.d&&ble S.k S.ps.length&&isTr S.t
def FTU(P:Program)(f:FuncId)(S:Ow)(g:(PT S.ps).T->S.t.T->Option ((RT S.rs).T×S.t.T)):Prop:=
 ∀z x u,g z x=some u->FCU P f S.k (UN S.k (CU S.ps z)) (cV S.t S.d x) (Wd S.rs u.1) (bif S.eat then .dead else cV S.t S.d u.2)
structure EnU where
 f:FuncId
 S:Ow
 g:(PT S.ps).T->S.t.T->Option ((RT S.rs).T×S.t.T)
def JD:List EnU->FuncId->Option EnU
 |[],_=>none
 |e::l,f=>bif beq e.f f then some e else JD l f
def EnU.OK(P:Program)(e:EnU):Prop:=Be P e.f=true/\e.S.ok=true/\FTU P e.f e.S e.g
def Qt{P:Program}{f:FuncId}{e:EnU}:∀{Γ:List EnU},(∀e∈Γ,e.OK P)->JD Γ f=some e->e.OK P/\e.f=f
 |[],_,h=>by cases h
 |a::l,hΓ,h=>by
  unfold JD at h;cases A:beq a.f f with
  |true=>
   simp_all
  |false=>rw[A]at h;exact Qt (λe u=>hΓ e (mCM _ u)) h
theorem Cl.lend_id(h:c.lent=false):Ce σ (c.v r)=c.v r:=by
 cases c with
 |c t d x=>
  have u:∀{t:Ty} (x:t.T),t.one=true->Ce σ (cV t 0 x)=cV t 0 x:=fun{t} x ht=>Dg t x _ (by rw[BN ht];simp)
  cases t with
  |int k=>rfl
  |bool=>rfl
  |str=>rfl
  |unit=>rfl
  |pair a b=>rfl
  |sl t=>cases d with
   |zero=>exact u x rfl
   |succ d=>cases h
  |ptr t=>cases d with
   |zero=>exact u x rfl
   |succ d=>cases h
  |clo g t=>exact u x rfl
  |mp k v=>cases d with
   |zero=>exact u x rfl
   |succ d=>cases h
  |osl t=>cases d with
   |zero=>exact u x rfl
   |succ d=>cases x with
    |none=>rfl
    |some y=>cases h
 |rf=>cases h
 |rs=>cases h
 |rp=>cases h
 |rm=>cases h
 |_=>rfl
theorem Cl.clean_v(h:c.lent=false):clean (c.v r):=by
 cases c with
 |c t d x=>
  cases t with
  |osl t=>cases x<;>exact trivial
  |clo g t=>
   have:∀(t:Ty) (x:t.T),∀v∈tyV t 0 x,clean v:=by
    intro t
    induction t with
    |int k=>intro x v u;simp[tyV]at u;subst u;trivial
    |bool=>intro x v u;simp[tyV]at u;subst u;trivial
    |str=>intro x v u;simp[tyV]at u;subst u;trivial
    |sl t _=>intro x v u;simp only[tyV,mem_singleton]at u;subst u;trivial
    |ptr t _=>intro x v u;simp only[tyV,mem_singleton]at u;subst u;trivial
    |unit=>intro x v u;simp[tyV]at u
    |pair a b B A=>
     intro x v u;simp only[tyV,mem_append]at u
     grind
    |mp k v _ _=>intro x v u;simp only[tyV,mem_singleton]at u;subst u;trivial
    |osl t _=>
     intro x v u;simp only[tyV,mem_singleton]at u;subst u;cases x<;>trivial
    |clo g t E=>
     intro x v u;simp only[tyV,mem_singleton]at u;subst u;intro k J;refine E x _ ?_;show(tyV t 0 x).getD k .dead∈_;rw[gDE,gEE (by rw[AB];exact J)]
     simp
   exact this (.clo g t) x _ (mem_singleton.2 rfl)
  |_=>trivial
 |rf=>cases h
 |rs=>cases h
 |rp=>cases h
 |_=>trivial
theorem MJ{l:List Cl}(h:l.any Cl.lent=false):∀c∈l,c.lent=false:=by grind
theorem Qq{l:List Cl}(h:l.any Cl.lent=false):(l.map (Cl.v r)).map (Ce σ)=l.map (Cl.v r):=by
 rw[map_map];exact map_congr_left λc u=>Cl.lend_id (MJ h c u)
def Sl.notB:Sl->Bool
 |.one _=>true
 |.agg _=>true
 |.pk (.cl _) _=>true
 |_=>false
theorem uArg_v{y:Sl}{z:t.T}(W:y.lent=false)(J:y.notB=true)(h:KB s b t (some y)=some z):Sub (y.v s.r) (vOf b t 0 z)/\AN (y.v s.r)=false/\clean (y.v s.r):=by
 have many:∀(B:Tg) (l:List Cl),l.any Cl.lent=false->AN (pkL B (l.map (Cl.v s.r)))=false/\clean (pkL B (l.map (Cl.v s.r))):=by
  intro B l h;refine⟨?_,λk Y=>?_⟩
  .have e:AN ((Sl.pk B l).v s.r)=l.any Cl.own:=Sl.own_v (.pk B l)
   refine e.trans ?_;rw[any_eq_false];intro c A;have O:=MJ h c A;cases c with
   |c t d x=>rw[show(Cl.c t d x).own=false from O];simp
   |_=>simp[Cl.own]
  .have Y:k<l.length:=by simpa using Y
   show clean ((l.map (Cl.v s.r)).getD k .dead);rw[AM (f:=Cl.v s.r) (a:=.dead) rfl];refine Cl.clean_v (MJ h _ ?_);simp[Y]
 cases y with
 |one c=>
  have A:c.lent=false:=W;refine⟨?_,?_,Cl.clean_v A⟩
  .unfold KB at h
   cases b with
   |true=>cases h
   |false=>
    cases Z:t.one with
    |false=>rw[Z]at h;cases h
    |true=>
     rw[Z]at h;simp only[cond_false,cond_true]at h;split at h
     case h_2=>cases h
     rename_i y' hy;obtain⟨_,h2,U⟩:=Mh hy;have U:=U λid p i k e=>by rw[e]at A;cases A
     rw[Cl.lend_id A]at U;obtain⟨g1,_⟩:=LZ h s.r;have g1:Sub y'.v0 (vOf false t 0 z):=h2▸g1;exact U.trans g1
  .have e:AN (c.v s.r)=c.own:=Cl.own_v c
   refine e.trans ?_;cases c with
   |c t d x=>exact A
   |_=>rfl
 |agg l=>
  have A:l.any Cl.lent=false:=W;refine⟨?_,many .ag l A⟩;unfold KB at h;cases b with
  |false=>cases h
  |true=>
   simp only[cond_true]at h;split at h
   case h_2=>cases h
   rename_i l' E;show Sub (Am _) (Am _);refine CV.mk ?_;have O:=Mf E;rw[Qq A]at O;exact CV.trans O (Dc h s.r).1
 |pk B l=>
  have A:l.any Cl.lent=false:=W;cases B with
  |cl g=>
   refine⟨?_,many (.cl g) l A⟩;unfold KB at h;cases b with
   |true=>cases h
   |false=>
    simp only[cond_false]at h;split at h
    case h_2=>cases h
    rename_i g' u;obtain⟨J,h⟩:=Bc h;have hg:=bqE J;subst hg;split at h
    case h_2=>cases h
    rename_i l' E
    have e:V.many (.cl g) u.w (λk=>(tyV u 0 z).getD k .dead)=pkL (.cl g) (tyV u 0 z):=by
     unfold pkL;rw[AB]
    show Sub (pkL (.cl g) _) (V.many (.cl g) u.w λk=>(tyV u 0 z).getD k .dead)
    rw[e];have O:=Mg E;rw[Qq A]at O;exact CV.pk (CV.trans O (Dc h s.r).1)
  |ag=>cases J
  |tu=>cases J
  |bx=>cases J
 |new l=>cases J
 |tup l=>cases J
def uok:Option Sl->Bool
 |some y=>!y.lent&&y.notB
 |none=>false
theorem uok_v{x:Operand}{z:t.T}(u:uok (s.ev x)=true)(h:KB s b t (s.ev x)=some z):AN (s.den.ev x)=false/\clean (s.den.ev x)/\Sub (s.den.ev x) (vOf b t 0 z):=by
 cases A:s.ev x with
 |none=>rw[A]at u;trivial
 |some y=>
  rw[A]at u h;simp[uok,Bool.not_eq_true']at u;obtain⟨J,E,B⟩:=uArg_v u.1 u.2 h;rw[Bf A]
  grind
theorem Vr{s:St}:∀(ps:List (Bool×Ty)) (xs:List Operand) (z:(PT ps).T),Jf s ps (xs.map s.ev)=some z->(xs.map s.ev).all uok=true->
  xs.length=(CU ps z).length/\∀i x,xs[i]? =some x->AN (s.den.ev x)=false/\clean (s.den.ev x)/\Sub (s.den.ev x) ((CU ps z).getD i .dead)
 |[],[],z,_,_=>⟨rfl,λi x h=>by simp at h⟩
 |[p],[x],z,h,u=>by
  have u:(uok (s.ev x)&&true)=true:=u;rw[Bool.and_true]at u;refine⟨rfl,λi E A=>?_⟩
  cases i with
  |zero=>
   cases A;exact uok_v u h
  |succ i=>simp at A
 |p::q::l,x::xs,z,h,u=>by
  have h:(match KB s p.1 p.2 (s.ev x)with
   |some z=>match Jf s (q::l) (xs.map s.ev)with
    |some B=>some (z,B)
    |none=>none
   |none=>none:Option (PT (p::q::l)).T)=some z:=h
  have u:(uok (s.ev x)&&(xs.map s.ev).all uok)=true:=u;rw[bAE]at u;split at h
  case h_2=>cases h
  rename_i U O;split at h
  case h_2=>cases h
  rename_i B J;cases h;obtain⟨k1,k2⟩:=Vr (q::l) xs B J u.2;refine⟨by show xs.length+1=(CU (q::l) B).length+1;rw[k1],λi E A=>?_⟩
  cases i with
  |zero=>
   cases A;exact uok_v u.1 O
  |succ i=>exact k2 i E (by simpa using A)
 |[],_::_,_,h,_=>by cases h
 |[_],[],_,h,_=>by cases h
 |[_],_::_::_,_,h,_=>by cases h
 |_::_::_,[],_,h,_=>by cases h
def CO(k:Nat)(l:List Operand):List Operand:=l.take k++l.drop (k+1)
theorem UX{l:List Operand}(h:k<l.length):(CO k l).length+1=l.length:=by
 unfold CO
 grind
theorem N9{l:List Operand}(h:i<k)(u:k<l.length):(CO k l)[i]? =l[i]?:=by
 unfold CO
 grind
theorem Oa{l:List Operand}(h:k<=i)(u:k<l.length):(CO k l)[i]? =l[i+1]?:=by
 unfold CO
 grind
theorem AaD{ps:List (Bool×Ty)}{xs:List Operand}{z:(PT ps).T}(u:k<xs.length)(h:Jf s ps ((CO k xs).map s.ev)=some z)(E:((CO k xs).map s.ev).all uok=true):
  xs.length=(UN k (CU ps z)).length/\∀i x,i≠k->xs[i]? =some x->AN (s.den.ev x)=false/\clean (s.den.ev x)/\Sub (s.den.ev x) ((UN k (CU ps z)).getD i .dead):=by
 obtain⟨U,A⟩:=Vr ps (CO k xs) z h E;have O:=UX u;refine⟨by rw[IZ];omega,λi x J B=>?_⟩
 rcases Nat.lt_or_ge i k with hlt|hge
 .have:=A i x (by rw[N9 hlt u];exact B)
  rw[AbH hlt (by omega)]
  grind
 .obtain⟨j,rfl⟩:∃j,i=j+1:=⟨i-1,by omega⟩
  have:=A j x (by rw[Oa (by omega) u];grind)
  rw[AbI (by omega) (by omega)]
  grind
def AbR:(t:Ty)->t.T->Bool
 |.sl _,xs=>ltI (Int.ofNat 0) (ofN (HL xs))
 |.ptr _,_=>true
 |_,_=>false
theorem AbQ{x:t.T}(hd:0<d)(h:AbR t x=true):K2 (cV t d x):=by
 have hd:=dT hd;cases t with
 |sl t=>
  refine⟨true,_,_,_,show arr (decide (0<d)) _ _ _ x=_ by rw[hd];rfl,.inr ?_⟩
  have h:decide (0<(x.length:Int))=true:=h
  grind
 |ptr t=>exact⟨false,_,_,_,show Bp (decide (0<d)) _=_ by rw[hd];rfl,.inl rfl⟩
 |_=>cases h
def treeND{x:t.T}(hd:0<d)(h:isTr t=true):∃s sz n f,cV t d x=.nd s true sz n f:=by
 have hd:=dT hd;cases t with
 |sl t=>exact⟨true,_,_,_,show arr (decide (0<d)) _ _ _ x=_ by rw[hd];rfl⟩
 |ptr t=>exact⟨false,_,_,_,show Bp (decide (0<d)) _=_ by rw[hd];rfl⟩
 |_=>cases h
def Bg:∀e∈([]:List EnU),e.OK P:=by simp
theorem Zh{e:EnU}{l:List EnU}(E:Be P e.f=true)(J:e.S.ok=true)(B:FTU P e.f e.S e.g)(A:∀e∈l,e.OK P):∀x∈e::l,x.OK P:=by
 intro x u;rcases mem_cons.1 u with rfl|u
 .trivial
 grind
end Go.Ve


namespace Go.Ve
abbrev WP:=Bool×Bool×Ty
def PTW:List WP->Ty
 |[]=>.unit
 |[p]=>p.2.2
 |p::q::l=>.pair p.2.2 (PTW (q::l))
def AaZ:Ty->List Ty
 |.sl t=>[.sl t]
 |.pair a b=>AaZ a++AaZ b
 |_=>[]
def tysW:List WP->List Ty
 |[]=>[]
 |p::l=>(bif p.1 then AaZ p.2.2 else [])++tysW l
structure SigW where
 ps:List WP
 rt:Ty
def Ty.sc:Ty->Bool
 |.int _=>true
 |.bool=>true
 |.str=>true
 |_=>false
def wty:List Ty->Ty
 |[]=>.unit
 |[t]=>t
 |t::u::l=>.pair t (wty (u::l))
structure EnW where
 f:FuncId
 S:SigW
 g:(PTW S.ps).T->Option (S.rt.T×(wty (tysW S.ps)).T)
def lookW:List EnW->FuncId->Option EnW
 |[],_=>none
 |e::l,f=>bif beq e.f f then some e else lookW l f
def EnW.OK(_:Program)(_:EnW):Prop:=False
end Go.Ve


namespace Go.Ve
variable{r:List Ae}{l m:List V}{op:Op}{i:Option TI}{P:Program}{s:St}{a:TR}{w:World}
def Od(Θ:Tab)(t:TypeId):Option TI:=((Θ.look t).bind (·.elem)).bind Θ.look
def PV(Θ:Tab)(s:St):Builtin->List Operand->List TypeId->Option TR
 |.len,[x],[t]=>match AaU s (Θ.look t) (s.ev x)with
  |some a=>some a
  |none=>tLen s (Θ.look t) (s.ev x)
 |.min,[x,y],_=>tMin (s.ev x) (s.ev y)
 |.max,[x,y],_=>tMax (s.ev x) (s.ev y)
 |_,_,_=>none
def AbF:Operand->Bool
 |.const (.slice none 0 0)=>true
 |_=>false
def PP(s:St)(i:Option TI)(x:Operand):Option TR:=bif AbF x then(match i with
 |some j=>some (.ok (.one (.c (.sl j.ty) (j.sd+1) [])))
 |none=>none)else AaS (s.ev x)
theorem IB{x:Operand}(A:op=.move x\/op=.assign x)(h:PP s i x=some a):QS P s op a.y:=by
 unfold PP at h;cases u:AbF x with
 |false=>rw[u]at h;exact OL A h
 |true=>
  rw[u]at h;split at h
  case h_2=>grind
  rename_i j;cases h;unfold AbF at u;split at u
  case h_2=>grind
  have:Wp (s.den.ev (.const (.slice none 0 0))) (SK s (.one (.c (.sl j.ty) (j.sd+1) []))):=⟨rfl,.inr ⟨rfl,_,_,_,rfl⟩⟩;rcases A with rfl|rfl<;>exact this
def Lz:Option TI->Option Operand->Option TR
 |some i,none=>match i.ty with
  |.mp k v=>some (.ok (.one (.c (.mp k v) 1 [])))
  |_=>none
 |_,_=>none
def Kd{t:TypeId}{n:Option Operand}(h:Lz i n=some a):QS P s (.makeMap t n) a.y:=by
 unfold Lz at h;split at h
 case h_2=>cases h
 split at h
 case h_2=>cases h
 cases h;exact⟨rfl,Sub.refl _⟩
def tq(Θ:Tab)(s:St)(ty:TypeId):Op->Option TR
 |.move x=>PP s (Od Θ ty) x
 |.assign x=>PP s (Od Θ ty) x
 |.pick c x y=>AaQ (s.ev c) (s.ev x) (s.ev y)
 |.load t x=>VO s (Θ.look t) (s.ev x)
 |.fieldAddr t x k=>VQ s (Θ.look t) k (s.ev x)
 |.indexAddr t x i=>H7 s (Od Θ t) (s.ev x) (s.ev i)
 |.index t x i=>VP (Θ.look t) (s.ev x) (s.ev i)
 |.nilCheck x=>tNil (s.ev x)
 |.binOp op t x y _=>tBin (Θ.look t) op (s.ev x) (s.ev y)
 |.unOp op _ x=>tUn op (s.ev x)
 |.convert u v x=>AaV s.r (Θ.look u) (Θ.look v) (Od Θ u) (Od Θ v) (s.ev x)
 |.extract x k=>LF k (s.ev x)
 |.build t ps=>VU (Θ.look t) (ps.toList.map λp=>(p.1,s.ev p.2))
 |.buildSlice t n ps=>D9 n (ps.toList.map λp=>(p.1,s.ev p.2)) (Od Θ t)
 |.alloc t=>VV (Θ.look t)
 |.box _ x=>tBox (s.ev x)
 |.makeSlice t l c=>AaT (Od Θ t) (s.ev l) (s.ev c)
 |.slice t x lo E B=>match B with
  |none=>VH s (Θ.look t) (Od Θ t) (s.ev x) (KA (lo.map s.ev)) (KA (E.map s.ev))
  |some _=>none
 |.call c=>match c.callee with
  |.builtin b=>PV Θ s b c.args.toList c.argTypes.toList
  |_=>none
 |.makeFunc fn first A=>tMkF s fn first.toList A.toList
 |.makeInterface t x=>tMkI Θ s t x
 |.makeMap t n=>Lz (Θ.look t) n
 |.lookup t x i co=>OO s (Θ.look t) (s.ev x) (s.ev i) co
 |_=>none
theorem PJ{Θ:Tab}(u:Θ.OK P){ty:TypeId}(h:tq Θ s ty op=some a)(B:a.p):QS P s op a.y:=by
 unfold tq at h;split at h
 case h_1=>exact IB (.inl rfl) h
 case h_2=>exact IB (.inr rfl) h
 case h_3=>exact OJ h
 case h_4=>exact OP u h B
 case h_5=>exact M7 u h
 case h_6=>exact IM u h B
 case h_7=>exact M5 u h B
 case h_8=>exact Q5 h
 case h_9=>exact Ue u h B
 case h_10=>exact VE h
 case h_11=>exact OR u h B
 case h_12=>exact Ke h
 case h_13=>exact Na u h
 case h_14=>exact H8 u h
 case h_15=>exact Nc u h
 case h_16=>exact Ud h
 case h_17=>exact ON u h B
 case h_18=>
  split at h
  .exact M4 u h B
  .cases h
 case h_19 c=>
  obtain⟨callee,args,J⟩:=c;split at h
  case h_2=>cases h
  rename_i b E;have E:callee=.builtin b:=E;subst E;unfold PV at h;split at h
  case h_4=>cases h
  .rename_i x t A O
   rw[YV (show args.toList=[x]from A),YV (show J.toList=[t]from O)]
   split at h
   .rename_i W U
    cases h;exact OQ u U
   .exact Ub u h
  .rename_i x y A
   have e:args= #[x,y]:=by have A:args.toList=[x,y]:=A;cases args;simp at A;simp[A]
   subst e;exact Q8 h
  .rename_i x y A
   have e:args= #[x,y]:=by grind
   subst e;exact Q9 h
 case h_20=>exact Q7 h
 case h_21=>exact Q6 u h
 case h_22=>exact Kd h
 case h_23=>exact LA u h
 case h_24=>cases h
def Ay:V->V->Prop
 |.many t n f,v'=>v'=.dead\/∃g,v'=.many t n g/\∀k,k<n->Ay (f k) (g k)
 |v,v'=>v'=.dead\/Sub v v'
theorem Ay.of:∀{v v':V},Sub v v'->Ay v v':=by
 intro v
 induction v with
 |many t n f u=>intro v' h;obtain⟨g,rfl,h⟩:=h;exact .inr ⟨g,rfl,λk A=>u k (h k A)⟩
 |_=>intro v' h;exact .inr h
def Ay.refl(v:V):Ay v v:=Ay.of (Sub.refl v)
def Ay.dead:∀(v:V),Ay v .dead:=by
 intro v;cases v<;>exact .inl rfl
def Ay.mk(u:l.length=m.length)(h:∀k,k<l.length->Ay (l.getD k .dead) (m.getD k .dead)):Ay (Am l) (Am m):=by
 unfold Am;rw[<-u];exact .inr ⟨_,rfl,h⟩
def Ay.tup(u:l.length=m.length)(h:∀k,k<l.length->Ay (l.getD k .dead) (m.getD k .dead)):Ay (DC l) (DC m):=by
 unfold DC;rw[<-u];exact .inr ⟨_,rfl,h⟩
def Ay.pk{t:Tg}(u:l.length=m.length)(h:∀k,k<l.length->Ay (l.getD k .dead) (m.getD k .dead)):Ay (pkL t l) (pkL t m):=by
 unfold pkL;rw[<-u];exact .inr ⟨_,rfl,h⟩
theorem Rel.subS{D:Nat->Prop}{R:V->Value->Prop}:∀{v v':V}{cv:Value},Ay v v'->Rel D w R v cv noF->Rel D w R v' cv noF:=by
 intro v
 induction v with
 |many t n f E=>
  intro v' cv h u;rcases h with rfl|⟨g,rfl,h⟩
  .exact λ_ h=>h
  obtain⟨cs,F,B,J,u,hd,O⟩:=u;have W:=λk A=>A7 λb U=>(O b).2 ⟨k,A,U⟩
  exact⟨cs,λ_=>noF,B,J,λk A=>E k (h k A) (by grind),λ_ _ _ _ _ _ h=>h.elim,λb=>⟨λh=>h.elim,fun⟨_,_,h⟩=>h⟩⟩
 |_=>
  intro v' cv h u;rcases h with rfl|h
  .exact λ_ h=>h
  .exact Rel.sub h u
theorem At.sub'{w:World}:∀{p:AX}{v u:V}{cv:Value}{s:Bool}{sz n:Nat}{f:Nat->Nat->V}{c:Value},Sub v u->At w p v cv (.nd s true sz n f) c->∃A,At w p u cv (.nd s true sz n A) c
 |[],v,u,cv,s,sz,n,f,c,h,ha=>by
  obtain⟨rfl,rfl⟩:=ha;obtain⟨g,rfl,_⟩:=h;exact⟨g,rfl,rfl⟩
 |(i,k)::p,.nd s0 true sz0 n0 f0,u,cv,s,sz,n,f,c,h,ha=>by
  obtain⟨g,rfl,h⟩:=h;obtain⟨E,B,b,o,cap,x,U,O,J⟩:=ha;obtain⟨A,W⟩:=At.sub' (h i k E B) J;exact⟨A,E,B,b,o,cap,x,U,O,W⟩
 |_::_,.nd _ false _ _ _,_,_,_,_,_,_,_,_,ha=>ha.elim
 |_::_,.c _,_,_,_,_,_,_,_,_,ha=>ha.elim
 |_::_,.dead,_,_,_,_,_,_,_,_,ha=>ha.elim
 |_::_,.many ..,_,_,_,_,_,_,_,_,ha=>ha.elim
 |_::_,.rs ..,_,_,_,_,_,_,_,_,ha=>ha.elim
 |_::_,.rp ..,_,_,_,_,_,_,_,_,ha=>ha.elim
 |_::_,.rm ..,_,_,_,_,_,_,_,_,ha=>ha.elim
 |_::_,.mp ..,_,_,_,_,_,_,_,_,ha=>ha.elim
theorem At.subM{w:World}:∀{p:AX}{v u:V}{cv:Value}{l:List (Value×Value)}{c:Value},Sub v u->At w p v cv (.mp true l) c->At w p u cv (.mp true l) c
 |[],v,u,cv,l,c,h,ha=>by
  obtain⟨rfl,rfl⟩:=ha;cases h;exact⟨rfl,rfl⟩
 |(i,k)::p,.nd s0 true sz0 n0 f0,u,cv,l,c,h,ha=>by
  obtain⟨g,rfl,h⟩:=h;obtain⟨B,A,b,o,cap,x,O,J,E⟩:=ha;exact⟨B,A,b,o,cap,x,O,J,At.subM (h i k B A) E⟩
 |_::_,.nd _ false _ _ _,_,_,_,_,_,ha=>ha.elim
 |_::_,.c _,_,_,_,_,_,ha=>ha.elim
 |_::_,.dead,_,_,_,_,_,ha=>ha.elim
 |_::_,.many ..,_,_,_,_,_,ha=>ha.elim
 |_::_,.rs ..,_,_,_,_,_,ha=>ha.elim
 |_::_,.rp ..,_,_,_,_,_,ha=>ha.elim
 |_::_,.rm ..,_,_,_,_,_,ha=>ha.elim
 |_::_,.mp ..,_,_,_,_,_,ha=>ha.elim
theorem Aq.sub{σ σ':List V}{ρ:Nat->Value}(O:σ'.length=σ.length)(E:∀i,i<σ.length->Sub (σ.getD i .dead) (σ'.getD i .dead)):∀v cv,Aq σ ρ w v cv->Aq σ' ρ w v cv
 |.rs id p off len,cv,⟨u,sz,n,f,cn,B,r⟩=>by
  obtain⟨J,A⟩:=At.sub' (E id u) B;exact⟨by grind,sz,n,J,cn,A,r⟩
 |.rp id p i k,cv,⟨u,s,sz,n,f,b,o,cap,B,r⟩=>by
  obtain⟨J,A⟩:=At.sub' (E id u) B;exact⟨by omega,s,sz,n,J,b,o,cap,A,r⟩
 |.rm id p,cv,⟨u,l,b,B,r⟩=>⟨by omega,l,b,At.subM (E id u) B,r⟩
 |.mp ..,_,h=>h.elim
 |.c _,_,h=>h.elim
 |.dead,_,h=>h.elim
 |.many ..,_,h=>h.elim
 |.nd ..,_,h=>h.elim
theorem CR.sub{C:Ctx}{σ σ' ts ts':List V}{cts:Array Value}{w:World}{D:Nat->Prop}{ρ:Nat->Value}{F:Nat->Nat->Prop}(h:CR C σ ts cts w D ρ F)(B:σ'.length=σ.length)(A:∀i,i<σ.length->Sub (σ.getD i .dead) (σ'.getD i .dead))
  (u:ts'.length=ts.length) (J:∀i,i<ts.length->Ay (ts.getD i .dead) (ts'.getD i .dead)):CR C σ' ts' cts w D ρ F:=by
 refine⟨⟨λi O=>Rel.sub (A i (by omega)) (h.wr.rel i (by omega)),h.wr.disj,h.wr.dD,h.wr.Dlt,λi b O=>h.wr.out i b (by omega)⟩,by rw[h.sz,u],λt E=>?_,h.fr,h.Fn,h.D1,h.D2,h.rt,by rw[B];exact h.ml⟩
 exact Rel.subS (J t (by omega)) (Rel.mono (λ_ h=>h) (Aq.sub B A) _ _ _ (λ_ _=>rfl) (h.tm t (by omega)))
theorem AQ.sub{C:Ctx}{N:Nat}{S S':Ms}{a:Act}{w:World}(h:AQ C N S a w)(O:S'.σ.length=S.σ.length)(J:∀i,i<S.σ.length->Sub (S.σ.getD i .dead) (S'.σ.getD i .dead))(E:∀i,Ay (S.t i) (S'.t i)):AQ C N S' a w:=by
 obtain⟨hd,u,D,ρ,F,A⟩:=h;refine⟨hd,λx B=>?_,D,ρ,F,A.sub O J (by simp) λi U=>?_⟩
 .have:=E x
  rw[u x B]at this;rcases this with h|h
  .exact h
  trivial
 grind
def Cl.frz:Cl->Cl
 |.c t _ x=>.c t 0 x
 |y=>y
def Sl.frz:Sl->Option Sl
 |.one y=>some (.one y.frz)
 |.new l=>match DO l with
  |some ⟨t,x⟩=>some (.one (.c (.ptr t) 0 x))
  |none=>none
 |.agg l=>some (.agg (l.map Cl.frz))
 |.pk t l=>some (.pk t (l.map Cl.frz))
 |.tup l=>some (.tup (l.map λp=>(p.1,p.2.map Cl.frz)))
theorem Cl.frz_v(y:Cl):Go.Ve.frz (y.v r)=y.frz.v r:=by
 cases y with
 |c t d x=>
  cases u:t.one with
  |true=>exact Xn u d x
  |false=>cases t<;>first|rfl|trivial
 |_=>rfl
theorem QT(l:List Cl):Go.Ve.frz (Am (l.map (Cl.v r)))=Am ((l.map Cl.frz).map (Cl.v r)):=by
 rw[frz_mk,map_map,map_map]
 congr 1
 exact map_congr_left λy _=>Cl.frz_v y
theorem Sl.frz_v{r:List Ae}{y y':Sl}(h:y.frz=some y'):Go.Ve.frz (y.v r)=y'.v r:=by
 cases y with
 |one c=>cases h;exact Cl.frz_v c
 |new l=>
  unfold Sl.frz at h;simp only at h;split at h
  .rename_i t x u
   cases h;show Go.Ve.frz (Bp true (l.map Cl.v0))=Bp false (tyV t 0 x);rw[Mr,Hd _ _ u]
  .cases h
 |agg l=>cases h;exact QT l
 |pk t l=>
  cases h;show Go.Ve.frz (pkL t (l.map (Cl.v r)))=pkL t ((l.map Cl.frz).map (Cl.v r));rw[frz_pk,map_map,map_map]
  congr 1
  exact map_congr_left λy _=>Cl.frz_v y
 |tup l=>
  cases h;show Go.Ve.frz (DC _)=DC _;rw[AbW,map_map,map_map]
  congr 1
  refine map_congr_left λp _=>?_
  obtain⟨b,l⟩:=p;cases b with
  |true=>exact QT l
  |false=>
   show Go.Ve.frz ((l.map (Cl.v r)).getD 0 .dead)=((l.map Cl.frz).map (Cl.v r)).getD 0 .dead;rw[AM (a:=.dead) rfl,Cl.frz_v];simp only[gDE,List.getElem?_map];cases l[0]? <;>rfl
def Cl.chk(m:Nat):Cl->Cl
 |.rf id p=>bif blt id m then .rf id p else .dead
 |.rs id p off len=>bif blt id m then .rs id p off len else .dead
 |.rp id p i k=>bif blt id m then .rp id p i k else .dead
 |y=>y
def Sl.chk(m:Nat):Sl->Sl
 |.one y=>.one (y.chk m)
 |.new l=>.new l
 |.agg l=>.agg (l.map (Cl.chk m))
 |.pk t l=>.pk t (l.map (Cl.chk m))
 |.tup l=>.tup (l.map λp=>(p.1,p.2.map (Cl.chk m)))
def Cl.chk_v{r':List Ae}(A:∀id,id<r.length->r'.getD id .dead=r.getD id .dead)(y:Cl):Ay (y.v r) ((y.chk r.length).v r'):=by
 cases y with
 |rf id p=>
  show Ay _ ((bif blt id r.length then Cl.rf id p else .dead).v r');cases u:blt id r.length with
  |false=>exact Ay.dead _
  |true=>
   have u:=blE u;show Ay (V.rs id p 0 (Ag r id p).len) (V.rs id p 0 (Ag r' id p).len);unfold Ag;rw[A id u];exact Ay.refl _
 |rs id p off len=>
  show Ay _ ((bif blt id r.length then Cl.rs id p off len else .dead).v r');cases u:blt id r.length with
  |false=>exact Ay.dead _
  |true=>exact Ay.refl _
 |rp id p off len=>
  show Ay _ ((bif blt id r.length then Cl.rp id p off len else .dead).v r');cases u:blt id r.length with
  |false=>exact Ay.dead _
  |true=>exact Ay.refl _
 |_=>exact Ay.refl _
theorem Bz{l:List Cl}{f g:Cl->V}(A:f .dead=.dead)(u:g .dead=.dead)(h:∀y,Ay (f y) (g y))(k:Nat):Ay ((l.map f).getD k .dead) ((l.map g).getD k .dead):=by grind
theorem Sl.chk_v{r r':List Ae}(u:∀id,id<r.length->r'.getD id .dead=r.getD id .dead)(y:Sl):Ay (y.v r) ((y.chk r.length).v r'):=by
 have agg:∀l:List Cl,Ay (Am (l.map (Cl.v r))) (Am ((l.map (Cl.chk r.length)).map (Cl.v r'))):=by
  intro l;refine Ay.mk (by simp) λk _=>?_
  rw[map_map];exact Bz rfl rfl (λy=>Cl.chk_v u y) k
 cases y with
 |one c=>exact Cl.chk_v u c
 |new l=>exact Ay.refl _
 |agg l=>exact agg l
 |pk t l=>
  refine Ay.pk (by simp) λk _=>?_
  rw[map_map];exact Bz rfl rfl (λy=>Cl.chk_v u y) k
 |tup l=>
  refine Ay.tup (by simp) λk A=>?_
  have A:k<l.length:=by simpa using A
  simp only[gDE,List.getElem?_map,gEE A,Option.map_some,getD_some];generalize l[k]=p;obtain⟨b,m⟩:=p;cases b with
  |true=>exact agg m
  |false=>
   have:=Bz (l:=m) (f:=Cl.v r) rfl rfl (λy=>Cl.chk_v u y) 0
   have e:(m.map λy=>(y.chk r.length).v r')=(m.map (Cl.chk r.length)).map (Cl.v r'):=by rw[map_map];rfl
   grind
end Go.Ve

