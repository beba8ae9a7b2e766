/- The typed machine: structs that are built, new memory, slices of slices. -/
import Derived.Test.YtmmmafnkggaknaaGreatTc
import Derived.Test.YtmmmafnkggaknaaGreatVr
import Derived.Test.YtmmmafnkggaknaaGreatVwa
import Derived.Test.YtmmmafnkggaknaaGreatXa
set_option linter.all false
namespace Go.Ve
variable{ps:Array (Nat×Operand)}{y:Cl}{r:List Af}{l:List Cl}{m:List V}{d:Nat}{lo:Option Operand}{P:Program}{s:St}{a:TR}{Θ:Tab}{t:TypeId}
def CV:List V->List V->Prop
 |[],[]=>True
 |a::l,b::m=>Sub a b/\CV l m
 |_,_=>False
def CV.len:∀{l m:List V},CV l m->l.length=m.length
 |[],[],_=>rfl
 |_::_,_::_,h=>by simp[CV.len h.2]
 |[],_::_,h=>h.elim
 |_::_,[],h=>h.elim
def CV.getD:∀{l m:List V} (_:CV l m) (k:Nat),Sub (l.getD k .dead) (m.getD k .dead)
 |[],[],_,_=>Sub.refl _
 |_::_,_::_,h,0=>h.1
 |_::_,_::_,h,k+1=>CV.getD h.2 k
 |[],_::_,h,_=>h.elim
 |_::_,[],h,_=>h.elim
def CV.app:∀{l m u e:List V},CV l m->CV u e->CV (l++u) (m++e)
 |[],[],_,_,_,h=>h
 |_::_,_::_,_,_,h,h'=>⟨h.1,CV.app h.2 h'⟩
 |[],_::_,_,_,h,_=>h.elim
 |_::_,[],_,_,h,_=>h.elim
theorem CV.mk{l:List V}(h:CV l m):Sub (An l) (An m):=by
 unfold An;rw[h.len];exact⟨_,rfl,λk _=>h.getD k⟩
theorem CV.obj{o:Bool}{l:List V}(h:CV l m):Sub (Bj o l) (Bj o m):=by
 unfold Bj;rw[h.len];refine⟨_,rfl,λi k e _=>?_⟩
 obtain rfl:i=0:=by omega
 exact h.getD k
theorem Eqv.symm:∀{v v':V},Eqv v v'->Eqv v' v:=by
 intro v
 induction v with
 |c v=>intro v' h;cases h;rfl
 |dead=>intro v' h;cases h;rfl
 |many t n f e=>intro v' h;obtain⟨g,rfl,h⟩:=h;exact⟨f,rfl,λk u=>e k (h k u)⟩
 |nd s own sz n f e=>intro v' h;obtain⟨g,rfl,h⟩:=h;exact⟨f,rfl,λi k A u=>e i k (h i k A u)⟩
 |rs id p off len=>intro v' h;cases h;rfl
 |rp id p i k=>intro v' h;cases h;rfl
def NF(a b:Nat):Nat:=bif Nat.ble a b then a else b
theorem H9(a b:Nat):NF a b=min a b:=by
 unfold NF;cases h:Nat.ble a b with
 |true=>simp_all
 |false=>
  have:¬a<=b:=λe=>by rw[Nat.ble_eq_true_of_le e]at h;grind
  grind
def dOK(t:Ty)(d e:Nat):Bool:=Nat.beq t.dep 0||Nat.beq d e
theorem LG{t:Ty}{e:Nat}(h:dOK t d e=true):min d t.dep=min e t.dep:=by
 unfold dOK at h;rw[Bool.or_eq_true]at h;rcases h with h|h
 .simp_all
 simp_all
def fit(e:Nat):Cl->Cl
 |.c t d x=>bif Nat.beq (NF d t.dep) (NF e t.dep)then .c t e x else .c t d x
 |y=>y
def D7(t:Ty)(d:Nat):Cl->Option t.T
 |.c e u x=>if h:e=t then(bif dOK t u d then some (h▸x)else none)else none
 |.nil=>match t with
  |.sl _=>some []
  |_=>none
 |_=>none
def Lm(t:Ty)(d:Nat):List Cl->Option (t.T×List Cl)
 |c::l=>match D7 t d c with
  |some x=>some (x,l)
  |none=>none
 |[]=>none
def AaC:(t:Ty)->Nat->List Cl->Option (t.T×List Cl)
 |.unit,_,l=>some ((),l)
 |.pair a b,d,l=>match AaC a d l with
  |some (x,l)=>match AaC b d l with
   |some (y,l)=>some ((x,y),l)
   |none=>none
  |none=>none
 |.int k,d,l=>Lm (.int k) d l
 |.bool,d,l=>Lm .bool d l
 |.str,d,l=>Lm .str d l
 |.sl t,d,l=>Lm (.sl t) d l
 |.ptr t,d,l=>Lm (.ptr t) d l
 |.clo g t,d,l=>Lm (.clo g t) d l
 |.osl t,d,l=>Lm (.osl t) d l
def H7(t:Ty)(d:Nat)(l:List Cl):Option t.T:=match AaC t d l with
 |some (x,[])=>some x
 |_=>none
theorem Ln{t:Ty}{c:Cl}{x:t.T}(h:D7 t d c=some x)(r:List Af):Sub (c.v r) (cV t d x)/\c.v r=c.v0:=by
 unfold D7 at h;split at h
 .rename_i e A B
  split at h
  case isFalse=>grind
  rename_i u;subst u;cases hd:dOK e A d with
  |false=>grind
  |true=>
   rw[hd]at h;cases h;exact⟨Sub.of_eq (KO (LG hd)),rfl⟩
 .split at h
  .cases h
   exact⟨.inr ⟨rfl,_,_,_,rfl⟩,rfl⟩
  grind
 grind
theorem D6{t:Ty}(A:t.one=true){e:List Cl}{x:t.T}(h:Lm t d l=some (x,e))(r:List Af):∃m,l=m++e/\CV (m.map (Cl.v r)) (tyV t d x)/\m.map (Cl.v r)=m.map Cl.v0:=by
 unfold Lm at h;split at h
 .rename_i c B
  split at h
  .rename_i y u
   cases h;obtain⟨J,E⟩:=Ln u r;exact⟨[c],rfl,by rw[BM A];trivial,by grind⟩
  grind
 grind
theorem Pd(r:List Af):∀(t:Ty) (d:Nat) (l e:List Cl) (x:t.T),AaC t d l=some (x,e)->∃m,l=m++e/\CV (m.map (Cl.v r)) (tyV t d x)/\m.map (Cl.v r)=m.map Cl.v0
 |.unit,d,l,e,x,h=>by cases h;exact⟨[],rfl,trivial,rfl⟩
 |.int k,d,l,e,x,h=>D6 rfl h r
 |.bool,d,l,e,x,h=>D6 rfl h r
 |.str,d,l,e,x,h=>D6 rfl h r
 |.sl t,d,l,e,x,h=>D6 rfl h r
 |.ptr t,d,l,e,x,h=>D6 rfl h r
 |.clo g t,d,l,e,x,h=>D6 rfl h r
 |.osl t,d,l,e,x,h=>D6 rfl h r
 |.pair a b,d,l,e,x,h=>by
  unfold AaC at h;split at h
  .rename_i y l1 J
   split at h
   .rename_i z l2 E
    cases h;obtain⟨B,W,s1,t1⟩:=Pd r a d l l1 y J;obtain⟨A,U,u,t2⟩:=Pd r b d l1 e z E;subst U;subst W;exact⟨B++A,by simp,by rw[List.map_append];exact s1.app u,by grind⟩
   grind
  grind
theorem C1{t:Ty}{x:t.T}(h:H7 t d l=some x)(r:List Af):CV (l.map (Cl.v r)) (tyV t d x)/\l.map (Cl.v r)=l.map Cl.v0:=by
 unfold H7 at h;split at h
 .rename_i y u
  cases h;obtain⟨m,e,B,A⟩:=Pd r t d l [] x u
  grind
 grind
def IZ(r:List Af):∀t:Ty,(HS t).map (Cl.v r)=(B1 t).map .c
 |.int _=>rfl
 |.bool=>rfl
 |.str=>rfl
 |.sl _=>rfl
 |.ptr _=>rfl
 |.unit=>rfl
 |.clo _ _=>rfl
 |.osl _=>rfl
 |.pair a b=>by simp[HS,B1,IZ r a,IZ r b]
def NJ:∀t:Ty,CV ((B1 t).map .c) ((Q9 t).map Cl.v0)
 |.int _=>⟨Sub.refl _,trivial⟩
 |.bool=>⟨Sub.refl _,trivial⟩
 |.str=>⟨Sub.refl _,trivial⟩
 |.sl _=>⟨.inr ⟨rfl,_,_,_,rfl⟩,trivial⟩
 |.ptr _=>⟨Sub.refl _,trivial⟩
 |.clo _ _=>⟨Sub.refl _,trivial⟩
 |.osl _=>⟨.inr ⟨rfl,_,_,_,rfl⟩,trivial⟩
 |.unit=>trivial
 |.pair a b=>by simp[B1,Q9,List.map_append];exact(NJ a).app (NJ b)
def Ty.noPtr:Ty->Bool
 |.ptr _=>false
 |.clo _ _=>false
 |.osl _=>false
 |.pair a b=>a.noPtr&&b.noPtr
 |_=>true
def NI(d:Nat):∀t:Ty,t.noPtr=true->CV ((B1 t).map .c) (tyV t d t.dflt)
 |.int _,_=>⟨Sub.refl _,trivial⟩
 |.bool,_=>⟨Sub.refl _,trivial⟩
 |.str,_=>⟨Sub.refl _,trivial⟩
 |.sl _,_=>⟨.inr ⟨rfl,_,_,_,rfl⟩,trivial⟩
 |.unit,_=>trivial
 |.pair a b,h=>by
  simp[Ty.noPtr,bAE]at h;simp[B1,tyV];exact(NI d a h.1).app (NI d b h.2)
def Hg:∀t:Ty,(B1 t).length=t.w
 |.int _=>rfl
 |.bool=>rfl
 |.str=>rfl
 |.sl _=>rfl
 |.ptr _=>rfl
 |.unit=>rfl
 |.clo _ _=>rfl
 |.osl _=>rfl
 |.pair a b=>by simp[B1,Ty.w,Hg a,Hg b]
def Cl.plain:Cl->Bool
 |.dead=>false
 |.c .unit _ _=>false
 |.c (.pair _ _) _ _=>false
 |.c (.clo _ _) _ _=>false
 |.c (.osl _) _ _=>false
 |y=>!y.own
def Sl.cells:Sl->Option (List Cl)
 |.one y=>bif y.plain then some [y]else none
 |.agg l=>bif l.all Cl.plain then some l else none
 |_=>none
theorem Vk(h:y.plain=true):one1 (y.v r)=true/\AL (y.v r)=false/\By (y.v r)=true/\Go.Ve.cellsV (y.v r)=[y.v r]:=by
 cases y with
 |c t d x=>cases t<;>cases d<;>first|trivial|rfl
 |dead=>cases h
 |_=>trivial
theorem CL{y:Sl}(h:y.cells=some l):By (y.v r)=true/\Go.Ve.cellsV (y.v r)=l.map (Cl.v r)/\l.all Cl.plain=true:=by
 unfold Sl.cells at h;split at h
 .rename_i c
  cases e:c.plain with
  |false=>grind
  |true=>
   rw[e]at h;cases h;obtain⟨_,_,E,B⟩:=Vk e;exact⟨E,B,by grind⟩
 .rename_i u
  cases e:u.all Cl.plain with
  |false=>grind
  |true=>
   rw[e]at h;cases h;refine⟨?_,Ny,e⟩;show By (An _)=true;rw[Vl,List.all_map,aET];intro y A;exact(Vk (aET.1 e y A)).1
 grind
def Sl.cellsF:Sl->Option (List Cl)
 |.one (.c (.clo g t) d x)=>some [.c (.clo g t) d x]
 |y=>y.cells
theorem NA{y:Sl}(h:y.cellsF=some l):By (y.v r)=true/\Go.Ve.cellsV (y.v r)=l.map (Cl.v r):=by
 unfold Sl.cellsF at h;split at h
 .rename_i g t d x
  cases h;refine⟨?_,rfl⟩;show(!AL (cV (.clo g t) d x))=true;have e:AL (cV (.clo g t) d x)=false:=Hh (.clo g t) x _ (List.mem_singleton.2 rfl)
  grind
 .obtain⟨A,u,_⟩:=CL (r:=r) h
  grind
def Aaz(cells:List Cl):Nat->List Cl->List Cl
 |_,[]=>cells
 |off,y::l=>Aaz (cells.set off y) (off+1) l
theorem Zm:∀(l cells:List V) (off k:Nat),((l.zipIdx k).foldl (λcs (c,j)=>cs.set (off+j) c) cells)=W8 cells (off+k) l:=by
 have u:∀(l cells:List V) (off k:Nat),((l.zipIdx k).foldl (λcs (c,j)=>cs.set (off+j) c) cells)=((l.zipIdx 0).foldl (λcs (c,j)=>cs.set (off+k+j) c) cells):=by
  intro l
  induction l with
  |nil=>simp
  |cons v l e=>
   intro cells off k;simp[Nat.add_zero];rw[e _ off (k+1),e _ (off+k) (0+1)];rfl
 trivial
def US{v:V}{l cells:List V}{off:Nat}:W8 cells off (v::l)=W8 (cells.set off v) (off+1) l:=by
 show((v::l).zipIdx 0).foldl _ cells=_;exact Zm l _ off (0+1)
def UU{r:List Af}:∀(l cells:List Cl) (off:Nat),(Aaz cells off l).map (Cl.v r)=W8 (cells.map (Cl.v r)) off (l.map (Cl.v r))
 |[],cells,off=>rfl
 |y::l,cells,off=>by
  rw[List.map_cons,US];show(Aaz (cells.set off y) (off+1) l).map (Cl.v r)=_;rw[UU l,List.map_set]
def P6(place:Nat->Option (Nat×Nat))(cells:List Cl):List (Nat×Option Sl)->Option (List Cl)
 |[]=>some cells
 |(i,y)::rest=>match place i,y with
  |some (off,size),some y=>match y.cellsF with
   |some l=>bif Nat.beq l.length size&&Nat.ble (off+size) cells.length then P6 place (Aaz cells off l) rest else none
   |none=>none
  |_,_=>none
theorem K6{s:St}{place:Nat->Option (Nat×Nat)}:∀(ps:List (Nat×Operand)) (cells l:List Cl),P6 place cells (ps.map λp=>(p.1,s.ev p.2))=some l->
  (ps.map λp=>(p.1,s.den.ev p.2)).all (λp=>By p.2)=true/\Cd place (cells.map (Cl.v s.r)) (ps.map λp=>(p.1,s.den.ev p.2))=some (l.map (Cl.v s.r))
 |[],cells,l,h=>by cases h;exact⟨rfl,rfl⟩
 |(i,x)::ps,cells,l,h=>by
  rw[List.map_cons]at h;unfold P6 at h;split at h
  case h_2=>cases h
  rename_i off size y e A;split at h
  case h_2=>cases h
  rename_i m B;obtain⟨u,h⟩:=Bb h;simp only[bAE]at u;have J:=bqE u.1;have E:=blE u.2;obtain⟨g1,g2⟩:=NA (r:=s.r) B;obtain⟨k1,k2⟩:=K6 ps _ _ h;rw[List.map_cons,List.all_cons];refine⟨by simp only[Bh A,g1,Bool.true_and];exact k1,?_⟩
  unfold Cd;simp only[e,Bh A,g2];rw[if_neg (by grind),<-UU]
  exact k2
def UK:Option TI->List (Nat×Option Sl)->Option TR
 |some i,ps=>bif i.agg then(match P6 (λk=>i.places[k]?) (HS i.ty) ps with
   |some l=>some (.ok (.agg l))
   |none=>none)
  else none
 |none,_=>none
theorem Mn(e:Θ.OK P)(h:UK (Θ.look t) (ps.toList.map λp=>(p.1,s.ev p.2))=some a):QS P s (.build t ps) a.y:=by
 unfold UK at h;split at h
 case h_2=>grind
 rename_i i E;cases u:i.agg with
 |false=>grind
 |true=>
  rw[u]at h;split at h
  case h_2=>grind
  rename_i l B;cases h;obtain⟨J,A⟩:=K6 _ _ _ B;show Kl (YN P t) (ps.toList.map λp=>(p.1,s.den.ev p.2)) (SK s _)
  rw[e.bd E,u];unfold Kl;rw[IZ]at A;simp only[if_true];rw[A];exact⟨J,Sub.refl _⟩
def M2(t:Ty)(d:Nat):Nat->List Cl->Option (List t.T)
 |0,[]=>some []
 |0,_::_=>none
 |n+1,l=>match AaC t d l with
  |some (x,l)=>match M2 t d n l with
   |some xs=>some (x::xs)
   |none=>none
  |none=>none
theorem N7{t:Ty}(r:List Af):∀(n:Nat) (l:List Cl) (xs:List t.T),M2 t d n l=some xs->xs.length=n/\l.map (Cl.v r)=l.map Cl.v0/\
  ∀i k,i<n->k<t.w->Sub ((l.map (Cl.v r)).getD (i*t.w+k) .dead) ((tyV t d (xs.getD i t.dflt)).getD k .dead):=by
 intro n
 induction n with
 |zero=>
  intro l xs h;cases l with
  |nil=>cases h;exact⟨rfl,rfl,λi k J=>by omega⟩
  |cons y l=>cases h
 |succ n B=>
  intro l xs h;unfold M2 at h;split at h
  case h_2=>cases h
  rename_i x l1 W;split at h
  case h_2=>cases h
  rename_i ys U;cases h;obtain⟨m,e,s1,A⟩:=Pd r t d l l1 x W;obtain⟨g1,g2,Z⟩:=B l1 ys U;subst e;have u:(m.map (Cl.v r)).length=t.w:=by rw[s1.len,Ay]
  refine⟨by simp[g1],by simp[A,g2],λi k J E=>?_⟩
  rw[List.map_append];cases i with
  |zero=>
   simp only[Nat.zero_mul,Nat.zero_add,List.getD_cons_zero];have:=s1.getD k;rw[gDE,gAL (by omega),<-gDE]
   exact this
  |succ i=>
   have:=Z i k (by omega) E
   rw[List.getD_cons_succ];have e:(i+1)*t.w+k-(m.map (Cl.v r)).length=i*t.w+k:=by rw[u,Nat.add_mul];omega
   rw[gDE,gAR (by rw[u,Nat.add_mul];omega),e,<-gDE]
   exact this
def Zu(n:Nat)(l:List Cl):List Cl:=match n with
 |0=>[]
 |n+1=>l++Zu n l
def VV:∀(n w:Nat) (l:List V),l.length=w->0<w->∀j,j<n*w->((List.replicate n l).flatten).getD j .dead=l.getD (j % w) .dead:=by
 intro n w l u A
 induction n with
 |zero=>simp
 |succ n e=>
  intro j B;rw[List.replicate_succ,List.flatten_cons];by_cases h:j<w
  .rw[gDE,gAL (by omega),<-gDE,Nat.mod_eq_of_lt h]
  .have:=Nat.add_one_mul n w
   rw[gDE,gAR (by omega),<-gDE,u,e (j-w) (by omega),<-Nat.mod_eq_sub_mod (by omega)]
theorem U1(r:List Af)(t:Ty)(n:Nat)(u:0<t.w):(Zu n (HS t)).map (Cl.v r)=(List.range (n*t.w)).map λj=>.c ((B1 t).getD (j % t.w) undef):=by
 have e:(Zu n (HS t)).map (Cl.v r)=(List.replicate n ((B1 t).map V.c)).flatten:=by
  induction n with
  |zero=>rfl
  |succ n A=>
   show((HS t)++Zu n (HS t)).map (Cl.v r)=_;rw[List.map_append,A,IZ,List.replicate_succ,List.flatten_cons]
 have E:((B1 t).map V.c).length=t.w:=by rw[List.length_map,Hg]
 rw[e];apply List.ext_getElem
 .simp_all
 .intro j W U
  have J:=by simpa using U
  have g:=VV n t.w _ E u j J;rw[gDE,gEE W]at g;simp at g;rw[g];have B:j % t.w<(B1 t).length:=by rw[Hg];exact Nat.mod_lt _ u
  simp[B]
def Ty.noO:Ty->Bool
 |.osl _=>false
 |.clo _ t=>t.noO
 |.pair a b=>a.noO&&b.noO
 |_=>true
theorem IT:∀(t:Ty) (x:t.T),t.noO=true->∀v∈tyV t 0 x,Cc v=true
 |.int _,_,_,v,h=>by simp[tyV]at h;subst h;rfl
 |.bool,_,_,v,h=>by simp[tyV]at h;subst h;rfl
 |.str,_,_,v,h=>by simp[tyV]at h;subst h;rfl
 |.sl _,_,_,v,h=>by simp only[tyV,List.mem_singleton]at h;subst h;rfl
 |.ptr _,_,_,v,h=>by simp only[tyV,List.mem_singleton]at h;subst h;rfl
 |.unit,_,_,v,h=>by trivial
 |.pair a b,x,ho,v,h=>by
  simp only[Ty.noO,bAE]at ho;simp only[tyV,List.mem_append]at h;exact h.elim (IT a x.1 ho.1 v) (IT b x.2 ho.2 v)
 |.osl _,_,ho,_,_=>by cases ho
 |.clo g t,x,ho,v,h=>by
  simp only[tyV,List.mem_singleton]at h;subst h;show((List.range t.w).all λk=>Cc ((tyV t 0 x).getD k .dead))=true
  rw[aET];intro k e;have e:k<(tyV t 0 x).length:=by rw[Ay];grind
  rw[gDE,gEE e];exact IT t x ho _ (List.getElem_mem e)
def Cl.imm:Cl->Bool
 |.c .unit _ _=>false
 |.c (.pair _ _) _ _=>false
 |.c (.clo _ _) _ _=>false
 |.c (.osl _) _ _=>false
 |.c t d x=>!(Cl.c t d x).own
 |.nil=>true
 |.nilp=>true
 |.nilf=>true
 |_=>false
theorem Oq(h:y.imm=true):Cc (y.v r)=true/\y.v r=y.v0:=by
 cases y with
 |c t d x=>cases t<;>cases d<;>first|trivial|rfl
 |nil=>trivial
 |nilp=>trivial
 |nilf=>trivial
 |_=>cases h
def Cl.immF:Cl->Bool
 |.c (.clo _ t) _ _=>t.noO
 |y=>y.imm
theorem immF_v(h:y.immF=true):Cc (y.v r)=true:=by
 unfold Cl.immF at h;split at h
 .rename_i g t d x
  exact IT (.clo g t) x h _ (List.mem_singleton.2 rfl)
 .exact(Oq h).1
theorem Z7(h:l.all Cl.immF=true):(l.map (Cl.v r)).all Cc=true:=by
 rw[List.all_map,aET];intro y e;exact immF_v (aET.1 h y e)
theorem imms_v(h:l.all Cl.imm=true):(l.map (Cl.v r)).all Cc=true/\l.map (Cl.v r)=l.map Cl.v0:=by
 refine⟨?_,List.map_congr_left λy e=>(Oq (aET.1 h y e)).2⟩
 rw[List.all_map,aET];intro y e;exact(Oq (aET.1 h y e)).1
def D3(n:Nat)(ps:List (Nat×Option Sl)):Option TI->Option TR
 |some j=>bif Nat.blt 0 j.ty.w&&Nat.ble (n*j.ty.w) 16777216 then(bif Nat.beq n 0 then(match ps with
  |[]=>some (.ok (.one (.c (.sl j.ty) (j.sd+1) [])))
  |_::_=>none)else match P6 (λi=>some (i*j.ty.w,j.ty.w)) (Zu n (HS j.ty)) ps with
   |some l=>bif l.all Cl.immF then(match M2 j.ty j.sd n l with
    |some xs=>some (.ok (.one (.c (.sl j.ty) (j.sd+1) xs)))
    |none=>match M2 j.ty 0 n l with
     |some xs=>some (.ok (.one (.c (.sl j.ty) 1 xs)))
     |none=>none)else none
   |none=>none)
  else none
 |none=>none
theorem HX(Z:Θ.OK P){n:Nat}(h:D3 n (ps.toList.map λp=>(p.1,s.ev p.2)) (((Θ.look t).bind (·.elem)).bind Θ.look)=some a):QS P s (.buildSlice t n ps) a.y:=by
 unfold D3 at h;split at h
 case h_2=>cases h
 rename_i j hj;obtain⟨e,B,_⟩:=DH Z hj;cases J:(Nat.blt 0 j.ty.w&&Nat.ble (n*j.ty.w) 16777216)with
 |false=>rw[J]at h;cases h
 |true=>
  rw[J]at h;simp only[bAE]at J;have hw:=KP J.1;have hn:=blE J.2;simp only[cond_true]at h;cases U:Nat.beq n 0 with
  |true=>
   rw[U]at h;simp only[cond_true]at h;have U:=bqE U;subst U;split at h
   case h_2=>cases h
   rename_i hps;cases h;have E:ps.toList=[]:=by simpa using hps
   show B7 (slI P t) (Zp P t) 0 (ps.toList.map λp=>(p.1,s.den.ev p.2)) (SK s _)
   rw[B,E];refine⟨rfl,⟨hw,hn⟩,?_⟩;simp only[Nat.zero_mul,List.range_zero,List.map_nil,Cd];refine⟨rfl,?_⟩;refine(Eqv.sub (Eqv.symm (Lb (Zp P t) j.ty.w 0 _))).trans ?_;show Sub _ (arr true j.ty.w (tyV j.ty j.sd) j.ty.dflt []);exact⟨_,rfl,λi k W hk=>by omega⟩
  |false=>
  rw[U]at h;simp only[cond_false]at h;split at h
  case h_2=>cases h
  rename_i l hl;obtain⟨W,h⟩:=Bb h
  have A:∀(d:Nat) (xs:List j.ty.T),M2 j.ty d n l=some xs->a=.ok (.one (.c (.sl j.ty) (d+1) xs))->QS P s (.buildSlice t n ps) a.y:=by
   intro d xs u ha;subst ha;obtain⟨h1,h2⟩:=K6 _ _ _ hl;rw[U1 s.r j.ty n hw]at h2;show B7 (slI P t) (Zp P t) n (ps.toList.map λp=>(p.1,s.den.ev p.2)) (SK s _)
   rw[B];refine⟨h1,⟨hw,hn⟩,?_⟩;rw[h2];refine⟨Z7 W,?_⟩;obtain⟨g1,g2,g3⟩:=N7 s.r n l xs u;refine(Eqv.sub (Eqv.symm (Lb (Zp P t) j.ty.w n _))).trans ?_;show Sub _ (arr true j.ty.w (tyV j.ty d) j.ty.dflt xs);unfold arr;rw[g1];exact⟨_,rfl,λi k W hk=>g3 i k W hk⟩
  split at h
  .rename_i xs u
   cases h;exact A _ xs u rfl
  .split at h
   case h_2=>cases h
   rename_i xs u;cases h;exact A 0 xs u rfl
def UM:Option TI->Option TR
 |some i=>bif Nat.blt 0 i.ty.w then some (.ok (.new (Q9 i.ty)))else none
 |none=>none
theorem Mp(e:Θ.OK P)(h:UM (Θ.look t)=some a):QS P s (.alloc t) a.y:=by
 unfold UM at h;split at h
 case h_2=>grind
 rename_i i A;cases u:Nat.blt 0 i.ty.w with
 |false=>grind
 |true=>
  rw[u]at h;cases h;show MU (tyI P t) (SK s _);rw[e.ty A];exact⟨KP u,(NJ i.ty).obj⟩
def tBox:Option Sl->Option TR
 |some y=>match y.cells with
  |some l=>bif l.all Cl.imm then some (.ok (.new l))else some (.ok (.pk .bx l))
  |none=>none
 |none=>none
theorem P7{x:Operand}(h:tBox (s.ev x)=some a):QS P s (.box t x) a.y:=by
 unfold tBox at h;split at h
 case h_2=>grind
 rename_i y B;split at h
 case h_2=>grind
 rename_i l E;cases e:l.all Cl.imm with
 |false=>
  rw[e]at h;cases h;obtain⟨A,u,_⟩:=CL E;show qBox (s.den.ev x) (SK s _);rw[Bh B];refine⟨A,.inr ?_⟩;rw[u];exact Sub.refl _
 |true=>
  rw[e]at h;cases h;obtain⟨A,u,_⟩:=CL E;obtain⟨g1,g2⟩:=imms_v (r:=s.r) e;show qBox (s.den.ev x) (SK s _);rw[Bh B];refine⟨A,.inl ⟨by grind,?_⟩⟩
  rw[u,g2];exact Sub.refl _
def Zb:Option TI->Option Sl->Option Sl->Option TR
 |some j,some (.one (.c (.int _) _ l)),some (.one (.c (.int _) _ c))=>
  bif Nat.blt 0 j.ty.w&&j.ty.noPtr then some (.cnd (0<=l/\l<=c/\(j.bytes:Int)*c<=281474976710656/\c<=9223372036854775807) inferInstance (.one (.c (.sl j.ty) (j.sd+1) (Yf (J0 l) j.ty.dflt))))else none
 |_,_,_=>none
theorem Qv(e:Bool){t:Ty}(d n:Nat)(h:t.noPtr=true):Sub (Vw e t.w n (B1 t)) (cV (.sl t) (d+1) (List.replicate n t.dflt)):=by
 have u:Sub (arr true t.w (λx=>x) [] (List.replicate n ((B1 t).map .c))) (cV (.sl t) (d+1) (List.replicate n t.dflt)):=by
  have E:cV (.sl t) (d+1) (List.replicate n t.dflt)=arr true t.w (tyV t d) t.dflt (List.replicate n t.dflt):=by rfl
  rw[E];unfold arr;rw[List.length_replicate,List.length_replicate];refine⟨_,rfl,λi k J _=>?_⟩
  have B:(List.replicate n ((B1 t).map V.c)).getD i []=(B1 t).map .c:=by grind
  have A:(List.replicate n t.dflt).getD i t.dflt=t.dflt:=by grind
  show Sub (((List.replicate n ((B1 t).map V.c)).getD i []).getD k .dead) ((tyV t d ((List.replicate n t.dflt).getD i t.dflt)).getD k .dead);rw[B,A];exact(NI d t h).getD k
 trivial
theorem NT(A:Θ.OK P){l c:Operand}(h:Zb (((Θ.look t).bind (·.elem)).bind Θ.look) (s.ev l) (s.ev c)=some a)(E:a.p):QS P s (.makeSlice t l c) a.y:=by
 unfold Zb at h;split at h
 case h_2=>grind
 rename_i j _ _ li _ _ Z U J W;obtain⟨e,B,_⟩:=DH A U;cases u:(Nat.blt 0 j.ty.w&&j.ty.noPtr)with
 |false=>grind
 |true=>
  rw[u]at h;simp only[bAE]at u;cases h;show Vf (slI P t) (Zp P t) (s.den.ev l) (s.den.ev c) (SK s _);rw[B,Bh J,Bh W];exact⟨KP u.1,E,Qv _ _ _ u.2⟩
def Kb:Option (Option Sl)->Option (Option Int)
 |none=>some none
 |some (some (.one (.c (.int _) _ n)))=>some (some n)
 |_=>none
def Ux(s:St):Option TI->Option TI->Option Sl->Option (Option Int)->Option (Option Int)->Option TR
 |some i,_,some (.one (.c .str _ b)),some lo,some hi=>
  bif i.str then some (.cnd (0<=lo.getD 0/\lo.getD 0<=hi.getD (ofN (NY b))/\hi.getD (ofN (NY b))<=ofN (NY b)) inferInstance (.one (.c .str 0 (cutS b (J0 (lo.getD 0)) (J0 (hi.getD (ofN (NY b))))))))else none
 |some i,some j,some (.one (.c (.sl t) 0 xs)),some lo,some hi=>
  bif Nat.beq t.w j.ty.w&& !i.str then some (.cnd (0<=lo.getD 0/\lo.getD 0<=hi.getD (ofN (Ib xs))/\hi.getD (ofN (Ib xs))<=ofN (Ib xs)) inferInstance
   (.one (.c (.sl t) 0 (match lo,hi with
    |none,none=>xs
    |some l,none=>OB (J0 l) xs
    |none,some h=>NN (J0 h) xs
    |some l,some h=>NN (J0 h-J0 l) (OB (J0 l) xs)))))else none
 |some i,some j,some (.one (.rf id p)),some lo,some hi=>
  match Ai s.r id p with
  |.arr _ t _ xs=>bif Nat.beq t.w j.ty.w&& !i.str then some (.cnd (0<=lo.getD 0/\lo.getD 0<=hi.getD (ofN (Ib xs))/\hi.getD (ofN (Ib xs))<=ofN (Ib xs)) inferInstance
    (.one (.rs id p (J0 (lo.getD 0)) (J0 (hi.getD (ofN (Ib xs)))-J0 (lo.getD 0)))))else none
  |_=>none
 |some i,some j,some (.one (.rs id p off len)),some lo,some hi=>
  match Ai s.r id p with
  |.arr _ t _ _=>bif Nat.beq t.w j.ty.w&& !i.str then some (.cnd (0<=lo.getD 0/\lo.getD 0<=hi.getD (ofN len)/\hi.getD (ofN len)<=ofN len) inferInstance
    (.one (.rs id p (off+J0 (lo.getD 0)) (J0 (hi.getD (ofN len))-J0 (lo.getD 0)))))else none
  |_=>none
 |_,_,_,_,_=>none
theorem CP{l:Option Int}(h:Kb (lo.map s.ev)=some l)(d:Int):bnd d (lo.map s.den.ev)=some (l.getD d):=by
 cases lo with
 |none=>cases h;rfl
 |some x=>
  simp at h⊢;unfold Kb at h;split at h
  .grind
  .rename_i e
   cases h;simp at e;rw[Bh e];rfl
  grind
theorem Mh{s:St}(hΘ:Θ.OK P){t:TypeId}{x:Operand}{lo e:Option Operand}{a:TR}
  (h:Ux s (Θ.look t) (((Θ.look t).bind (·.elem)).bind Θ.look) (s.ev x) (Kb (lo.map s.ev)) (Kb (e.map s.ev))=some a) (hp:a.p):QS P s (.slice t x lo e none) a.y:=by
 unfold Ux at h;have J:∀y,Kj (slK P t) (s.r.map Af.v) (s.den.ev x) (lo.map s.den.ev) (e.map s.den.ev) (SK s y)->QS P s (.slice t x lo e none) y:=λy h=>⟨rfl,h⟩
 have skS:∀{i j:TI},Θ.look t=some i->((Θ.look t).bind (·.elem)).bind Θ.look=some j->i.str=false->slK P t=.slice j.ty.w:=by
  intro i j e Z hs;rw[hΘ.sk e,hs];rw[e]at Z;simp only[Option.bind_some]at Z;rw[Z];rfl
 split at h
 case h_5=>cases h
 .rename_i i _ b l u hI hx B E
  obtain⟨hb,h⟩:=Bb h;cases h;refine J _ ?_;rw[hΘ.sk hI,hb,Bh hx];unfold Kj
  show(match bnd 0 (lo.map s.den.ev),bnd b.size (e.map s.den.ev)with
   |some l,some h=>_
   |_,_=>False)
  rw[CP B,CP E];exact⟨hp,Sub.refl _⟩
 .rename_i i j A xs l u hI Z hx B E
  obtain⟨hb,h⟩:=Bb h;cases h;obtain⟨h1,U⟩:=Im hb;have U:i.str=false:=by simpa using U
  refine J _ ?_;rw[skS hI Z U,Bh hx]
  show(match bnd 0 (lo.map s.den.ev),bnd xs.length (e.map s.den.ev)with
   |some l,some h=>_
   |_,_=>False)
  rw[CP B,CP E];refine⟨h1,hp,?_⟩;obtain⟨p1,p2,p3⟩:0<=l.getD 0/\l.getD 0<=u.getD xs.length/\u.getD xs.length<=xs.length:=hp;show Sub (V.nd true false A.w ((u.getD xs.length).toNat-(l.getD 0).toNat) λi k=>(tyV A 0 (xs.getD (i+(l.getD 0).toNat) A.dflt)).getD k .dead) (arr false A.w (tyV A 0) A.dflt _)
  have W:∀ys:List A.T,ys.length=(u.getD xs.length).toNat-(l.getD 0).toNat->(∀i,i<ys.length->ys.getD i A.dflt=xs.getD (i+(l.getD 0).toNat) A.dflt)->
    Sub (V.nd true false A.w ((u.getD xs.length).toNat-(l.getD 0).toNat) λi k=>(tyV A 0 (xs.getD (i+(l.getD 0).toNat) A.dflt)).getD k .dead) (arr false A.w (tyV A 0) A.dflt ys):=by
   intro ys hl hg;unfold arr;rw[hl];refine⟨_,rfl,λi k e _=>?_⟩
   rw[hg i (by omega)]
   exact Sub.refl _
  cases l with
  |none=>cases u with
   |none=>exact W xs (by simp) λi e=>by simp
   |some u=>
    simp only[Option.getD_none,Option.getD_some]at p1 p2 p3⊢;refine W _ ?_ λi e=>?_
    .simp only[J0,List.length_take];simp;omega
    .simp only[J0,List.length_take]at e
     have:i<u.toNat:=by omega
     simp[List.getElem?_take,this]
  |some l=>cases u with
   |none=>
    simp only[Option.getD_none,Option.getD_some]at p1 p2 p3⊢;refine W _ ?_ λi e=>?_
    .simp
    .simp[Nat.add_comm]
   |some u=>
    simp only[Option.getD_some]at p1 p2 p3⊢;refine W _ ?_ λi e=>?_
    .simp only[J0,Option.getD_some,List.length_take,List.length_drop];omega
    .simp only[J0,List.length_take,List.length_drop]at e
     have:i<u.toNat-l.toNat:=by omega
     simp[List.getElem?_take,this,Nat.add_comm]
 .rename_i i j id p l u hI Z hx B E
  split at h
  case h_2=>cases h
  rename_i ro A d xs hn;have hne:Ai s.r id p≠.dead:=by rw[hn];simp
  obtain⟨hb,h⟩:=Bb h;cases h;obtain⟨h1,U⟩:=Im hb;have U:i.str=false:=by simpa using U
  refine J _ ?_;rw[skS hI Z U,Bh hx];have hl:(Ai s.r id p).len=xs.length:=by rw[hn];rfl
  show(match bnd 0 (lo.map s.den.ev),bnd (Ai s.r id p).len (e.map s.den.ev)with
   |some l,some h=>_
   |_,_=>False)
  rw[CP B,CP E,hl];refine⟨by rw[Ci (by rw[hn];rfl),hn];exact h1,hp,?_⟩
  show Sub (V.rs id p (0+(l.getD 0).toNat) _) (V.rs id p (l.getD 0).toNat _);rw[Nat.zero_add];exact Sub.refl _
 .rename_i i j id p off len l u hI Z hx B E
  split at h
  case h_2=>cases h
  rename_i ro A d xs hn;have hne:Ai s.r id p≠.dead:=by rw[hn];simp
  obtain⟨hb,h⟩:=Bb h;cases h;obtain⟨h1,U⟩:=Im hb;have U:i.str=false:=by simpa using U
  refine J _ ?_;rw[skS hI Z U,Bh hx]
  show(match bnd 0 (lo.map s.den.ev),bnd len (e.map s.den.ev)with
   |some l,some h=>_
   |_,_=>False)
  rw[CP B,CP E];exact⟨by rw[Ci (by rw[hn];rfl),hn];exact h1,hp,Sub.refl _⟩
end Go.Ve


namespace Go.Ve
variable{b:Bool}{y y':Cl}{f:FuncId}{r:List Af}{ys:List Sl}{g:Nat}{D fp:Nat->Prop}{t1 t2:Nat->Sl}{op:Op}{x:Operand}{P:Program}{s:St}{a:TR}{Θ:Tab}{t:Ty}{v:V}{R:V->Value->Prop}{cv:Value}{w:World}
def PT:List (Bool×Ty)->Ty
 |[]=>.unit
 |[p]=>p.2
 |p::q::l=>.pair p.2 (PT (q::l))
def vOf(b:Bool)(t:Ty)(d:Nat)(x:t.T):V:=if b then An (tyV t d x)else cV t d x
def Ct:(l:List (Bool×Ty))->(PT l).T->List V
 |[],_=>[]
 |[p],x=>[vOf p.1 p.2 0 x]
 |p::q::l,x=>vOf p.1 p.2 0 x.1::Ct (q::l) x.2
def RT:List (Bool×Nat×Ty)->Ty
 |[]=>.unit
 |[p]=>p.2.2
 |p::q::l=>.pair p.2.2 (RT (q::l))
def Zs:(l:List (Bool×Nat×Ty))->(RT l).T->List V
 |[],_=>[]
 |[p],x=>[vOf p.1 p.2.2 p.2.1 x]
 |p::q::l,x=>vOf p.1 p.2.2 p.2.1 x.1::Zs (q::l) x.2
def U0(l:List (Bool×Nat×Ty))(x:(RT l).T):V:=M1 (Zs l x)
def isP(p:Bool×Nat×Ty):Bool:=!p.1&&match p.2.2 with
 |.ptr _=>true
 |_=>false
def WA(b:Bool)(p:Bool×Nat×Ty)(x:p.2.2.T):V:=bif b|| !isP p then vOf p.1 p.2.2 p.2.1 x else .c (.pointer none)
def Qe(b:Bool):(l:List (Bool×Nat×Ty))->(RT l).T->List V
 |[],_=>[]
 |[p],x=>[WA b p x]
 |p::q::l,x=>WA b p x.1::Qe b (q::l) x.2
def UZ:∀(l:List (Bool×Nat×Ty)) (x:(RT l).T),Qe true l x=Zs l x
 |[],_=>rfl
 |[_],_=>rfl
 |p::q::l,x=>congrArg (vOf p.1 p.2.2 p.2.1 x.1:: ·) (UZ (q::l) x.2)
def JY(b:Bool)(l:List (Bool×Nat×Ty))(x:(RT l).T):V:=M1 (Qe b l x)
def D5(l:List (Bool×Nat×Ty))(x:(RT l).T):JY true l x=U0 l x:=congrArg M1 (UZ l x)
structure Sig where
 ps:List (Bool×Ty)
 rs:List (Bool×Nat×Ty)
def FT(P:Program)(f:FuncId)(S:Sig)(g:(PT S.ps).T->Option (RT S.rs).T):Prop:=∀x y,g x=some y->FC P f (Ct S.ps x) (U0 S.rs y)
structure En where
 f:FuncId
 S:Sig
 g:(PT S.ps).T->Option (RT S.rs).T
variable{Γ:List En}
def look:List En->FuncId->Option En
 |[],_=>none
 |e::l,f=>bif Nat.beq e.f f then some e else look l f
def En.OK(P:Program)(e:En):Prop:=A5 P e.f=true/\FT P e.f e.S e.g
def He(P:Program)(Γ:List En):Prop:=∀e∈Γ,e.OK P
theorem FC.sub{P:Program}{f:FuncId}{args e:List V}{r:V}(h:FC P f args r)(hs:CV e args):FC P f e r:=by
 intro w D cvs B E u A;refine h w D cvs B E (by rw[u,hs.len]) λi J=>Rel.sub (hs.getD i) (A i (by rw[hs.len];grind))
structure EnN where
 f:FuncId
 S:Sig
 g:(PT S.ps).T->Option (Bool×(RT S.rs).T)
def EnN.OK(_:Program)(_:EnN):Prop:=False
def Om(s:St)(w:Nat):Cl->Option Cl
 |.c t _ x=>bif t.one then some (.c t 0 x)else none
 |.nil=>some .nil
 |.rf id p=>match Ai s.r id p with
  |.arr _ t _ xs=>some (.c (.sl t) 0 xs)
  |_=>none
 |.rs id p off len=>match Ai s.r id p with
  |.arr _ t _ xs=>some (.c (.sl t) 0 (Mq off len xs t.dflt))
  |_=>none
 |.rp id p j k=>match Ai s.r id p with
  |.obj _ l=>match j with
   |0=>bif Nat.ble (k+w) l.length then(match Ha ((l.drop k).take w)with
    |some ⟨t,x⟩=>some (.c (.ptr t) 0 x)
    |none=>none)else none
   |_+1=>none
  |.arr _ t _ xs=>bif Nat.ble (k+w) t.w then(match Ha (((AB t 0 (AaI xs j t.dflt)).drop k).take w)with
   |some ⟨e,x⟩=>some (.c (.ptr e) 0 x)
   |none=>none)else none
  |_=>none
 |_=>none
theorem Pv(h:t.one=true)(d:Nat)(x:t.T):frz (cV t d x)=cV t 0 x:=by
 have:=Bl t d x;rw[BM h,BM h]at this
 grind
def XX(v v':V):Prop:=Sub v v'\/∃sz e n f,v=.nd false false sz n f/\e<=sz/\Sub (.nd false false e n f) v'
theorem Rel.trunc{sz e n:Nat}{f:Nat->Nat->V}(h:Rel D w R (.nd false false sz n f) cv fp)(hs:e<=sz):Rel D w R (.nd false false e n f) cv fp:=by
 rcases h with h|⟨b,o,cap,F,J,B,A,u,W,hi,ho⟩
 .grind
 have Z:=u rfl;subst Z;refine .inr ⟨b,o,cap,F,J,B,A,u,λi k hi hk=>?_,λhh=>?_,λh=>by cases h⟩
 .obtain rfl:i=0:=by omega
  obtain⟨x,U,E⟩:=W 0 k (by omega) (by omega)
  exact⟨x,by simpa using U,E⟩
 grind
theorem Rel.sub1{v':V}(e:XX v v')(h:Rel D w R v cv fp):Rel D w R v' cv fp:=by
 rcases e with e|⟨sz,u,n,f,rfl,hs,e⟩
 .exact Rel.sub e h
 .exact Rel.sub e (h.trunc hs)
def IF:List V->List V->Prop
 |[],[]=>True
 |a::l,b::m=>XX a b/\IF l m
 |_,_=>False
def IF.len:∀{l m:List V},IF l m->l.length=m.length
 |[],[],_=>rfl
 |_::_,_::_,h=>by simp[IF.len h.2]
 |[],_::_,h=>h.elim
 |_::_,[],h=>h.elim
def IF.getD:∀{l m:List V} (_:IF l m) (k:Nat),XX (l.getD k .dead) (m.getD k .dead)
 |[],[],_,_=>.inl (Sub.refl _)
 |_::_,_::_,h,0=>h.1
 |_::_,_::_,h,k+1=>IF.getD h.2 k
 |[],_::_,h,_=>h.elim
 |_::_,[],h,_=>h.elim
theorem FC.sub1{P:Program}{f:FuncId}{args e:List V}{r:V}(h:FC P f args r)(hs:IF e args):FC P f e r:=by
 intro w D cvs B E u A;refine h w D cvs B E (by rw[u,hs.len]) λi J=>Rel.sub1 (hs.getD i) (A i (by rw[hs.len];grind))
theorem IX{x:t.T}(h:v∈tyV t 0 x):Go.Ve.frz v=v:=by
 obtain⟨i,u,rfl⟩:=List.getElem_of_mem h;have e:=Bl t 0 x
 grind
theorem C5{σ:List V}:∀(t:Ty) (x:t.T),∀v∈tyV t 0 x,BR σ v=v
 |.int _,_,v,h=>by simp[tyV]at h;subst h;rfl
 |.bool,_,v,h=>by simp[tyV]at h;subst h;rfl
 |.str,_,v,h=>by simp[tyV]at h;subst h;rfl
 |.sl t,x,v,h=>by
  have e:=IX (x:=x) h;simp only[tyV,List.mem_singleton]at h;subst h;exact e
 |.ptr t,x,v,h=>by
  have e:=IX (x:=x) h;simp only[tyV,List.mem_singleton]at h;subst h;exact e
 |.unit,_,v,h=>by simp[tyV]at h
 |.pair a b,x,v,h=>by
  simp only[tyV,List.mem_append]at h;exact h.elim (C5 a x.1 v) (C5 b x.2 v)
 |.osl t,x,v,h=>by
  have e:=IX (x:=x) h;simp only[tyV,List.mem_singleton]at h;subst h;cases x with
  |none=>rfl
  |some xs=>exact e
 |.clo g t,x,v,h=>by
  simp only[tyV,List.mem_singleton]at h;subst h;show(if Tg.cl g=.bx then _ else V.many (.cl g) t.w λk=>BR σ ((tyV t 0 x).getD k .dead))=_
  rw[if_neg (by intro h;cases h)]
  congr 1
  funext k
  by_cases u:k<(tyV t 0 x).length
  .rw[gDE,gEE u]
   exact C5 t x _ (List.getElem_mem u)
  .rw[gDE,List.getElem?_eq_none (by omega)];rfl
theorem HD:∀(t:Ty) (x:t.T),∀v∈tyV t 0 x,AM v=false
 |.int _,_,v,h=>by simp[tyV]at h;subst h;rfl
 |.bool,_,v,h=>by simp[tyV]at h;subst h;rfl
 |.str,_,v,h=>by simp[tyV]at h;subst h;rfl
 |.sl _,_,v,h=>by simp[tyV,List.mem_singleton]at h;subst h;rfl
 |.ptr _,_,v,h=>by simp[tyV,List.mem_singleton]at h;subst h;rfl
 |.unit,_,v,h=>by trivial
 |.pair a b,x,v,h=>by
  simp[tyV,List.mem_append]at h;exact h.elim (HD a x.1 v) (HD b x.2 v)
 |.osl t,x,v,h=>by
  simp[tyV,List.mem_singleton]at h;subst h;cases x<;>rfl
 |.clo g t,x,v,h=>by
  simp[tyV,List.mem_singleton]at h;subst h;show((List.range t.w).any λk=>AM ((tyV t 0 x).getD k .dead))=false
  rw[List.any_eq_false];intro k e;have e:k<(tyV t 0 x).length:=by rw[Ay];grind
  rw[gDE,gEE e];simp[HD t x _ (List.getElem_mem e)]
def Xu{σ:List V}{u:Ty}{d:Nat}{x:u.T}:BR σ (cV (.clo g u) d x)=Go.Ve.frz (cV (.clo g u) d x):=by
 have e:cV (.clo g u) d x∈tyV (.clo g u) 0 x:=List.mem_singleton.2 rfl;rw[C5 _ _ _ e,IX e]
theorem Ly{w:Nat}(h:Om s w y=some y'):XX (BR (s.r.map Af.v) (y.v s.r)) y'.v0/\y'.v0=y'.v s.r/\((∀id p i k,y≠.rp id p i k)->Sub (BR (s.r.map Af.v) (y.v s.r)) y'.v0):=by
 have u:∀{v v':V},Sub v v'->XX v v'/\((∀id p i k,y≠.rp id p i k)->Sub v v'):=λh=>⟨.inl h,λ_=>h⟩
 unfold Om at h;split at h
 .rename_i t d x
  cases U:t.one with
  |false=>rw[U]at h;cases h
  |true=>
   rw[U]at h;cases h
   have:Sub (BR (s.r.map Af.v) (cV t d x)) (cV t 0 x):=by
    rw[<-Pv U d x];cases t<;>first|exact Sub.refl _|(cases U;done)|(cases x<;>exact Sub.refl _)|exact Sub.of_eq Xu
   exact⟨(u this).1,rfl,(u this).2⟩
 .cases h;exact⟨(u (Sub.refl _)).1,rfl,(u (Sub.refl _)).2⟩
 .rename_i id p
  split at h
  case h_2=>cases h
  rename_i ro t d xs B;cases h;have A:Ai s.r id p≠.dead:=by rw[B];simp
  have:Sub (BR (s.r.map Af.v) (V.rs id p 0 (Ai s.r id p).len)) (cV (.sl t) 0 xs):=by
   rw[Oj,A1 A,B];show Sub (VE (arr true t.w (tyV t d) t.dflt xs) 0 xs.length) _;rw[Nd rfl];have e:(λa=>(tyV t d a).map frz)=tyV t 0:=funext λx=>Bl t d x
   rw[e];exact Sub.refl _
  exact⟨(u this).1,rfl,(u this).2⟩
 .rename_i id p off len
  split at h
  case h_2=>cases h
  rename_i ro t d xs B;cases h;have A:Ai s.r id p≠.dead:=by rw[B];simp
  have:Sub (BR (s.r.map Af.v) (V.rs id p off len)) (cV (.sl t) 0 (Mq off len xs t.dflt)):=by
   rw[Oj,A1 A,B];show Sub (VE (arr true t.w (tyV t d) t.dflt xs) off len) (arr false t.w (tyV t 0) t.dflt (Mq off len xs t.dflt));unfold arr;have J:(Mq off len xs t.dflt).length=len:=by simp[Mq]
   rw[J];refine⟨_,rfl,λi k hi W=>Sub.of_eq ?_⟩
   have hg:(Mq off len xs t.dflt).getD i t.dflt=xs.getD (off+i) t.dflt:=by simp[Mq,hi]
   rw[hg,<-Bl t d];exact(AN (f:=frz) (a:=.dead) rfl (tyV t d (xs.getD (off+i) t.dflt)) k).symm
  exact⟨(u this).1,rfl,(u this).2⟩
 .rename_i id p j k
  split at h
  .rename_i ro l B
   have A:Ai s.r id p≠.dead:=by rw[B];simp
   split at h
   case h_2=>cases h
   cases E:Nat.ble (k+w) l.length with
   |false=>rw[E]at h;cases h
   |true=>
    rw[E]at h;have E:=blE E;simp only[cond_true]at h;split at h
    case h_2=>cases h
    rename_i t x hf;cases h;refine⟨.inr ⟨l.length-k,w,1,λi' k'=>([((l.drop k).map Cl.v0).map frz].getD i' []).getD k' .dead,?_,by omega,?_⟩,rfl,λh=>absurd rfl (h _ _ _ _)⟩
    .show BR (s.r.map Af.v) (V.rp id p 0 k)=_
     rw[Ok,A1 A,B];show Xw (Bj true (l.map Cl.v0)) 0 k=_;rw[Kw];unfold Bj;simp only[List.map_drop,List.length_drop,List.length_map]
    .show Sub _ (Bj false (tyV t 0 x))
     have e:=DG _ _ hf;unfold Bj;have J:(tyV t 0 x).length=w:=by rw[e];simp;omega
     rw[J];refine⟨_,rfl,λi' k' hi W=>?_⟩
     obtain rfl:i'=0:=by omega
     refine Sub.of_eq ?_;show(((l.drop k).map Cl.v0).map frz).getD k' .dead=(tyV t 0 x).getD k' .dead;rw[e];simp[List.getElem?_take,W]
  .rename_i ro t d xs B
   have A:Ai s.r id p≠.dead:=by rw[B];simp
   cases E:Nat.ble (k+w) t.w with
   |false=>rw[E]at h;cases h
   |true=>
    rw[E]at h;have E:=blE E;simp only[cond_true]at h;split at h
    case h_2=>cases h
    rename_i Z x hd;cases h;refine⟨.inr ⟨t.w-k,w,1,λi' j'=>if i'=0 then frz ((tyV t d (xs.getD j t.dflt)).getD (k+j') .dead)else .dead,?_,by omega,?_⟩,rfl,λh=>absurd rfl (h _ _ _ _)⟩
    .show BR (s.r.map Af.v) (V.rp id p j k)=_
     rw[Ok,A1 A,B];rfl
    .show Sub _ (Bj false (tyV Z 0 x))
     have e:=DG _ _ hd;rw[List.map_take,List.map_drop,BL,List.map_take,List.map_drop,Bl]at e;unfold Bj;have J:(tyV Z 0 x).length=w:=by rw[e];simp[Ay];omega
     rw[J];refine⟨_,rfl,λi' k' hi W=>?_⟩
     obtain rfl:i'=0:=by omega
     refine Sub.of_eq ?_;simp only[if_true];show _=(tyV Z 0 x).getD k' .dead;rw[e,<-Bl t d];have:=AN (f:=frz) (a:=.dead) rfl (tyV t d (xs.getD j t.dflt)) (k+k');rw[<-this];simp only[gDE,List.getElem?_take,W,if_true,List.getElem?_drop]
  .cases h
 .cases h
def Nf(s:St):List Cl->Option (List Cl)
 |[]=>some []
 |y::l=>match(match y with
   |.rp _ _ _ _=>none
   |y=>Om s 0 y)with
  |some y'=>match Nf s l with
   |some e=>some (y'::e)
   |none=>none
  |none=>none
theorem Lw{s:St}:∀{l e:List Cl},Nf s l=some e->CV ((l.map (Cl.v s.r)).map (BR (s.r.map Af.v))) (e.map (Cl.v s.r))
 |[],e,h=>by cases h;trivial
 |y::l,e,h=>by
  unfold Nf at h;split at h
  case h_2=>grind
  rename_i y' u;split at h
  case h_2=>grind
  rename_i m B;cases h;have A:∀id p i k,y≠.rp id p i k:=by grind
  have u:Om s 0 y=some y':=by
   grind
  obtain⟨_,E,J⟩:=Ly u;exact⟨by grind,Lw B⟩
def VF(s:St):Cl->Option Cl
 |.rp id p i k=>match i,k with
  |0,0=>match Ai s.r id p with
   |.obj _ l=>match Ha l with
    |some ⟨t,x⟩=>some (.c (.ptr t) 0 x)
    |none=>none
   |_=>none
  |_,_=>none
 |y=>Om s 0 y
theorem ZU(h:VF s y=some y'):Sub (BR (s.r.map Af.v) (y.v s.r)) y'.v0/\y'.v0=y'.v s.r:=by
 by_cases A:∃id p i k,y=.rp id p i k
 .obtain⟨id,p,i,k,rfl⟩:=A
  unfold VF at h;simp at h;split at h
  case h_2=>cases h
  split at h
  case h_2=>cases h
  rename_i ro l B;split at h
  case h_2=>cases h
  rename_i t x E;cases h;have u:Ai s.r id p≠.dead:=by grind
  refine⟨?_,rfl⟩;show Sub (BR (s.r.map Af.v) (V.rp id p 0 0)) (Bj false (tyV t 0 x));rw[Ok,A1 u,B];show Sub (Xw (Bj true (l.map Cl.v0)) 0 0) _;rw[Kw,DG _ _ E];exact Sub.refl _
 .have u:=λid p i k e=>A ⟨id,p,i,k,e⟩
  have h:Om s 0 y=some y':=by
   cases y with
   |rp id p i k=>grind
   |_=>exact h
  obtain⟨_,J,U⟩:=Ly h
  grind
def Jv(s:St):List Cl->Option (List Cl)
 |[]=>some []
 |y::l=>match VF s y with
  |some y'=>match Jv s l with
   |some e=>some (y'::e)
   |none=>none
  |none=>none
theorem Lx{s:St}:∀{l e:List Cl},Jv s l=some e->CV ((l.map (Cl.v s.r)).map (BR (s.r.map Af.v))) (e.map (Cl.v s.r))
 |[],e,h=>by cases h;trivial
 |y::l,e,h=>by
  unfold Jv at h;split at h
  case h_2=>grind
  rename_i y' u;split at h
  case h_2=>grind
  rename_i m A;cases h;obtain⟨E,B⟩:=ZU u;exact⟨by grind,Lx A⟩
theorem CV.pk{t:Tg}{l m:List V}(h:CV l m):Sub (pkL t l) (pkL t m):=by
 unfold pkL;rw[h.len];exact⟨_,rfl,λk _=>h.getD k⟩
def IK(s:St)(b:Bool)(t:Ty):Option Sl->Option t.T
 |some (.one y)=>bif b then none else bif t.one then(match Om s (match t with
   |.ptr u=>u.w
   |_=>0) y with
  |some y'=>D7 t 0 y'
  |none=>none)else none
 |some (.agg l)=>bif b then(match Nf s l with
  |some e=>H7 t 0 e
  |none=>none)else none
 |some (.pk .bx l)=>bif b then none else(match t with
  |.ptr u=>(match Nf s l with
   |some e=>H7 u 0 e
   |none=>none)
  |_=>none)
 |some (.pk (.cl g) l)=>bif b then none else(match t with
  |.clo A u=>bif Nat.beq g A then(match Jv s l with
   |some e=>H7 u 0 e
   |none=>none)else none
  |_=>none)
 |_=>none
theorem CV.trans:∀{a b c:List V},CV a b->CV b c->CV a c:=by
 intro a
 induction a with
 |nil=>intro b c A e;cases b<;>first|rfl|trivial
 |cons v a B=>intro b c A e;cases b with
  |nil=>trivial
  |cons w b=>cases c with
   |nil=>trivial
   |cons u c=>exact⟨A.1.trans e.1,B A.2 e.2⟩
theorem Mo{z:t.T}(h:IK s b t (s.ev x)=some z):XX (BR (s.r.map Af.v) (s.den.ev x)) (vOf b t 0 z):=by
 unfold IK at h;split at h
 case h_5=>cases h
 .rename_i y A
  cases b with
  |true=>cases h
  |false=>
   cases ho:t.one with
   |false=>rw[ho]at h;cases h
   |true=>
    rw[ho]at h;simp only[cond_false,cond_true]at h;split at h
    case h_2=>cases h
    rename_i y' B;obtain⟨E,W,_⟩:=Ly B;obtain⟨g1,g2⟩:=Ln h s.r;rw[Bh A];have g1:Sub y'.v0 (vOf false t 0 z):=W▸g1;rcases E with E|⟨sz,J,n,f,e1,e2,e3⟩
    .exact .inl (E.trans g1)
    .exact .inr ⟨sz,J,n,f,e1,e2,e3.trans g1⟩
 .rename_i l A
  cases b with
  |false=>cases h
  |true=>
   simp only[cond_true]at h;split at h
   case h_2=>cases h
   rename_i Z B;rw[Bh A];left;show Sub (BR _ (An _)) (An _);rw[ZS];refine CV.mk ?_;have E:=Lw B;have W:=(C1 h s.r).1;exact CV.trans E W
 .rename_i l A
  cases b with
  |true=>cases h
  |false=>
   simp only[cond_false]at h;split at h
   case h_2=>cases h
   rename_i u;split at h
   case h_2=>cases h
   rename_i Z B;rw[Bh A];left;show Sub (BR _ (boxL _)) (Bj false (tyV u 0 z));rw[Xv];exact CV.obj (CV.trans (Lw B) (C1 h s.r).1)
 .rename_i g l A
  cases b with
  |true=>cases h
  |false=>
   simp only[cond_false]at h;split at h
   case h_2=>cases h
   rename_i g' u;cases U:Nat.beq g g' with
   |false=>rw[U]at h;cases h
   |true=>
    rw[U]at h;simp only[cond_true]at h;have hg:=bqE U;subst hg;split at h
    case h_2=>cases h
    rename_i Z B;rw[Bh A];left
    have e:V.many (.cl g) u.w (λk=>(tyV u 0 z).getD k .dead)=pkL (.cl g) (tyV u 0 z):=by
     unfold pkL;rw[Ay]
    show Sub (BR _ (pkL (.cl g) _)) (V.many (.cl g) u.w λk=>(tyV u 0 z).getD k .dead)
    rw[e,ZT];exact CV.pk (CV.trans (Lx B) (C1 h s.r).1)
def D4(s:St):(l:List (Bool×Ty))->List (Option Sl)->Option (PT l).T
 |[],[]=>some ()
 |[p],[y]=>IK s p.1 p.2 y
 |p::q::l,y::ys=>match IK s p.1 p.2 y with
  |some z=>match D4 s (q::l) ys with
   |some e=>some (z,e)
   |none=>none
  |none=>none
 |_,_=>none
theorem Zg{s:St}:∀(l:List (Bool×Ty)) (xs:List Operand) (z:(PT l).T),D4 s l (xs.map s.ev)=some z->IF ((xs.map s.den.ev).map (BR (s.r.map Af.v))) (Ct l z)
 |[],[],z,h=>trivial
 |[p],[x],z,h=>⟨Mo h,trivial⟩
 |p::q::l,x::xs,z,h=>by
  have h:(match IK s p.1 p.2 (s.ev x)with
   |some z=>match D4 s (q::l) (xs.map s.ev)with
    |some e=>some (z,e)
    |none=>none
   |none=>none:Option (PT (p::q::l)).T)=some z:=h
  split at h
  case h_2=>grind
  rename_i B A;split at h
  case h_2=>grind
  rename_i e u;cases h;exact⟨Mo A,Zg (q::l) xs e u⟩
 |[],_::_,_,h=>by cases h
 |[_],[],_,h=>by cases h
 |[_],_::_::_,_,h=>by cases h
 |_::_::_,[],_,h=>by cases h
def resC(b:Bool)(d:Nat)(t:Ty)(x:t.T):Bool×List Cl:=(b,AB t d x)
def Qf(b:Bool)(p:Bool×Nat×Ty)(x:p.2.2.T):Bool×List Cl:=bif b|| !isP p then resC p.1 p.2.1 p.2.2 x else(false,[.nilp])
def resL(b:Bool):(l:List (Bool×Nat×Ty))->(RT l).T->List (Bool×List Cl)
 |[],_=>[]
 |[p],x=>[Qf b p x]
 |p::q::l,x=>Qf b p x.1::resL b (q::l) x.2
def My(b:Bool)(l:List (Bool×Nat×Ty))(x:(RT l).T):Sl:=match resL b l x with
 |[(true,cs)]=>.agg cs
 |[(false,cs)]=>.one (cs.getD 0 .dead)
 |m=>.tup m
theorem Zt(b:Bool)(d:Nat)(t:Ty)(x:t.T)(h:b=true\/t.one=true):(if b then An ((AB t d x).map (Cl.v r))else((AB t d x).map (Cl.v r)).getD 0 .dead)=vOf b t d x:=by
 rw[Cl.v_c];cases b with
 |true=>rfl
 |false=>
  rcases h with h|h
  .grind
  .rw[BM h];rfl
def DS:List (Bool×Nat×Ty)->Bool
 |[]=>true
 |p::l=>(p.1||p.2.2.one)&&DS l
def O1(b:Bool)(p:Bool×Nat×Ty)(x:p.2.2.T)(h:p.1=true\/p.2.2.one=true):(if(Qf b p x).1 then An ((Qf b p x).2.map (Cl.v r))else((Qf b p x).2.map (Cl.v r)).getD 0 .dead)=WA b p x:=by
 unfold Qf WA;cases b|| !isP p with
 |true=>exact Zt p.1 p.2.1 p.2.2 x h
 |false=>rfl
def Ye{r:List Af}(b:Bool):∀(l:List (Bool×Nat×Ty)) (x:(RT l).T),DS l=true->(resL b l x).map (λp=>if p.1 then An (p.2.map (Cl.v r))else(p.2.map (Cl.v r)).getD 0 .dead)=Qe b l x
 |[],x,_=>rfl
 |[p],x,h=>by
  simp only[DS,bAE,Bool.or_eq_true]at h;show [_]=[WA _ _ _];rw[<-O1 b p x h.1]
 |p::q::l,x,h=>by
  have e:((p.1||p.2.2.one)&&DS (q::l))=true:=h;simp[Bool.or_eq_true]at e;show _::(resL b (q::l) x.2).map _=WA _ _ _::_;rw[Ye b (q::l) x.2 e.2,<-O1 b p x.1 e.1]
theorem O0(b:Bool)(l:List (Bool×Nat×Ty))(x:(RT l).T)(h:DS l=true):(My b l x).v r=JY b l x:=by
 have e:=Ye (r:=r) b l x h;unfold JY;rw[<-e];unfold My;split
 .rename_i cs u
  rw[u];rfl
 .rename_i cs u
  rw[u];show(cs.getD 0 .dead).v r=(cs.map (Cl.v r)).getD 0 .dead;rw[AN (a:=.dead) rfl]
 .rename_i m B A
  generalize resL b l x=m at*
  match m,B,A with
  |[],_,_=>rfl
  |[(true,cs)],B,_=>grind
  |[(false,cs)],_,A=>grind
  |a::b::m,_,_=>rfl
def Ty.noFn:Ty->Bool
 |.clo _ _=>false
 |.osl _=>false
 |.sl t=>t.noFn
 |.ptr t=>t.noFn
 |.pair a b=>a.noFn&&b.noFn
 |_=>true
theorem B9:∀(t:Ty) (d:Nat) (x:t.T),t.dep<=d->t.noFn=true->∀v∈tyV t d x,BC v
 |.int _,_,_,_,_,v,h=>by simp only[tyV,List.mem_singleton]at h;subst h;trivial
 |.bool,_,_,_,_,v,h=>by simp only[tyV,List.mem_singleton]at h;subst h;trivial
 |.str,_,_,_,_,v,h=>by simp only[tyV,List.mem_singleton]at h;subst h;trivial
 |.unit,_,_,_,_,v,h=>by cases h
 |.clo _ _,_,_,_,hf,_,_=>by cases hf
 |.osl _,_,_,_,hf,_,_=>by cases hf
 |.sl t,d,xs,hd,hf,v,h=>by
  simp only[Ty.dep]at hd;simp only[tyV,List.mem_singleton]at h;subst h;refine⟨dT (by omega),λi k _ e=>?_⟩
  exact B9 t (d-1) _ (by omega) hf _ (IW (by rw[Ay];exact e))
 |.ptr t,d,x,hd,hf,v,h=>by
  simp only[Ty.dep]at hd;simp only[tyV,List.mem_singleton]at h;subst h;refine⟨dT (by omega),λi k u e=>?_⟩
  obtain rfl:i=0:=by omega
  exact B9 t (d-1) _ (by omega) hf _ (IW e)
 |.pair a b,d,x,hd,hf,v,h=>by
  simp only[Ty.noFn,bAE]at hf;simp only[Ty.dep]at hd;rcases List.mem_append.1 h with h|h
  .exact B9 a d _ (by omega) hf.1 v h
  .exact B9 b d _ (by omega) hf.2 v h
def Dl:List (Bool×Nat×Ty)->Bool
 |[]=>true
 |p::l=>Nat.ble p.2.2.dep p.2.1&&p.2.2.noFn&&(p.1||p.2.2.one)&&Dl l
theorem Oa(b:Bool)(d:Nat)(t:Ty)(x:t.T)(h:t.dep<=d)(u:t.noFn=true)(e:b=true\/t.one=true):BC (vOf b t d x):=by
 cases b with
 |true=>
  show BC (An _);rw[Qr];exact B9 t d x h u
 |false=>
  rcases e with e|e
  .grind
  .exact B9 t d x h u _ (by rw[BM e];exact List.mem_singleton.2 rfl)
def Iu(b:Bool)(p:Bool×Nat×Ty)(x:p.2.2.T)(h:p.2.2.dep<=p.2.1)(e:p.2.2.noFn=true)(u:p.1=true\/p.2.2.one=true):BC (WA b p x):=by
 unfold WA;cases b|| !isP p with
 |true=>exact Oa _ _ _ _ h e u
 |false=>trivial
def Iv(b:Bool):∀(l:List (Bool×Nat×Ty)) (x:(RT l).T),Dl l=true->∀v∈Qe b l x,BC v
 |[],_,_,v,h=>by cases h
 |[p],x,hr,v,h=>by
  simp only[Dl,bAE,Bool.or_eq_true]at hr;rw[List.mem_singleton.1 h];exact Iu b p x (blE hr.1.1.1) hr.1.1.2 hr.1.2
 |p::q::l,x,hr,v,h=>by
  have e:(Nat.ble p.2.2.dep p.2.1&&p.2.2.noFn&&(p.1||p.2.2.one)&&Dl (q::l))=true:=hr;simp only[bAE,Bool.or_eq_true]at e;rcases List.mem_cons.1 h with rfl|h
  .exact Iu b p x.1 (blE e.1.1.1) e.1.1.2 e.1.2
  .exact Iv b (q::l) x.2 e.2 v h
theorem De(b:Bool)(l:List (Bool×Nat×Ty))(x:(RT l).T)(h:Dl l=true):BC (JY b l x):=by
 have:=Iv b l x h;unfold JY M1;split
 .grind
 .have e:=this
  rw[<-Ob]at e
  trivial
def Cl.lent:Cl->Bool
 |.rf _ _=>true
 |.rs _ _ _ _=>true
 |.rp _ _ _ _=>true
 |y=>y.own
def Sl.lent:Sl->Bool
 |.one c=>c.lent
 |.agg l=>l.any Cl.lent
 |.pk _ l=>l.any Cl.lent
 |_=>true
def Jr(xs:List (Option Sl)):Bool:=xs.all λx=>match x with
 |some y=>!y.lent
 |none=>false
theorem Cl.lent_v(c:Cl):c.lent=false->AM (c.v r)=false:=by
 intro h;cases c with
 |c t d x=>
  cases t<;>cases d<;>first|rfl|trivial|(cases x<;>first|rfl|trivial)|exact HD (.clo _ _) x _ (List.mem_singleton.2 rfl)
 |rf=>cases h
 |rs=>cases h
 |rp=>cases h
 |_=>rfl
theorem M5(e:Tg)(l:List Cl)(h:l.any Cl.lent=false):AM (.many e (l.map (Cl.v r)).length λk=>(l.map (Cl.v r)).getD k .dead)=false:=by
 show((List.range _).any λk=>AM ((l.map (Cl.v r)).getD k .dead))=false
 rw[List.any_eq_false];intro k u;rw[AN (a:=.dead) rfl]
 have:(l.getD k .dead).lent=false:=by
  grind
 rw[Cl.lent_v _ this];simp
theorem Ph{xs:List Operand}(h:Jr (xs.map s.ev)=true):(xs.map s.den.ev).any AM=false:=by
 rw[List.any_eq_false];intro v B;obtain⟨x,A,rfl⟩:=List.mem_map.1 B;have e:=aET.1 h (s.ev x) (List.mem_map.2 ⟨x,A,rfl⟩);cases u:s.ev x with
 |none=>grind
 |some y=>
  rw[u]at e;have e:=by simpa using e
  rw[Bh u]
  have:AM (y.v s.r)=false:=by
   cases y with
   |one c=>exact Cl.lent_v c e
   |agg l=>exact M5 .ag l e
   |pk t l=>exact M5 t l e
   |new l=>trivial
   |tup l=>trivial
  grind
def DU(s:St):Option Sl->Option Sl
 |some (.one (.rf id p))=>match Ai s.r id p with
  |.opt _ u _ x=>some (.one (.c (.sl u) 0 (getO x)))
  |_=>some (.one (.rf id p))
 |y=>y
def XR(s:St):Option Sl->List Bool
 |some (.one (.rf id p))=>match Ai s.r id p with
  |.opt _ _ _ x=>[isO x]
  |_=>[]
 |_=>[]
def Nx(s:St):List (Option Sl)->List Bool
 |[]=>[]
 |y::l=>XR s y++Nx s l
def gate{α:Type}:List Bool->Option α->Option α
 |[],o=>o
 |b::l,o=>OF b (gate l o) none
structure Q3 where
 α:Type
 o:Option α
 y:α->Sl
structure CallN where
 α:Type
 o:Option (Bool×α)
 y:Bool->α->Sl
def Ka(e:En)(s:St)(xs:List (Option Sl)):Option Q3:=
 bif Dl e.S.rs||(DS e.S.rs&&Jr xs)then(match D4 s e.S.ps (xs.map (DU s))with
  |some z=>some ⟨(RT e.S.rs).T,gate (Nx s xs) (e.g z),λy=>My true e.S.rs y⟩
  |none=>none)else none
def I8:List En->St->FuncId->List (Option Sl)->Option Q3
 |[],_,_,_=>none
 |e::Γ,s,f,xs=>bif Nat.beq e.f f then(match Ka e s xs with
  |some a=>some a
  |none=>I8 Γ s f xs)else I8 Γ s f xs
theorem IJ{s:St}{f:FuncId}{xs:List (Option Sl)}{a:Q3}:∀{Γ:List En},I8 Γ s f xs=some a->∃e∈Γ,e.f=f/\Ka e s xs=some a
 |[],h=>by cases h
 |e::Γ,h=>by
  have back:I8 Γ s f xs=some a->∃u∈e::Γ,u.f=f/\Ka u s xs=some a:=λh=>by
   obtain⟨u,E,B⟩:=IJ h
   grind
  unfold I8 at h;cases A:Nat.beq e.f f with
  |false=>grind
  |true=>
   rw[A]at h;split at h
   .simp_all
   grind
def UJ(_:List EnN)(_:St)(_:FuncId)(_:List (Option Sl)):Option CallN:=none
def Hq:∀{l:List (Bool×Nat×Ty)},Dl l=true->DS l=true
 |[],_=>rfl
 |p::l,h=>by
  simp only[Dl,bAE]at h;simp only[DS,bAE];exact⟨h.1.2,Hq h.2⟩
def Ol{t1 t2:Nat->Sl}{r:List Af}:∀l:List Cl,Nf ⟨t1,r⟩ l=Nf ⟨t2,r⟩ l
 |[]=>rfl
 |y::l=>by
  unfold Nf;rw[Ol l];rfl
def ZV:VF ⟨t1,r⟩ y=VF ⟨t2,r⟩ y:=by rfl
def Pr{t1 t2:Nat->Sl}{r:List Af}:∀l:List Cl,Jv ⟨t1,r⟩ l=Jv ⟨t2,r⟩ l
 |[]=>rfl
 |y::l=>by
  unfold Jv;rw[Pr l,ZV]
theorem X8{o:Option Sl}:IK ⟨t1,r⟩ b t o=IK ⟨t2,r⟩ b t o:=by
 cases o with
 |none=>rfl
 |some y=>
  cases y with
  |one y=>rfl
  |agg l=>unfold IK;simp[Ol (t2:=t2)]
  |pk t l=>cases t<;>first|rfl|(unfold IK;simp[Pr (t2:=t2)];done)|(unfold IK;simp[Ol (t2:=t2)])
  |_=>rfl
theorem UL{y:Sl}{z:t.T}(h:IK s b t (some y)=some z):XX (BR (s.r.map Af.v) (y.v s.r)) (vOf b t 0 z):=
 Mo (x:=.tmp 0) (by
  have:IK ⟨λ_=>y,s.r⟩ b t (some y)=some z:=by rw[<-h];exact X8
  trivial)
theorem Zf{s:St}:∀(l:List (Bool×Ty)) (ys:List Sl) (z:(PT l).T),D4 s l (ys.map some)=some z->IF ((ys.map (Sl.v s.r)).map (BR (s.r.map Af.v))) (Ct l z)
 |[],[],z,h=>trivial
 |[p],[y],z,h=>⟨UL h,trivial⟩
 |p::q::l,y::ys,z,h=>by
  have h:(match IK s p.1 p.2 (some y)with
   |some z=>match D4 s (q::l) (ys.map some)with
    |some e=>some (z,e)
    |none=>none
   |none=>none:Option (PT (p::q::l)).T)=some z:=h
  split at h
  case h_2=>grind
  rename_i B A;split at h
  case h_2=>grind
  rename_i e u;cases h;exact⟨UL A,Zf (q::l) ys e u⟩
 |[],_::_,_,h=>by cases h
 |[_],[],_,h=>by cases h
 |[_],_::_::_,_,h=>by cases h
 |_::_::_,[],_,h=>by cases h
theorem HH{α:Type}{u:α}:∀{l:List Bool}{o:Option α},gate l o=some u->o=some u/\∀b∈l,b=true
 |[],_,h=>⟨h,λ_ h=>by grind⟩
 |b::l,o,h=>by
  cases b with
  |false=>cases h
  |true=>
   obtain⟨A,e⟩:=HH (l:=l) h
   grind
theorem Od{z:t.T}(h:IK s b t (DU s (s.ev x))=some z)(E:∀c∈XR s (s.ev x),c=true):XX (BR (s.r.map Af.v) (s.den.ev x)) (vOf b t 0 z):=by
 cases A:s.ev x with
 |none=>rw[A]at h;exact Mo (by rw[A];exact h)
 |some y=>
  by_cases W:∃id p ro u d v,y=.one (.rf id p)/\Ai s.r id p=.opt ro u d v
  .obtain⟨id,p,ro,u,d,v,rfl,B⟩:=W
   rw[A]at h E;simp only[DU,XR,B]at h E;have Z:isO v=true:=E _ (List.mem_singleton.2 rfl);cases v with
   |none=>cases Z
   |some ys=>
    have U:=UL h;have e1:BR (s.r.map Af.v) ((Sl.one (.c (.sl u) 0 ys)).v s.r)=cV (.sl u) 0 ys:=C5 (.sl u) ys _ (List.mem_singleton.2 rfl);have J:BR (s.r.map Af.v) ((Sl.one (.c (.sl u) 0 (getO (some ys)))).v s.r)=cV (.sl u) 0 ys:=e1;rw[J]at U
    have e2:BR (s.r.map Af.v) (s.den.ev x)=cV (.sl u) 0 ys:=by
     rw[Bh A];show BR (s.r.map Af.v) (V.rs id p 0 (Ai s.r id p).len)=_;rw[Oj,A1 (by rw[B];simp),B]
     show VE (arr true u.w (tyV u d) u.dflt ys) 0 ys.length=_;rw[Nd rfl];have e:=funext λx=>Bl u d x
     rw[e];rfl
    rw[e2];exact U
  .have e:DU s (some y)=some y:=by
    cases y with
    |one c=>
     cases c with
     |rf id p=>
      cases B:Ai s.r id p with
      |opt ro u d v=>grind
      |_=>simp only[DU,B]
     |_=>rfl
    |_=>rfl
   rw[A,e,<-A]at h;exact Mo h
theorem Vr{y:Sl}{z:t.T}(h:IK s b t (DU s (some y))=some z)(e:∀c∈XR s (some y),c=true):XX (BR (s.r.map Af.v) (y.v s.r)) (vOf b t 0 z):=by
 have u:DU ⟨λ_=>y,s.r⟩ (some y)=DU s (some y):=by
  rfl
 refine Od (s:=⟨λ_=>y,s.r⟩) (x:=.tmp 0) ?_ ?_
 .show IK ⟨λ_=>y,s.r⟩ b t (DU ⟨λ_=>y,s.r⟩ (some y))=some z
  rw[<-h];exact X8
 trivial
theorem K9{s:St}:∀(l:List (Bool×Ty)) (ys:List Sl) (z:(PT l).T),D4 s l ((ys.map some).map (DU s))=some z->(∀c∈Nx s (ys.map some),c=true)->IF ((ys.map (Sl.v s.r)).map (BR (s.r.map Af.v))) (Ct l z)
 |[],[],z,h,_=>trivial
 |[p],[y],z,h,hc=>⟨Vr h λc h=>hc c (List.mem_append_left _ h),trivial⟩
 |p::q::l,y::ys,z,h,hc=>by
  have h:(match IK s p.1 p.2 (DU s (some y))with
   |some z=>match D4 s (q::l) ((ys.map some).map (DU s))with
    |some e=>some (z,e)
    |none=>none
   |none=>none:Option (PT (p::q::l)).T)=some z:=h
  split at h
  case h_2=>grind
  rename_i B A;split at h
  case h_2=>grind
  rename_i e u;cases h;exact⟨Vr A λc h=>hc c (List.mem_append_left _ h),K9 (q::l) ys e u λc h=>hc c (List.mem_append_right _ h)⟩
 |[],_::_,_,h,_=>by cases h
 |[_],[],_,h,_=>by cases h
 |[_],_::_::_,_,h,_=>by cases h
 |_::_::_,[],_,h,_=>by cases h
theorem OU{s:St}:∀(l:List (Bool×Ty)) (xs:List Operand) (z:(PT l).T),D4 s l ((xs.map s.ev).map (DU s))=some z->(∀c∈Nx s (xs.map s.ev),c=true)->IF ((xs.map s.den.ev).map (BR (s.r.map Af.v))) (Ct l z)
 |[],[],z,h,_=>trivial
 |[p],[x],z,h,hc=>⟨Od h λc h=>hc c (List.mem_append_left _ h),trivial⟩
 |p::q::l,x::xs,z,h,hc=>by
  have h:(match IK s p.1 p.2 (DU s (s.ev x))with
   |some z=>match D4 s (q::l) ((xs.map s.ev).map (DU s))with
    |some e=>some (z,e)
    |none=>none
   |none=>none:Option (PT (p::q::l)).T)=some z:=h
  split at h
  case h_2=>grind
  rename_i B A;split at h
  case h_2=>grind
  rename_i e u;cases h;exact⟨Od A λc h=>hc c (List.mem_append_left _ h),OU (q::l) xs e u λc h=>hc c (List.mem_append_right _ h)⟩
 |[],_::_,_,h,_=>by cases h
 |[_],[],_,h,_=>by cases h
 |[_],_::_::_,_,h,_=>by cases h
 |_::_::_,[],_,h,_=>by cases h
theorem QV{xs:Array Operand}{J}{ps:List (Bool×Ty)}{rs:List (Bool×Nat×Ty)}{z:(PT ps).T}{u:(RT rs).T}(Z:A5 P f=true)(B:FC P f (Ct ps z) (JY b rs u))(U:D4 s ps ((xs.toList.map s.ev).map (DU s))=some z)(E:∀c∈Nx s (xs.toList.map s.ev),c=true)
  (e:(Dl rs||(DS rs&&Jr (xs.toList.map s.ev)))=true):QS P s (.call ⟨.value (.func f),xs,J⟩) (My b rs u):=by
 rw[Bool.or_eq_true,bAE]at e;have A:=e.elim Hq (·.1)
 refine⟨JY b rs u,⟨Z,B.sub1 (OU _ _ _ U E)⟩,λW=>?_,?_⟩
 .rcases e with e|⟨_,e⟩
  .exact De _ _ _ e
  .rw[Ph e]at W;grind
 .show Sub _ ((My b rs u).v s.r)
  rw[O0 _ _ _ A];exact Sub.refl _
theorem NW(A:He P Γ){xs W}{a:Q3}(h:I8 Γ s f (xs.toList.map s.ev)=some a){u:a.α}(B:a.o=some u):QS P s (.call ⟨.value (.func f),xs,W⟩) (a.y u):=by
 obtain⟨e,he,J,Z⟩:=IJ h;subst J;unfold Ka at Z;have h:=Z;cases ho:(Dl e.S.rs||(DS e.S.rs&&Jr (xs.toList.map s.ev)))with
 |false=>grind
 |true=>
  rw[ho]at h;split at h
  case h_2=>grind
  rename_i z hz;cases h;obtain⟨hc,E⟩:=A e he;obtain⟨B,U⟩:=HH B;exact QV hc (by rw[D5];exact E z u B) hz U ho
def Mm{Γ:List EnN}(B:∀e∈Γ,e.OK P){xs A}{a:CallN}(h:UJ Γ s f (xs.toList.map s.ev)=some a){u:a.α}(E:a.o=some (b,u)):QS P s (.call ⟨.value (.func f),xs,A⟩) (a.y b u):=by
 unfold UJ at h;cases h
theorem Pg(h:Jr (ys.map some)=true):(ys.map (Sl.v s.r)).any AM=false:=by
 have:=Ph (s:=⟨λi=>ys.getD i (.one .dead),s.r⟩) (by
  have e:((List.range ys.length).map Operand.tmp).map (St.ev ⟨λi=>ys.getD i (.one .dead),s.r⟩)=ys.map some:=by
   rw[List.map_map];apply List.ext_getElem (by simp)
   intro i u B;have A:i<ys.length:=by simpa using u
   have:(St.ev ⟨λi=>ys.getD i (.one .dead),s.r⟩ (.tmp i))=some (ys.getD i (.one .dead)):=rfl
   grind
  rw[e];exact h)
 have E:((List.range ys.length).map Operand.tmp).map (St.den ⟨λi=>ys.getD i (.one .dead),s.r⟩).ev=ys.map (Sl.v s.r):=by
  rw[List.map_map];apply List.ext_getElem (by simp)
  intro i u B;have A:=by simpa using u
  have:(St.den ⟨λi=>ys.getD i (.one .dead),s.r⟩).ev (.tmp i)=(ys.getD i (.one .dead)).v s.r:=rfl
  grind
 rw[E]at this;exact this
def allS:List (Option Sl)->Option (List Sl)
 |[]=>some []
 |some y::l=>match allS l with
  |some m=>some (y::m)
  |none=>none
 |none::_=>none
def Wq{s:St}:∀{xs:List Operand}{ys:List Sl},allS (xs.map s.ev)=some ys->xs.map s.den.ev=ys.map (Sl.v s.r)
 |[],ys,h=>by cases h;rfl
 |x::xs,ys,h=>by
  rw[List.map_cons]at h;cases e:s.ev x with
  |none=>rw[e]at h;cases h
  |some y=>
   rw[e]at h;unfold allS at h;split at h
   case h_2=>grind
   rename_i m u;cases h;rw[List.map_cons,List.map_cons,Bh e,Wq u]
def cloS(s:St)(y:Nat):Option (FuncId×List Sl):=match s.t y with
 |.one (.c (.clo g t) _ x)=>bif Nat.blt g 1000000 then some (g,(AB t 0 x).map .one)else none
 |_=>none
def cloF(s:St):Op->Option (FuncId×List Sl)
 |.call c=>match c.callee with
  |.value (.tmp y)=>match cloS s y,allS (c.args.toList.map s.ev)with
   |some (g,cs),some ys=>some (g,ys++cs)
   |_,_=>none
  |_=>none
 |_=>none
theorem QR(Z:He P Γ){g:FuncId}{a:Q3}(J:cloF s op=some (g,ys))(h:I8 Γ s g (ys.map some)=some a){u:a.α}(hu:a.o=some u):QS P s op (a.y u):=by
 unfold cloF at J;split at J
 case h_2=>cases J
 rename_i c;obtain⟨callee,xs,ats⟩:=c;split at J
 case h_2=>cases J
 rename_i y B;have B:callee=.value (.tmp y):=B;subst B;split at J
 case h_2=>cases J
 rename_i g' cs zs A hzs;cases J;unfold cloS at A;split at A
 case h_2=>cases A
 rename_i g2 t d x hy;cases U:Nat.blt g2 1000000 with
 |false=>rw[U]at A;cases A
 |true=>
 rw[U]at A;cases A;obtain⟨e,he,hef,hx⟩:=IJ h;subst hef;clear h;unfold Ka at hx;have h:=hx;clear hx;cases E:(Dl e.S.rs||(DS e.S.rs&&Jr ((zs++(AB t 0 x).map Sl.one).map some)))with
 |false=>rw[E]at h;cases h
 |true=>
  rw[E]at h;simp only[cond_true]at h;split at h
  case h_2=>cases h
  rename_i z hz;cases h;obtain⟨hc,hft⟩:=Z e he;obtain⟨hu,hcd⟩:=HH hu
  have hev:s.den.ev (.tmp y)=.many (.cl e.f) t.w λk=>(tyV t 0 x).getD k .dead:=by
   show(s.t y).v s.r=_;rw[hy];rfl
  have W:(xs.toList.map s.den.ev)++tab t.w (λk=>(tyV t 0 x).getD k .dead)=(zs++(AB t 0 x).map Sl.one).map (Sl.v s.r):=by
   rw[Wq hzs,List.map_append]
   congr 1
   have h1:tab t.w (λk=>(tyV t 0 x).getD k .dead)=tyV t 0 x:=by
    have:=II (l:=tyV t 0 x) t.w (by rw[Ay];exact Nat.le_refl _)
    rw[this];exact List.take_of_length_le (by rw[Ay];exact Nat.le_refl _)
   rw[h1,List.map_map];exact(Cl.v_c (r:=s.r) t 0 x).symm
  rw[Bool.or_eq_true,bAE]at E;have hok:DS e.S.rs=true:=E.elim Hq (·.1)
  show MP P (s.r.map Af.v) (s.den.ev (.tmp y)) (xs.toList.map s.den.ev) (SK s _);rw[hev];show Nat.blt e.f 1000000=true/\Call P e.f (((xs.toList.map s.den.ev)++tab t.w (λk=>(tyV t 0 x).getD k .dead)).any AM) (((xs.toList.map s.den.ev)++tab t.w (λk=>(tyV t 0 x).getD k .dead)).map (BR (s.r.map Af.v))) (SK s _)
  rw[W];refine⟨U,JY true e.S.rs u,⟨hc,FC.sub1 (by rw[D5];exact hft z u hu) (K9 _ _ _ hz hcd)⟩,λhl=>?_,?_⟩
  .rcases E with E|⟨_,E⟩
   .exact De _ _ _ E
   .rw[Pg E]at hl;cases hl
  .show Sub _ ((My true e.S.rs u).v s.r)
   rw[O0 _ _ _ hok];exact Sub.refl _
def strB(a b:String):Bool:=a==b
def Xq:List (String×Nat)->String->Option Nat
 |[],_=>none
 |(a,f)::l,s=>bif strB a s then some f else Xq l s
theorem M7{s:String}{f:Nat}:∀{l:List (String×Nat)},Xq l s=some f->(s,f)∈l
 |[],h=>by cases h
 |(a,f')::l,h=>by
  unfold Xq at h;cases e:strB a s with
  |false=>rw[e]at h;exact mCM _ (M7 h)
  |true=>
   rw[e]at h;have:a=s:=by unfold strB at e;grind
   grind
def cloI(Θ:Tab)(s:St):Op->Option (FuncId×List Sl)
 |.call c=>match c.callee with
  |.invoke (.tmp y) nm=>match s.t y with
   |.one (.c (.clo g t) _ x)=>bif Nat.ble 1000000 g&&Nat.beq t.w 1 then(match Θ.look (g-1000000)with
    |some i=>match Xq i.met nm,allS (c.args.toList.map s.ev)with
     |some f,some ys=>some (f,(AB t 0 x).map .one++ys)
     |_,_=>none
    |none=>none)else none
   |_=>none
  |_=>none
 |_=>none
theorem QQ(hΘ:Θ.OK P)(hΓ:He P Γ){g:FuncId}{a:Q3}(A:cloI Θ s op=some (g,ys))(h:I8 Γ s g (ys.map some)=some a){u:a.α}(hu:a.o=some u):QS P s op (a.y u):=by
 unfold cloI at A;split at A
 case h_2=>cases A
 rename_i c;obtain⟨callee,xs,ats⟩:=c;split at A
 case h_2=>cases A
 rename_i y nm B;have B:callee=.invoke (.tmp y) nm:=B;subst B;split at A
 case h_2=>cases A
 rename_i g2 t d x hy;cases J:(Nat.ble 1000000 g2&&Nat.beq t.w 1)with
 |false=>rw[J]at A;cases A
 |true=>
 rw[J]at A;simp only[cond_true]at A;rw[bAE]at J;obtain⟨hg1,U⟩:=J;have hg1:=blE hg1;have U:t.w=1:=bqE U;split at A
 case h_2=>cases A
 rename_i i hi;split at A
 case h_2=>cases A
 rename_i f zs hfm hzs;cases A;have Z:=hΘ.met hi (M7 hfm);obtain⟨e,he,hef,hx⟩:=IJ h;subst hef;clear h;unfold Ka at hx;have h:=hx;clear hx;cases E:(Dl e.S.rs||(DS e.S.rs&&Jr (((AB t 0 x).map Sl.one++zs).map some)))with
 |false=>rw[E]at h;cases h
 |true=>
  rw[E]at h;simp only[cond_true]at h;split at h
  case h_2=>cases h
  rename_i z hz;cases h;obtain⟨hc,hft⟩:=hΓ e he;obtain⟨hu,hcd⟩:=HH hu
  have hev:s.den.ev (.tmp y)=.many (.cl g2) t.w λk=>(tyV t 0 x).getD k .dead:=by
   show(s.t y).v s.r=_;rw[hy];rfl
  have W:tab t.w (λk=>(tyV t 0 x).getD k .dead)++(xs.toList.map s.den.ev)=((AB t 0 x).map Sl.one++zs).map (Sl.v s.r):=by
   rw[Wq hzs,List.map_append]
   congr 1
   have h1:tab t.w (λk=>(tyV t 0 x).getD k .dead)=tyV t 0 x:=by
    have:=II (l:=tyV t 0 x) t.w (by rw[Ay];exact Nat.le_refl _)
    rw[this];exact List.take_of_length_le (by rw[Ay];exact Nat.le_refl _)
   rw[h1,List.map_map];exact(Cl.v_c (r:=s.r) t 0 x).symm
  rw[Bool.or_eq_true,bAE]at E;have hok:DS e.S.rs=true:=E.elim Hq (·.1)
  show MR P (s.r.map Af.v) (s.den.ev (.tmp y)) nm (xs.toList.map s.den.ev) (SK s _);rw[hev];show ∃t' fn,(g2=1000000+t'/\t.w=1/\ZO P t' nm=some fn)/\Call P fn ((tab t.w (λk=>(tyV t 0 x).getD k .dead)++(xs.toList.map s.den.ev)).any AM) ((tab t.w (λk=>(tyV t 0 x).getD k .dead)++(xs.toList.map s.den.ev)).map (BR (s.r.map Af.v))) (SK s _)
  rw[W];refine⟨g2-1000000,e.f,⟨by omega,U,Z⟩,JY true e.S.rs u,⟨hc,FC.sub1 (by rw[D5];exact hft z u hu) (K9 _ _ _ hz hcd)⟩,λhl=>?_,?_⟩
  .rcases E with E|⟨_,E⟩
   .exact De _ _ _ E
   .rw[Pg E]at hl;cases hl
  .show Sub _ ((My true e.S.rs u).v s.r)
   rw[O0 _ _ _ hok];exact Sub.refl _
def capL(s:St):List Operand->Option (List Cl)
 |[]=>some []
 |x::xs=>match s.ev x with
  |some (.one (.c t d y))=>bif t.one&& !(Cl.c t d y).own then(match capL s xs with
   |some l=>some (.c t 0 y::l)
   |none=>none)else none
  |_=>none
def capR(s:St):List Operand->Option (List Cl)
 |[]=>some []
 |x::xs=>match s.ev x with
  |some (.one y)=>bif y.own then none else(match capR s xs with
   |some l=>some (y::l)
   |none=>none)
  |_=>none
theorem YK{s:St}:∀{xs:List Operand}{l:List Cl},capR s xs=some l->xs.map s.den.ev=l.map (Cl.v s.r)/\(xs.map s.den.ev).all (λv=>!AL v)=true
 |[],l,h=>by cases h;simp
 |x::xs,l,h=>by
  unfold capR at h;split at h
  case h_2=>grind
  rename_i y A;cases u:y.own with
  |true=>grind
  |false=>
   rw[u]at h;split at h
   case h_2=>grind
   rename_i m B;obtain⟨J,E⟩:=YK B;have e:s.den.ev x=y.v s.r:=Bh A;refine⟨by grind,?_⟩
   rw[List.map_cons,List.all_cons,e,Cl.own_v,u,E];rfl
def tMkG(g:Nat)(s:St)(e:List Operand):Option TR:=match capL s e with
  |some l=>match Ha l with
   |some ⟨t,x⟩=>some (.ok (.one (.c (.clo g t) 0 x)))
   |none=>none
  |none=>match capR s e with
   |some l=>some (.ok (.pk (.cl g) l))
   |none=>none
def tMkF(s:St)(fn:Fn)(first:List Operand)(e:List Operand):Option TR:=match fn,first with
 |.func g,[]=>bif Nat.blt g 1000000 then tMkG g s e else none
 |_,_=>none
def tMkI(_:Tab)(_:St)(_:TypeId)(_:Operand):Option TR:=none
theorem YL{s:St}:∀{xs:List Operand}{l:List Cl},capL s xs=some l->xs.map s.den.ev=(l.map Cl.v0).map frz/\(xs.map s.den.ev).all (λv=>!AL v)=true/\l.length=xs.length
 |[],l,h=>by cases h;exact⟨rfl,rfl,rfl⟩
 |x::xs,l,h=>by
  unfold capL at h;split at h
  case h_2=>cases h
  rename_i t d y J;cases A:(t.one&& !(Cl.c t d y).own)with
  |false=>rw[A]at h;cases h
  |true=>
   rw[A]at h;simp only[cond_true]at h;split at h
   case h_2=>cases h
   rename_i m U;cases h;rw[bAE]at A;obtain⟨Z,h2,W⟩:=YL U;have B:s.den.ev x=cV t d y:=Bh J
   have u:AL (cV t d y)=false:=by
    have:=Cl.own_v (r:=s.r) (.c t d y);have e:(Cl.c t d y).own=false:=by simpa using A.2
    rw[e]at this;exact this
   have E:cV t d y=frz (cV t 0 y):=by
    rw[Pv A.1];cases t<;>first|rfl|(cases d<;>first|rfl|(cases u;done))|(cases y<;>cases d<;>first|rfl|(cases u;done))
   refine⟨?_,?_,by simp[W]⟩
   .rw[List.map_cons,List.map_cons,List.map_cons,B,Z,E];rfl
   grind
theorem tMkG_v{u:List Operand}(h:tMkG g s u=some a):∃y,a=.ok y/\(u.map s.den.ev).all (λv=>!AL v)=true/\Sub (V.many (.cl g) (u.map s.den.ev).length λk=>(u.map s.den.ev).getD k .dead) (y.v s.r):=by
 unfold tMkG at h;split at h
 case h_2=>
  split at h
  case h_2=>grind
  rename_i l A;cases h;obtain⟨E,B⟩:=YK A;refine⟨_,rfl,B,?_⟩;rw[E];exact Sub.refl _
 rename_i l A;split at h
 case h_2=>grind
 rename_i t x hd;cases h;obtain⟨E,B,J⟩:=YL A;have e:=DG _ _ hd;refine⟨_,rfl,B,?_⟩;rw[E,<-e,Ay];exact Sub.refl _
theorem PZ{fn:Fn}{first e:Array Operand}(h:tMkF s fn first.toList e.toList=some a):QS P s (.makeFunc fn first e) a.y:=by
 unfold tMkF at h;split at h
 case h_2=>grind
 rename_i g A;cases u:Nat.blt g 1000000 with
 |false=>grind
 |true=>
 rw[u]at h;obtain⟨y,rfl,E,B⟩:=tMkG_v h
 show(match Fn.func g,first.toList with
  |.func g,[]=>qMkF g (e.toList.map s.den.ev) (SK s _)
  |_,_=>False)
 rw[A]
 trivial
def PY(e:Θ.OK P){t:TypeId}(h:tMkI Θ s t x=some a):QS P s (.makeInterface t x) a.y:=by
 unfold tMkI at h;cases h
end Go.Ve


namespace Go.Ve
variable{b:Bool}{c:Cl}{r:List Af}{l σ:List V}{d i k:Nat}{P:Program}{s:St}{t:Ty}
structure NH where
 k:Nat
 ps:List (Bool×Ty)
 t:Ty
 d:Nat
 eat:Bool
 rs:List (Bool×Nat×Ty)
def QD(k:Nat)(l:List V):List V:=l.take k++ .dead::l.drop k
theorem IS:(QD k l).length=l.length+1:=by
 unfold QD
 grind
theorem Z4(h:i<k)(e:k<=l.length):(QD k l).getD i .dead=l.getD i .dead:=by
 unfold QD
 grind
theorem Z5(h:k<=i)(u:k<=l.length):(QD k l).getD (i+1) .dead=l.getD i .dead:=by
 unfold QD;have e:(l.take k).length=k:=by grind
 simp;rw[gAR (by omega),e,show i+1-k=(i-k)+1 by omega,List.getElem?_cons_succ,List.getElem?_drop,show k+(i-k)=i by omega]
def isTr:Ty->Bool
 |.sl _=>true
 |.ptr _=>true
 |_=>false
def NH.ok(S:NH):Bool:=Nat.blt 0 S.d&&Nat.ble S.k S.ps.length&&isTr S.t
def FTU(P:Program)(f:FuncId)(S:NH)(g:(PT S.ps).T->S.t.T->Option ((RT S.rs).T×S.t.T)):Prop:=
 ∀z x u,g z x=some u->FCU P f S.k (QD S.k (Ct S.ps z)) (cV S.t S.d x) (U0 S.rs u.1) (bif S.eat then .dead else cV S.t S.d u.2)
structure EnU where
 f:FuncId
 S:NH
 g:(PT S.ps).T->S.t.T->Option ((RT S.rs).T×S.t.T)
def Ju:List EnU->FuncId->Option EnU
 |[],_=>none
 |e::l,f=>bif Nat.beq e.f f then some e else Ju l f
def EnU.OK(P:Program)(e:EnU):Prop:=A5 P e.f=true/\e.S.ok=true/\FTU P e.f e.S e.g
def Pq{P:Program}{f:FuncId}{e:EnU}:∀{Γ:List EnU},(∀e∈Γ,e.OK P)->Ju Γ f=some e->e.OK P/\e.f=f
 |[],_,h=>by cases h
 |a::l,hΓ,h=>by
  unfold Ju at h;cases A:Nat.beq a.f f with
  |true=>
   simp_all
  |false=>rw[A]at h;exact Pq (λe u=>hΓ e (mCM _ u)) h
theorem Cl.lend_id(h:c.lent=false):BR σ (c.v r)=c.v r:=by
 cases c with
 |c t d x=>
  have e:∀{t:Ty} (x:t.T),t.one=true->BR σ (cV t 0 x)=cV t 0 x:=fun{t} x ht=>C5 t x _ (by rw[BM ht];simp)
  cases t with
  |int k=>rfl
  |bool=>rfl
  |str=>rfl
  |unit=>rfl
  |pair a b=>rfl
  |sl t=>cases d with
   |zero=>exact e x rfl
   |succ d=>cases h
  |ptr t=>cases d with
   |zero=>exact e x rfl
   |succ d=>cases h
  |clo g t=>exact e x rfl
  |osl t=>cases d with
   |zero=>exact e x rfl
   |succ d=>cases x with
    |none=>rfl
    |some y=>cases h
 |rf=>cases h
 |rs=>cases h
 |rp=>cases h
 |_=>rfl
theorem Cl.clean_v(h:c.lent=false):clean (c.v r):=by
 cases c with
 |c t d x=>
  cases t with
  |osl t=>cases x<;>exact trivial
  |clo g t=>
   have:∀(t:Ty) (x:t.T),∀v∈tyV t 0 x,clean v:=by
    intro t
    induction t with
    |int k=>intro x v e;simp[tyV]at e;subst e;trivial
    |bool=>intro x v e;simp[tyV]at e;subst e;trivial
    |str=>intro x v e;simp[tyV]at e;subst e;trivial
    |sl t _=>intro x v e;simp only[tyV,List.mem_singleton]at e;subst e;trivial
    |ptr t _=>intro x v e;simp only[tyV,List.mem_singleton]at e;subst e;trivial
    |unit=>intro x v e;simp[tyV]at e
    |pair a b A u=>
     intro x v e;simp only[tyV,List.mem_append]at e
     grind
    |osl t _=>
     intro x v e;simp only[tyV,List.mem_singleton]at e;subst e;cases x<;>trivial
    |clo g t B=>
     intro x v e;simp only[tyV,List.mem_singleton]at e;subst e;intro k E;refine B x _ ?_;show(tyV t 0 x).getD k .dead∈_;rw[gDE,gEE (by rw[Ay];exact E)]
     simp
   exact this (.clo g t) x _ (List.mem_singleton.2 rfl)
  |_=>trivial
 |rf=>cases h
 |rs=>cases h
 |rp=>cases h
 |_=>trivial
theorem LW{l:List Cl}(h:l.any Cl.lent=false):∀c∈l,c.lent=false:=by grind
theorem Pn{l:List Cl}(h:l.any Cl.lent=false):(l.map (Cl.v r)).map (BR σ)=l.map (Cl.v r):=by
 rw[List.map_map];exact List.map_congr_left λc e=>Cl.lend_id (LW h c e)
def Sl.notB:Sl->Bool
 |.one _=>true
 |.agg _=>true
 |.pk (.cl _) _=>true
 |_=>false
theorem uArg_v{y:Sl}{z:t.T}(Z:y.lent=false)(J:y.notB=true)(h:IK s b t (some y)=some z):Sub (y.v s.r) (vOf b t 0 z)/\AL (y.v s.r)=false/\clean (y.v s.r):=by
 have many:∀(B:Tg) (l:List Cl),l.any Cl.lent=false->AL (pkL B (l.map (Cl.v s.r)))=false/\clean (pkL B (l.map (Cl.v s.r))):=by
  intro B l h;refine⟨?_,λk hk=>?_⟩
  .have e:AL ((Sl.pk B l).v s.r)=l.any Cl.own:=Sl.own_v (.pk B l)
   refine e.trans ?_;rw[List.any_eq_false];intro c A;have U:=LW h c A;cases c with
   |c t d x=>rw[show(Cl.c t d x).own=false from U];simp
   |_=>simp[Cl.own]
  .have hk:k<l.length:=by simpa using hk
   show clean ((l.map (Cl.v s.r)).getD k .dead);rw[AN (f:=Cl.v s.r) (a:=.dead) rfl];refine Cl.clean_v (LW h _ ?_);simp[hk]
 cases y with
 |one c=>
  have A:c.lent=false:=Z;refine⟨?_,?_,Cl.clean_v A⟩
  .unfold IK at h
   cases b with
   |true=>cases h
   |false=>
    cases ho:t.one with
    |false=>rw[ho]at h;cases h
    |true=>
     rw[ho]at h;simp only[cond_false,cond_true]at h;split at h
     case h_2=>cases h
     rename_i y' hy;obtain⟨_,h2,W⟩:=Ly hy;have W:=W λid p i k e=>by rw[e]at A;cases A
     rw[Cl.lend_id A]at W;obtain⟨g1,_⟩:=Ln h s.r;have g1:Sub y'.v0 (vOf false t 0 z):=h2▸g1;exact W.trans g1
  .have e:AL (c.v s.r)=c.own:=Cl.own_v c
   refine e.trans ?_;cases c with
   |c t d x=>exact A
   |_=>rfl
 |agg l=>
  have A:l.any Cl.lent=false:=Z;refine⟨?_,many .ag l A⟩;unfold IK at h;cases b with
  |false=>cases h
  |true=>
   simp only[cond_true]at h;split at h
   case h_2=>cases h
   rename_i l' E;show Sub (An _) (An _);refine CV.mk ?_;have U:=Lw E;rw[Pn A]at U;exact CV.trans U (C1 h s.r).1
 |pk B l=>
  have A:l.any Cl.lent=false:=Z;cases B with
  |cl g=>
   refine⟨?_,many (.cl g) l A⟩;unfold IK at h;cases b with
   |true=>cases h
   |false=>
    simp only[cond_false]at h;split at h
    case h_2=>cases h
    rename_i g' u;obtain⟨J,h⟩:=Bb h;have hg:=bqE J;subst hg;split at h
    case h_2=>cases h
    rename_i l' E
    have e:V.many (.cl g) u.w (λk=>(tyV u 0 z).getD k .dead)=pkL (.cl g) (tyV u 0 z):=by
     unfold pkL;rw[Ay]
    show Sub (pkL (.cl g) _) (V.many (.cl g) u.w λk=>(tyV u 0 z).getD k .dead)
    rw[e];have U:=Lx E;rw[Pn A]at U;exact CV.pk (CV.trans U (C1 h s.r).1)
  |ag=>cases J
  |tu=>cases J
  |bx=>cases J
 |new l=>cases J
 |tup l=>cases J
def uok:Option Sl->Bool
 |some y=>!y.lent&&y.notB
 |none=>false
theorem uok_v{x:Operand}{z:t.T}(e:uok (s.ev x)=true)(h:IK s b t (s.ev x)=some z):AL (s.den.ev x)=false/\clean (s.den.ev x)/\Sub (s.den.ev x) (vOf b t 0 z):=by
 cases u:s.ev x with
 |none=>rw[u]at e;trivial
 |some y=>
  rw[u]at e h;simp[uok,Bool.not_eq_true']at e;obtain⟨E,B,A⟩:=uArg_v e.1 e.2 h;rw[Bh u]
  grind
theorem Uh{s:St}:∀(ps:List (Bool×Ty)) (xs:List Operand) (z:(PT ps).T),D4 s ps (xs.map s.ev)=some z->(xs.map s.ev).all uok=true->
  xs.length=(Ct ps z).length/\∀i x,xs[i]? =some x->AL (s.den.ev x)=false/\clean (s.den.ev x)/\Sub (s.den.ev x) ((Ct ps z).getD i .dead)
 |[],[],z,_,_=>⟨rfl,λi x h=>by simp at h⟩
 |[p],[x],z,h,e=>by
  have e:(uok (s.ev x)&&true)=true:=e;rw[Bool.and_true]at e;refine⟨rfl,λi B u=>?_⟩
  cases i with
  |zero=>
   cases u;exact uok_v e h
  |succ i=>simp at u
 |p::q::l,x::xs,z,h,e=>by
  have h:(match IK s p.1 p.2 (s.ev x)with
   |some z=>match D4 s (q::l) (xs.map s.ev)with
    |some A=>some (z,A)
    |none=>none
   |none=>none:Option (PT (p::q::l)).T)=some z:=h
  have e:(uok (s.ev x)&&(xs.map s.ev).all uok)=true:=e;rw[bAE]at e;split at h
  case h_2=>cases h
  rename_i U J;split at h
  case h_2=>cases h
  rename_i A E;cases h;obtain⟨k1,k2⟩:=Uh (q::l) xs A E e.2;refine⟨by show xs.length+1=(Ct (q::l) A).length+1;rw[k1],λi B u=>?_⟩
  cases i with
  |zero=>
   cases u;exact uok_v e.1 J
  |succ i=>exact k2 i B (by simpa using u)
 |[],_::_,_,h,_=>by cases h
 |[_],[],_,h,_=>by cases h
 |[_],_::_::_,_,h,_=>by cases h
 |_::_::_,[],_,h,_=>by cases h
def CI(k:Nat)(l:List Operand):List Operand:=l.take k++l.drop (k+1)
theorem QO{l:List Operand}(h:k<l.length):(CI k l).length+1=l.length:=by
 unfold CI
 grind
theorem Nn{l:List Operand}(h:i<k)(e:k<l.length):(CI k l)[i]? =l[i]?:=by
 unfold CI
 grind
theorem Np{l:List Operand}(h:k<=i)(e:k<l.length):(CI k l)[i]? =l[i+1]?:=by
 unfold CI
 grind
theorem YV{ps:List (Bool×Ty)}{xs:List Operand}{z:(PT ps).T}(e:k<xs.length)(h:D4 s ps ((CI k xs).map s.ev)=some z)(B:((CI k xs).map s.ev).all uok=true):
  xs.length=(QD k (Ct ps z)).length/\∀i x,i≠k->xs[i]? =some x->AL (s.den.ev x)=false/\clean (s.den.ev x)/\Sub (s.den.ev x) ((QD k (Ct ps z)).getD i .dead):=by
 obtain⟨U,u⟩:=Uh ps (CI k xs) z h B;have J:=QO e;refine⟨by rw[IS];omega,λi x E A=>?_⟩
 rcases Nat.lt_or_ge i k with hlt|hge
 .have:=u i x (by rw[Nn hlt e];exact A)
  rw[Z4 hlt (by omega)]
  grind
 .obtain⟨j,rfl⟩:∃j,i=j+1:=⟨i-1,by omega⟩
  have:=u j x (by rw[Np (by omega) e];grind)
  rw[Z5 (by omega) (by omega)]
  grind
def Z9:(t:Ty)->t.T->Bool
 |.sl _,xs=>ltI (Int.ofNat 0) (ofN (Ib xs))
 |.ptr _,_=>true
 |_,_=>false
theorem Z8{x:t.T}(hd:0<d)(h:Z9 t x=true):Ky (cV t d x):=by
 have hd:=dT hd;cases t with
 |sl t=>
  refine⟨true,_,_,_,show arr (decide (0<d)) _ _ _ x=_ by rw[hd];rfl,.inr ?_⟩
  have h:decide (0<(x.length:Int))=true:=h
  grind
 |ptr t=>exact⟨false,_,_,_,show Bj (decide (0<d)) _=_ by rw[hd];rfl,.inl rfl⟩
 |_=>cases h
def treeND{x:t.T}(hd:0<d)(h:isTr t=true):∃s sz n f,cV t d x=.nd s true sz n f:=by
 have hd:=dT hd;cases t with
 |sl t=>exact⟨true,_,_,_,show arr (decide (0<d)) _ _ _ x=_ by rw[hd];rfl⟩
 |ptr t=>exact⟨false,_,_,_,show Bj (decide (0<d)) _=_ by rw[hd];rfl⟩
 |_=>cases h
def Bi:∀e∈([]:List EnU),e.OK P:=by simp
theorem XP{e:EnU}{l:List EnU}(E:A5 P e.f=true)(J:e.S.ok=true)(B:FTU P e.f e.S e.g)(A:∀e∈l,e.OK P):∀x∈e::l,x.OK P:=by
 intro x u;rcases List.mem_cons.1 u with rfl|u
 .trivial
 grind
end Go.Ve


namespace Go.Ve
abbrev WP:=Bool×Bool×Ty
def PTW:List WP->Ty
 |[]=>.unit
 |[p]=>p.2.2
 |p::q::l=>.pair p.2.2 (PTW (q::l))
def Zi:Ty->List Ty
 |.sl t=>[.sl t]
 |.pair a b=>Zi a++Zi b
 |_=>[]
def tysW:List WP->List Ty
 |[]=>[]
 |p::l=>(bif p.1 then Zi p.2.2 else [])++tysW l
structure SigW where
 ps:List WP
 rt:Ty
def wty:List Ty->Ty
 |[]=>.unit
 |[t]=>t
 |t::u::l=>.pair t (wty (u::l))
structure EnW where
 f:FuncId
 S:SigW
 g:(PTW S.ps).T->Option (S.rt.T×(wty (tysW S.ps)).T)
def lookW:List EnW->FuncId->Option EnW
 |[],_=>none
 |e::l,f=>bif Nat.beq e.f f then some e else lookW l f
def EnW.OK(_:Program)(_:EnW):Prop:=False
end Go.Ve


namespace Go.Ve
variable{r:List Af}{l m:List V}{op:Op}{P:Program}{s:St}{a:TR}{w:World}
def Ns(Θ:Tab)(t:TypeId):Option TI:=((Θ.look t).bind (·.elem)).bind Θ.look
def OT(Θ:Tab)(s:St):Builtin->List Operand->List TypeId->Option TR
 |.len,[x],[t]=>tLen s (Θ.look t) (s.ev x)
 |.min,[x,y],_=>tMin (s.ev x) (s.ev y)
 |.max,[x,y],_=>tMax (s.ev x) (s.ev y)
 |_,_,_=>none
def Z2:Operand->Bool
 |.const (.slice none 0 0)=>true
 |_=>false
def OR(s:St)(i:Option TI)(x:Operand):Option TR:=bif Z2 x then(match i with
 |some j=>some (.ok (.one (.c (.sl j.ty) (j.sd+1) [])))
 |none=>none)else Za (s.ev x)
theorem Ir{x:Operand}{i:Option TI}(u:op=.move x\/op=.assign x)(h:OR s i x=some a):QS P s op a.y:=by
 unfold OR at h;cases e:Z2 x with
 |false=>rw[e]at h;exact NS u h
 |true=>
  rw[e]at h;split at h
  case h_2=>grind
  rename_i j;cases h;unfold Z2 at e;split at e
  case h_2=>grind
  have:Vc (s.den.ev (.const (.slice none 0 0))) (SK s (.one (.c (.sl j.ty) (j.sd+1) []))):=⟨rfl,.inr ⟨rfl,_,_,_,rfl⟩⟩;rcases u with rfl|rfl<;>exact this
def tq(Θ:Tab)(s:St)(ty:TypeId):Op->Option TR
 |.move x=>OR s (Ns Θ ty) x
 |.assign x=>OR s (Ns Θ ty) x
 |.pick c x y=>Y8 (s.ev c) (s.ev x) (s.ev y)
 |.load t x=>UE s (Θ.look t) (s.ev x)
 |.fieldAddr t x k=>UG s (Θ.look t) k (s.ev x)
 |.indexAddr t x i=>HW s (Ns Θ t) (s.ev x) (s.ev i)
 |.index t x i=>UF (Θ.look t) (s.ev x) (s.ev i)
 |.nilCheck x=>tNil (s.ev x)
 |.binOp op t x y _=>tBin (Θ.look t) op (s.ev x) (s.ev y)
 |.unOp op _ x=>tUn op (s.ev x)
 |.convert u v x=>Zc s.r (Θ.look u) (Θ.look v) (Ns Θ u) (Ns Θ v) (s.ev x)
 |.extract x k=>K8 k (s.ev x)
 |.build t ps=>UK (Θ.look t) (ps.toList.map λp=>(p.1,s.ev p.2))
 |.buildSlice t n ps=>D3 n (ps.toList.map λp=>(p.1,s.ev p.2)) (Ns Θ t)
 |.alloc t=>UM (Θ.look t)
 |.box _ x=>tBox (s.ev x)
 |.makeSlice t l c=>Zb (Ns Θ t) (s.ev l) (s.ev c)
 |.slice t x lo B A=>match A with
  |none=>Ux s (Θ.look t) (Ns Θ t) (s.ev x) (Kb (lo.map s.ev)) (Kb (B.map s.ev))
  |some _=>none
 |.call c=>match c.callee with
  |.builtin b=>OT Θ s b c.args.toList c.argTypes.toList
  |_=>none
 |.makeFunc fn first e=>tMkF s fn first.toList e.toList
 |.makeInterface t x=>tMkI Θ s t x
 |_=>none
theorem ON{Θ:Tab}(u:Θ.OK P){ty:TypeId}(h:tq Θ s ty op=some a)(B:a.p):QS P s op a.y:=by
 unfold tq at h;split at h
 case h_1=>exact Ir (.inl rfl) h
 case h_2=>exact Ir (.inr rfl) h
 case h_3=>exact NR h
 case h_4=>exact NU u h B
 case h_5=>exact Mk u h
 case h_6=>exact IB u h B
 case h_7=>exact Mi u h B
 case h_8=>exact PX h
 case h_9=>exact P8 u h B
 case h_10=>exact Uu h
 case h_11=>exact NV u h B
 case h_12=>exact JV h
 case h_13=>exact Mn u h
 case h_14=>exact HX u h
 case h_15=>exact Mp u h
 case h_16=>exact P7 h
 case h_17=>exact NT u h B
 case h_18=>
  split at h
  .exact Mh u h B
  .cases h
 case h_19 c=>
  obtain⟨callee,args,J⟩:=c;split at h
  case h_2=>cases h
  rename_i b E;have E:callee=.builtin b:=E;subst E;unfold OT at h;split at h
  case h_4=>cases h
  .rename_i x t A U
   rw[Xs (show args.toList=[x]from A),Xs (show J.toList=[t]from U)]
   exact P5 u h
  .rename_i x y A
   have e:args= #[x,y]:=by have A:args.toList=[x,y]:=A;cases args;simp at A;simp[A]
   subst e;exact P0 h
  .rename_i x y A
   have e:args= #[x,y]:=by grind
   subst e;exact P4 h
 case h_20=>exact PZ h
 case h_21=>exact PY u h
 case h_22=>cases h
def Ax:V->V->Prop
 |.many t n f,v'=>v'=.dead\/∃g,v'=.many t n g/\∀k,k<n->Ax (f k) (g k)
 |v,v'=>v'=.dead\/Sub v v'
theorem Ax.of:∀{v v':V},Sub v v'->Ax v v':=by
 intro v
 induction v with
 |many t n f e=>intro v' h;obtain⟨g,rfl,h⟩:=h;exact .inr ⟨g,rfl,λk u=>e k (h k u)⟩
 |_=>intro v' h;exact .inr h
def Ax.refl(v:V):Ax v v:=Ax.of (Sub.refl v)
def Ax.dead:∀(v:V),Ax v .dead:=by
 intro v;cases v<;>exact .inl rfl
def Ax.mk(e:l.length=m.length)(h:∀k,k<l.length->Ax (l.getD k .dead) (m.getD k .dead)):Ax (An l) (An m):=by
 unfold An;rw[<-e];exact .inr ⟨_,rfl,h⟩
def Ax.tup(e:l.length=m.length)(h:∀k,k<l.length->Ax (l.getD k .dead) (m.getD k .dead)):Ax (Do l) (Do m):=by
 unfold Do;rw[<-e];exact .inr ⟨_,rfl,h⟩
def Ax.pk{t:Tg}(e:l.length=m.length)(h:∀k,k<l.length->Ax (l.getD k .dead) (m.getD k .dead)):Ax (pkL t l) (pkL t m):=by
 unfold pkL;rw[<-e];exact .inr ⟨_,rfl,h⟩
theorem Rel.subS{D:Nat->Prop}{R:V->Value->Prop}:∀{v v':V}{cv:Value},Ax v v'->Rel D w R v cv noF->Rel D w R v' cv noF:=by
 intro v
 induction v with
 |many t n f B=>
  intro v' cv h e;rcases h with rfl|⟨g,rfl,h⟩
  .exact λ_ h=>h
  obtain⟨cs,F,A,E,e,hd,J⟩:=e;have W:=λk u=>A6 λb U=>(J b).2 ⟨k,u,U⟩
  exact⟨cs,λ_=>noF,A,E,λk u=>B k (h k u) (by grind),λ_ _ _ _ _ _ h=>h.elim,λb=>⟨λh=>h.elim,fun⟨_,_,h⟩=>h⟩⟩
 |_=>
  intro v' cv h e;rcases h with rfl|h
  .exact λ_ h=>h
  .exact Rel.sub h e
theorem At.sub'{w:World}:∀{p:AZ}{v e:V}{cv:Value}{s:Bool}{sz n:Nat}{f:Nat->Nat->V}{c:Value},Sub v e->At w p v cv (.nd s true sz n f) c->∃u,At w p e cv (.nd s true sz n u) c
 |[],v,e,cv,s,sz,n,f,c,h,ha=>by
  obtain⟨rfl,rfl⟩:=ha;obtain⟨g,rfl,_⟩:=h;exact⟨g,rfl,rfl⟩
 |(i,k)::p,.nd s0 true sz0 n0 f0,e,cv,s,sz,n,f,c,h,ha=>by
  obtain⟨g,rfl,h⟩:=h;obtain⟨B,A,b,o,cap,x,U,J,E⟩:=ha;obtain⟨u,W⟩:=At.sub' (h i k B A) E;exact⟨u,B,A,b,o,cap,x,U,J,W⟩
 |_::_,.nd _ false _ _ _,_,_,_,_,_,_,_,_,ha=>ha.elim
 |_::_,.c _,_,_,_,_,_,_,_,_,ha=>ha.elim
 |_::_,.dead,_,_,_,_,_,_,_,_,ha=>ha.elim
 |_::_,.many ..,_,_,_,_,_,_,_,_,ha=>ha.elim
 |_::_,.rs ..,_,_,_,_,_,_,_,_,ha=>ha.elim
 |_::_,.rp ..,_,_,_,_,_,_,_,_,ha=>ha.elim
theorem Au.sub{σ σ':List V}{ρ:Nat->Value}(E:σ'.length=σ.length)(hs:∀i,i<σ.length->Sub (σ.getD i .dead) (σ'.getD i .dead)):∀v cv,Au σ ρ w v cv->Au σ' ρ w v cv
 |.rs id p off len,cv,⟨e,sz,n,f,cn,A,r⟩=>by
  obtain⟨B,u⟩:=At.sub' (hs id e) A;exact⟨by grind,sz,n,B,cn,u,r⟩
 |.rp id p i k,cv,⟨e,s,sz,n,f,b,o,cap,A,r⟩=>by
  obtain⟨B,u⟩:=At.sub' (hs id e) A;exact⟨by omega,s,sz,n,B,b,o,cap,u,r⟩
 |.c _,_,h=>h.elim
 |.dead,_,h=>h.elim
 |.many ..,_,h=>h.elim
 |.nd ..,_,h=>h.elim
theorem CR.sub{C:Ctx}{σ σ' ts ts':List V}{cts:Array Value}{w:World}{D:Nat->Prop}{ρ:Nat->Value}{F:Nat->Nat->Prop}(h:CR C σ ts cts w D ρ F)(u:σ'.length=σ.length)(hs:∀i,i<σ.length->Sub (σ.getD i .dead) (σ'.getD i .dead))
  (e:ts'.length=ts.length) (B:∀i,i<ts.length->Ax (ts.getD i .dead) (ts'.getD i .dead)):CR C σ' ts' cts w D ρ F:=by
 refine⟨⟨λi E=>Rel.sub (hs i (by omega)) (h.wr.rel i (by omega)),h.wr.disj,h.wr.dD,h.wr.Dlt,λi b E=>h.wr.out i b (by omega)⟩,by rw[h.sz,e],λt A=>?_,h.fr,h.Fn,h.D1,h.D2,h.rt,by rw[u];exact h.ml⟩
 exact Rel.subS (B t (by omega)) (Rel.mono (λ_ h=>h) (Au.sub u hs) _ _ _ (λ_ _=>rfl) (h.tm t (by omega)))
theorem AR.sub{C:Ctx}{N:Nat}{S S':Ms}{a:Act}{w:World}(h:AR C N S a w)(E:S'.σ.length=S.σ.length)(hs:∀i,i<S.σ.length->Sub (S.σ.getD i .dead) (S'.σ.getD i .dead))(B:∀i,Ax (S.t i) (S'.t i)):AR C N S' a w:=by
 obtain⟨hd,e,D,ρ,F,u⟩:=h;refine⟨hd,λx A=>?_,D,ρ,F,u.sub E hs (by simp) λi J=>?_⟩
 .have:=B x
  rw[e x A]at this;rcases this with h|h
  .exact h
  trivial
 grind
def Cl.frz:Cl->Cl
 |.c t _ x=>.c t 0 x
 |y=>y
def Sl.frz:Sl->Option Sl
 |.one y=>some (.one y.frz)
 |.new l=>match Ha l with
  |some ⟨t,x⟩=>some (.one (.c (.ptr t) 0 x))
  |none=>none
 |.agg l=>some (.agg (l.map Cl.frz))
 |.pk t l=>some (.pk t (l.map Cl.frz))
 |.tup l=>some (.tup (l.map λp=>(p.1,p.2.map Cl.frz)))
theorem Cl.frz_v(y:Cl):Go.Ve.frz (y.v r)=y.frz.v r:=by
 cases y with
 |c t d x=>
  cases e:t.one with
  |true=>exact Pv e d x
  |false=>cases t<;>first|rfl|trivial
 |_=>rfl
theorem PI(l:List Cl):Go.Ve.frz (An (l.map (Cl.v r)))=An ((l.map Cl.frz).map (Cl.v r)):=by
 rw[frz_mk,List.map_map,List.map_map]
 congr 1
 exact List.map_congr_left λy _=>Cl.frz_v y
theorem Sl.frz_v{r:List Af}{y y':Sl}(h:y.frz=some y'):Go.Ve.frz (y.v r)=y'.v r:=by
 cases y with
 |one c=>cases h;exact Cl.frz_v c
 |new l=>
  unfold Sl.frz at h;simp only at h;split at h
  .rename_i t x e
   cases h;show Go.Ve.frz (Bj true (l.map Cl.v0))=Bj false (tyV t 0 x);rw[LF,DG _ _ e]
  .cases h
 |agg l=>cases h;exact PI l
 |pk t l=>
  cases h;show Go.Ve.frz (pkL t (l.map (Cl.v r)))=pkL t ((l.map Cl.frz).map (Cl.v r));rw[frz_pk,List.map_map,List.map_map]
  congr 1
  exact List.map_congr_left λy _=>Cl.frz_v y
 |tup l=>
  cases h;show Go.Ve.frz (Do _)=Do _;rw[Aad,List.map_map,List.map_map]
  congr 1
  refine List.map_congr_left λp _=>?_
  obtain⟨b,l⟩:=p;cases b with
  |true=>exact PI l
  |false=>
   show Go.Ve.frz ((l.map (Cl.v r)).getD 0 .dead)=((l.map Cl.frz).map (Cl.v r)).getD 0 .dead;rw[AN (a:=.dead) rfl,Cl.frz_v];simp only[gDE,List.getElem?_map];cases l[0]? <;>rfl
def Cl.chk(m:Nat):Cl->Cl
 |.rf id p=>bif Nat.blt id m then .rf id p else .dead
 |.rs id p off len=>bif Nat.blt id m then .rs id p off len else .dead
 |.rp id p i k=>bif Nat.blt id m then .rp id p i k else .dead
 |y=>y
def Sl.chk(m:Nat):Sl->Sl
 |.one y=>.one (y.chk m)
 |.new l=>.new l
 |.agg l=>.agg (l.map (Cl.chk m))
 |.pk t l=>.pk t (l.map (Cl.chk m))
 |.tup l=>.tup (l.map λp=>(p.1,p.2.map (Cl.chk m)))
def Cl.chk_v{r':List Af}(u:∀id,id<r.length->r'.getD id .dead=r.getD id .dead)(y:Cl):Ax (y.v r) ((y.chk r.length).v r'):=by
 cases y with
 |rf id p=>
  show Ax _ ((bif Nat.blt id r.length then Cl.rf id p else .dead).v r');cases e:Nat.blt id r.length with
  |false=>exact Ax.dead _
  |true=>
   have e:=blE e;show Ax (V.rs id p 0 (Ai r id p).len) (V.rs id p 0 (Ai r' id p).len);unfold Ai;rw[u id e];exact Ax.refl _
 |rs id p off len=>
  show Ax _ ((bif Nat.blt id r.length then Cl.rs id p off len else .dead).v r');cases e:Nat.blt id r.length with
  |false=>exact Ax.dead _
  |true=>exact Ax.refl _
 |rp id p off len=>
  show Ax _ ((bif Nat.blt id r.length then Cl.rp id p off len else .dead).v r');cases e:Nat.blt id r.length with
  |false=>exact Ax.dead _
  |true=>exact Ax.refl _
 |_=>exact Ax.refl _
theorem BV{l:List Cl}{f g:Cl->V}(u:f .dead=.dead)(e:g .dead=.dead)(h:∀y,Ax (f y) (g y))(k:Nat):Ax ((l.map f).getD k .dead) ((l.map g).getD k .dead):=by grind
theorem Sl.chk_v{r r':List Af}(u:∀id,id<r.length->r'.getD id .dead=r.getD id .dead)(y:Sl):Ax (y.v r) ((y.chk r.length).v r'):=by
 have agg:∀l:List Cl,Ax (An (l.map (Cl.v r))) (An ((l.map (Cl.chk r.length)).map (Cl.v r'))):=by
  intro l;refine Ax.mk (by simp) λk _=>?_
  rw[List.map_map];exact BV rfl rfl (λy=>Cl.chk_v u y) k
 cases y with
 |one c=>exact Cl.chk_v u c
 |new l=>exact Ax.refl _
 |agg l=>exact agg l
 |pk t l=>
  refine Ax.pk (by simp) λk _=>?_
  rw[List.map_map];exact BV rfl rfl (λy=>Cl.chk_v u y) k
 |tup l=>
  refine Ax.tup (by simp) λk A=>?_
  have A:k<l.length:=by simpa using A
  simp only[gDE,List.getElem?_map,gEE A,Option.map_some,Option.getD_some];generalize l[k]=p;obtain⟨b,m⟩:=p;cases b with
  |true=>exact agg m
  |false=>
   have:=BV (l:=m) (f:=Cl.v r) rfl rfl (λy=>Cl.chk_v u y) 0
   have e:(m.map λy=>(y.chk r.length).v r')=(m.map (Cl.chk r.length)).map (Cl.v r'):=by rw[List.map_map];rfl
   grind
end Go.Ve

