/- The typed machine: structs that are built, new memory, slices of slices. -/
import Derived.Test.YtdhfaeiafmlhlaaTc
import Derived.Test.YtdhfaeiafmlhlaaVr
import Derived.Test.YtdhfaeiafmlhlaaVwa
import Derived.Test.YtdhfaeiafmlhlaaXa
set_option linter.all false
namespace Go.Ve
variable{ps:Array (Nat×Operand)}{y:Cl}{r:List Ab}{l:List Cl}{m:List V}{d:Nat}{lo:Option Operand}{P:Program}{s:St}{a:TR}{Θ:Tab}{t:TypeId}
def CK:List V->List V->Prop
 |[],[]=>True
 |a::l,b::m=>Sub a b/\CK l m
 |_,_=>False
def CK.len:∀{l m:List V},CK l m->l.length=m.length
 |[],[],_=>rfl
 |_::_,_::_,h=>by simp[CK.len h.2]
 |[],_::_,h=>h.elim
 |_::_,[],h=>h.elim
def CK.getD:∀{l m:List V} (_:CK l m) (k:Nat),Sub (l.getD k .dead) (m.getD k .dead)
 |[],[],_,_=>Sub.refl _
 |_::_,_::_,h,0=>h.1
 |_::_,_::_,h,k+1=>CK.getD h.2 k
 |[],_::_,h,_=>h.elim
 |_::_,[],h,_=>h.elim
def CK.refl:∀(l:List V),CK l l
 |[]=>trivial
 |v::l=>⟨Sub.refl v,CK.refl l⟩
def CK.app:∀{l m A e:List V},CK l m->CK A e->CK (l++A) (m++e)
 |[],[],_,_,_,h=>h
 |_::_,_::_,_,_,h,h'=>⟨h.1,CK.app h.2 h'⟩
 |[],_::_,_,_,h,_=>h.elim
 |_::_,[],_,_,h,_=>h.elim
theorem CK.mk{l:List V}(h:CK l m):Sub (Ai l) (Ai m):=by
 unfold Ai;rw[h.len];exact⟨_,rfl,λk _=>h.getD k⟩
theorem CK.obj{o:Bool}{l:List V}(h:CK l m):Sub (Be o l) (Be o m):=by
 unfold Be;rw[h.len];refine⟨_,rfl,λi k hi _=>?_⟩
 obtain rfl:i=0:=by omega
 exact h.getD k
theorem Eqv.symm:∀{v v':V},Eqv v v'->Eqv v' v:=by
 intro v
 induction v with
 |c v=>intro v' h;cases h;rfl
 |dead=>intro v' h;cases h;rfl
 |many t n f e=>intro v' h;obtain⟨g,rfl,h⟩:=h;exact⟨f,rfl,λk A=>e k (h k A)⟩
 |nd s own sz n f e=>intro v' h;obtain⟨g,rfl,h⟩:=h;exact⟨f,rfl,λi k hi A=>e i k (h i k hi A)⟩
 |rs id p off len=>intro v' h;cases h;rfl
 |rp id p i k=>intro v' h;cases h;rfl
 |rm id p=>intro v' h;cases h;rfl
 |mp own l=>intro v' h;cases h;rfl
def Pl(a b:Nat):Nat:=bif Nat.ble a b then a else b
theorem IF(a b:Nat):Pl a b=min a b:=by
 unfold Pl;cases h:Nat.ble a b with
 |true=>simp_all
 |false=>
  have:¬a<=b:=λe=>by rw[Nat.ble_eq_true_of_le e]at h;grind
  grind
def dOK(t:Ty)(d e:Nat):Bool:=Nat.beq t.dep 0||Nat.beq d e
theorem Kz{t:Ty}{e:Nat}(h:dOK t d e=true):min d t.dep=min e t.dep:=by
 unfold dOK at h;rw[Bool.or_eq_true]at h;rcases h with h|h
 .simp_all
 simp_all
def fit(e:Nat):Cl->Cl
 |.c t d x=>bif Nat.beq (Pl d t.dep) (Pl e t.dep)then .c t e x else .c t d x
 |y=>y
def He(t:Ty)(d:Nat):Cl->Option t.T
 |.c t' e x=>if h:t'=t then(bif dOK t e d then some (h▸x)else none)else none
 |.nil=>match t with
  |.sl _=>some []
  |_=>none
 |_=>none
def K4(t:Ty)(d:Nat):List Cl->Option (t.T×List Cl)
 |c::l=>match He t d c with
  |some x=>some (x,l)
  |none=>none
 |[]=>none
def Adr:(t:Ty)->Nat->List Cl->Option (t.T×List Cl)
 |.unit,_,l=>some ((),l)
 |.pair a b,d,l=>match Adr a d l with
  |some (x,l)=>match Adr b d l with
   |some (y,l)=>some ((x,y),l)
   |none=>none
  |none=>none
 |.int k,d,l=>K4 (.int k) d l
 |.bool,d,l=>K4 .bool d l
 |.str,d,l=>K4 .str d l
 |.sl t,d,l=>K4 (.sl t) d l
 |.ptr t,d,l=>K4 (.ptr t) d l
 |.clo g t,d,l=>K4 (.clo g t) d l
 |.osl t,d,l=>K4 (.osl t) d l
 |.mp k v,d,l=>K4 (.mp k v) d l
def IC(t:Ty)(d:Nat)(l:List Cl):Option t.T:=match Adr t d l with
 |some (x,[])=>some x
 |_=>none
theorem MS{t:Ty}{c:Cl}{x:t.T}(h:He t d c=some x)(r:List Ab):Sub (c.v r) (cV t d x)/\c.v r=c.v0:=by
 unfold He at h;split at h
 .rename_i t' A B
  split at h
  case isFalse=>grind
  rename_i e;subst e;cases hd:dOK t' A d with
  |false=>grind
  |true=>
   rw[hd]at h;cases h;exact⟨Sub.of_eq (I8 (Kz hd)),rfl⟩
 .split at h
  .cases h
   exact⟨.inr ⟨rfl,_,_,_,rfl⟩,rfl⟩
  grind
 grind
theorem DL{t:Ty}(B:t.one=true){e:List Cl}{x:t.T}(h:K4 t d l=some (x,e))(r:List Ab):∃m,l=m++e/\CK (m.map (Cl.v r)) (tyV t d x)/\m.map (Cl.v r)=m.map Cl.v0:=by
 unfold K4 at h;split at h
 .rename_i c E
  split at h
  .rename_i y A
   cases h;obtain⟨J,F⟩:=MS A r;exact⟨[c],rfl,by rw[BL B];trivial,by grind⟩
  grind
 grind
theorem Uf(r:List Ab):∀(t:Ty) (d:Nat) (l e:List Cl) (x:t.T),Adr t d l=some (x,e)->∃m,l=m++e/\CK (m.map (Cl.v r)) (tyV t d x)/\m.map (Cl.v r)=m.map Cl.v0
 |.unit,d,l,e,x,h=>by cases h;exact⟨[],rfl,trivial,rfl⟩
 |.int k,d,l,e,x,h=>DL rfl h r
 |.bool,d,l,e,x,h=>DL rfl h r
 |.str,d,l,e,x,h=>DL rfl h r
 |.sl t,d,l,e,x,h=>DL rfl h r
 |.ptr t,d,l,e,x,h=>DL rfl h r
 |.clo g t,d,l,e,x,h=>DL rfl h r
 |.osl t,d,l,e,x,h=>DL rfl h r
 |.mp k v,d,l,e,x,h=>DL rfl h r
 |.pair a b,d,l,e,x,h=>by
  unfold Adr at h;split at h
  .rename_i y A O
   split at h
   .rename_i z Y J
    cases h;obtain⟨F,W,s1,t1⟩:=Uf r a d l A y O;obtain⟨E,U,B,t2⟩:=Uf r b d A e z J;subst U;subst W;exact⟨F++E,by simp,by rw[List.map_append];exact s1.app B,by grind⟩
   grind
  grind
theorem Db{t:Ty}{x:t.T}(h:IC t d l=some x)(r:List Ab):CK (l.map (Cl.v r)) (tyV t d x)/\l.map (Cl.v r)=l.map Cl.v0:=by
 unfold IC at h;split at h
 .rename_i y A
  cases h;obtain⟨m,e,E,B⟩:=Uf r t d l [] x A
  grind
 grind
def Jz(r:List Ab):∀t:Ty,(Ii t).map (Cl.v r)=(B0 t).map .c
 |.int _=>rfl
 |.bool=>rfl
 |.str=>rfl
 |.sl _=>rfl
 |.ptr _=>rfl
 |.unit=>rfl
 |.clo _ _=>rfl
 |.osl _=>rfl
 |.mp _ _=>rfl
 |.pair a b=>by simp[Ii,B0,Jz r a,Jz r b]
def Po:∀t:Ty,CK ((B0 t).map .c) ((Wu t).map Cl.v0)
 |.int _=>⟨Sub.refl _,trivial⟩
 |.bool=>⟨Sub.refl _,trivial⟩
 |.str=>⟨Sub.refl _,trivial⟩
 |.sl _=>⟨.inr ⟨rfl,_,_,_,rfl⟩,trivial⟩
 |.ptr _=>⟨Sub.refl _,trivial⟩
 |.clo _ _=>⟨Sub.refl _,trivial⟩
 |.osl _=>⟨.inr ⟨rfl,_,_,_,rfl⟩,trivial⟩
 |.mp _ _=>⟨Sub.refl _,trivial⟩
 |.unit=>trivial
 |.pair a b=>by simp[B0,Wu,List.map_append];exact(Po a).app (Po b)
def Ty.noPtr:Ty->Bool
 |.ptr _=>false
 |.clo _ _=>false
 |.osl _=>false
 |.mp _ _=>false
 |.pair a b=>a.noPtr&&b.noPtr
 |_=>true
def Pm(d:Nat):∀t:Ty,t.noPtr=true->CK ((B0 t).map .c) (tyV t d t.dflt)
 |.int _,_=>⟨Sub.refl _,trivial⟩
 |.bool,_=>⟨Sub.refl _,trivial⟩
 |.str,_=>⟨Sub.refl _,trivial⟩
 |.sl _,_=>⟨.inr ⟨rfl,_,_,_,rfl⟩,trivial⟩
 |.unit,_=>trivial
 |.pair a b,h=>by
  simp[Ty.noPtr,bAE]at h;simp[B0,tyV];exact(Pm d a h.1).app (Pm d b h.2)
def Hw:∀t:Ty,(B0 t).length=t.w
 |.int _=>rfl
 |.bool=>rfl
 |.str=>rfl
 |.sl _=>rfl
 |.ptr _=>rfl
 |.unit=>rfl
 |.clo _ _=>rfl
 |.osl _=>rfl
 |.mp _ _=>rfl
 |.pair a b=>by simp[B0,Ty.w,Hw a,Hw b]
def Cl.plain:Cl->Bool
 |.dead=>false
 |.c .unit _ _=>false
 |.c (.pair _ _) _ _=>false
 |.c (.clo _ _) _ _=>false
 |.c (.osl _) _ _=>false
 |.c (.mp _ _) _ _=>false
 |y=>!y.own
def Sl.cells:Sl->Option (List Cl)
 |.one y=>bif y.plain then some [y]else none
 |.agg l=>bif l.all Cl.plain then some l else none
 |_=>none
theorem XJ(h:y.plain=true):one1 (y.v r)=true/\AM (y.v r)=false/\Bu (y.v r)=true/\Go.Ve.cellsV (y.v r)=[y.v r]:=by
 cases y with
 |c t d x=>cases t<;>cases d<;>first|trivial|rfl
 |dead=>cases h
 |_=>trivial
theorem CJ{y:Sl}(h:y.cells=some l):Bu (y.v r)=true/\Go.Ve.cellsV (y.v r)=l.map (Cl.v r)/\l.all Cl.plain=true:=by
 unfold Sl.cells at h;split at h
 .rename_i c
  cases e:c.plain with
  |false=>grind
  |true=>
   rw[e]at h;cases h;obtain⟨_,_,F,E⟩:=XJ e;exact⟨F,E,by grind⟩
 .rename_i A
  cases e:A.all Cl.plain with
  |false=>grind
  |true=>
   rw[e]at h;cases h;refine⟨?_,Pb,e⟩;show Bu (Ai _)=true;rw[XK,List.all_map,aET];intro y B;exact(XJ (aET.1 e y B)).1
 grind
def Sl.cellsF:Sl->Option (List Cl)
 |.one (.c (.clo g t) d x)=>some [.c (.clo g t) d x]
 |y=>y.cells
theorem Pd{y:Sl}(h:y.cellsF=some l):Bu (y.v r)=true/\Go.Ve.cellsV (y.v r)=l.map (Cl.v r):=by
 unfold Sl.cellsF at h;split at h
 .rename_i g t d x
  cases h;refine⟨?_,rfl⟩;show(!AM (cV (.clo g t) d x))=true;have e:AM (cV (.clo g t) d x)=false:=Hz (.clo g t) x _ (List.mem_singleton.2 rfl)
  grind
 .obtain⟨B,A,_⟩:=CJ (r:=r) h
  grind
def QV(cells:List Cl):Nat->List Cl->List Cl
 |_,[]=>cells
 |off,y::l=>QV (cells.set off y) (off+1) l
theorem Acb:∀(l cells:List V) (off k:Nat),((l.zipIdx k).foldl (λcs (c,j)=>cs.set (off+j) c) cells)=ZA cells (off+k) l:=by
 have gen:∀(l cells:List V) (off k:Nat),((l.zipIdx k).foldl (λcs (c,j)=>cs.set (off+j) c) cells)=((l.zipIdx 0).foldl (λcs (c,j)=>cs.set (off+k+j) c) cells):=by
  intro l
  induction l with
  |nil=>simp
  |cons v l e=>
   intro cells off k;simp[Nat.add_zero];rw[e _ off (k+1),e _ (off+k) (0+1)];rfl
 trivial
def Xd{v:V}{l cells:List V}{off:Nat}:ZA cells off (v::l)=ZA (cells.set off v) (off+1) l:=by
 show((v::l).zipIdx 0).foldl _ cells=_;exact Acb l _ off (0+1)
def Xf{r:List Ab}:∀(l cells:List Cl) (off:Nat),(QV cells off l).map (Cl.v r)=ZA (cells.map (Cl.v r)) off (l.map (Cl.v r))
 |[],cells,off=>rfl
 |y::l,cells,off=>by
  rw[List.map_cons,Xd];show(QV (cells.set off y) (off+1) l).map (Cl.v r)=_;rw[Xf l,List.map_set]
def Vh(place:Nat->Option (Nat×Nat))(cells:List Cl):List (Nat×Option Sl)->Option (List Cl)
 |[]=>some cells
 |(i,y)::rest=>match place i,y with
  |some (off,size),some y=>match y.cellsF with
   |some l=>bif Nat.beq l.length size&&Nat.ble (off+size) cells.length then Vh place (QV cells off l) rest else none
   |none=>none
  |_,_=>none
theorem MA{s:St}{place:Nat->Option (Nat×Nat)}:∀(ps:List (Nat×Operand)) (cells l:List Cl),Vh place cells (ps.map λp=>(p.1,s.ev p.2))=some l->
  (ps.map λp=>(p.1,s.den.ev p.2)).all (λp=>Bu p.2)=true/\Cd place (cells.map (Cl.v s.r)) (ps.map λp=>(p.1,s.den.ev p.2))=some (l.map (Cl.v s.r))
 |[],cells,l,h=>by cases h;exact⟨rfl,rfl⟩
 |(i,x)::ps,cells,l,h=>by
  rw[List.map_cons]at h;unfold Vh at h;split at h
  case h_2=>cases h
  rename_i off size y e B;split at h
  case h_2=>cases h
  rename_i m E;obtain⟨A,h⟩:=A9 h;simp only[bAE]at A;have J:=bqE A.1;have F:=blE A.2;obtain⟨g1,g2⟩:=Pd (r:=s.r) E;obtain⟨k1,k2⟩:=MA ps _ _ h;rw[List.map_cons,List.all_cons];refine⟨by simp only[A7 B,g1,Bool.true_and];exact k1,?_⟩
  unfold Cd;simp only[e,A7 B,g2];rw[if_neg (by grind),<-Xf]
  exact k2
def W6:Option TI->List (Nat×Option Sl)->Option TR
 |some i,ps=>bif i.agg then(match Vh (λk=>i.places[k]?) (Ii i.ty) ps with
   |some l=>some (.ok (.agg l))
   |none=>none)
  else none
 |none,_=>none
theorem NU(e:Θ.OK P)(h:W6 (Θ.look t) (ps.toList.map λp=>(p.1,s.ev p.2))=some a):QS P s (.build t ps) a.y:=by
 unfold W6 at h;split at h
 case h_2=>grind
 rename_i i hi;cases A:i.agg with
 |false=>grind
 |true=>
  rw[A]at h;split at h
  case h_2=>grind
  rename_i l E;cases h;obtain⟨F,B⟩:=MA _ _ _ E;show Lv (AbD P t) (ps.toList.map λp=>(p.1,s.den.ev p.2)) (SK s _)
  rw[e.bd hi,A];unfold Lv;rw[Jz]at B;simp only[if_true];rw[B];exact⟨F,Sub.refl _⟩
def OB(t:Ty)(d:Nat):Nat->List Cl->Option (List t.T)
 |0,[]=>some []
 |0,_::_=>none
 |n+1,l=>match Adr t d l with
  |some (x,l)=>match OB t d n l with
   |some xs=>some (x::xs)
   |none=>none
  |none=>none
theorem PY{t:Ty}(r:List Ab):∀(n:Nat) (l:List Cl) (xs:List t.T),OB t d n l=some xs->xs.length=n/\l.map (Cl.v r)=l.map Cl.v0/\
  ∀i k,i<n->k<t.w->Sub ((l.map (Cl.v r)).getD (i*t.w+k) .dead) ((tyV t d (xs.getD i t.dflt)).getD k .dead):=by
 intro n
 induction n with
 |zero=>
  intro l xs h;cases l with
  |nil=>cases h;exact⟨rfl,rfl,λi k hi=>by omega⟩
  |cons y l=>cases h
 |succ n F=>
  intro l xs h;unfold OB at h;split at h
  case h_2=>cases h
  rename_i x A U;split at h
  case h_2=>cases h
  rename_i ys O;cases h;obtain⟨m,e,s1,E⟩:=Uf r t d l A x U;obtain⟨g1,g2,W⟩:=F A ys O;subst e;have B:(m.map (Cl.v r)).length=t.w:=by rw[s1.len,Ay]
  refine⟨by simp[g1],by simp[E,g2],λi k hi J=>?_⟩
  rw[List.map_append];cases i with
  |zero=>
   simp only[Nat.zero_mul,Nat.zero_add,List.getD_cons_zero];have:=s1.getD k;rw[gDE,gAL (by omega),<-gDE]
   exact this
  |succ i=>
   have:=W i k (by omega) J
   rw[List.getD_cons_succ];have e:(i+1)*t.w+k-(m.map (Cl.v r)).length=i*t.w+k:=by rw[B,Nat.add_mul];omega
   rw[gDE,gAR (by rw[B,Nat.add_mul];omega),e,<-gDE]
   exact this
def Acm(n:Nat)(l:List Cl):List Cl:=match n with
 |0=>[]
 |n+1=>l++Acm n l
def Yq:∀(n w:Nat) (l:List V),l.length=w->0<w->∀j,j<n*w->((List.replicate n l).flatten).getD j .dead=l.getD (j % w) .dead:=by
 intro n w l A B
 induction n with
 |zero=>simp
 |succ n e=>
  intro j hj;rw[List.replicate_succ,List.flatten_cons];by_cases h:j<w
  .rw[gDE,gAL (by omega),<-gDE,Nat.mod_eq_of_lt h]
  .have:=Nat.add_one_mul n w
   rw[gDE,gAR (by omega),<-gDE,A,e (j-w) (by omega),<-Nat.mod_eq_sub_mod (by omega)]
theorem Xq(r:List Ab)(t:Ty)(n:Nat)(A:0<t.w):(Acm n (Ii t)).map (Cl.v r)=(List.range (n*t.w)).map λj=>.c ((B0 t).getD (j % t.w) undef):=by
 have e:(Acm n (Ii t)).map (Cl.v r)=(List.replicate n ((B0 t).map V.c)).flatten:=by
  induction n with
  |zero=>rfl
  |succ n B=>
   show((Ii t)++Acm n (Ii t)).map (Cl.v r)=_;rw[List.map_append,B,Jz,List.replicate_succ,List.flatten_cons]
 have F:((B0 t).map V.c).length=t.w:=by rw[List.length_map,Hw]
 rw[e];apply List.ext_getElem
 .simp_all
 .intro j O J
  have hj:=by simpa using J
  have g:=Yq n t.w _ F A j hj;rw[gDE,gEE O]at g;simp at g;rw[g];have E:j % t.w<(B0 t).length:=by rw[Hw];exact Nat.mod_lt _ A
  simp[E]
def Ty.noO:Ty->Bool
 |.osl _=>false
 |.mp _ _=>false
 |.clo _ t=>t.noO
 |.pair a b=>a.noO&&b.noO
 |_=>true
theorem Js:∀(t:Ty) (x:t.T),t.noO=true->∀v∈tyV t 0 x,Cc v=true
 |.int _,_,_,v,h=>by simp[tyV]at h;subst h;rfl
 |.bool,_,_,v,h=>by simp[tyV]at h;subst h;rfl
 |.str,_,_,v,h=>by simp[tyV]at h;subst h;rfl
 |.sl _,_,_,v,h=>by simp only[tyV,List.mem_singleton]at h;subst h;rfl
 |.ptr _,_,_,v,h=>by simp only[tyV,List.mem_singleton]at h;subst h;rfl
 |.unit,_,_,v,h=>by trivial
 |.pair a b,x,ho,v,h=>by
  simp only[Ty.noO,bAE]at ho;simp only[tyV,List.mem_append]at h;exact h.elim (Js a x.1 ho.1 v) (Js b x.2 ho.2 v)
 |.osl _,_,ho,_,_=>by cases ho
 |.mp _ _,_,ho,_,_=>by cases ho
 |.clo g t,x,ho,v,h=>by
  simp only[tyV,List.mem_singleton]at h;subst h;show((List.range t.w).all λk=>Cc ((tyV t 0 x).getD k .dead))=true
  rw[aET];intro k e;have e:k<(tyV t 0 x).length:=by rw[Ay];grind
  rw[gDE,gEE e];exact Js t x ho _ (List.getElem_mem e)
def Cl.imm:Cl->Bool
 |.c .unit _ _=>false
 |.c (.pair _ _) _ _=>false
 |.c (.clo _ _) _ _=>false
 |.c (.osl _) _ _=>false
 |.c (.mp _ _) _ _=>false
 |.c t d x=>!(Cl.c t d x).own
 |.nil=>true
 |.nilp=>true
 |.nilf=>true
 |.nilm=>true
 |_=>false
theorem Qf(h:y.imm=true):Cc (y.v r)=true/\y.v r=y.v0:=by
 cases y with
 |c t d x=>cases t<;>cases d<;>first|trivial|rfl
 |nil=>trivial
 |nilp=>trivial
 |nilf=>trivial
 |nilm=>trivial
 |_=>cases h
def Cl.immF:Cl->Bool
 |.c (.clo _ t) _ _=>t.noO
 |y=>y.imm
theorem immF_v(h:y.immF=true):Cc (y.v r)=true:=by
 unfold Cl.immF at h;split at h
 .rename_i g t d x
  exact Js (.clo g t) x h _ (List.mem_singleton.2 rfl)
 .exact(Qf h).1
theorem AcV(h:l.all Cl.immF=true):(l.map (Cl.v r)).all Cc=true:=by
 rw[List.all_map,aET];intro y e;exact immF_v (aET.1 h y e)
theorem imms_v(h:l.all Cl.imm=true):(l.map (Cl.v r)).all Cc=true/\l.map (Cl.v r)=l.map Cl.v0:=by
 refine⟨?_,List.map_congr_left λy e=>(Qf (aET.1 h y e)).2⟩
 rw[List.all_map,aET];intro y e;exact(Qf (aET.1 h y e)).1
def Hk(n:Nat)(ps:List (Nat×Option Sl)):Option TI->Option TR
 |some j=>bif Nat.blt 0 j.ty.w&&Nat.ble (n*j.ty.w) 16777216 then(bif Nat.beq n 0 then(match ps with
  |[]=>some (.ok (.one (.c (.sl j.ty) (j.sd+1) [])))
  |_::_=>none)else match Vh (λi=>some (i*j.ty.w,j.ty.w)) (Acm n (Ii j.ty)) ps with
   |some l=>bif l.all Cl.immF then(match OB j.ty j.sd n l with
    |some xs=>some (.ok (.one (.c (.sl j.ty) (j.sd+1) xs)))
    |none=>match OB j.ty 0 n l with
     |some xs=>some (.ok (.one (.c (.sl j.ty) 1 xs)))
     |none=>none)else none
   |none=>none)
  else none
 |none=>none
theorem Ip(O:Θ.OK P){n:Nat}(h:Hk n (ps.toList.map λp=>(p.1,s.ev p.2)) (((Θ.look t).bind (·.elem)).bind Θ.look)=some a):QS P s (.buildSlice t n ps) a.y:=by
 unfold Hk at h;split at h
 case h_2=>cases h
 rename_i j hj;obtain⟨e,B,_⟩:=Dh O hj;cases F:(Nat.blt 0 j.ty.w&&Nat.ble (n*j.ty.w) 16777216)with
 |false=>rw[F]at h;cases h
 |true=>
  rw[F]at h;simp only[bAE]at F;have U:=La F.1;have Y:=blE F.2;simp only[cond_true]at h;cases J:Nat.beq n 0 with
  |true=>
   rw[J]at h;simp only[cond_true]at h;have J:=bqE J;subst J;split at h
   case h_2=>cases h
   rename_i W;cases h;have E:ps.toList=[]:=by simpa using W
   show B8 (slI P t) (Ach P t) 0 (ps.toList.map λp=>(p.1,s.den.ev p.2)) (SK s _)
   rw[B,E];refine⟨rfl,⟨U,Y⟩,?_⟩;simp only[Nat.zero_mul,List.range_zero,List.map_nil,Cd];refine⟨rfl,?_⟩;refine(Eqv.sub (Eqv.symm (MF (Ach P t) j.ty.w 0 _))).trans ?_;show Sub _ (arr true j.ty.w (tyV j.ty j.sd) j.ty.dflt []);exact⟨_,rfl,λi k hi Z=>by omega⟩
  |false=>
  rw[J]at h;simp only[cond_false]at h;split at h
  case h_2=>cases h
  rename_i l hl;obtain⟨hi,h⟩:=A9 h
  have key:∀(d:Nat) (xs:List j.ty.T),OB j.ty d n l=some xs->a=.ok (.one (.c (.sl j.ty) (d+1) xs))->QS P s (.buildSlice t n ps) a.y:=by
   intro d xs A ha;subst ha;obtain⟨h1,h2⟩:=MA _ _ _ hl;rw[Xq s.r j.ty n U]at h2;show B8 (slI P t) (Ach P t) n (ps.toList.map λp=>(p.1,s.den.ev p.2)) (SK s _)
   rw[B];refine⟨h1,⟨U,Y⟩,?_⟩;rw[h2];refine⟨AcV hi,?_⟩;obtain⟨g1,g2,g3⟩:=PY s.r n l xs A;refine(Eqv.sub (Eqv.symm (MF (Ach P t) j.ty.w n _))).trans ?_;show Sub _ (arr true j.ty.w (tyV j.ty d) j.ty.dflt xs);unfold arr;rw[g1];exact⟨_,rfl,λi k hi Z=>g3 i k hi Z⟩
  split at h
  .rename_i xs A
   cases h;exact key _ xs A rfl
  .split at h
   case h_2=>cases h
   rename_i xs A;cases h;exact key 0 xs A rfl
def W8:Option TI->Option TR
 |some i=>bif Nat.blt 0 i.ty.w then some (.ok (.new (Wu i.ty)))else none
 |none=>none
theorem NW(e:Θ.OK P)(h:W8 (Θ.look t)=some a):QS P s (.alloc t) a.y:=by
 unfold W8 at h;split at h
 case h_2=>grind
 rename_i i hi;cases A:Nat.blt 0 i.ty.w with
 |false=>grind
 |true=>
  rw[A]at h;cases h;show Ou (tyI P t) (SK s _);rw[e.ty hi];exact⟨La A,(Po i.ty).obj⟩
def tBox:Option Sl->Option TR
 |some y=>match y.cells with
  |some l=>bif l.all Cl.imm then some (.ok (.new l))else some (.ok (.pk .bx l))
  |none=>none
 |none=>none
theorem Vi{x:Operand}(h:tBox (s.ev x)=some a):QS P s (.box t x) a.y:=by
 unfold tBox at h;split at h
 case h_2=>grind
 rename_i y E;split at h
 case h_2=>grind
 rename_i l F;cases e:l.all Cl.imm with
 |false=>
  rw[e]at h;cases h;obtain⟨B,A,_⟩:=CJ F;show qBox (s.den.ev x) (SK s _);rw[A7 E];refine⟨B,.inr ?_⟩;rw[A];exact Sub.refl _
 |true=>
  rw[e]at h;cases h;obtain⟨B,A,_⟩:=CJ F;obtain⟨g1,g2⟩:=imms_v (r:=s.r) e;show qBox (s.den.ev x) (SK s _);rw[A7 E];refine⟨B,.inl ⟨by grind,?_⟩⟩
  rw[A,g2];exact Sub.refl _
def Ab1:Option TI->Option Sl->Option Sl->Option TR
 |some j,some (.one (.c (.int _) _ l)),some (.one (.c (.int _) _ c))=>
  bif Nat.blt 0 j.ty.w&&j.ty.noPtr then some (.cnd (0<=l/\l<=c/\(j.bytes:Int)*c<=281474976710656/\c<=9223372036854775807) inferInstance (.one (.c (.sl j.ty) (j.sd+1) (AaZ (J8 l) j.ty.dflt))))else none
 |_,_,_=>none
theorem VP(e:Bool){t:Ty}(d n:Nat)(h:t.noPtr=true):Sub (XX e t.w n (B0 t)) (cV (.sl t) (d+1) (List.replicate n t.dflt)):=by
 have gen:Sub (arr true t.w (λx=>x) [] (List.replicate n ((B0 t).map .c))) (cV (.sl t) (d+1) (List.replicate n t.dflt)):=by
  have E:cV (.sl t) (d+1) (List.replicate n t.dflt)=arr true t.w (tyV t d) t.dflt (List.replicate n t.dflt):=by rfl
  rw[E];unfold arr;rw[List.length_replicate,List.length_replicate];refine⟨_,rfl,λi k hi _=>?_⟩
  have B:(List.replicate n ((B0 t).map V.c)).getD i []=(B0 t).map .c:=by grind
  have A:(List.replicate n t.dflt).getD i t.dflt=t.dflt:=by grind
  show Sub (((List.replicate n ((B0 t).map V.c)).getD i []).getD k .dead) ((tyV t d ((List.replicate n t.dflt).getD i t.dflt)).getD k .dead);rw[B,A];exact(Pm d t h).getD k
 trivial
theorem PB(B:Θ.OK P){l c:Operand}(h:Ab1 (((Θ.look t).bind (·.elem)).bind Θ.look) (s.ev l) (s.ev c)=some a)(F:a.p):QS P s (.makeSlice t l c) a.y:=by
 unfold Ab1 at h;split at h
 case h_2=>grind
 rename_i j _ _ U _ _ W hj J O;obtain⟨e,E,_⟩:=Dh B hj;cases A:(Nat.blt 0 j.ty.w&&j.ty.noPtr)with
 |false=>grind
 |true=>
  rw[A]at h;simp only[bAE]at A;cases h;show XD (slI P t) (Ach P t) (s.den.ev l) (s.den.ev c) (SK s _);rw[E,A7 J,A7 O];exact⟨La A.1,F,VP _ _ _ A.2⟩
def Lh:Option (Option Sl)->Option (Option Int)
 |none=>some none
 |some (some (.one (.c (.int _) _ n)))=>some (some n)
 |_=>none
def WT(s:St):Option TI->Option TI->Option Sl->Option (Option Int)->Option (Option Int)->Option TR
 |some i,_,some (.one (.c .str _ b)),some lo,some hi=>
  bif i.str then some (.cnd (0<=lo.getD 0/\lo.getD 0<=hi.getD (ofN (MG b))/\hi.getD (ofN (MG b))<=ofN (MG b)) inferInstance (.one (.c .str 0 (cutS b (J8 (lo.getD 0)) (J8 (hi.getD (ofN (MG b))))))))else none
 |some i,some j,some (.one (.c (.sl t) 0 xs)),some lo,some hi=>
  bif Nat.beq t.w j.ty.w&& !i.str then some (.cnd (0<=lo.getD 0/\lo.getD 0<=hi.getD (ofN (HZ xs))/\hi.getD (ofN (HZ xs))<=ofN (HZ xs)) inferInstance
   (.one (.c (.sl t) 0 (match lo,hi with
    |none,none=>xs
    |some l,none=>Qo (J8 l) xs
    |none,some h=>Pu (J8 h) xs
    |some l,some h=>Pu (J8 h-J8 l) (Qo (J8 l) xs)))))else none
 |some i,some j,some (.one (.rf id p)),some lo,some hi=>
  match Af s.r id p with
  |.arr _ t _ xs=>bif Nat.beq t.w j.ty.w&& !i.str then some (.cnd (0<=lo.getD 0/\lo.getD 0<=hi.getD (ofN (HZ xs))/\hi.getD (ofN (HZ xs))<=ofN (HZ xs)) inferInstance
    (.one (.rs id p (J8 (lo.getD 0)) (J8 (hi.getD (ofN (HZ xs)))-J8 (lo.getD 0)))))else none
  |_=>none
 |some i,some j,some (.one (.rs id p off len)),some lo,some hi=>
  match Af s.r id p with
  |.arr _ t _ _=>bif Nat.beq t.w j.ty.w&& !i.str then some (.cnd (0<=lo.getD 0/\lo.getD 0<=hi.getD (ofN len)/\hi.getD (ofN len)<=ofN len) inferInstance
    (.one (.rs id p (off+J8 (lo.getD 0)) (J8 (hi.getD (ofN len))-J8 (lo.getD 0)))))else none
  |_=>none
 |_,_,_,_,_=>none
theorem CP{l:Option Int}(h:Lh (lo.map s.ev)=some l)(d:Int):bnd d (lo.map s.den.ev)=some (l.getD d):=by
 cases lo with
 |none=>cases h;rfl
 |some x=>
  simp at h⊢;unfold Lh at h;split at h
  .grind
  .rename_i e
   cases h;simp at e;rw[A7 e];rfl
  grind
theorem NO{s:St}(Y:Θ.OK P){t:TypeId}{x:Operand}{lo hi:Option Operand}{a:TR}
  (h:WT s (Θ.look t) (((Θ.look t).bind (·.elem)).bind Θ.look) (s.ev x) (Lh (lo.map s.ev)) (Lh (hi.map s.ev))=some a) (Z:a.p):QS P s (.slice t x lo hi none) a.y:=by
 unfold WT at h;have B:∀y,Lt (slK P t) (s.r.map Ab.v) (s.den.ev x) (lo.map s.den.ev) (hi.map s.den.ev) (SK s y)->QS P s (.slice t x lo hi none) y:=λy h=>⟨rfl,h⟩
 have J:∀{i j:TI},Θ.look t=some i->((Θ.look t).bind (·.elem)).bind Θ.look=some j->i.str=false->slK P t=.slice j.ty.w:=by
  intro i j hi hj hs;rw[Y.sk hi,hs];rw[hi]at hj;simp only[Option.bind_some]at hj;rw[hj];rfl
 split at h
 case h_5=>cases h
 .rename_i i _ b l u W O e A
  obtain⟨U,h⟩:=A9 h;cases h;refine B _ ?_;rw[Y.sk W,U,A7 O];unfold Lt
  show(match bnd 0 (lo.map s.den.ev),bnd b.size (hi.map s.den.ev)with
   |some l,some h=>_
   |_,_=>False)
  rw[CP e,CP A];exact⟨Z,Sub.refl _⟩
 .rename_i i j t' xs l u W hj O e A
  obtain⟨U,h⟩:=A9 h;cases h;obtain⟨h1,E⟩:=IT U;have E:i.str=false:=by simpa using E
  refine B _ ?_;rw[J W hj E,A7 O]
  show(match bnd 0 (lo.map s.den.ev),bnd xs.length (hi.map s.den.ev)with
   |some l,some h=>_
   |_,_=>False)
  rw[CP e,CP A];refine⟨h1,Z,?_⟩;obtain⟨p1,p2,p3⟩:0<=l.getD 0/\l.getD 0<=u.getD xs.length/\u.getD xs.length<=xs.length:=Z;show Sub (V.nd true false t'.w ((u.getD xs.length).toNat-(l.getD 0).toNat) λi k=>(tyV t' 0 (xs.getD (i+(l.getD 0).toNat) t'.dflt)).getD k .dead) (arr false t'.w (tyV t' 0) t'.dflt _)
  have key:∀ys:List t'.T,ys.length=(u.getD xs.length).toNat-(l.getD 0).toNat->(∀i,i<ys.length->ys.getD i t'.dflt=xs.getD (i+(l.getD 0).toNat) t'.dflt)->
    Sub (V.nd true false t'.w ((u.getD xs.length).toNat-(l.getD 0).toNat) λi k=>(tyV t' 0 (xs.getD (i+(l.getD 0).toNat) t'.dflt)).getD k .dead) (arr false t'.w (tyV t' 0) t'.dflt ys):=by
   intro ys hl hg;unfold arr;rw[hl];refine⟨_,rfl,λi k hi _=>?_⟩
   rw[hg i (by omega)]
   exact Sub.refl _
  cases l with
  |none=>cases u with
   |none=>exact key xs (by simp) λi hi=>by simp
   |some u=>
    simp only[Option.getD_none,Option.getD_some]at p1 p2 p3⊢;refine key _ ?_ λi hi=>?_
    .simp only[J8,List.length_take];simp;omega
    .simp only[J8,List.length_take]at hi
     have:i<u.toNat:=by omega
     simp[List.getElem?_take,this]
  |some l=>cases u with
   |none=>
    simp only[Option.getD_none,Option.getD_some]at p1 p2 p3⊢;refine key _ ?_ λi hi=>?_
    .simp
    .simp[Nat.add_comm]
   |some u=>
    simp only[Option.getD_some]at p1 p2 p3⊢;refine key _ ?_ λi hi=>?_
    .simp only[J8,Option.getD_some,List.length_take,List.length_drop];omega
    .simp only[J8,List.length_take,List.length_drop]at hi
     have:i<u.toNat-l.toNat:=by omega
     simp[List.getElem?_take,this,Nat.add_comm]
 .rename_i i j id p l u W hj O e A
  split at h
  case h_2=>cases h
  rename_i ro t' d xs F;have hne:Af s.r id p≠.dead:=by rw[F];simp
  obtain⟨U,h⟩:=A9 h;cases h;obtain⟨h1,E⟩:=IT U;have E:i.str=false:=by simpa using E
  refine B _ ?_;rw[J W hj E,A7 O];have hl:(Af s.r id p).len=xs.length:=by rw[F];rfl
  show(match bnd 0 (lo.map s.den.ev),bnd (Af s.r id p).len (hi.map s.den.ev)with
   |some l,some h=>_
   |_,_=>False)
  rw[CP e,CP A,hl];refine⟨by rw[Ci (by rw[F];rfl),F];exact h1,Z,?_⟩
  show Sub (V.rs id p (0+(l.getD 0).toNat) _) (V.rs id p (l.getD 0).toNat _);rw[Nat.zero_add];exact Sub.refl _
 .rename_i i j id p off len l u W hj O e A
  split at h
  case h_2=>cases h
  rename_i ro t' d xs F;have hne:Af s.r id p≠.dead:=by rw[F];simp
  obtain⟨U,h⟩:=A9 h;cases h;obtain⟨h1,E⟩:=IT U;have E:i.str=false:=by simpa using E
  refine B _ ?_;rw[J W hj E,A7 O]
  show(match bnd 0 (lo.map s.den.ev),bnd len (hi.map s.den.ev)with
   |some l,some h=>_
   |_,_=>False)
  rw[CP e,CP A];exact⟨by rw[Ci (by rw[F];rfl),F];exact h1,Z,Sub.refl _⟩
end Go.Ve


namespace Go.Ve
variable{b:Bool}{y y':Cl}{f:FuncId}{r:List Ab}{ys:List Sl}{g:Nat}{D fp:Nat->Prop}{t1 t2:Nat->Sl}{op:Op}{x:Operand}{P:Program}{s:St}{Θ:Tab}{t:Ty}{v:V}{R:V->Value->Prop}{cv:Value}{w:World}
def PT:List (Bool×Ty)->Ty
 |[]=>.unit
 |[p]=>p.2
 |p::q::l=>.pair p.2 (PT (q::l))
def vOf(b:Bool)(t:Ty)(d:Nat)(x:t.T):V:=if b then Ai (tyV t d x)else cV t d x
def Cf:(l:List (Bool×Ty))->(PT l).T->List V
 |[],_=>[]
 |[p],x=>[vOf p.1 p.2 0 x]
 |p::q::l,x=>vOf p.1 p.2 0 x.1::Cf (q::l) x.2
def RT:List (Bool×Nat×Ty)->Ty
 |[]=>.unit
 |[p]=>p.2.2
 |p::q::l=>.pair p.2.2 (RT (q::l))
def Ack:(l:List (Bool×Nat×Ty))->(RT l).T->List V
 |[],_=>[]
 |[p],x=>[vOf p.1 p.2.2 p.2.1 x]
 |p::q::l,x=>vOf p.1 p.2.2 p.2.1 x.1::Ack (q::l) x.2
def Xp(l:List (Bool×Nat×Ty))(x:(RT l).T):V:=OA (Ack l x)
def isP(p:Bool×Nat×Ty):Bool:=!p.1&&match p.2.2 with
 |.ptr _=>true
 |_=>false
def Y6(b:Bool)(p:Bool×Nat×Ty)(x:p.2.2.T):V:=bif b|| !isP p then vOf p.1 p.2.2 p.2.1 x else .c (.pointer none)
def Vu(b:Bool):(l:List (Bool×Nat×Ty))->(RT l).T->List V
 |[],_=>[]
 |[p],x=>[Y6 b p x]
 |p::q::l,x=>Y6 b p x.1::Vu b (q::l) x.2
def Xo:∀(l:List (Bool×Nat×Ty)) (x:(RT l).T),Vu true l x=Ack l x
 |[],_=>rfl
 |[_],_=>rfl
 |p::q::l,x=>congrArg (vOf p.1 p.2.2 p.2.1 x.1:: ·) (Xo (q::l) x.2)
def Jb(b:Bool)(l:List (Bool×Nat×Ty))(x:(RT l).T):V:=OA (Vu b l x)
def Hn(l:List (Bool×Nat×Ty))(x:(RT l).T):Jb true l x=Xp l x:=congrArg OA (Xo l x)
structure Sig where
 ps:List (Bool×Ty)
 rs:List (Bool×Nat×Ty)
abbrev SigN:=Sig
def FT(P:Program)(f:FuncId)(S:Sig)(g:(PT S.ps).T->Option (RT S.rs).T):Prop:=∀x y,g x=some y->FC P f (Cf S.ps x) (Xp S.rs y)
structure En where
 f:FuncId
 S:Sig
 g:(PT S.ps).T->Option (RT S.rs).T
variable{Γ:List En}
def look:List En->FuncId->Option En
 |[],_=>none
 |e::l,f=>bif Nat.beq e.f f then some e else look l f
def En.OK(P:Program)(e:En):Prop:=Ae P e.f=true/\FT P e.f e.S e.g
def KU(P:Program)(Γ:List En):Prop:=∀e∈Γ,e.OK P
theorem FC.sub{P:Program}{f:FuncId}{args e:List V}{r:V}(h:FC P f args r)(B:CK e args):FC P f e r:=by
 intro w D cvs F J A E;refine h w D cvs F J (by rw[A,B.len]) λi hi=>Rel.sub (B.getD i) (E i (by rw[B.len];grind))
def FTN(P:Program)(f:FuncId)(S:Sig)(g:(PT S.ps).T->Option (Bool×(RT S.rs).T)):Prop:=∀x b y,g x=some (b,y)->FC P f (Cf S.ps x) (Jb b S.rs y)
structure EnN where
 f:FuncId
 S:Sig
 g:(PT S.ps).T->Option (Bool×(RT S.rs).T)
def Uv:List EnN->FuncId->Option EnN
 |[],_=>none
 |e::l,f=>bif Nat.beq e.f f then some e else Uv l f
def EnN.OK(P:Program)(e:EnN):Prop:=Ae P e.f=true/\FTN P e.f e.S e.g
def Uu{P:Program}{f:FuncId}{e:EnN}:∀{Γ:List EnN},(∀e∈Γ,e.OK P)->Uv Γ f=some e->e.OK P/\e.f=f
 |[],_,h=>by cases h
 |e'::l,hΓ,h=>by
  unfold Uv at h;cases B:Nat.beq e'.f f with
  |true=>
   simp_all
  |false=>
   rw[B]at h;exact Uu (λe A=>hΓ e (mCM _ A)) h
def Qb(s:St)(w:Nat):Cl->Option Cl
 |.c t _ x=>bif t.one then some (.c t 0 x)else none
 |.nil=>some .nil
 |.rf id p=>match Af s.r id p with
  |.arr _ t _ xs=>some (.c (.sl t) 0 xs)
  |_=>none
 |.rs id p off len=>match Af s.r id p with
  |.arr _ t _ xs=>some (.c (.sl t) 0 (Vm off len xs t.dflt))
  |_=>none
 |.rp id p j k=>match Af s.r id p with
  |.obj _ l=>match j with
   |0=>bif Nat.ble (k+w) l.length then(match DD ((l.drop k).take w)with
    |some ⟨t,x⟩=>some (.c (.ptr t) 0 x)
    |none=>none)else none
   |_+1=>none
  |.arr _ t _ xs=>bif Nat.ble (k+w) t.w then(match DD (((As t 0 (Ac1 xs j t.dflt)).drop k).take w)with
   |some ⟨t',x⟩=>some (.c (.ptr t') 0 x)
   |none=>none)else none
  |_=>none
 |_=>none
theorem UA(h:t.one=true)(d:Nat)(x:t.T):frz (cV t d x)=cV t 0 x:=by
 have:=Bg t d x;rw[BL h,BL h]at this
 grind
def AaD(v v':V):Prop:=Sub v v'\/∃sz e n f,v=.nd false false sz n f/\e<=sz/\Sub (.nd false false e n f) v'
theorem Rel.trunc{sz e n:Nat}{f:Nat->Nat->V}(h:Rel D w R (.nd false false sz n f) cv fp)(Z:e<=sz):Rel D w R (.nd false false e n f) cv fp:=by
 rcases h with h|⟨b,o,cap,F,O,E,B,A,W,hi,ho⟩
 .grind
 have Y:=A rfl;subst Y;refine .inr ⟨b,o,cap,F,O,E,B,A,λi k hi hk=>?_,λhh=>?_,λh=>by cases h⟩
 .obtain rfl:i=0:=by omega
  obtain⟨x,U,J⟩:=W 0 k (by omega) (by omega)
  exact⟨x,by simpa using U,J⟩
 grind
theorem Rel.sub1{v':V}(e:AaD v v')(h:Rel D w R v cv fp):Rel D w R v' cv fp:=by
 rcases e with e|⟨sz,A,n,f,rfl,B,e⟩
 .exact Rel.sub e h
 .exact Rel.sub e (h.trunc B)
def Je:List V->List V->Prop
 |[],[]=>True
 |a::l,b::m=>AaD a b/\Je l m
 |_,_=>False
def Je.len:∀{l m:List V},Je l m->l.length=m.length
 |[],[],_=>rfl
 |_::_,_::_,h=>by simp[Je.len h.2]
 |[],_::_,h=>h.elim
 |_::_,[],h=>h.elim
def Je.getD:∀{l m:List V} (_:Je l m) (k:Nat),AaD (l.getD k .dead) (m.getD k .dead)
 |[],[],_,_=>.inl (Sub.refl _)
 |_::_,_::_,h,0=>h.1
 |_::_,_::_,h,k+1=>Je.getD h.2 k
 |[],_::_,h,_=>h.elim
 |_::_,[],h,_=>h.elim
theorem FC.sub1{P:Program}{f:FuncId}{args e:List V}{r:V}(h:FC P f args r)(B:Je e args):FC P f e r:=by
 intro w D cvs F J A E;refine h w D cvs F J (by rw[A,B.len]) λi hi=>Rel.sub1 (B.getD i) (E i (by rw[B.len];grind))
theorem Jw{x:t.T}(h:v∈tyV t 0 x):Go.Ve.frz v=v:=by
 obtain⟨i,hi,rfl⟩:=List.getElem_of_mem h;have e:=Bg t 0 x
 grind
theorem Dd{σ:List V}:∀(t:Ty) (x:t.T),∀v∈tyV t 0 x,BQ σ v=v
 |.int _,_,v,h=>by simp[tyV]at h;subst h;rfl
 |.bool,_,v,h=>by simp[tyV]at h;subst h;rfl
 |.str,_,v,h=>by simp[tyV]at h;subst h;rfl
 |.sl t,x,v,h=>by
  have e:=Jw (x:=x) h;simp only[tyV,List.mem_singleton]at h;subst h;exact e
 |.ptr t,x,v,h=>by
  have e:=Jw (x:=x) h;simp only[tyV,List.mem_singleton]at h;subst h;exact e
 |.unit,_,v,h=>by simp[tyV]at h
 |.mp _ _,_,v,h=>by simp[tyV]at h;subst h;rfl
 |.pair a b,x,v,h=>by
  simp only[tyV,List.mem_append]at h;exact h.elim (Dd a x.1 v) (Dd b x.2 v)
 |.osl t,x,v,h=>by
  have e:=Jw (x:=x) h;simp only[tyV,List.mem_singleton]at h;subst h;cases x with
  |none=>rfl
  |some xs=>exact e
 |.clo g t,x,v,h=>by
  simp only[tyV,List.mem_singleton]at h;subst h;show(if Tg.cl g=.bx then _ else V.many (.cl g) t.w λk=>BQ σ ((tyV t 0 x).getD k .dead))=_
  rw[if_neg (by intro h;cases h)]
  congr 1
  funext k
  by_cases A:k<(tyV t 0 x).length
  .rw[gDE,gEE A]
   exact Dd t x _ (List.getElem_mem A)
  .rw[gDE,List.getElem?_eq_none (by omega)];rfl
theorem HY:∀(t:Ty) (x:t.T),∀v∈tyV t 0 x,AP v=false
 |.int _,_,v,h=>by simp[tyV]at h;subst h;rfl
 |.bool,_,v,h=>by simp[tyV]at h;subst h;rfl
 |.str,_,v,h=>by simp[tyV]at h;subst h;rfl
 |.sl _,_,v,h=>by simp[tyV,List.mem_singleton]at h;subst h;rfl
 |.ptr _,_,v,h=>by simp[tyV,List.mem_singleton]at h;subst h;rfl
 |.unit,_,v,h=>by trivial
 |.mp _ _,_,v,h=>by simp[tyV]at h;subst h;rfl
 |.pair a b,x,v,h=>by
  simp[tyV,List.mem_append]at h;exact h.elim (HY a x.1 v) (HY b x.2 v)
 |.osl t,x,v,h=>by
  simp[tyV,List.mem_singleton]at h;subst h;cases x<;>rfl
 |.clo g t,x,v,h=>by
  simp[tyV,List.mem_singleton]at h;subst h;show((List.range t.w).any λk=>AP ((tyV t 0 x).getD k .dead))=false
  rw[List.any_eq_false];intro k e;have e:k<(tyV t 0 x).length:=by rw[Ay];grind
  rw[gDE,gEE e];simp[HY t x _ (List.getElem_mem e)]
def Z5{σ:List V}{u:Ty}{d:Nat}{x:u.T}:BQ σ (cV (.clo g u) d x)=Go.Ve.frz (cV (.clo g u) d x):=by
 have e:cV (.clo g u) d x∈tyV (.clo g u) 0 x:=List.mem_singleton.2 rfl;rw[Dd _ _ _ e,Jw e]
theorem M5{w:Nat}(h:Qb s w y=some y'):AaD (BQ (s.r.map Ab.v) (y.v s.r)) y'.v0/\y'.v0=y'.v s.r/\((∀id p i k,y≠.rp id p i k)->Sub (BQ (s.r.map Ab.v) (y.v s.r)) y'.v0):=by
 have A:∀{v v':V},Sub v v'->AaD v v'/\((∀id p i k,y≠.rp id p i k)->Sub v v'):=λh=>⟨.inl h,λ_=>h⟩
 unfold Qb at h;split at h
 .rename_i t d x
  cases O:t.one with
  |false=>rw[O]at h;cases h
  |true=>
   rw[O]at h;cases h
   have:Sub (BQ (s.r.map Ab.v) (cV t d x)) (cV t 0 x):=by
    rw[<-UA O d x];cases t<;>first|exact Sub.refl _|(cases O;done)|(cases x<;>exact Sub.refl _)|exact Sub.of_eq Z5
   exact⟨(A this).1,rfl,(A this).2⟩
 .cases h;exact⟨(A (Sub.refl _)).1,rfl,(A (Sub.refl _)).2⟩
 .rename_i id p
  split at h
  case h_2=>cases h
  rename_i ro t d xs E;cases h;have B:Af s.r id p≠.dead:=by rw[E];simp
  have:Sub (BQ (s.r.map Ab.v) (V.rs id p 0 (Af s.r id p).len)) (cV (.sl t) 0 xs):=by
   rw[P8,AV B,E];show Sub (X5 (arr true t.w (tyV t d) t.dflt xs) 0 xs.length) _;rw[OO rfl];have e:(λa=>(tyV t d a).map frz)=tyV t 0:=funext λx=>Bg t d x
   rw[e];exact Sub.refl _
  exact⟨(A this).1,rfl,(A this).2⟩
 .rename_i id p off len
  split at h
  case h_2=>cases h
  rename_i ro t d xs E;cases h;have B:Af s.r id p≠.dead:=by rw[E];simp
  have:Sub (BQ (s.r.map Ab.v) (V.rs id p off len)) (cV (.sl t) 0 (Vm off len xs t.dflt)):=by
   rw[P8,AV B,E];show Sub (X5 (arr true t.w (tyV t d) t.dflt xs) off len) (arr false t.w (tyV t 0) t.dflt (Vm off len xs t.dflt));unfold arr;have J:(Vm off len xs t.dflt).length=len:=by simp[Vm]
   rw[J];refine⟨_,rfl,λi k hi U=>Sub.of_eq ?_⟩
   have Y:(Vm off len xs t.dflt).getD i t.dflt=xs.getD (off+i) t.dflt:=by simp[Vm,hi]
   rw[Y,<-Bg t d];exact(AE (f:=frz) (a:=.dead) rfl (tyV t d (xs.getD (off+i) t.dflt)) k).symm
  exact⟨(A this).1,rfl,(A this).2⟩
 .rename_i id p j k
  split at h
  .rename_i ro l E
   have B:Af s.r id p≠.dead:=by rw[E];simp
   split at h
   case h_2=>cases h
   cases F:Nat.ble (k+w) l.length with
   |false=>rw[F]at h;cases h
   |true=>
    rw[F]at h;have F:=blE F;simp only[cond_true]at h;split at h
    case h_2=>cases h
    rename_i t x Z;cases h;refine⟨.inr ⟨l.length-k,w,1,λi' k'=>([((l.drop k).map Cl.v0).map frz].getD i' []).getD k' .dead,?_,by omega,?_⟩,rfl,λh=>absurd rfl (h _ _ _ _)⟩
    .show BQ (s.r.map Ab.v) (V.rp id p 0 k)=_
     rw[P9,AV B,E];show Z7 (Be true (l.map Cl.v0)) 0 k=_;rw[LM];unfold Be;simp only[List.map_drop,List.length_drop,List.length_map]
    .show Sub _ (Be false (tyV t 0 x))
     have e:=DX _ _ Z;unfold Be;have J:(tyV t 0 x).length=w:=by rw[e];simp;omega
     rw[J];refine⟨_,rfl,λi' k' hi U=>?_⟩
     obtain rfl:i'=0:=by omega
     refine Sub.of_eq ?_;show(((l.drop k).map Cl.v0).map frz).getD k' .dead=(tyV t 0 x).getD k' .dead;rw[e];simp[List.getElem?_take,U]
  .rename_i ro t d xs E
   have B:Af s.r id p≠.dead:=by rw[E];simp
   cases F:Nat.ble (k+w) t.w with
   |false=>rw[F]at h;cases h
   |true=>
    rw[F]at h;have F:=blE F;simp only[cond_true]at h;split at h
    case h_2=>cases h
    rename_i t' x hd;cases h;refine⟨.inr ⟨t.w-k,w,1,λi' W=>if i'=0 then frz ((tyV t d (xs.getD j t.dflt)).getD (k+W) .dead)else .dead,?_,by omega,?_⟩,rfl,λh=>absurd rfl (h _ _ _ _)⟩
    .show BQ (s.r.map Ab.v) (V.rp id p j k)=_
     rw[P9,AV B,E];rfl
    .show Sub _ (Be false (tyV t' 0 x))
     have e:=DX _ _ hd;rw[List.map_take,List.map_drop,BK,List.map_take,List.map_drop,Bg]at e;unfold Be;have J:(tyV t' 0 x).length=w:=by rw[e];simp[Ay];omega
     rw[J];refine⟨_,rfl,λi' k' hi U=>?_⟩
     obtain rfl:i'=0:=by omega
     refine Sub.of_eq ?_;simp only[if_true];show _=(tyV t' 0 x).getD k' .dead;rw[e,<-Bg t d];have:=AE (f:=frz) (a:=.dead) rfl (tyV t d (xs.getD j t.dflt)) (k+k');rw[<-this];simp only[gDE,List.getElem?_take,U,if_true,List.getElem?_drop]
  .cases h
 .cases h
def OP(s:St):List Cl->Option (List Cl)
 |[]=>some []
 |y::l=>match(match y with
   |.rp _ _ _ _=>none
   |y=>Qb s 0 y)with
  |some y'=>match OP s l with
   |some e=>some (y'::e)
   |none=>none
  |none=>none
theorem M2{s:St}:∀{l e:List Cl},OP s l=some e->CK ((l.map (Cl.v s.r)).map (BQ (s.r.map Ab.v))) (e.map (Cl.v s.r))
 |[],e,h=>by cases h;trivial
 |y::l,e,h=>by
  unfold OP at h;split at h
  case h_2=>grind
  rename_i y' A;split at h
  case h_2=>grind
  rename_i m E;cases h;have B:∀id p i k,y≠.rp id p i k:=by grind
  have A:Qb s 0 y=some y':=by
   grind
  obtain⟨_,F,J⟩:=M5 A;exact⟨by grind,M2 E⟩
def X6(s:St):Cl->Option Cl
 |.rp id p i k=>match i,k with
  |0,0=>match Af s.r id p with
   |.obj _ l=>match DD l with
    |some ⟨t,x⟩=>some (.c (.ptr t) 0 x)
    |none=>none
   |_=>none
  |_,_=>none
 |y=>Qb s 0 y
theorem AcL(h:X6 s y=some y'):Sub (BQ (s.r.map Ab.v) (y.v s.r)) y'.v0/\y'.v0=y'.v s.r:=by
 by_cases B:∃id p i k,y=.rp id p i k
 .obtain⟨id,p,i,k,rfl⟩:=B
  unfold X6 at h;simp at h;split at h
  case h_2=>cases h
  split at h
  case h_2=>cases h
  rename_i ro l E;split at h
  case h_2=>cases h
  rename_i t x F;cases h;have A:Af s.r id p≠.dead:=by grind
  refine⟨?_,rfl⟩;show Sub (BQ (s.r.map Ab.v) (V.rp id p 0 0)) (Be false (tyV t 0 x));rw[P9,AV A,E];show Sub (Z7 (Be true (l.map Cl.v0)) 0 0) _;rw[LM,DX _ _ F];exact Sub.refl _
 .have A:=λid p i k e=>B ⟨id,p,i,k,e⟩
  have h:Qb s 0 y=some y':=by
   cases y with
   |rp id p i k=>grind
   |_=>exact h
  obtain⟨_,J,O⟩:=M5 h
  grind
def Kf(s:St):List Cl->Option (List Cl)
 |[]=>some []
 |y::l=>match X6 s y with
  |some y'=>match Kf s l with
   |some e=>some (y'::e)
   |none=>none
  |none=>none
theorem M4{s:St}:∀{l e:List Cl},Kf s l=some e->CK ((l.map (Cl.v s.r)).map (BQ (s.r.map Ab.v))) (e.map (Cl.v s.r))
 |[],e,h=>by cases h;trivial
 |y::l,e,h=>by
  unfold Kf at h;split at h
  case h_2=>grind
  rename_i y' A;split at h
  case h_2=>grind
  rename_i m B;cases h;obtain⟨F,E⟩:=AcL A;exact⟨by grind,M4 B⟩
theorem CK.pk{t:Tg}{l m:List V}(h:CK l m):Sub (pkL t l) (pkL t m):=by
 unfold pkL;rw[h.len];exact⟨_,rfl,λk _=>h.getD k⟩
def Jk(s:St)(b:Bool)(t:Ty):Option Sl->Option t.T
 |some (.one y)=>bif b then none else bif t.one then(match Qb s (match t with
   |.ptr u=>u.w
   |_=>0) y with
  |some y'=>He t 0 y'
  |none=>none)else none
 |some (.agg l)=>bif b then(match OP s l with
  |some e=>IC t 0 e
  |none=>none)else none
 |some (.pk .bx l)=>bif b then none else(match t with
  |.ptr u=>(match OP s l with
   |some e=>IC u 0 e
   |none=>none)
  |_=>none)
 |some (.pk (.cl g) l)=>bif b then none else(match t with
  |.clo A u=>bif Nat.beq g A then(match Kf s l with
   |some e=>IC u 0 e
   |none=>none)else none
  |_=>none)
 |_=>none
theorem CK.trans:∀{a b c:List V},CK a b->CK b c->CK a c:=by
 intro a
 induction a with
 |nil=>intro b c A e;cases b<;>first|rfl|trivial
 |cons v a B=>intro b c A e;cases b with
  |nil=>trivial
  |cons w b=>cases c with
   |nil=>trivial
   |cons u c=>exact⟨A.1.trans e.1,B A.2 e.2⟩
theorem NV{z:t.T}(h:Jk s b t (s.ev x)=some z):AaD (BQ (s.r.map Ab.v) (s.den.ev x)) (vOf b t 0 z):=by
 unfold Jk at h;split at h
 case h_5=>cases h
 .rename_i y A
  cases b with
  |true=>cases h
  |false=>
   cases W:t.one with
   |false=>rw[W]at h;cases h
   |true=>
    rw[W]at h;simp only[cond_false,cond_true]at h;split at h
    case h_2=>cases h
    rename_i y' B;obtain⟨E,O,_⟩:=M5 B;obtain⟨g1,g2⟩:=MS h s.r;rw[A7 A];have g1:Sub y'.v0 (vOf false t 0 z):=O▸g1;rcases E with E|⟨sz,F,n,f,e1,e2,e3⟩
    .exact .inl (E.trans g1)
    .exact .inr ⟨sz,F,n,f,e1,e2,e3.trans g1⟩
 .rename_i l A
  cases b with
  |false=>cases h
  |true=>
   simp only[cond_true]at h;split at h
   case h_2=>cases h
   rename_i U B;rw[A7 A];left;show Sub (BQ _ (Ai _)) (Ai _);rw[AcJ];refine CK.mk ?_;have E:=M2 B;have O:=(Db h s.r).1;exact CK.trans E O
 .rename_i l A
  cases b with
  |true=>cases h
  |false=>
   simp only[cond_false]at h;split at h
   case h_2=>cases h
   rename_i u;split at h
   case h_2=>cases h
   rename_i U B;rw[A7 A];left;show Sub (BQ _ (boxL _)) (Be false (tyV u 0 z));rw[Z6];exact CK.obj (CK.trans (M2 B) (Db h s.r).1)
 .rename_i g l A
  cases b with
  |true=>cases h
  |false=>
   simp only[cond_false]at h;split at h
   case h_2=>cases h
   rename_i Z u;cases J:Nat.beq g Z with
   |false=>rw[J]at h;cases h
   |true=>
    rw[J]at h;simp only[cond_true]at h;have Y:=bqE J;subst Y;split at h
    case h_2=>cases h
    rename_i U B;rw[A7 A];left
    have e:V.many (.cl g) u.w (λk=>(tyV u 0 z).getD k .dead)=pkL (.cl g) (tyV u 0 z):=by
     unfold pkL;rw[Ay]
    show Sub (BQ _ (pkL (.cl g) _)) (V.many (.cl g) u.w λk=>(tyV u 0 z).getD k .dead)
    rw[e,AcK];exact CK.pk (CK.trans (M4 B) (Db h s.r).1)
def Hd(s:St):(l:List (Bool×Ty))->List (Option Sl)->Option (PT l).T
 |[],[]=>some ()
 |[p],[y]=>Jk s p.1 p.2 y
 |p::q::l,y::ys=>match Jk s p.1 p.2 y with
  |some z=>match Hd s (q::l) ys with
   |some e=>some (z,e)
   |none=>none
  |none=>none
 |_,_=>none
theorem Ab7{s:St}:∀(l:List (Bool×Ty)) (xs:List Operand) (z:(PT l).T),Hd s l (xs.map s.ev)=some z->Je ((xs.map s.den.ev).map (BQ (s.r.map Ab.v))) (Cf l z)
 |[],[],z,h=>trivial
 |[p],[x],z,h=>⟨NV h,trivial⟩
 |p::q::l,x::xs,z,h=>by
  have h:(match Jk s p.1 p.2 (s.ev x)with
   |some z=>match Hd s (q::l) (xs.map s.ev)with
    |some e=>some (z,e)
    |none=>none
   |none=>none:Option (PT (p::q::l)).T)=some z:=h
  split at h
  case h_2=>grind
  rename_i E B;split at h
  case h_2=>grind
  rename_i e A;cases h;exact⟨NV B,Ab7 (q::l) xs e A⟩
 |[],_::_,_,h=>by cases h
 |[_],[],_,h=>by cases h
 |[_],_::_::_,_,h=>by cases h
 |_::_::_,[],_,h=>by cases h
def ZM(b:Bool)(d:Nat)(t:Ty)(x:t.T):Bool×List Cl:=(b,As t d x)
def Vw(b:Bool)(p:Bool×Nat×Ty)(x:p.2.2.T):Bool×List Cl:=bif b|| !isP p then ZM p.1 p.2.1 p.2.2 x else(false,[.nilp])
def resL(b:Bool):(l:List (Bool×Nat×Ty))->(RT l).T->List (Bool×List Cl)
 |[],_=>[]
 |[p],x=>[Vw b p x]
 |p::q::l,x=>Vw b p x.1::resL b (q::l) x.2
def NA(b:Bool)(l:List (Bool×Nat×Ty))(x:(RT l).T):Sl:=match resL b l x with
 |[(true,cs)]=>.agg cs
 |[(false,cs)]=>.one (cs.getD 0 .dead)
 |m=>.tup m
theorem Acl(b:Bool)(d:Nat)(t:Ty)(x:t.T)(h:b=true\/t.one=true):(if b then Ai ((As t d x).map (Cl.v r))else((As t d x).map (Cl.v r)).getD 0 .dead)=vOf b t d x:=by
 rw[Cl.v_c];cases b with
 |true=>rfl
 |false=>
  rcases h with h|h
  .grind
  .rw[BL h];rfl
def DB:List (Bool×Nat×Ty)->Bool
 |[]=>true
 |p::l=>(p.1||p.2.2.one)&&DB l
def Q1(b:Bool)(p:Bool×Nat×Ty)(x:p.2.2.T)(h:p.1=true\/p.2.2.one=true):(if(Vw b p x).1 then Ai ((Vw b p x).2.map (Cl.v r))else((Vw b p x).2.map (Cl.v r)).getD 0 .dead)=Y6 b p x:=by
 unfold Vw Y6;cases b|| !isP p with
 |true=>exact Acl p.1 p.2.1 p.2.2 x h
 |false=>rfl
def AaY{r:List Ab}(b:Bool):∀(l:List (Bool×Nat×Ty)) (x:(RT l).T),DB l=true->(resL b l x).map (λp=>if p.1 then Ai (p.2.map (Cl.v r))else(p.2.map (Cl.v r)).getD 0 .dead)=Vu b l x
 |[],x,_=>rfl
 |[p],x,h=>by
  simp only[DB,bAE,Bool.or_eq_true]at h;show [_]=[Y6 _ _ _];rw[<-Q1 b p x h.1]
 |p::q::l,x,h=>by
  have e:((p.1||p.2.2.one)&&DB (q::l))=true:=h;simp[Bool.or_eq_true]at e;show _::(resL b (q::l) x.2).map _=Y6 _ _ _::_;rw[AaY b (q::l) x.2 e.2,<-Q1 b p x.1 e.1]
theorem QZ(b:Bool)(l:List (Bool×Nat×Ty))(x:(RT l).T)(h:DB l=true):(NA b l x).v r=Jb b l x:=by
 have e:=AaY (r:=r) b l x h;unfold Jb;rw[<-e];unfold NA;split
 .rename_i cs A
  rw[A];rfl
 .rename_i cs A
  rw[A];show(cs.getD 0 .dead).v r=(cs.map (Cl.v r)).getD 0 .dead;rw[AE (a:=.dead) rfl]
 .rename_i m E B
  generalize resL b l x=m at*
  match m,E,B with
  |[],_,_=>rfl
  |[(true,cs)],E,_=>grind
  |[(false,cs)],_,B=>grind
  |a::b::m,_,_=>rfl
def Ty.noFn:Ty->Bool
 |.clo _ _=>false
 |.osl _=>false
 |.mp _ _=>false
 |.sl t=>t.noFn
 |.ptr t=>t.noFn
 |.pair a b=>a.noFn&&b.noFn
 |_=>true
theorem Cb:∀(t:Ty) (d:Nat) (x:t.T),t.dep<=d->t.noFn=true->∀v∈tyV t d x,BE v
 |.int _,_,_,_,_,v,h=>by simp only[tyV,List.mem_singleton]at h;subst h;trivial
 |.bool,_,_,_,_,v,h=>by simp only[tyV,List.mem_singleton]at h;subst h;trivial
 |.str,_,_,_,_,v,h=>by simp only[tyV,List.mem_singleton]at h;subst h;trivial
 |.unit,_,_,_,_,v,h=>by cases h
 |.clo _ _,_,_,_,hf,_,_=>by cases hf
 |.osl _,_,_,_,hf,_,_=>by cases hf
 |.mp _ _,_,_,_,hf,_,_=>by cases hf
 |.sl t,d,xs,hd,hf,v,h=>by
  simp only[Ty.dep]at hd;simp only[tyV,List.mem_singleton]at h;subst h;refine⟨dT (by omega),λi k _ e=>?_⟩
  exact Cb t (d-1) _ (by omega) hf _ (Jv (by rw[Ay];exact e))
 |.ptr t,d,x,hd,hf,v,h=>by
  simp only[Ty.dep]at hd;simp only[tyV,List.mem_singleton]at h;subst h;refine⟨dT (by omega),λi k hi e=>?_⟩
  obtain rfl:i=0:=by omega
  exact Cb t (d-1) _ (by omega) hf _ (Jv e)
 |.pair a b,d,x,hd,hf,v,h=>by
  simp only[Ty.noFn,bAE]at hf;simp only[Ty.dep]at hd;rcases List.mem_append.1 h with h|h
  .exact Cb a d _ (by omega) hf.1 v h
  .exact Cb b d _ (by omega) hf.2 v h
def CT:List (Bool×Nat×Ty)->Bool
 |[]=>true
 |p::l=>Nat.ble p.2.2.dep p.2.1&&p.2.2.noFn&&(p.1||p.2.2.one)&&CT l
theorem P1(b:Bool)(d:Nat)(t:Ty)(x:t.T)(h:t.dep<=d)(A:t.noFn=true)(e:b=true\/t.one=true):BE (vOf b t d x):=by
 cases b with
 |true=>
  show BE (Ai _);rw[VJ];exact Cb t d x h A
 |false=>
  rcases e with e|e
  .grind
  .exact Cb t d x h A _ (by rw[BL e];exact List.mem_singleton.2 rfl)
def I2(b:Bool)(p:Bool×Nat×Ty)(x:p.2.2.T)(h:p.2.2.dep<=p.2.1)(e:p.2.2.noFn=true)(A:p.1=true\/p.2.2.one=true):BE (Y6 b p x):=by
 unfold Y6;cases b|| !isP p with
 |true=>exact P1 _ _ _ _ h e A
 |false=>trivial
def I3(b:Bool):∀(l:List (Bool×Nat×Ty)) (x:(RT l).T),CT l=true->∀v∈Vu b l x,BE v
 |[],_,_,v,h=>by cases h
 |[p],x,hr,v,h=>by
  simp only[CT,bAE,Bool.or_eq_true]at hr;rw[List.mem_singleton.1 h];exact I2 b p x (blE hr.1.1.1) hr.1.1.2 hr.1.2
 |p::q::l,x,hr,v,h=>by
  have e:(Nat.ble p.2.2.dep p.2.1&&p.2.2.noFn&&(p.1||p.2.2.one)&&CT (q::l))=true:=hr;simp only[bAE,Bool.or_eq_true]at e;rcases List.mem_cons.1 h with rfl|h
  .exact I2 b p x.1 (blE e.1.1.1) e.1.1.2 e.1.2
  .exact I3 b (q::l) x.2 e.2 v h
theorem Dq(b:Bool)(l:List (Bool×Nat×Ty))(x:(RT l).T)(h:CT l=true):BE (Jb b l x):=by
 have:=I3 b l x h;unfold Jb OA;split
 .grind
 .have e:=this
  rw[<-P2]at e
  trivial
def Cl.lent:Cl->Bool
 |.rf _ _=>true
 |.rs _ _ _ _=>true
 |.rp _ _ _ _=>true
 |.rm _ _=>true
 |y=>y.own
def Sl.lent:Sl->Bool
 |.one c=>c.lent
 |.agg l=>l.any Cl.lent
 |.pk _ l=>l.any Cl.lent
 |_=>true
def HS(xs:List (Option Sl)):Bool:=xs.all λx=>match x with
 |some y=>!y.lent
 |none=>false
theorem Cl.lent_v(c:Cl):c.lent=false->AP (c.v r)=false:=by
 intro h;cases c with
 |c t d x=>
  cases t<;>cases d<;>first|rfl|trivial|(cases x<;>first|rfl|trivial)|exact HY (.clo _ _) x _ (List.mem_singleton.2 rfl)
 |rf=>cases h
 |rs=>cases h
 |rp=>cases h
 |rm=>cases h
 |_=>rfl
theorem OG(e:Tg)(l:List Cl)(h:l.any Cl.lent=false):AP (.many e (l.map (Cl.v r)).length λk=>(l.map (Cl.v r)).getD k .dead)=false:=by
 show((List.range _).any λk=>AP ((l.map (Cl.v r)).getD k .dead))=false
 rw[List.any_eq_false];intro k A;rw[AE (a:=.dead) rfl]
 have:(l.getD k .dead).lent=false:=by
  grind
 rw[Cl.lent_v _ this];simp
theorem Uj{xs:List Operand}(h:HS (xs.map s.ev)=true):(xs.map s.den.ev).any AP=false:=by
 rw[List.any_eq_false];intro v E;obtain⟨x,B,rfl⟩:=List.mem_map.1 E;have e:=aET.1 h (s.ev x) (List.mem_map.2 ⟨x,B,rfl⟩);cases A:s.ev x with
 |none=>grind
 |some y=>
  rw[A]at e;have e:=by simpa using e
  rw[A7 A]
  have:AP (y.v s.r)=false:=by
   cases y with
   |one c=>exact Cl.lent_v c e
   |agg l=>exact OG .ag l e
   |pk t l=>exact OG t l e
   |new l=>trivial
   |tup l=>trivial
  grind
def DM(s:St):Option Sl->Option Sl
 |some (.one (.rf id p))=>match Af s.r id p with
  |.opt _ u _ x=>some (.one (.c (.sl u) 0 (getO x)))
  |_=>some (.one (.rf id p))
 |y=>y
def Aaw(s:St):Option Sl->List Bool
 |some (.one (.rf id p))=>match Af s.r id p with
  |.opt _ _ _ x=>[isO x]
  |_=>[]
 |_=>[]
def L7(s:St):List (Option Sl)->List Bool
 |[]=>[]
 |y::l=>Aaw s y++L7 s l
def gate{α:Type}:List Bool->Option α->Option α
 |[],o=>o
 |b::l,o=>Ph b (gate l o) none
structure Wm where
 α:Type
 o:Option α
 y:α->Sl
variable{a:Wm}
structure CallN where
 α:Type
 o:Option (Bool×α)
 y:Bool->α->Sl
def Lg(e:En)(s:St)(xs:List (Option Sl)):Option Wm:=
 bif CT e.S.rs||(DB e.S.rs&&HS xs)then(match Hd s e.S.ps (xs.map (DM s))with
  |some z=>some ⟨(RT e.S.rs).T,gate (L7 s xs) (e.g z),λy=>NA true e.S.rs y⟩
  |none=>none)else none
def JJ:List En->St->FuncId->List (Option Sl)->Option Wm
 |[],_,_,_=>none
 |e::Γ,s,f,xs=>bif Nat.beq e.f f then(match Lg e s xs with
  |some a=>some a
  |none=>JJ Γ s f xs)else JJ Γ s f xs
theorem Jj{s:St}{f:FuncId}{xs:List (Option Sl)}{a:Wm}:∀{Γ:List En},JJ Γ s f xs=some a->∃e∈Γ,e.f=f/\Lg e s xs=some a
 |[],h=>by cases h
 |e::Γ,h=>by
  have back:JJ Γ s f xs=some a->∃A∈e::Γ,A.f=f/\Lg A s xs=some a:=λh=>by
   obtain⟨A,F,E⟩:=Jj h
   grind
  unfold JJ at h;cases B:Nat.beq e.f f with
  |false=>grind
  |true=>
   rw[B]at h;split at h
   .simp_all
   grind
def W5(Γ:List EnN)(s:St)(f:FuncId)(xs:List (Option Sl)):Option CallN:=
 match Uv Γ f with
 |some e=>bif CT e.S.rs||(DB e.S.rs&&HS xs)then(match Hd s e.S.ps (xs.map (DM s))with
  |some z=>some ⟨(RT e.S.rs).T,gate (L7 s xs) (e.g z),λb y=>NA b e.S.rs y⟩
  |none=>none)else none
 |none=>none
def HL:∀{l:List (Bool×Nat×Ty)},CT l=true->DB l=true
 |[],_=>rfl
 |p::l,h=>by
  simp only[CT,bAE]at h;simp only[DB,bAE];exact⟨h.1.2,HL h.2⟩
def Qa{t1 t2:Nat->Sl}{r:List Ab}:∀l:List Cl,OP ⟨t1,r⟩ l=OP ⟨t2,r⟩ l
 |[]=>rfl
 |y::l=>by
  unfold OP;rw[Qa l];rfl
def AcM:X6 ⟨t1,r⟩ y=X6 ⟨t2,r⟩ y:=by rfl
def Uw{t1 t2:Nat->Sl}{r:List Ab}:∀l:List Cl,Kf ⟨t1,r⟩ l=Kf ⟨t2,r⟩ l
 |[]=>rfl
 |y::l=>by
  unfold Kf;rw[Uw l,AcM]
theorem AaQ{o:Option Sl}:Jk ⟨t1,r⟩ b t o=Jk ⟨t2,r⟩ b t o:=by
 cases o with
 |none=>rfl
 |some y=>
  cases y with
  |one y=>rfl
  |agg l=>unfold Jk;simp[Qa (t2:=t2)]
  |pk t l=>cases t<;>first|rfl|(unfold Jk;simp[Uw (t2:=t2)];done)|(unfold Jk;simp[Qa (t2:=t2)])
  |_=>rfl
theorem W7{y:Sl}{z:t.T}(h:Jk s b t (some y)=some z):AaD (BQ (s.r.map Ab.v) (y.v s.r)) (vOf b t 0 z):=
 NV (x:=.tmp 0) (by
  have:Jk ⟨λ_=>y,s.r⟩ b t (some y)=some z:=by rw[<-h];exact AaQ
  trivial)
theorem Ab6{s:St}:∀(l:List (Bool×Ty)) (ys:List Sl) (z:(PT l).T),Hd s l (ys.map some)=some z->Je ((ys.map (Sl.v s.r)).map (BQ (s.r.map Ab.v))) (Cf l z)
 |[],[],z,h=>trivial
 |[p],[y],z,h=>⟨W7 h,trivial⟩
 |p::q::l,y::ys,z,h=>by
  have h:(match Jk s p.1 p.2 (some y)with
   |some z=>match Hd s (q::l) (ys.map some)with
    |some e=>some (z,e)
    |none=>none
   |none=>none:Option (PT (p::q::l)).T)=some z:=h
  split at h
  case h_2=>grind
  rename_i E B;split at h
  case h_2=>grind
  rename_i e A;cases h;exact⟨W7 B,Ab6 (q::l) ys e A⟩
 |[],_::_,_,h=>by cases h
 |[_],[],_,h=>by cases h
 |[_],_::_::_,_,h=>by cases h
 |_::_::_,[],_,h=>by cases h
theorem DW{α:Type}{u:α}:∀{l:List Bool}{o:Option α},gate l o=some u->o=some u/\∀b∈l,b=true
 |[],_,h=>⟨h,λ_ h=>by grind⟩
 |b::l,o,h=>by
  cases b with
  |false=>cases h
  |true=>
   obtain⟨A,e⟩:=DW (l:=l) h
   grind
theorem P3{z:t.T}(h:Jk s b t (DM s (s.ev x))=some z)(E:∀c∈Aaw s (s.ev x),c=true):AaD (BQ (s.r.map Ab.v) (s.den.ev x)) (vOf b t 0 z):=by
 cases A:s.ev x with
 |none=>rw[A]at h;exact NV (by rw[A];exact h)
 |some y=>
  by_cases O:∃id p ro u d v,y=.one (.rf id p)/\Af s.r id p=.opt ro u d v
  .obtain⟨id,p,ro,u,d,v,rfl,B⟩:=O
   rw[A]at h E;simp only[DM,Aaw,B]at h E;have U:isO v=true:=E _ (List.mem_singleton.2 rfl);cases v with
   |none=>cases U
   |some ys=>
    have J:=W7 h;have Y:BQ (s.r.map Ab.v) ((Sl.one (.c (.sl u) 0 ys)).v s.r)=cV (.sl u) 0 ys:=Dd (.sl u) ys _ (List.mem_singleton.2 rfl);have F:BQ (s.r.map Ab.v) ((Sl.one (.c (.sl u) 0 (getO (some ys)))).v s.r)=cV (.sl u) 0 ys:=Y;rw[F]at J
    have W:BQ (s.r.map Ab.v) (s.den.ev x)=cV (.sl u) 0 ys:=by
     rw[A7 A];show BQ (s.r.map Ab.v) (V.rs id p 0 (Af s.r id p).len)=_;rw[P8,AV (by rw[B];simp),B]
     show X5 (arr true u.w (tyV u d) u.dflt ys) 0 ys.length=_;rw[OO rfl];have e:=funext λx=>Bg u d x
     rw[e];rfl
    rw[W];exact J
  .have e:DM s (some y)=some y:=by
    cases y with
    |one c=>
     cases c with
     |rf id p=>
      cases B:Af s.r id p with
      |opt ro u d v=>grind
      |_=>simp only[DM,B]
     |_=>rfl
    |_=>rfl
   rw[A,e,<-A]at h;exact NV h
theorem XQ{y:Sl}{z:t.T}(h:Jk s b t (DM s (some y))=some z)(e:∀c∈Aaw s (some y),c=true):AaD (BQ (s.r.map Ab.v) (y.v s.r)) (vOf b t 0 z):=by
 have A:DM ⟨λ_=>y,s.r⟩ (some y)=DM s (some y):=by
  rfl
 refine P3 (s:=⟨λ_=>y,s.r⟩) (x:=.tmp 0) ?_ ?_
 .show Jk ⟨λ_=>y,s.r⟩ b t (DM ⟨λ_=>y,s.r⟩ (some y))=some z
  rw[<-h];exact AaQ
 trivial
theorem MD{s:St}:∀(l:List (Bool×Ty)) (ys:List Sl) (z:(PT l).T),Hd s l ((ys.map some).map (DM s))=some z->(∀c∈L7 s (ys.map some),c=true)->Je ((ys.map (Sl.v s.r)).map (BQ (s.r.map Ab.v))) (Cf l z)
 |[],[],z,h,_=>trivial
 |[p],[y],z,h,hc=>⟨XQ h λc h=>hc c (List.mem_append_left _ h),trivial⟩
 |p::q::l,y::ys,z,h,hc=>by
  have h:(match Jk s p.1 p.2 (DM s (some y))with
   |some z=>match Hd s (q::l) ((ys.map some).map (DM s))with
    |some e=>some (z,e)
    |none=>none
   |none=>none:Option (PT (p::q::l)).T)=some z:=h
  split at h
  case h_2=>grind
  rename_i E B;split at h
  case h_2=>grind
  rename_i e A;cases h;exact⟨XQ B λc h=>hc c (List.mem_append_left _ h),MD (q::l) ys e A λc h=>hc c (List.mem_append_right _ h)⟩
 |[],_::_,_,h,_=>by cases h
 |[_],[],_,h,_=>by cases h
 |[_],_::_::_,_,h,_=>by cases h
 |_::_::_,[],_,h,_=>by cases h
theorem QR{s:St}:∀(l:List (Bool×Ty)) (xs:List Operand) (z:(PT l).T),Hd s l ((xs.map s.ev).map (DM s))=some z->(∀c∈L7 s (xs.map s.ev),c=true)->Je ((xs.map s.den.ev).map (BQ (s.r.map Ab.v))) (Cf l z)
 |[],[],z,h,_=>trivial
 |[p],[x],z,h,hc=>⟨P3 h λc h=>hc c (List.mem_append_left _ h),trivial⟩
 |p::q::l,x::xs,z,h,hc=>by
  have h:(match Jk s p.1 p.2 (DM s (s.ev x))with
   |some z=>match Hd s (q::l) ((xs.map s.ev).map (DM s))with
    |some e=>some (z,e)
    |none=>none
   |none=>none:Option (PT (p::q::l)).T)=some z:=h
  split at h
  case h_2=>grind
  rename_i E B;split at h
  case h_2=>grind
  rename_i e A;cases h;exact⟨P3 B λc h=>hc c (List.mem_append_left _ h),QR (q::l) xs e A λc h=>hc c (List.mem_append_right _ h)⟩
 |[],_::_,_,h,_=>by cases h
 |[_],[],_,h,_=>by cases h
 |[_],_::_::_,_,h,_=>by cases h
 |_::_::_,[],_,h,_=>by cases h
theorem Me{xs:Array Operand}{F}{ps:List (Bool×Ty)}{rs:List (Bool×Nat×Ty)}{z:(PT ps).T}{u:(RT rs).T}(U:Ae P f=true)(B:FC P f (Cf ps z) (Jb b rs u))(J:Hd s ps ((xs.toList.map s.ev).map (DM s))=some z)(E:∀c∈L7 s (xs.toList.map s.ev),c=true)
  (e:(CT rs||(DB rs&&HS (xs.toList.map s.ev)))=true):QS P s (.call ⟨.value (.func f),xs,F⟩) (NA b rs u):=by
 rw[Bool.or_eq_true,bAE]at e;have A:=e.elim HL (·.1)
 refine⟨Jb b rs u,⟨U,B.sub1 (QR _ _ _ J E)⟩,λO=>?_,?_⟩
 .rcases e with e|⟨_,e⟩
  .exact Dq _ _ _ e
  .rw[Uj e]at O;grind
 .show Sub _ ((NA b rs u).v s.r)
  rw[QZ _ _ _ A];exact Sub.refl _
theorem PH(A:KU P Γ){xs O}(h:JJ Γ s f (xs.toList.map s.ev)=some a){u:a.α}(B:a.o=some u):QS P s (.call ⟨.value (.func f),xs,O⟩) (a.y u):=by
 obtain⟨e,Z,F,U⟩:=Jj h;subst F;unfold Lg at U;have h:=U;cases W:(CT e.S.rs||(DB e.S.rs&&HS (xs.toList.map s.ev)))with
 |false=>grind
 |true=>
  rw[W]at h;split at h
  case h_2=>grind
  rename_i z Y;cases h;obtain⟨hc,E⟩:=A e Z;obtain⟨B,J⟩:=DW B;exact Me hc (by rw[Hn];exact E z u B) Y J W
theorem NT{Γ:List EnN}(A:∀e∈Γ,e.OK P){xs J}{a:CallN}(h:W5 Γ s f (xs.toList.map s.ev)=some a){u:a.α}(B:a.o=some (b,u)):QS P s (.call ⟨.value (.func f),xs,J⟩) (a.y b u):=by
 unfold W5 at h;split at h
 case h_2=>grind
 rename_i e W;cases O:(CT e.S.rs||(DB e.S.rs&&HS (xs.toList.map s.ev)))with
 |false=>grind
 |true=>
  rw[O]at h;split at h
  case h_2=>grind
  rename_i z U;cases h;obtain⟨⟨Y,E⟩,rfl⟩:=Uu A W;obtain⟨B,F⟩:=DW B;exact Me Y (E z b u B) U F O
theorem Ui(h:HS (ys.map some)=true):(ys.map (Sl.v s.r)).any AP=false:=by
 have:=Uj (s:=⟨λi=>ys.getD i (.one .dead),s.r⟩) (by
  have e:((List.range ys.length).map Operand.tmp).map (St.ev ⟨λi=>ys.getD i (.one .dead),s.r⟩)=ys.map some:=by
   rw[List.map_map];apply List.ext_getElem (by simp)
   intro i A B;have hi:i<ys.length:=by simpa using A
   have:(St.ev ⟨λi=>ys.getD i (.one .dead),s.r⟩ (.tmp i))=some (ys.getD i (.one .dead)):=rfl
   grind
  rw[e];exact h)
 have E:((List.range ys.length).map Operand.tmp).map (St.den ⟨λi=>ys.getD i (.one .dead),s.r⟩).ev=ys.map (Sl.v s.r):=by
  rw[List.map_map];apply List.ext_getElem (by simp)
  intro i A B;have hi:=by simpa using A
  have:(St.den ⟨λi=>ys.getD i (.one .dead),s.r⟩).ev (.tmp i)=(ys.getD i (.one .dead)).v s.r:=rfl
  grind
 rw[E]at this;exact this
def allS:List (Option Sl)->Option (List Sl)
 |[]=>some []
 |some y::l=>match allS l with
  |some m=>some (y::m)
  |none=>none
 |none::_=>none
def YU{s:St}:∀{xs:List Operand}{ys:List Sl},allS (xs.map s.ev)=some ys->xs.map s.den.ev=ys.map (Sl.v s.r)
 |[],ys,h=>by cases h;rfl
 |x::xs,ys,h=>by
  rw[List.map_cons]at h;cases e:s.ev x with
  |none=>rw[e]at h;cases h
  |some y=>
   rw[e]at h;unfold allS at h;split at h
   case h_2=>grind
   rename_i m A;cases h;rw[List.map_cons,List.map_cons,A7 e,YU A]
def cloS(s:St)(y:Nat):Option (FuncId×List Sl):=match s.t y with
 |.one (.c (.clo g t) _ x)=>bif Nat.blt g 1000000 then some (g,(As t 0 x).map .one)else none
 |_=>none
def cloF(s:St):Op->Option (FuncId×List Sl)
 |.call c=>match c.callee with
  |.value (.tmp y)=>match cloS s y,allS (c.args.toList.map s.ev)with
   |some (g,cs),some ys=>some (g,ys++cs)
   |_,_=>none
  |_=>none
 |_=>none
theorem Wd(U:KU P Γ){g:FuncId}(F:cloF s op=some (g,ys))(h:JJ Γ s g (ys.map some)=some a){u:a.α}(Z:a.o=some u):QS P s op (a.y u):=by
 unfold cloF at F;split at F
 case h_2=>cases F
 rename_i c;obtain⟨callee,xs,ats⟩:=c;split at F
 case h_2=>cases F
 rename_i y B;have B:callee=.value (.tmp y):=B;subst B;split at F
 case h_2=>cases F
 rename_i g' cs zs A W;cases F;unfold cloS at A;split at A
 case h_2=>cases A
 rename_i g2 t d x hy;cases J:Nat.blt g2 1000000 with
 |false=>rw[J]at A;cases A
 |true=>
 rw[J]at A;cases A;obtain⟨e,he,hef,Y⟩:=Jj h;subst hef;clear h;unfold Lg at Y;have h:=Y;clear Y;cases E:(CT e.S.rs||(DB e.S.rs&&HS ((zs++(As t 0 x).map Sl.one).map some)))with
 |false=>rw[E]at h;cases h
 |true=>
  rw[E]at h;simp only[cond_true]at h;split at h
  case h_2=>cases h
  rename_i z hz;cases h;obtain⟨hc,hft⟩:=U e he;obtain⟨Z,hcd⟩:=DW Z
  have hev:s.den.ev (.tmp y)=.many (.cl e.f) t.w λk=>(tyV t 0 x).getD k .dead:=by
   show(s.t y).v s.r=_;rw[hy];rfl
  have O:(xs.toList.map s.den.ev)++tab t.w (λk=>(tyV t 0 x).getD k .dead)=(zs++(As t 0 x).map Sl.one).map (Sl.v s.r):=by
   rw[YU W,List.map_append]
   congr 1
   have h1:tab t.w (λk=>(tyV t 0 x).getD k .dead)=tyV t 0 x:=by
    have:=Ji (l:=tyV t 0 x) t.w (by rw[Ay];exact Nat.le_refl _)
    rw[this];exact List.take_of_length_le (by rw[Ay];exact Nat.le_refl _)
   rw[h1,List.map_map];exact(Cl.v_c (r:=s.r) t 0 x).symm
  rw[Bool.or_eq_true,bAE]at E;have hok:DB e.S.rs=true:=E.elim HL (·.1)
  show Om P (s.r.map Ab.v) (s.den.ev (.tmp y)) (xs.toList.map s.den.ev) (SK s _);rw[hev];show Nat.blt e.f 1000000=true/\Call P e.f (((xs.toList.map s.den.ev)++tab t.w (λk=>(tyV t 0 x).getD k .dead)).any AP) (((xs.toList.map s.den.ev)++tab t.w (λk=>(tyV t 0 x).getD k .dead)).map (BQ (s.r.map Ab.v))) (SK s _)
  rw[O];refine⟨J,Jb true e.S.rs u,⟨hc,FC.sub1 (by rw[Hn];exact hft z u Z) (MD _ _ _ hz hcd)⟩,λhl=>?_,?_⟩
  .rcases E with E|⟨_,E⟩
   .exact Dq _ _ _ E
   .rw[Ui E]at hl;cases hl
  .show Sub _ ((NA true e.S.rs u).v s.r)
   rw[QZ _ _ _ hok];exact Sub.refl _
def strB(a b:String):Bool:=a==b
def Z1:List (String×Nat)->String->Option Nat
 |[],_=>none
 |(a,f)::l,s=>bif strB a s then some f else Z1 l s
theorem OH{s:String}{f:Nat}:∀{l:List (String×Nat)},Z1 l s=some f->(s,f)∈l
 |[],h=>by cases h
 |(a,f')::l,h=>by
  unfold Z1 at h;cases e:strB a s with
  |false=>rw[e]at h;exact mCM _ (OH h)
  |true=>
   rw[e]at h;have:a=s:=by unfold strB at e;grind
   grind
def cloI(Θ:Tab)(s:St):Op->Option (FuncId×List Sl)
 |.call c=>match c.callee with
  |.invoke (.tmp y) nm=>match s.t y with
   |.one (.c (.clo g t) _ x)=>bif Nat.ble 1000000 g&&Nat.beq t.w 1 then(match Θ.look (g-1000000)with
    |some i=>match Z1 i.met nm,allS (c.args.toList.map s.ev)with
     |some f,some ys=>some (f,(As t 0 x).map .one++ys)
     |_,_=>none
    |none=>none)else none
   |_=>none
  |_=>none
 |_=>none
theorem Wc(Y:Θ.OK P)(Z:KU P Γ){g:FuncId}(A:cloI Θ s op=some (g,ys))(h:JJ Γ s g (ys.map some)=some a){u:a.α}(hu:a.o=some u):QS P s op (a.y u):=by
 unfold cloI at A;split at A
 case h_2=>cases A
 rename_i c;obtain⟨callee,xs,ats⟩:=c;split at A
 case h_2=>cases A
 rename_i y nm B;have B:callee=.invoke (.tmp y) nm:=B;subst B;split at A
 case h_2=>cases A
 rename_i g2 t d x hy;cases F:(Nat.ble 1000000 g2&&Nat.beq t.w 1)with
 |false=>rw[F]at A;cases A
 |true=>
 rw[F]at A;simp only[cond_true]at A;rw[bAE]at F;obtain⟨W,J⟩:=F;have W:=blE W;have J:t.w=1:=bqE J;split at A
 case h_2=>cases A
 rename_i i hi;split at A
 case h_2=>cases A
 rename_i f zs hfm hzs;cases A;have U:=Y.met hi (OH hfm);obtain⟨e,he,hef,hx⟩:=Jj h;subst hef;clear h;unfold Lg at hx;have h:=hx;clear hx;cases E:(CT e.S.rs||(DB e.S.rs&&HS (((As t 0 x).map Sl.one++zs).map some)))with
 |false=>rw[E]at h;cases h
 |true=>
  rw[E]at h;simp only[cond_true]at h;split at h
  case h_2=>cases h
  rename_i z hz;cases h;obtain⟨hc,hft⟩:=Z e he;obtain⟨hu,hcd⟩:=DW hu
  have hev:s.den.ev (.tmp y)=.many (.cl g2) t.w λk=>(tyV t 0 x).getD k .dead:=by
   show(s.t y).v s.r=_;rw[hy];rfl
  have O:tab t.w (λk=>(tyV t 0 x).getD k .dead)++(xs.toList.map s.den.ev)=((As t 0 x).map Sl.one++zs).map (Sl.v s.r):=by
   rw[YU hzs,List.map_append]
   congr 1
   have h1:tab t.w (λk=>(tyV t 0 x).getD k .dead)=tyV t 0 x:=by
    have:=Ji (l:=tyV t 0 x) t.w (by rw[Ay];exact Nat.le_refl _)
    rw[this];exact List.take_of_length_le (by rw[Ay];exact Nat.le_refl _)
   rw[h1,List.map_map];exact(Cl.v_c (r:=s.r) t 0 x).symm
  rw[Bool.or_eq_true,bAE]at E;have hok:DB e.S.rs=true:=E.elim HL (·.1)
  show Oo P (s.r.map Ab.v) (s.den.ev (.tmp y)) nm (xs.toList.map s.den.ev) (SK s _);rw[hev];show ∃t' fn,(g2=1000000+t'/\t.w=1/\ZZ P t' nm=some fn)/\Call P fn ((tab t.w (λk=>(tyV t 0 x).getD k .dead)++(xs.toList.map s.den.ev)).any AP) ((tab t.w (λk=>(tyV t 0 x).getD k .dead)++(xs.toList.map s.den.ev)).map (BQ (s.r.map Ab.v))) (SK s _)
  rw[O];refine⟨g2-1000000,e.f,⟨by omega,J,U⟩,Jb true e.S.rs u,⟨hc,FC.sub1 (by rw[Hn];exact hft z u hu) (MD _ _ _ hz hcd)⟩,λhl=>?_,?_⟩
  .rcases E with E|⟨_,E⟩
   .exact Dq _ _ _ E
   .rw[Ui E]at hl;cases hl
  .show Sub _ ((NA true e.S.rs u).v s.r)
   rw[QZ _ _ _ hok];exact Sub.refl _
def capL(s:St):List Operand->Option (List Cl)
 |[]=>some []
 |x::xs=>match s.ev x with
  |some (.one (.c t d y))=>bif t.one&& !(Cl.c t d y).own then(match capL s xs with
   |some l=>some (.c t 0 y::l)
   |none=>none)else none
  |_=>none
def capR(s:St):List Operand->Option (List Cl)
 |[]=>some []
 |x::xs=>match s.ev x with
  |some (.one y)=>bif y.own then none else(match capR s xs with
   |some l=>some (y::l)
   |none=>none)
  |_=>none
theorem Abz{s:St}:∀{xs:List Operand}{l:List Cl},capR s xs=some l->xs.map s.den.ev=l.map (Cl.v s.r)/\(xs.map s.den.ev).all (λv=>!AM v)=true
 |[],l,h=>by cases h;simp
 |x::xs,l,h=>by
  unfold capR at h;split at h
  case h_2=>grind
  rename_i y B;cases A:y.own with
  |true=>grind
  |false=>
   rw[A]at h;split at h
   case h_2=>grind
   rename_i m E;obtain⟨J,F⟩:=Abz E;have e:s.den.ev x=y.v s.r:=A7 B;refine⟨by grind,?_⟩
   rw[List.map_cons,List.all_cons,e,Cl.own_v,A,F];rfl
def tMkG(g:Nat)(s:St)(e:List Operand):Option TR:=match capL s e with
  |some l=>match DD l with
   |some ⟨t,x⟩=>some (.ok (.one (.c (.clo g t) 0 x)))
   |none=>none
  |none=>match capR s e with
   |some l=>some (.ok (.pk (.cl g) l))
   |none=>none
def tMkF(s:St)(fn:Fn)(first:List Operand)(e:List Operand):Option TR:=match fn,first with
 |.func g,[]=>bif Nat.blt g 1000000 then tMkG g s e else none
 |_,_=>none
def tMkI(Θ:Tab)(s:St)(t:TypeId)(x:Operand):Option TR:=match Θ.look t with
 |some i=>match i.met with
  |[]=>none
  |_::_=>tMkG (1000000+t) s [x]
 |none=>none
theorem AbA{s:St}:∀{xs:List Operand}{l:List Cl},capL s xs=some l->xs.map s.den.ev=(l.map Cl.v0).map frz/\(xs.map s.den.ev).all (λv=>!AM v)=true/\l.length=xs.length
 |[],l,h=>by cases h;exact⟨rfl,rfl,rfl⟩
 |x::xs,l,h=>by
  unfold capL at h;split at h
  case h_2=>cases h
  rename_i t d y J;cases B:(t.one&& !(Cl.c t d y).own)with
  |false=>rw[B]at h;cases h
  |true=>
   rw[B]at h;simp only[cond_true]at h;split at h
   case h_2=>cases h
   rename_i m O;cases h;rw[bAE]at B;obtain⟨W,Y,U⟩:=AbA O;have E:s.den.ev x=cV t d y:=A7 J
   have A:AM (cV t d y)=false:=by
    have:=Cl.own_v (r:=s.r) (.c t d y);have e:(Cl.c t d y).own=false:=by simpa using B.2
    rw[e]at this;exact this
   have F:cV t d y=frz (cV t 0 y):=by
    rw[UA B.1];cases t<;>first|rfl|(cases d<;>first|rfl|(cases A;done))|(cases y<;>cases d<;>first|rfl|(cases A;done))
   refine⟨?_,?_,by simp[U]⟩
   .rw[List.map_cons,List.map_cons,List.map_cons,E,W,F];rfl
   grind
theorem AaP{A:List Operand}{a:TR}(h:tMkG g s A=some a):∃y,a=.ok y/\(A.map s.den.ev).all (λv=>!AM v)=true/\Sub (V.many (.cl g) (A.map s.den.ev).length λk=>(A.map s.den.ev).getD k .dead) (y.v s.r):=by
 unfold tMkG at h;split at h
 case h_2=>
  split at h
  case h_2=>grind
  rename_i l B;cases h;obtain⟨F,E⟩:=Abz B;refine⟨_,rfl,E,?_⟩;rw[F];exact Sub.refl _
 rename_i l B;split at h
 case h_2=>grind
 rename_i t x hd;cases h;obtain⟨F,E,J⟩:=AbA B;have e:=DX _ _ hd;refine⟨_,rfl,E,?_⟩;rw[F,<-e,Ay];exact Sub.refl _
theorem Vb{fn:Fn}{first e:Array Operand}{a:TR}(h:tMkF s fn first.toList e.toList=some a):QS P s (.makeFunc fn first e) a.y:=by
 unfold tMkF at h;split at h
 case h_2=>grind
 rename_i g B;cases A:Nat.blt g 1000000 with
 |false=>grind
 |true=>
 rw[A]at h;obtain⟨y,rfl,F,E⟩:=AaP h
 show(match Fn.func g,first.toList with
  |.func g,[]=>qMkF g (e.toList.map s.den.ev) (SK s _)
  |_,_=>False)
 rw[B]
 trivial
theorem Va(e:Θ.OK P){t:TypeId}{a:TR}(h:tMkI Θ s t x=some a):QS P s (.makeInterface t x) a.y:=by
 unfold tMkI at h;split at h
 case h_2=>grind
 rename_i i hi;split at h
 .grind
 rename_i p l F;obtain⟨y,rfl,A,E⟩:=AaP h;have B:=ZY (e.met hi (nm:=p.1) (f:=p.2) (by grind))
 have A:=by simpa using A
 refine⟨⟨A,B⟩,Sub.trans ⟨_,rfl,λk J=>?_⟩ E⟩
 obtain rfl:k=0:=by omega
 exact Sub.refl _
end Go.Ve


namespace Go.Ve
variable{b:Bool}{c:Cl}{r:List Ab}{l σ:List V}{d i k:Nat}{P:Program}{s:St}{t:Ty}
structure Qu where
 k:Nat
 ps:List (Bool×Ty)
 t:Ty
 d:Nat
 eat:Bool
 rs:List (Bool×Nat×Ty)
def VZ(k:Nat)(l:List V):List V:=l.take k++ .dead::l.drop k
theorem Jr:(VZ k l).length=l.length+1:=by
 unfold VZ
 grind
theorem AcT(h:i<k)(e:k<=l.length):(VZ k l).getD i .dead=l.getD i .dead:=by
 unfold VZ
 grind
theorem AcU(h:k<=i)(A:k<=l.length):(VZ k l).getD (i+1) .dead=l.getD i .dead:=by
 unfold VZ;have e:(l.take k).length=k:=by grind
 simp;rw[gAR (by omega),e,show i+1-k=(i-k)+1 by omega,List.getElem?_cons_succ,List.getElem?_drop,show k+(i-k)=i by omega]
def isTr:Ty->Bool
 |.sl _=>true
 |.ptr _=>true
 |_=>false
def Qu.ok(S:Qu):Bool:=Nat.blt 0 S.d&&Nat.ble S.k S.ps.length&&isTr S.t
def FTU(P:Program)(f:FuncId)(S:Qu)(g:(PT S.ps).T->S.t.T->Option ((RT S.rs).T×S.t.T)):Prop:=
 ∀z x u,g z x=some u->FCU P f S.k (VZ S.k (Cf S.ps z)) (cV S.t S.d x) (Xp S.rs u.1) (bif S.eat then .dead else cV S.t S.d u.2)
structure EnU where
 f:FuncId
 S:Qu
 g:(PT S.ps).T->S.t.T->Option ((RT S.rs).T×S.t.T)
def Ke:List EnU->FuncId->Option EnU
 |[],_=>none
 |e::l,f=>bif Nat.beq e.f f then some e else Ke l f
def EnU.OK(P:Program)(e:EnU):Prop:=Ae P e.f=true/\e.S.ok=true/\FTU P e.f e.S e.g
def Ut{P:Program}{f:FuncId}{e:EnU}:∀{Γ:List EnU},(∀e∈Γ,e.OK P)->Ke Γ f=some e->e.OK P/\e.f=f
 |[],_,h=>by cases h
 |a::l,hΓ,h=>by
  unfold Ke at h;cases B:Nat.beq a.f f with
  |true=>
   simp_all
  |false=>rw[B]at h;exact Ut (λe A=>hΓ e (mCM _ A)) h
theorem Cl.lend_id(h:c.lent=false):BQ σ (c.v r)=c.v r:=by
 cases c with
 |c t d x=>
  have e:∀{t:Ty} (x:t.T),t.one=true->BQ σ (cV t 0 x)=cV t 0 x:=fun{t} x ht=>Dd t x _ (by rw[BL ht];simp)
  cases t with
  |int k=>rfl
  |bool=>rfl
  |str=>rfl
  |unit=>rfl
  |pair a b=>rfl
  |sl t=>cases d with
   |zero=>exact e x rfl
   |succ d=>cases h
  |ptr t=>cases d with
   |zero=>exact e x rfl
   |succ d=>cases h
  |clo g t=>exact e x rfl
  |mp k v=>cases d with
   |zero=>exact e x rfl
   |succ d=>cases h
  |osl t=>cases d with
   |zero=>exact e x rfl
   |succ d=>cases x with
    |none=>rfl
    |some y=>cases h
 |rf=>cases h
 |rs=>cases h
 |rp=>cases h
 |rm=>cases h
 |_=>rfl
theorem Cl.clean_v(h:c.lent=false):clean (c.v r):=by
 cases c with
 |c t d x=>
  cases t with
  |osl t=>cases x<;>exact trivial
  |clo g t=>
   have:∀(t:Ty) (x:t.T),∀v∈tyV t 0 x,clean v:=by
    intro t
    induction t with
    |int k=>intro x v e;simp[tyV]at e;subst e;trivial
    |bool=>intro x v e;simp[tyV]at e;subst e;trivial
    |str=>intro x v e;simp[tyV]at e;subst e;trivial
    |sl t _=>intro x v e;simp only[tyV,List.mem_singleton]at e;subst e;trivial
    |ptr t _=>intro x v e;simp only[tyV,List.mem_singleton]at e;subst e;trivial
    |unit=>intro x v e;simp[tyV]at e
    |pair a b B A=>
     intro x v e;simp only[tyV,List.mem_append]at e
     grind
    |mp k v _ _=>intro x v e;simp only[tyV,List.mem_singleton]at e;subst e;trivial
    |osl t _=>
     intro x v e;simp only[tyV,List.mem_singleton]at e;subst e;cases x<;>trivial
    |clo g t E=>
     intro x v e;simp only[tyV,List.mem_singleton]at e;subst e;intro k F;refine E x _ ?_;show(tyV t 0 x).getD k .dead∈_;rw[gDE,gEE (by rw[Ay];exact F)]
     simp
   exact this (.clo g t) x _ (List.mem_singleton.2 rfl)
  |_=>trivial
 |rf=>cases h
 |rs=>cases h
 |rp=>cases h
 |_=>trivial
theorem Nu{l:List Cl}(h:l.any Cl.lent=false):∀c∈l,c.lent=false:=by grind
theorem Uo{l:List Cl}(h:l.any Cl.lent=false):(l.map (Cl.v r)).map (BQ σ)=l.map (Cl.v r):=by
 rw[List.map_map];exact List.map_congr_left λc e=>Cl.lend_id (Nu h c e)
def Sl.notB:Sl->Bool
 |.one _=>true
 |.agg _=>true
 |.pk (.cl _) _=>true
 |_=>false
theorem uArg_v{y:Sl}{z:t.T}(U:y.lent=false)(F:y.notB=true)(h:Jk s b t (some y)=some z):Sub (y.v s.r) (vOf b t 0 z)/\AM (y.v s.r)=false/\clean (y.v s.r):=by
 have many:∀(B:Tg) (l:List Cl),l.any Cl.lent=false->AM (pkL B (l.map (Cl.v s.r)))=false/\clean (pkL B (l.map (Cl.v s.r))):=by
  intro B l h;refine⟨?_,λk W=>?_⟩
  .have e:AM ((Sl.pk B l).v s.r)=l.any Cl.own:=Sl.own_v (.pk B l)
   refine e.trans ?_;rw[List.any_eq_false];intro c A;have J:=Nu h c A;cases c with
   |c t d x=>rw[show(Cl.c t d x).own=false from J];simp
   |_=>simp[Cl.own]
  .have W:k<l.length:=by simpa using W
   show clean ((l.map (Cl.v s.r)).getD k .dead);rw[AE (f:=Cl.v s.r) (a:=.dead) rfl];refine Cl.clean_v (Nu h _ ?_);simp[W]
 cases y with
 |one c=>
  have A:c.lent=false:=U;refine⟨?_,?_,Cl.clean_v A⟩
  .unfold Jk at h
   cases b with
   |true=>cases h
   |false=>
    cases Y:t.one with
    |false=>rw[Y]at h;cases h
    |true=>
     rw[Y]at h;simp only[cond_false,cond_true]at h;split at h
     case h_2=>cases h
     rename_i y' hy;obtain⟨_,h2,O⟩:=M5 hy;have O:=O λid p i k e=>by rw[e]at A;cases A
     rw[Cl.lend_id A]at O;obtain⟨g1,_⟩:=MS h s.r;have g1:Sub y'.v0 (vOf false t 0 z):=h2▸g1;exact O.trans g1
  .have e:AM (c.v s.r)=c.own:=Cl.own_v c
   refine e.trans ?_;cases c with
   |c t d x=>exact A
   |_=>rfl
 |agg l=>
  have A:l.any Cl.lent=false:=U;refine⟨?_,many .ag l A⟩;unfold Jk at h;cases b with
  |false=>cases h
  |true=>
   simp only[cond_true]at h;split at h
   case h_2=>cases h
   rename_i Z E;show Sub (Ai _) (Ai _);refine CK.mk ?_;have J:=M2 E;rw[Uo A]at J;exact CK.trans J (Db h s.r).1
 |pk B l=>
  have A:l.any Cl.lent=false:=U;cases B with
  |cl g=>
   refine⟨?_,many (.cl g) l A⟩;unfold Jk at h;cases b with
   |true=>cases h
   |false=>
    simp only[cond_false]at h;split at h
    case h_2=>cases h
    rename_i g' u;obtain⟨F,h⟩:=A9 h;have hg:=bqE F;subst hg;split at h
    case h_2=>cases h
    rename_i Z E
    have e:V.many (.cl g) u.w (λk=>(tyV u 0 z).getD k .dead)=pkL (.cl g) (tyV u 0 z):=by
     unfold pkL;rw[Ay]
    show Sub (pkL (.cl g) _) (V.many (.cl g) u.w λk=>(tyV u 0 z).getD k .dead)
    rw[e];have J:=M4 E;rw[Uo A]at J;exact CK.pk (CK.trans J (Db h s.r).1)
  |ag=>cases F
  |tu=>cases F
  |bx=>cases F
 |new l=>cases F
 |tup l=>cases F
def uok:Option Sl->Bool
 |some y=>!y.lent&&y.notB
 |none=>false
theorem uok_v{x:Operand}{z:t.T}(e:uok (s.ev x)=true)(h:Jk s b t (s.ev x)=some z):AM (s.den.ev x)=false/\clean (s.den.ev x)/\Sub (s.den.ev x) (vOf b t 0 z):=by
 cases A:s.ev x with
 |none=>rw[A]at e;trivial
 |some y=>
  rw[A]at e h;simp[uok,Bool.not_eq_true']at e;obtain⟨F,E,B⟩:=uArg_v e.1 e.2 h;rw[A7 A]
  grind
theorem WD{s:St}:∀(ps:List (Bool×Ty)) (xs:List Operand) (z:(PT ps).T),Hd s ps (xs.map s.ev)=some z->(xs.map s.ev).all uok=true->
  xs.length=(Cf ps z).length/\∀i x,xs[i]? =some x->AM (s.den.ev x)=false/\clean (s.den.ev x)/\Sub (s.den.ev x) ((Cf ps z).getD i .dead)
 |[],[],z,_,_=>⟨rfl,λi x h=>by simp at h⟩
 |[p],[x],z,h,e=>by
  have e:(uok (s.ev x)&&true)=true:=e;rw[Bool.and_true]at e;refine⟨rfl,λi E A=>?_⟩
  cases i with
  |zero=>
   cases A;exact uok_v e h
  |succ i=>simp at A
 |p::q::l,x::xs,z,h,e=>by
  have h:(match Jk s p.1 p.2 (s.ev x)with
   |some z=>match Hd s (q::l) (xs.map s.ev)with
    |some B=>some (z,B)
    |none=>none
   |none=>none:Option (PT (p::q::l)).T)=some z:=h
  have e:(uok (s.ev x)&&(xs.map s.ev).all uok)=true:=e;rw[bAE]at e;split at h
  case h_2=>cases h
  rename_i O J;split at h
  case h_2=>cases h
  rename_i B F;cases h;obtain⟨k1,k2⟩:=WD (q::l) xs B F e.2;refine⟨by show xs.length+1=(Cf (q::l) B).length+1;rw[k1],λi E A=>?_⟩
  cases i with
  |zero=>
   cases A;exact uok_v e.1 J
  |succ i=>exact k2 i E (by simpa using A)
 |[],_::_,_,h,_=>by cases h
 |[_],[],_,h,_=>by cases h
 |[_],_::_::_,_,h,_=>by cases h
 |_::_::_,[],_,h,_=>by cases h
def CG(k:Nat)(l:List Operand):List Operand:=l.take k++l.drop (k+1)
theorem V9{l:List Operand}(h:k<l.length):(CG k l).length+1=l.length:=by
 unfold CG
 grind
theorem O1{l:List Operand}(h:i<k)(e:k<l.length):(CG k l)[i]? =l[i]?:=by
 unfold CG
 grind
theorem O2{l:List Operand}(h:k<=i)(e:k<l.length):(CG k l)[i]? =l[i+1]?:=by
 unfold CG
 grind
theorem AbM{ps:List (Bool×Ty)}{xs:List Operand}{z:(PT ps).T}(e:k<xs.length)(h:Hd s ps ((CG k xs).map s.ev)=some z)(E:((CG k xs).map s.ev).all uok=true):
  xs.length=(VZ k (Cf ps z)).length/\∀i x,i≠k->xs[i]? =some x->AM (s.den.ev x)=false/\clean (s.den.ev x)/\Sub (s.den.ev x) ((VZ k (Cf ps z)).getD i .dead):=by
 obtain⟨O,A⟩:=WD ps (CG k xs) z h E;have J:=V9 e;refine⟨by rw[Jr];omega,λi x F B=>?_⟩
 rcases Nat.lt_or_ge i k with hlt|hge
 .have:=A i x (by rw[O1 hlt e];exact B)
  rw[AcT hlt (by omega)]
  grind
 .obtain⟨j,rfl⟩:∃j,i=j+1:=⟨i-1,by omega⟩
  have:=A j x (by rw[O2 (by omega) e];grind)
  rw[AcU (by omega) (by omega)]
  grind
def AcY:(t:Ty)->t.T->Bool
 |.sl _,xs=>ltI (Int.ofNat 0) (ofN (HZ xs))
 |.ptr _,_=>true
 |_,_=>false
theorem AcX{x:t.T}(hd:0<d)(h:AcY t x=true):LP (cV t d x):=by
 have hd:=dT hd;cases t with
 |sl t=>
  refine⟨true,_,_,_,show arr (decide (0<d)) _ _ _ x=_ by rw[hd];rfl,.inr ?_⟩
  have h:decide (0<(x.length:Int))=true:=h
  grind
 |ptr t=>exact⟨false,_,_,_,show Be (decide (0<d)) _=_ by rw[hd];rfl,.inl rfl⟩
 |_=>cases h
def treeND{x:t.T}(hd:0<d)(h:isTr t=true):∃s sz n f,cV t d x=.nd s true sz n f:=by
 have hd:=dT hd;cases t with
 |sl t=>exact⟨true,_,_,_,show arr (decide (0<d)) _ _ _ x=_ by rw[hd];rfl⟩
 |ptr t=>exact⟨false,_,_,_,show Be (decide (0<d)) _=_ by rw[hd];rfl⟩
 |_=>cases h
def Du:∀e∈([]:List EnU),e.OK P:=by simp
theorem D8{e:EnU}{l:List EnU}(F:Ae P e.f=true)(J:e.S.ok=true)(E:FTU P e.f e.S e.g)(B:∀e∈l,e.OK P):∀x∈e::l,x.OK P:=by
 intro x A;rcases List.mem_cons.1 A with rfl|A
 .trivial
 grind
end Go.Ve


namespace Go.Ve
def Bp(m:Nat):List Cl->List Cl×List Ab
 |[]=>([],[])
 |.c (.sl u) (d+1) xs::l=>(.rf m []::(Bp (m+1) l).1,.arr false u d xs::(Bp (m+1) l).2)
 |y::l=>(y::(Bp m l).1,(Bp m l).2)
abbrev WP:=Bool×Bool×Ty
def U0(p:WP)(x:p.2.2.T)(m:Nat):Sl×List Ab:=
 bif p.1 then(bif p.2.1 then .agg (Bp m (As p.2.2 p.2.2.dep x)).1 else .one ((Bp m (As p.2.2 p.2.2.dep x)).1.getD 0 .dead),(Bp m (As p.2.2 p.2.2.dep x)).2)
 else(bif p.2.1 then .agg (As p.2.2 0 x)else .one (.c p.2.2 0 x),[])
def PTW:List WP->Ty
 |[]=>.unit
 |[p]=>p.2.2
 |p::q::l=>.pair p.2.2 (PTW (q::l))
def AZ:(ps:List WP)->(PTW ps).T->Nat->List Sl×List Ab
 |[],_,_=>([],[])
 |[p],x,m=>([(U0 p x m).1],(U0 p x m).2)
 |p::q::l,x,m=>((U0 p x.1 m).1::(AZ (q::l) x.2 (m+(U0 p x.1 m).2.length)).1,(U0 p x.1 m).2++(AZ (q::l) x.2 (m+(U0 p x.1 m).2.length)).2)
def Ab9:Ty->List Ty
 |.sl t=>[.sl t]
 |.pair a b=>Ab9 a++Ab9 b
 |_=>[]
def Dl:List WP->List Ty
 |[]=>[]
 |p::l=>(bif p.1 then Ab9 p.2.2 else [])++Dl l
structure Adi where
 ps:List WP
 rt:Ty
def Ty.sc:Ty->Bool
 |.int _=>true
 |.bool=>true
 |.str=>true
 |_=>false
def scV:(t:Ty)->t.T->Value
 |.int k,n=>.int k n
 |.bool,b=>.bool b
 |.str,s=>.string s
 |_,_=>undef
def wty:List Ty->Ty
 |[]=>.unit
 |[t]=>t
 |t::u::l=>.pair t (wty (u::l))
def wOf:(e:List Ty)->(wty e).T->List (Σ t:Ty,t.T)
 |[],_=>[]
 |[t],x=>[⟨t,x⟩]
 |t::u::l,x=>⟨t,x.1⟩::wOf (u::l) x.2
def C4:Ab->(Σ t:Ty,t.T)->Ab
 |.arr ro u d _,⟨.sl u',xs⟩=>if h:u'=u then .arr ro u d (h▸xs)else .dead
 |_,_=>.dead
def Bs:List Ab->List (Σ t:Ty,t.T)->List Ab
 |r::rs,y::ys=>C4 r y::Bs rs ys
 |_,_=>[]
def FTW(P:Program)(f:FuncId)(S:Adi)(g:(PTW S.ps).T->Option (S.rt.T×(wty (Dl S.ps)).T)):Prop:=
 ∀x u,g x=some u->S.rt.sc=true/\(wOf (Dl S.ps) u.2).length=(AZ S.ps x 0).2.length/\(∀k,k<(AZ S.ps x 0).2.length->(Bs (AZ S.ps x 0).2 (wOf (Dl S.ps) u.2)).getD k .dead≠.dead)/\
  FCW P f ((AZ S.ps x 0).1.map (Sl.v (AZ S.ps x 0).2)) ((AZ S.ps x 0).2.map Ab.v) (scV S.rt u.1) ((Bs (AZ S.ps x 0).2 (wOf (Dl S.ps) u.2)).map Ab.v)
structure EnW where
 f:FuncId
 S:Adi
 g:(PTW S.ps).T->Option (S.rt.T×(wty (Dl S.ps)).T)
def X0:List EnW->FuncId->Option EnW
 |[],_=>none
 |e::l,f=>bif Nat.beq e.f f then some e else X0 l f
def EnW.OK(P:Program)(e:EnW):Prop:=Ae P e.f=true/\FTW P e.f e.S e.g
def Ur{P:Program}{f:FuncId}{e:EnW}:∀{Γ:List EnW},(∀e∈Γ,e.OK P)->X0 Γ f=some e->e.OK P/\e.f=f
 |[],_,h=>by cases h
 |a::l,hΓ,h=>by
  unfold X0 at h;cases B:Nat.beq a.f f with
  |true=>
   simp_all
  |false=>rw[B]at h;exact Ur (λe A=>hΓ e (mCM _ A)) h
end Go.Ve


namespace Go.Ve
variable{r:List Ab}{l m:List V}{op:Op}{i:Option TI}{P:Program}{s:St}{a:TR}{w:World}
def O6(Θ:Tab)(t:TypeId):Option TI:=((Θ.look t).bind (·.elem)).bind Θ.look
def QQ(Θ:Tab)(s:St):Builtin->List Operand->List TypeId->Option TR
 |.len,[x],[t]=>match Ab2 s (Θ.look t) (s.ev x)with
  |some a=>some a
  |none=>tLen s (Θ.look t) (s.ev x)
 |.min,[x,y],_=>tMin (s.ev x) (s.ev y)
 |.max,[x,y],_=>tMax (s.ev x) (s.ev y)
 |_,_,_=>none
def AcR:Operand->Bool
 |.const (.slice none 0 0)=>true
 |_=>false
def QO(s:St)(i:Option TI)(x:Operand):Option TR:=bif AcR x then(match i with
 |some j=>some (.ok (.one (.c (.sl j.ty) (j.sd+1) [])))
 |none=>none)else Ab0 (s.ev x)
theorem IX{x:Operand}(A:op=.move x\/op=.assign x)(h:QO s i x=some a):QS P s op a.y:=by
 unfold QO at h;cases e:AcR x with
 |false=>rw[e]at h;exact Pz A h
 |true=>
  rw[e]at h;split at h
  case h_2=>grind
  rename_i j;cases h;unfold AcR at e;split at e
  case h_2=>grind
  have:XC (s.den.ev (.const (.slice none 0 0))) (SK s (.one (.c (.sl j.ty) (j.sd+1) []))):=⟨rfl,.inr ⟨rfl,_,_,_,rfl⟩⟩;rcases A with rfl|rfl<;>exact this
def My:Option TI->Option Operand->Option TR
 |some i,none=>match i.ty with
  |.mp k v=>some (.ok (.one (.c (.mp k v) 1 [])))
  |_=>none
 |_,_=>none
def KW{t:TypeId}{n:Option Operand}(h:My i n=some a):QS P s (.makeMap t n) a.y:=by
 unfold My at h;split at h
 case h_2=>cases h
 split at h
 case h_2=>cases h
 cases h;exact⟨rfl,Sub.refl _⟩
def tq(Θ:Tab)(s:St)(ty:TypeId):Op->Option TR
 |.move x=>QO s (O6 Θ ty) x
 |.assign x=>QO s (O6 Θ ty) x
 |.pick c x y=>AbY (s.ev c) (s.ev x) (s.ev y)
 |.load t x=>W0 s (Θ.look t) (s.ev x)
 |.fieldAddr t x k=>W2 s (Θ.look t) k (s.ev x)
 |.indexAddr t x i=>Io s (O6 Θ t) (s.ev x) (s.ev i)
 |.index t x i=>W1 (Θ.look t) (s.ev x) (s.ev i)
 |.nilCheck x=>tNil (s.ev x)
 |.binOp op t x y _=>tBin (Θ.look t) op (s.ev x) (s.ev y)
 |.unOp op _ x=>tUn op (s.ev x)
 |.convert u v x=>Ab3 s.r (Θ.look u) (Θ.look v) (O6 Θ u) (O6 Θ v) (s.ev x)
 |.extract x k=>MC k (s.ev x)
 |.build t ps=>W6 (Θ.look t) (ps.toList.map λp=>(p.1,s.ev p.2))
 |.buildSlice t n ps=>Hk n (ps.toList.map λp=>(p.1,s.ev p.2)) (O6 Θ t)
 |.alloc t=>W8 (Θ.look t)
 |.box _ x=>tBox (s.ev x)
 |.makeSlice t l c=>Ab1 (O6 Θ t) (s.ev l) (s.ev c)
 |.slice t x lo hi A=>match A with
  |none=>WT s (Θ.look t) (O6 Θ t) (s.ev x) (Lh (lo.map s.ev)) (Lh (hi.map s.ev))
  |some _=>none
 |.call c=>match c.callee with
  |.builtin b=>QQ Θ s b c.args.toList c.argTypes.toList
  |_=>none
 |.makeFunc fn first e=>tMkF s fn first.toList e.toList
 |.makeInterface t x=>tMkI Θ s t x
 |.makeMap t n=>My (Θ.look t) n
 |.lookup t x i co=>PC s (Θ.look t) (s.ev x) (s.ev i) co
 |_=>none
theorem QH{Θ:Tab}(A:Θ.OK P){ty:TypeId}(h:tq Θ s ty op=some a)(E:a.p):QS P s op a.y:=by
 unfold tq at h;split at h
 case h_1=>exact IX (.inl rfl) h
 case h_2=>exact IX (.inr rfl) h
 case h_3=>exact Py h
 case h_4=>exact PE A h E
 case h_5=>exact NR A h
 case h_6=>exact Ja A h E
 case h_7=>exact NP A h E
 case h_8=>exact U9 h
 case h_9=>exact Vj A h E
 case h_10=>exact WO h
 case h_11=>exact PG A h E
 case h_12=>exact KX h
 case h_13=>exact NU A h
 case h_14=>exact Ip A h
 case h_15=>exact NW A h
 case h_16=>exact Vi h
 case h_17=>exact PB A h E
 case h_18=>
  split at h
  .exact NO A h E
  .cases h
 case h_19 c=>
  obtain⟨callee,args,J⟩:=c;split at h
  case h_2=>cases h
  rename_i b F;have F:callee=.builtin b:=F;subst F;unfold QQ at h;split at h
  case h_4=>cases h
  .rename_i x t B O
   rw[Z3 (show args.toList=[x]from B),Z3 (show J.toList=[t]from O)]
   split at h
   .rename_i W U
    cases h;exact PF A U
   .exact Vg A h
  .rename_i x y B
   have e:args= #[x,y]:=by have B:args.toList=[x,y]:=B;cases args;simp at B;simp[B]
   subst e;exact Vc h
  .rename_i x y B
   have e:args= #[x,y]:=by grind
   subst e;exact Vd h
 case h_20=>exact Vb h
 case h_21=>exact Va A h
 case h_22=>exact KW h
 case h_23=>exact Mz A h
 case h_24=>cases h
def Ax:V->V->Prop
 |.many t n f,v'=>v'=.dead\/∃g,v'=.many t n g/\∀k,k<n->Ax (f k) (g k)
 |v,v'=>v'=.dead\/Sub v v'
theorem Ax.of:∀{v v':V},Sub v v'->Ax v v':=by
 intro v
 induction v with
 |many t n f e=>intro v' h;obtain⟨g,rfl,h⟩:=h;exact .inr ⟨g,rfl,λk A=>e k (h k A)⟩
 |_=>intro v' h;exact .inr h
def Ax.refl(v:V):Ax v v:=Ax.of (Sub.refl v)
def Ax.dead:∀(v:V),Ax v .dead:=by
 intro v;cases v<;>exact .inl rfl
def Ax.mk(e:l.length=m.length)(h:∀k,k<l.length->Ax (l.getD k .dead) (m.getD k .dead)):Ax (Ai l) (Ai m):=by
 unfold Ai;rw[<-e];exact .inr ⟨_,rfl,h⟩
def Ax.tup(e:l.length=m.length)(h:∀k,k<l.length->Ax (l.getD k .dead) (m.getD k .dead)):Ax (Dw l) (Dw m):=by
 unfold Dw;rw[<-e];exact .inr ⟨_,rfl,h⟩
def Ax.pk{t:Tg}(e:l.length=m.length)(h:∀k,k<l.length->Ax (l.getD k .dead) (m.getD k .dead)):Ax (pkL t l) (pkL t m):=by
 unfold pkL;rw[<-e];exact .inr ⟨_,rfl,h⟩
theorem Rel.subS{D:Nat->Prop}{R:V->Value->Prop}:∀{v v':V}{cv:Value},Ax v v'->Rel D w R v cv noF->Rel D w R v' cv noF:=by
 intro v
 induction v with
 |many t n f E=>
  intro v' cv h e;rcases h with rfl|⟨g,rfl,h⟩
  .exact λ_ h=>h
  obtain⟨cs,F,B,J,e,hd,O⟩:=e;have W:=λk A=>A6 λb U=>(O b).2 ⟨k,A,U⟩
  exact⟨cs,λ_=>noF,B,J,λk A=>E k (h k A) (by grind),λ_ _ _ _ _ _ h=>h.elim,λb=>⟨λh=>h.elim,fun⟨_,_,h⟩=>h⟩⟩
 |_=>
  intro v' cv h e;rcases h with rfl|h
  .exact λ_ h=>h
  .exact Rel.sub h e
theorem At.sub'{w:World}:∀{p:AX}{v e:V}{cv:Value}{s:Bool}{sz n:Nat}{f:Nat->Nat->V}{c:Value},Sub v e->At w p v cv (.nd s true sz n f) c->∃A,At w p e cv (.nd s true sz n A) c
 |[],v,e,cv,s,sz,n,f,c,h,ha=>by
  obtain⟨rfl,rfl⟩:=ha;obtain⟨g,rfl,_⟩:=h;exact⟨g,rfl,rfl⟩
 |(i,k)::p,.nd s0 true sz0 n0 f0,e,cv,s,sz,n,f,c,h,ha=>by
  obtain⟨g,rfl,h⟩:=h;obtain⟨E,B,b,o,cap,x,O,J,F⟩:=ha;obtain⟨A,U⟩:=At.sub' (h i k E B) F;exact⟨A,E,B,b,o,cap,x,O,J,U⟩
 |_::_,.nd _ false _ _ _,_,_,_,_,_,_,_,_,ha=>ha.elim
 |_::_,.c _,_,_,_,_,_,_,_,_,ha=>ha.elim
 |_::_,.dead,_,_,_,_,_,_,_,_,ha=>ha.elim
 |_::_,.many ..,_,_,_,_,_,_,_,_,ha=>ha.elim
 |_::_,.rs ..,_,_,_,_,_,_,_,_,ha=>ha.elim
 |_::_,.rp ..,_,_,_,_,_,_,_,_,ha=>ha.elim
 |_::_,.rm ..,_,_,_,_,_,_,_,_,ha=>ha.elim
 |_::_,.mp ..,_,_,_,_,_,_,_,_,ha=>ha.elim
theorem At.subM{w:World}:∀{p:AX}{v e:V}{cv:Value}{l:List (Value×Value)}{c:Value},Sub v e->At w p v cv (.mp true l) c->At w p e cv (.mp true l) c
 |[],v,e,cv,l,c,h,ha=>by
  obtain⟨rfl,rfl⟩:=ha;cases h;exact⟨rfl,rfl⟩
 |(i,k)::p,.nd s0 true sz0 n0 f0,e,cv,l,c,h,ha=>by
  obtain⟨g,rfl,h⟩:=h;obtain⟨B,A,b,o,cap,x,J,F,E⟩:=ha;exact⟨B,A,b,o,cap,x,J,F,At.subM (h i k B A) E⟩
 |_::_,.nd _ false _ _ _,_,_,_,_,_,ha=>ha.elim
 |_::_,.c _,_,_,_,_,_,ha=>ha.elim
 |_::_,.dead,_,_,_,_,_,ha=>ha.elim
 |_::_,.many ..,_,_,_,_,_,ha=>ha.elim
 |_::_,.rs ..,_,_,_,_,_,ha=>ha.elim
 |_::_,.rp ..,_,_,_,_,_,ha=>ha.elim
 |_::_,.rm ..,_,_,_,_,_,ha=>ha.elim
 |_::_,.mp ..,_,_,_,_,_,ha=>ha.elim
theorem Ak.sub{σ σ':List V}{ρ:Nat->Value}(O:σ'.length=σ.length)(E:∀i,i<σ.length->Sub (σ.getD i .dead) (σ'.getD i .dead)):∀v cv,Ak σ ρ w v cv->Ak σ' ρ w v cv
 |.rs id p off len,cv,⟨e,sz,n,f,J,B,r⟩=>by
  obtain⟨F,A⟩:=At.sub' (E id e) B;exact⟨by grind,sz,n,F,J,A,r⟩
 |.rp id p i k,cv,⟨e,s,sz,n,f,b,o,cap,B,r⟩=>by
  obtain⟨F,A⟩:=At.sub' (E id e) B;exact⟨by omega,s,sz,n,F,b,o,cap,A,r⟩
 |.rm id p,cv,⟨e,l,b,B,r⟩=>⟨by omega,l,b,At.subM (E id e) B,r⟩
 |.mp ..,_,h=>h.elim
 |.c _,_,h=>h.elim
 |.dead,_,h=>h.elim
 |.many ..,_,h=>h.elim
 |.nd ..,_,h=>h.elim
theorem CR.sub{C:Ctx}{σ σ' ts ts':List V}{cts:Array Value}{w:World}{D:Nat->Prop}{ρ:Nat->Value}{F:Nat->Nat->Prop}(h:CR C σ ts cts w D ρ F)(B:σ'.length=σ.length)(A:∀i,i<σ.length->Sub (σ.getD i .dead) (σ'.getD i .dead))
  (e:ts'.length=ts.length) (J:∀i,i<ts.length->Ax (ts.getD i .dead) (ts'.getD i .dead)):CR C σ' ts' cts w D ρ F:=by
 refine⟨⟨λi hi=>Rel.sub (A i (by omega)) (h.wr.rel i (by omega)),h.wr.disj,h.wr.dD,h.wr.Dlt,λi b hi=>h.wr.out i b (by omega)⟩,by rw[h.sz,e],λt E=>?_,h.fr,h.Fn,h.D1,h.D2,h.rt,by rw[B];exact h.ml⟩
 exact Rel.subS (J t (by omega)) (Rel.mono (λ_ h=>h) (Ak.sub B A) _ _ _ (λ_ _=>rfl) (h.tm t (by omega)))
theorem AQ.sub{C:Ctx}{N:Nat}{S S':Ms}{a:Act}{w:World}(h:AQ C N S a w)(O:S'.σ.length=S.σ.length)(J:∀i,i<S.σ.length->Sub (S.σ.getD i .dead) (S'.σ.getD i .dead))(E:∀i,Ax (S.t i) (S'.t i)):AQ C N S' a w:=by
 obtain⟨hd,e,D,ρ,F,A⟩:=h;refine⟨hd,λx B=>?_,D,ρ,F,A.sub O J (by simp) λi hi=>?_⟩
 .have:=E x
  rw[e x B]at this;rcases this with h|h
  .exact h
  trivial
 grind
def Cl.frz:Cl->Cl
 |.c t _ x=>.c t 0 x
 |y=>y
def Sl.frz:Sl->Option Sl
 |.one y=>some (.one y.frz)
 |.new l=>match DD l with
  |some ⟨t,x⟩=>some (.one (.c (.ptr t) 0 x))
  |none=>none
 |.agg l=>some (.agg (l.map Cl.frz))
 |.pk t l=>some (.pk t (l.map Cl.frz))
 |.tup l=>some (.tup (l.map λp=>(p.1,p.2.map Cl.frz)))
theorem Cl.frz_v(y:Cl):Go.Ve.frz (y.v r)=y.frz.v r:=by
 cases y with
 |c t d x=>
  cases e:t.one with
  |true=>exact UA e d x
  |false=>cases t<;>first|rfl|trivial
 |_=>rfl
theorem UV(l:List Cl):Go.Ve.frz (Ai (l.map (Cl.v r)))=Ai ((l.map Cl.frz).map (Cl.v r)):=by
 rw[frz_mk,List.map_map,List.map_map]
 congr 1
 exact List.map_congr_left λy _=>Cl.frz_v y
theorem Sl.frz_v{r:List Ab}{y y':Sl}(h:y.frz=some y'):Go.Ve.frz (y.v r)=y'.v r:=by
 cases y with
 |one c=>cases h;exact Cl.frz_v c
 |new l=>
  unfold Sl.frz at h;simp only at h;split at h
  .rename_i t x e
   cases h;show Go.Ve.frz (Be true (l.map Cl.v0))=Be false (tyV t 0 x);rw[Nf,DX _ _ e]
  .cases h
 |agg l=>cases h;exact UV l
 |pk t l=>
  cases h;show Go.Ve.frz (pkL t (l.map (Cl.v r)))=pkL t ((l.map Cl.frz).map (Cl.v r));rw[frz_pk,List.map_map,List.map_map]
  congr 1
  exact List.map_congr_left λy _=>Cl.frz_v y
 |tup l=>
  cases h;show Go.Ve.frz (Dw _)=Dw _;rw[Ac2,List.map_map,List.map_map]
  congr 1
  refine List.map_congr_left λp _=>?_
  obtain⟨b,l⟩:=p;cases b with
  |true=>exact UV l
  |false=>
   show Go.Ve.frz ((l.map (Cl.v r)).getD 0 .dead)=((l.map Cl.frz).map (Cl.v r)).getD 0 .dead;rw[AE (a:=.dead) rfl,Cl.frz_v];simp only[gDE,List.getElem?_map];cases l[0]? <;>rfl
def Cl.chk(m:Nat):Cl->Cl
 |.rf id p=>bif Nat.blt id m then .rf id p else .dead
 |.rs id p off len=>bif Nat.blt id m then .rs id p off len else .dead
 |.rp id p i k=>bif Nat.blt id m then .rp id p i k else .dead
 |y=>y
def Sl.chk(m:Nat):Sl->Sl
 |.one y=>.one (y.chk m)
 |.new l=>.new l
 |.agg l=>.agg (l.map (Cl.chk m))
 |.pk t l=>.pk t (l.map (Cl.chk m))
 |.tup l=>.tup (l.map λp=>(p.1,p.2.map (Cl.chk m)))
def Cl.chk_v{r':List Ab}(A:∀id,id<r.length->r'.getD id .dead=r.getD id .dead)(y:Cl):Ax (y.v r) ((y.chk r.length).v r'):=by
 cases y with
 |rf id p=>
  show Ax _ ((bif Nat.blt id r.length then Cl.rf id p else .dead).v r');cases e:Nat.blt id r.length with
  |false=>exact Ax.dead _
  |true=>
   have e:=blE e;show Ax (V.rs id p 0 (Af r id p).len) (V.rs id p 0 (Af r' id p).len);unfold Af;rw[A id e];exact Ax.refl _
 |rs id p off len=>
  show Ax _ ((bif Nat.blt id r.length then Cl.rs id p off len else .dead).v r');cases e:Nat.blt id r.length with
  |false=>exact Ax.dead _
  |true=>exact Ax.refl _
 |rp id p off len=>
  show Ax _ ((bif Nat.blt id r.length then Cl.rp id p off len else .dead).v r');cases e:Nat.blt id r.length with
  |false=>exact Ax.dead _
  |true=>exact Ax.refl _
 |_=>exact Ax.refl _
theorem Bw{l:List Cl}{f g:Cl->V}(A:f .dead=.dead)(e:g .dead=.dead)(h:∀y,Ax (f y) (g y))(k:Nat):Ax ((l.map f).getD k .dead) ((l.map g).getD k .dead):=by grind
theorem Sl.chk_v{r r':List Ab}(A:∀id,id<r.length->r'.getD id .dead=r.getD id .dead)(y:Sl):Ax (y.v r) ((y.chk r.length).v r'):=by
 have agg:∀l:List Cl,Ax (Ai (l.map (Cl.v r))) (Ai ((l.map (Cl.chk r.length)).map (Cl.v r'))):=by
  intro l;refine Ax.mk (by simp) λk _=>?_
  rw[List.map_map];exact Bw rfl rfl (λy=>Cl.chk_v A y) k
 cases y with
 |one c=>exact Cl.chk_v A c
 |new l=>exact Ax.refl _
 |agg l=>exact agg l
 |pk t l=>
  refine Ax.pk (by simp) λk _=>?_
  rw[List.map_map];exact Bw rfl rfl (λy=>Cl.chk_v A y) k
 |tup l=>
  refine Ax.tup (by simp) λk B=>?_
  have B:k<l.length:=by simpa using B
  simp only[gDE,List.getElem?_map,gEE B,Option.map_some,Option.getD_some];generalize l[k]=p;obtain⟨b,m⟩:=p;cases b with
  |true=>exact agg m
  |false=>
   have:=Bw (l:=m) (f:=Cl.v r) rfl rfl (λy=>Cl.chk_v A y) 0
   have e:(m.map λy=>(y.chk r.length).v r')=(m.map (Cl.chk r.length)).map (Cl.v r'):=by rw[List.map_map];rfl
   grind
end Go.Ve

