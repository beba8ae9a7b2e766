/- The typed machine: structs that are built, new memory, slices of slices. -/
import Derived.Test.YtojjlnbnneemaaaTc
import Derived.Test.YtojjlnbnneemaaaVr
import Derived.Test.YtojjlnbnneemaaaXa
import Derived.Test.YtojjlnbnneemaaaVwa
set_option linter.all false
namespace Go.Ve
variable{ps:Array (Nat×Operand)}{y:Cl}{r:List Ac}{l:List Cl}{m:List V}{d:Nat}{lo:Option Operand}{P:Program}{s:St}{a:TR}{Θ:Tab}{t:TypeId}
def CG:List V->List V->Prop
 |[],[]=>True
 |a::l,b::m=>Sub a b/\CG l m
 |_,_=>False
def CG.len:∀{l m:List V},CG l m->l.length=m.length
 |[],[],_=>rfl
 |_::_,_::_,h=>by simp[CG.len h.2]
 |[],_::_,h=>h.elim
 |_::_,[],h=>h.elim
def CG.getD:∀{l m:List V} (_:CG l m) (k:Nat),Sub (l.getD k .dead) (m.getD k .dead)
 |[],[],_,_=>Sub.refl _
 |_::_,_::_,h,0=>h.1
 |_::_,_::_,h,k+1=>CG.getD h.2 k
 |[],_::_,h,_=>h.elim
 |_::_,[],h,_=>h.elim
def CG.refl:∀(l:List V),CG l l
 |[]=>trivial
 |v::l=>⟨Sub.refl v,CG.refl l⟩
def CG.app:∀{l m A e:List V},CG l m->CG A e->CG (l++A) (m++e)
 |[],[],_,_,_,h=>h
 |_::_,_::_,_,_,h,h'=>⟨h.1,CG.app h.2 h'⟩
 |[],_::_,_,_,h,_=>h.elim
 |_::_,[],_,_,h,_=>h.elim
theorem CG.mk{l:List V}(h:CG l m):Sub (Aj l) (Aj m):=by
 unfold Aj;rw[h.len];exact⟨_,rfl,λk _=>h.getD k⟩
theorem CG.obj{o:Bool}{l:List V}(h:CG l m):Sub (Bi o l) (Bi o m):=by
 unfold Bi;rw[h.len];refine⟨_,rfl,λi k e _=>?_⟩
 obtain rfl:i=0:=by omega
 exact h.getD k
theorem Eqv.symm:∀{v v':V},Eqv v v'->Eqv v' v:=by
 intro v
 induction v with
 |c v=>intro v' h;cases h;rfl
 |dead=>intro v' h;cases h;rfl
 |many t n f e=>intro v' h;obtain⟨g,rfl,h⟩:=h;exact⟨f,rfl,λk A=>e k (h k A)⟩
 |nd s own sz n f e=>intro v' h;obtain⟨g,rfl,h⟩:=h;exact⟨f,rfl,λi k B A=>e i k (h i k B A)⟩
 |rs id p off len=>intro v' h;cases h;rfl
 |rp id p i k=>intro v' h;cases h;rfl
 |rm id p=>intro v' h;cases h;rfl
 |mp own l=>intro v' h;cases h;rfl
def O8(a b:Nat):Nat:=bif Nat.ble a b then a else b
theorem IK(a b:Nat):O8 a b=min a b:=by
 unfold O8;cases h:Nat.ble a b with
 |true=>simp_all
 |false=>
  have:¬a<=b:=λe=>by rw[Nat.ble_eq_true_of_le e]at h;grind
  grind
def dOK(t:Ty)(d e:Nat):Bool:=Nat.beq t.dep 0||Nat.beq d e
theorem MZ{t:Ty}{e:Nat}(h:dOK t d e=true):min d t.dep=min e t.dep:=by
 unfold dOK at h;rw[Bool.or_eq_true]at h;rcases h with h|h
 .simp_all
 simp_all
def fit(e:Nat):Cl->Cl
 |.c t d x=>bif Nat.beq (O8 d t.dep) (O8 e t.dep)then .c t e x else .c t d x
 |y=>y
def DZ(t:Ty)(d:Nat):Cl->Option t.T
 |.c e A x=>if h:e=t then(bif dOK t A d then some (h▸x)else none)else none
 |.nil=>match t with
  |.sl _=>some []
  |_=>none
 |_=>none
def KP(t:Ty)(d:Nat):List Cl->Option (t.T×List Cl)
 |c::l=>match DZ t d c with
  |some x=>some (x,l)
  |none=>none
 |[]=>none
def Acv:(t:Ty)->Nat->List Cl->Option (t.T×List Cl)
 |.unit,_,l=>some ((),l)
 |.pair a b,d,l=>match Acv a d l with
  |some (x,l)=>match Acv b d l with
   |some (y,l)=>some ((x,y),l)
   |none=>none
  |none=>none
 |.int k,d,l=>KP (.int k) d l
 |.bool,d,l=>KP .bool d l
 |.str,d,l=>KP .str d l
 |.sl t,d,l=>KP (.sl t) d l
 |.ptr t,d,l=>KP (.ptr t) d l
 |.clo g t,d,l=>KP (.clo g t) d l
 |.osl t,d,l=>KP (.osl t) d l
 |.mp k v,d,l=>KP (.mp k v) d l
def IG(t:Ty)(d:Nat)(l:List Cl):Option t.T:=match Acv t d l with
 |some (x,[])=>some x
 |_=>none
theorem J1{t:Ty}{c:Cl}{x:t.T}(h:DZ t d c=some x)(r:List Ac):Sub (c.v r) (cV t d x)/\c.v r=c.v0:=by
 unfold DZ at h;split at h
 .rename_i e B E
  split at h
  case isFalse=>grind
  rename_i A;subst A;cases hd:dOK e B d with
  |false=>grind
  |true=>
   rw[hd]at h;cases h;exact⟨Sub.of_eq (LS (MZ hd)),rfl⟩
 .split at h
  .cases h
   exact⟨.inr ⟨rfl,_,_,_,rfl⟩,rfl⟩
  grind
 grind
theorem DX{t:Ty}(B:t.one=true){e:List Cl}{x:t.T}(h:KP t d l=some (x,e))(r:List Ac):∃m,l=m++e/\CG (m.map (Cl.v r)) (tyV t d x)/\m.map (Cl.v r)=m.map Cl.v0:=by
 unfold KP at h;split at h
 .rename_i c E
  split at h
  .rename_i y A
   cases h;obtain⟨J,F⟩:=J1 A r;exact⟨[c],rfl,by rw[BO B];trivial,by grind⟩
  grind
 grind
theorem QG(r:List Ac):∀(t:Ty) (d:Nat) (l e:List Cl) (x:t.T),Acv t d l=some (x,e)->∃m,l=m++e/\CG (m.map (Cl.v r)) (tyV t d x)/\m.map (Cl.v r)=m.map Cl.v0
 |.unit,d,l,e,x,h=>by cases h;exact⟨[],rfl,trivial,rfl⟩
 |.int k,d,l,e,x,h=>DX rfl h r
 |.bool,d,l,e,x,h=>DX rfl h r
 |.str,d,l,e,x,h=>DX rfl h r
 |.sl t,d,l,e,x,h=>DX rfl h r
 |.ptr t,d,l,e,x,h=>DX rfl h r
 |.clo g t,d,l,e,x,h=>DX rfl h r
 |.osl t,d,l,e,x,h=>DX rfl h r
 |.mp k v,d,l,e,x,h=>DX rfl h r
 |.pair a b,d,l,e,x,h=>by
  unfold Acv at h;split at h
  .rename_i y A L
   split at h
   .rename_i z U J
    cases h;obtain⟨F,O,s1,t1⟩:=QG r a d l A y L;obtain⟨E,M,B,t2⟩:=QG r b d A e z J;subst M;subst O;exact⟨F++E,by simp,by rw[List.map_append];exact s1.app B,by grind⟩
   grind
  grind
theorem Dj{t:Ty}{x:t.T}(h:IG t d l=some x)(r:List Ac):CG (l.map (Cl.v r)) (tyV t d x)/\l.map (Cl.v r)=l.map Cl.v0:=by
 unfold IG at h;split at h
 .rename_i y A
  cases h;obtain⟨m,e,E,B⟩:=QG r t d l [] x A
  grind
 grind
def JA(r:List Ac):∀t:Ty,(Io t).map (Cl.v r)=(B1 t).map .c
 |.int _=>rfl
 |.bool=>rfl
 |.str=>rfl
 |.sl _=>rfl
 |.ptr _=>rfl
 |.unit=>rfl
 |.clo _ _=>rfl
 |.osl _=>rfl
 |.mp _ _=>rfl
 |.pair a b=>by simp[Io,B1,JA r a,JA r b]
def Pb:∀t:Ty,CG ((B1 t).map .c) ((VK t).map Cl.v0)
 |.int _=>⟨Sub.refl _,trivial⟩
 |.bool=>⟨Sub.refl _,trivial⟩
 |.str=>⟨Sub.refl _,trivial⟩
 |.sl _=>⟨.inr ⟨rfl,_,_,_,rfl⟩,trivial⟩
 |.ptr _=>⟨Sub.refl _,trivial⟩
 |.clo _ _=>⟨Sub.refl _,trivial⟩
 |.osl _=>⟨.inr ⟨rfl,_,_,_,rfl⟩,trivial⟩
 |.mp _ _=>⟨Sub.refl _,trivial⟩
 |.unit=>trivial
 |.pair a b=>by simp[B1,VK,List.map_append];exact(Pb a).app (Pb b)
def Ty.noPtr:Ty->Bool
 |.ptr _=>false
 |.clo _ _=>false
 |.osl _=>false
 |.mp _ _=>false
 |.pair a b=>a.noPtr&&b.noPtr
 |_=>true
def O9(d:Nat):∀t:Ty,t.noPtr=true->CG ((B1 t).map .c) (tyV t d t.dflt)
 |.int _,_=>⟨Sub.refl _,trivial⟩
 |.bool,_=>⟨Sub.refl _,trivial⟩
 |.str,_=>⟨Sub.refl _,trivial⟩
 |.sl _,_=>⟨.inr ⟨rfl,_,_,_,rfl⟩,trivial⟩
 |.unit,_=>trivial
 |.pair a b,h=>by
  simp[Ty.noPtr,bAE]at h;simp[B1,tyV];exact(O9 d a h.1).app (O9 d b h.2)
def HC:∀t:Ty,(B1 t).length=t.w
 |.int _=>rfl
 |.bool=>rfl
 |.str=>rfl
 |.sl _=>rfl
 |.ptr _=>rfl
 |.unit=>rfl
 |.clo _ _=>rfl
 |.osl _=>rfl
 |.mp _ _=>rfl
 |.pair a b=>by simp[B1,Ty.w,HC a,HC b]
def Cl.plain:Cl->Bool
 |.dead=>false
 |.c .unit _ _=>false
 |.c (.pair _ _) _ _=>false
 |.c (.clo _ _) _ _=>false
 |.c (.osl _) _ _=>false
 |.c (.mp _ _) _ _=>false
 |y=>!y.own
def Sl.cells:Sl->Option (List Cl)
 |.one y=>bif y.plain then some [y]else none
 |.agg l=>bif l.all Cl.plain then some l else none
 |_=>none
theorem WT(h:y.plain=true):one1 (y.v r)=true/\AS (y.v r)=false/\Bw (y.v r)=true/\Go.Ve.cellsV (y.v r)=[y.v r]:=by
 cases y with
 |c t d x=>cases t<;>cases d<;>first|trivial|rfl
 |dead=>cases h
 |_=>trivial
theorem C3{y:Sl}(h:y.cells=some l):Bw (y.v r)=true/\Go.Ve.cellsV (y.v r)=l.map (Cl.v r)/\l.all Cl.plain=true:=by
 unfold Sl.cells at h;split at h
 .rename_i c
  cases e:c.plain with
  |false=>grind
  |true=>
   rw[e]at h;cases h;obtain⟨_,_,F,E⟩:=WT e;exact⟨F,E,by grind⟩
 .rename_i A
  cases e:A.all Cl.plain with
  |false=>grind
  |true=>
   rw[e]at h;cases h;refine⟨?_,OZ,e⟩;show Bw (Aj _)=true;rw[WU,List.all_map,aET];intro y B;exact(WT (aET.1 e y B)).1
 grind
def Sl.cellsF:Sl->Option (List Cl)
 |.one (.c (.clo g t) d x)=>some [.c (.clo g t) d x]
 |y=>y.cells
theorem O1{y:Sl}(h:y.cellsF=some l):Bw (y.v r)=true/\Go.Ve.cellsV (y.v r)=l.map (Cl.v r):=by
 unfold Sl.cellsF at h;split at h
 .rename_i g t d x
  cases h;refine⟨?_,rfl⟩;show(!AS (cV (.clo g t) d x))=true;have e:AS (cV (.clo g t) d x)=false:=HE (.clo g t) x _ (List.mem_singleton.2 rfl)
  grind
 .obtain⟨B,A,_⟩:=C3 (r:=r) h
  grind
def Acr(cells:List Cl):Nat->List Cl->List Cl
 |_,[]=>cells
 |off,y::l=>Acr (cells.set off y) (off+1) l
theorem Aa9:∀(l cells:List V) (off k:Nat),((l.zipIdx k).foldl (λcs (c,j)=>cs.set (off+j) c) cells)=Yz cells (off+k) l:=by
 have A:∀(l cells:List V) (off k:Nat),((l.zipIdx k).foldl (λcs (c,j)=>cs.set (off+j) c) cells)=((l.zipIdx 0).foldl (λcs (c,j)=>cs.set (off+k+j) c) cells):=by
  intro l
  induction l with
  |nil=>simp
  |cons v l e=>
   intro cells off k;simp[Nat.add_zero];rw[e _ off (k+1),e _ (off+k) (0+1)];rfl
 trivial
def Wp{v:V}{l cells:List V}{off:Nat}:Yz cells off (v::l)=Yz (cells.set off v) (off+1) l:=by
 show((v::l).zipIdx 0).foldl _ cells=_;exact Aa9 l _ off (0+1)
def Wr{r:List Ac}:∀(l cells:List Cl) (off:Nat),(Acr cells off l).map (Cl.v r)=Yz (cells.map (Cl.v r)) off (l.map (Cl.v r))
 |[],cells,off=>rfl
 |y::l,cells,off=>by
  rw[List.map_cons,Wp];show(Acr (cells.set off y) (off+1) l).map (Cl.v r)=_;rw[Wr l,List.map_set]
def UD(place:Nat->Option (Nat×Nat))(cells:List Cl):List (Nat×Option Sl)->Option (List Cl)
 |[]=>some cells
 |(i,y)::rest=>match place i,y with
  |some (off,size),some y=>match y.cellsF with
   |some l=>bif Nat.beq l.length size&&Nat.ble (off+size) cells.length then UD place (Acr cells off l) rest else none
   |none=>none
  |_,_=>none
theorem Me{s:St}{place:Nat->Option (Nat×Nat)}:∀(ps:List (Nat×Operand)) (cells l:List Cl),UD place cells (ps.map λp=>(p.1,s.ev p.2))=some l->
  (ps.map λp=>(p.1,s.den.ev p.2)).all (λp=>Bw p.2)=true/\Cd place (cells.map (Cl.v s.r)) (ps.map λp=>(p.1,s.den.ev p.2))=some (l.map (Cl.v s.r))
 |[],cells,l,h=>by cases h;exact⟨rfl,rfl⟩
 |(i,x)::ps,cells,l,h=>by
  rw[List.map_cons]at h;unfold UD at h;split at h
  case h_2=>cases h
  rename_i off size y e B;split at h
  case h_2=>cases h
  rename_i m E;obtain⟨A,h⟩:=A7 h;simp only[bAE]at A;have J:=bqE A.1;have F:=blE A.2;obtain⟨g1,g2⟩:=O1 (r:=s.r) E;obtain⟨k1,k2⟩:=Me ps _ _ h;rw[List.map_cons,List.all_cons];refine⟨by simp only[Bh B,g1,Bool.true_and];exact k1,?_⟩
  unfold Cd;simp only[e,Bh B,g2];rw[if_neg (by grind),<-Wr]
  exact k2
def Wk:Option TI->List (Nat×Option Sl)->Option TR
 |some i,ps=>bif i.agg then(match UD (λk=>i.places[k]?) (Io i.ty) ps with
   |some l=>some (.ok (.agg l))
   |none=>none)
  else none
 |none,_=>none
theorem NF(e:Θ.OK P)(h:Wk (Θ.look t) (ps.toList.map λp=>(p.1,s.ev p.2))=some a):QS P s (.build t ps) a.y:=by
 unfold Wk at h;split at h
 case h_2=>grind
 rename_i i F;cases A:i.agg with
 |false=>grind
 |true=>
  rw[A]at h;split at h
  case h_2=>grind
  rename_i l E;cases h;obtain⟨J,B⟩:=Me _ _ _ E;show Lj (Aax P t) (ps.toList.map λp=>(p.1,s.den.ev p.2)) (SK s _)
  rw[e.bd F,A];unfold Lj;rw[JA]at B;simp only[if_true];rw[B];exact⟨J,Sub.refl _⟩
def Om(t:Ty)(d:Nat):Nat->List Cl->Option (List t.T)
 |0,[]=>some []
 |0,_::_=>none
 |n+1,l=>match Acv t d l with
  |some (x,l)=>match Om t d n l with
   |some xs=>some (x::xs)
   |none=>none
  |none=>none
theorem PE{t:Ty}(r:List Ac):∀(n:Nat) (l:List Cl) (xs:List t.T),Om t d n l=some xs->xs.length=n/\l.map (Cl.v r)=l.map Cl.v0/\
  ∀i k,i<n->k<t.w->Sub ((l.map (Cl.v r)).getD (i*t.w+k) .dead) ((tyV t d (xs.getD i t.dflt)).getD k .dead):=by
 intro n
 induction n with
 |zero=>
  intro l xs h;cases l with
  |nil=>cases h;exact⟨rfl,rfl,λi k L=>by omega⟩
  |cons y l=>cases h
 |succ n F=>
  intro l xs h;unfold Om at h;split at h
  case h_2=>cases h
  rename_i x A O;split at h
  case h_2=>cases h
  rename_i ys M;cases h;obtain⟨m,e,s1,E⟩:=QG r t d l A x O;obtain⟨g1,g2,U⟩:=F A ys M;subst e;have B:(m.map (Cl.v r)).length=t.w:=by rw[s1.len,AB]
  refine⟨by simp[g1],by simp[E,g2],λi k L J=>?_⟩
  rw[List.map_append];cases i with
  |zero=>
   simp only[Nat.zero_mul,Nat.zero_add,List.getD_cons_zero];have:=s1.getD k;rw[gDE,gAL (by omega),<-gDE]
   exact this
  |succ i=>
   have:=U i k (by omega) J
   rw[List.getD_cons_succ];have e:(i+1)*t.w+k-(m.map (Cl.v r)).length=i*t.w+k:=by rw[B,Nat.add_mul];omega
   rw[gDE,gAR (by rw[B,Nat.add_mul];omega),e,<-gDE]
   exact this
def Abi(n:Nat)(l:List Cl):List Cl:=match n with
 |0=>[]
 |n+1=>l++Abi n l
def Xw:∀(n w:Nat) (l:List V),l.length=w->0<w->∀j,j<n*w->((List.replicate n l).flatten).getD j .dead=l.getD (j % w) .dead:=by
 intro n w l A B
 induction n with
 |zero=>simp
 |succ n e=>
  intro j E;rw[List.replicate_succ,List.flatten_cons];by_cases h:j<w
  .rw[gDE,gAL (by omega),<-gDE,Nat.mod_eq_of_lt h]
  .have:=Nat.add_one_mul n w
   rw[gDE,gAR (by omega),<-gDE,A,e (j-w) (by omega),<-Nat.mod_eq_sub_mod (by omega)]
theorem Wx(r:List Ac)(t:Ty)(n:Nat)(A:0<t.w):(Abi n (Io t)).map (Cl.v r)=(List.range (n*t.w)).map λj=>.c ((B1 t).getD (j % t.w) undef):=by
 have e:(Abi n (Io t)).map (Cl.v r)=(List.replicate n ((B1 t).map V.c)).flatten:=by
  induction n with
  |zero=>rfl
  |succ n B=>
   show((Io t)++Abi n (Io t)).map (Cl.v r)=_;rw[List.map_append,B,JA,List.replicate_succ,List.flatten_cons]
 have F:((B1 t).map V.c).length=t.w:=by rw[List.length_map,HC]
 rw[e];apply List.ext_getElem
 .simp_all
 .intro j M L
  have J:=by simpa using L
  have g:=Xw n t.w _ F A j J;rw[gDE,gEE M]at g;simp at g;rw[g];have E:j % t.w<(B1 t).length:=by rw[HC];exact Nat.mod_lt _ A
  simp[E]
def Ty.noO:Ty->Bool
 |.osl _=>false
 |.mp _ _=>false
 |.clo _ t=>t.noO
 |.pair a b=>a.noO&&b.noO
 |_=>true
theorem Ju:∀(t:Ty) (x:t.T),t.noO=true->∀v∈tyV t 0 x,Cc v=true
 |.int _,_,_,v,h=>by simp[tyV]at h;subst h;rfl
 |.bool,_,_,v,h=>by simp[tyV]at h;subst h;rfl
 |.str,_,_,v,h=>by simp[tyV]at h;subst h;rfl
 |.sl _,_,_,v,h=>by simp only[tyV,List.mem_singleton]at h;subst h;rfl
 |.ptr _,_,_,v,h=>by simp only[tyV,List.mem_singleton]at h;subst h;rfl
 |.unit,_,_,v,h=>by trivial
 |.pair a b,x,ho,v,h=>by
  simp only[Ty.noO,bAE]at ho;simp only[tyV,List.mem_append]at h;exact h.elim (Ju a x.1 ho.1 v) (Ju b x.2 ho.2 v)
 |.osl _,_,ho,_,_=>by cases ho
 |.mp _ _,_,ho,_,_=>by cases ho
 |.clo g t,x,ho,v,h=>by
  simp only[tyV,List.mem_singleton]at h;subst h;show((List.range t.w).all λk=>Cc ((tyV t 0 x).getD k .dead))=true
  rw[aET];intro k e;have e:k<(tyV t 0 x).length:=by rw[AB];grind
  rw[gDE,gEE e];exact Ju t x ho _ (List.getElem_mem e)
def Cl.imm:Cl->Bool
 |.c .unit _ _=>false
 |.c (.pair _ _) _ _=>false
 |.c (.clo _ _) _ _=>false
 |.c (.osl _) _ _=>false
 |.c (.mp _ _) _ _=>false
 |.c t d x=>!(Cl.c t d x).own
 |.nil=>true
 |.nilp=>true
 |.nilf=>true
 |.nilm=>true
 |_=>false
theorem PW(h:y.imm=true):Cc (y.v r)=true/\y.v r=y.v0:=by
 cases y with
 |c t d x=>cases t<;>cases d<;>first|trivial|rfl
 |nil=>trivial
 |nilp=>trivial
 |nilf=>trivial
 |nilm=>trivial
 |_=>cases h
def Cl.immF:Cl->Bool
 |.c (.clo _ t) _ _=>t.noO
 |y=>y.imm
theorem immF_v(h:y.immF=true):Cc (y.v r)=true:=by
 unfold Cl.immF at h;split at h
 .rename_i g t d x
  exact Ju (.clo g t) x h _ (List.mem_singleton.2 rfl)
 .exact(PW h).1
theorem AbW(h:l.all Cl.immF=true):(l.map (Cl.v r)).all Cc=true:=by
 rw[List.all_map,aET];intro y e;exact immF_v (aET.1 h y e)
theorem imms_v(h:l.all Cl.imm=true):(l.map (Cl.v r)).all Cc=true/\l.map (Cl.v r)=l.map Cl.v0:=by
 refine⟨?_,List.map_congr_left λy e=>(PW (aET.1 h y e)).2⟩
 rw[List.all_map,aET];intro y e;exact(PW (aET.1 h y e)).1
def Hr(n:Nat)(ps:List (Nat×Option Sl)):Option TI->Option TR
 |some j=>bif Nat.blt 0 j.ty.w&&Nat.ble (n*j.ty.w) 16777216 then(bif Nat.beq n 0 then(match ps with
  |[]=>some (.ok (.one (.c (.sl j.ty) (j.sd+1) [])))
  |_::_=>none)else match UD (λi=>some (i*j.ty.w,j.ty.w)) (Abi n (Io j.ty)) ps with
   |some l=>bif l.all Cl.immF then(match Om j.ty j.sd n l with
    |some xs=>some (.ok (.one (.c (.sl j.ty) (j.sd+1) xs)))
    |none=>match Om j.ty 0 n l with
     |some xs=>some (.ok (.one (.c (.sl j.ty) 1 xs)))
     |none=>none)else none
   |none=>none)
  else none
 |none=>none
theorem It(M:Θ.OK P){n:Nat}(h:Hr n (ps.toList.map λp=>(p.1,s.ev p.2)) (((Θ.look t).bind (·.elem)).bind Θ.look)=some a):QS P s (.buildSlice t n ps) a.y:=by
 unfold Hr at h;split at h
 case h_2=>cases h
 rename_i j hj;obtain⟨e,B,_⟩:=Dq M hj;cases F:(Nat.blt 0 j.ty.w&&Nat.ble (n*j.ty.w) 16777216)with
 |false=>rw[F]at h;cases h
 |true=>
  rw[F]at h;simp only[bAE]at F;have O:=LT F.1;have hn:=blE F.2;simp only[cond_true]at h;cases J:Nat.beq n 0 with
  |true=>
   rw[J]at h;simp only[cond_true]at h;have J:=bqE J;subst J;split at h
   case h_2=>cases h
   rename_i U;cases h;have E:ps.toList=[]:=by simpa using U
   show B8 (slI P t) (Abc P t) 0 (ps.toList.map λp=>(p.1,s.den.ev p.2)) (SK s _)
   rw[B,E];refine⟨rfl,⟨O,hn⟩,?_⟩;simp only[Nat.zero_mul,List.range_zero,List.map_nil,Cd];refine⟨rfl,?_⟩;refine(Eqv.sub (Eqv.symm (Mk (Abc P t) j.ty.w 0 _))).trans ?_;show Sub _ (arr true j.ty.w (tyV j.ty j.sd) j.ty.dflt []);exact⟨_,rfl,λi k L W=>by omega⟩
  |false=>
  rw[J]at h;simp only[cond_false]at h;split at h
  case h_2=>cases h
  rename_i l Z;obtain⟨L,h⟩:=A7 h
  have key:∀(d:Nat) (xs:List j.ty.T),Om j.ty d n l=some xs->a=.ok (.one (.c (.sl j.ty) (d+1) xs))->QS P s (.buildSlice t n ps) a.y:=by
   intro d xs A ha;subst ha;obtain⟨h1,Y⟩:=Me _ _ _ Z;rw[Wx s.r j.ty n O]at Y;show B8 (slI P t) (Abc P t) n (ps.toList.map λp=>(p.1,s.den.ev p.2)) (SK s _)
   rw[B];refine⟨h1,⟨O,hn⟩,?_⟩;rw[Y];refine⟨AbW L,?_⟩;obtain⟨g1,g2,g3⟩:=PE s.r n l xs A;refine(Eqv.sub (Eqv.symm (Mk (Abc P t) j.ty.w n _))).trans ?_;show Sub _ (arr true j.ty.w (tyV j.ty d) j.ty.dflt xs);unfold arr;rw[g1];exact⟨_,rfl,λi k L W=>g3 i k L W⟩
  split at h
  .rename_i xs A
   cases h;exact key _ xs A rfl
  .split at h
   case h_2=>cases h
   rename_i xs A;cases h;exact key 0 xs A rfl
def Wm:Option TI->Option TR
 |some i=>bif Nat.blt 0 i.ty.w then some (.ok (.new (VK i.ty)))else none
 |none=>none
theorem NH(e:Θ.OK P)(h:Wm (Θ.look t)=some a):QS P s (.alloc t) a.y:=by
 unfold Wm at h;split at h
 case h_2=>grind
 rename_i i B;cases A:Nat.blt 0 i.ty.w with
 |false=>grind
 |true=>
  rw[A]at h;cases h;show Od (tyI P t) (SK s _);rw[e.ty B];exact⟨LT A,(Pb i.ty).obj⟩
def tBox:Option Sl->Option TR
 |some y=>match y.cells with
  |some l=>bif l.all Cl.imm then some (.ok (.new l))else some (.ok (.pk .bx l))
  |none=>none
 |none=>none
theorem UE{x:Operand}(h:tBox (s.ev x)=some a):QS P s (.box t x) a.y:=by
 unfold tBox at h;split at h
 case h_2=>grind
 rename_i y E;split at h
 case h_2=>grind
 rename_i l F;cases e:l.all Cl.imm with
 |false=>
  rw[e]at h;cases h;obtain⟨B,A,_⟩:=C3 F;show qBox (s.den.ev x) (SK s _);rw[Bh E];refine⟨B,.inr ?_⟩;rw[A];exact Sub.refl _
 |true=>
  rw[e]at h;cases h;obtain⟨B,A,_⟩:=C3 F;obtain⟨g1,g2⟩:=imms_v (r:=s.r) e;show qBox (s.den.ev x) (SK s _);rw[Bh E];refine⟨B,.inl ⟨by grind,?_⟩⟩
  rw[A,g2];exact Sub.refl _
def Aa0:Option TI->Option Sl->Option Sl->Option TR
 |some j,some (.one (.c (.int _) _ l)),some (.one (.c (.int _) _ c))=>
  bif Nat.blt 0 j.ty.w&&j.ty.noPtr then some (.cnd (0<=l/\l<=c/\(j.bytes:Int)*c<=281474976710656/\c<=9223372036854775807) inferInstance (.one (.c (.sl j.ty) (j.sd+1) (ZT (KQ l) j.ty.dflt))))else none
 |_,_,_=>none
theorem U6(e:Bool){t:Ty}(d n:Nat)(h:t.noPtr=true):Sub (W5 e t.w n (B1 t)) (cV (.sl t) (d+1) (List.replicate n t.dflt)):=by
 have A:Sub (arr true t.w (λx=>x) [] (List.replicate n ((B1 t).map .c))) (cV (.sl t) (d+1) (List.replicate n t.dflt)):=by
  have F:cV (.sl t) (d+1) (List.replicate n t.dflt)=arr true t.w (tyV t d) t.dflt (List.replicate n t.dflt):=by rfl
  rw[F];unfold arr;rw[List.length_replicate,List.length_replicate];refine⟨_,rfl,λi k J _=>?_⟩
  have E:(List.replicate n ((B1 t).map V.c)).getD i []=(B1 t).map .c:=by grind
  have B:(List.replicate n t.dflt).getD i t.dflt=t.dflt:=by grind
  show Sub (((List.replicate n ((B1 t).map V.c)).getD i []).getD k .dead) ((tyV t d ((List.replicate n t.dflt).getD i t.dflt)).getD k .dead);rw[E,B];exact(O9 d t h).getD k
 trivial
theorem Pn(B:Θ.OK P){l c:Operand}(h:Aa0 (((Θ.look t).bind (·.elem)).bind Θ.look) (s.ev l) (s.ev c)=some a)(F:a.p):QS P s (.makeSlice t l c) a.y:=by
 unfold Aa0 at h;split at h
 case h_2=>grind
 rename_i j _ _ O _ _ U L J M;obtain⟨e,E,_⟩:=Dq B L;cases A:(Nat.blt 0 j.ty.w&&j.ty.noPtr)with
 |false=>grind
 |true=>
  rw[A]at h;simp only[bAE]at A;cases h;show WM (slI P t) (Abc P t) (s.den.ev l) (s.den.ev c) (SK s _);rw[E,Bh J,Bh M];exact⟨LT A.1,F,U6 _ _ _ A.2⟩
def La:Option (Option Sl)->Option (Option Int)
 |none=>some none
 |some (some (.one (.c (.int _) _ n)))=>some (some n)
 |_=>none
def V7(s:St):Option TI->Option TI->Option Sl->Option (Option Int)->Option (Option Int)->Option TR
 |some i,_,some (.one (.c .str _ b)),some lo,some hi=>
  bif i.str then some (.cnd (0<=lo.getD 0/\lo.getD 0<=hi.getD (ofN (NJ b))/\hi.getD (ofN (NJ b))<=ofN (NJ b)) inferInstance (.one (.c .str 0 (cutS b (KQ (lo.getD 0)) (KQ (hi.getD (ofN (NJ b))))))))else none
 |some i,some j,some (.one (.c (.sl t) 0 xs)),some lo,some hi=>
  bif Nat.beq t.w j.ty.w&& !i.str then some (.cnd (0<=lo.getD 0/\lo.getD 0<=hi.getD (ofN (H4 xs))/\hi.getD (ofN (H4 xs))<=ofN (H4 xs)) inferInstance
   (.one (.c (.sl t) 0 (match lo,hi with
    |none,none=>xs
    |some l,none=>P4 (KQ l) xs
    |none,some h=>Pg (KQ h) xs
    |some l,some h=>Pg (KQ h-KQ l) (P4 (KQ l) xs)))))else none
 |some i,some j,some (.one (.rf id p)),some lo,some hi=>
  match Ae s.r id p with
  |.arr _ t _ xs=>bif Nat.beq t.w j.ty.w&& !i.str then some (.cnd (0<=lo.getD 0/\lo.getD 0<=hi.getD (ofN (H4 xs))/\hi.getD (ofN (H4 xs))<=ofN (H4 xs)) inferInstance
    (.one (.rs id p (KQ (lo.getD 0)) (KQ (hi.getD (ofN (H4 xs)))-KQ (lo.getD 0)))))else none
  |_=>none
 |some i,some j,some (.one (.rs id p off len)),some lo,some hi=>
  match Ae s.r id p with
  |.arr _ t _ _=>bif Nat.beq t.w j.ty.w&& !i.str then some (.cnd (0<=lo.getD 0/\lo.getD 0<=hi.getD (ofN len)/\hi.getD (ofN len)<=ofN len) inferInstance
    (.one (.rs id p (off+KQ (lo.getD 0)) (KQ (hi.getD (ofN len))-KQ (lo.getD 0)))))else none
  |_=>none
 |_,_,_,_,_=>none
theorem C7{l:Option Int}(h:La (lo.map s.ev)=some l)(d:Int):bnd d (lo.map s.den.ev)=some (l.getD d):=by
 cases lo with
 |none=>cases h;rfl
 |some x=>
  simp at h⊢;unfold La at h;split at h
  .grind
  .rename_i e
   cases h;simp at e;rw[Bh e];rfl
  grind
theorem Ny{s:St}(Y:Θ.OK P){t:TypeId}{x:Operand}{lo e:Option Operand}{a:TR}
  (h:V7 s (Θ.look t) (((Θ.look t).bind (·.elem)).bind Θ.look) (s.ev x) (La (lo.map s.ev)) (La (e.map s.ev))=some a) (Z:a.p):QS P s (.slice t x lo e none) a.y:=by
 unfold V7 at h;have F:∀y,Lh (slK P t) (s.r.map Ac.v) (s.den.ev x) (lo.map s.den.ev) (e.map s.den.ev) (SK s y)->QS P s (.slice t x lo e none) y:=λy h=>⟨rfl,h⟩
 have M:∀{i j:TI},Θ.look t=some i->((Θ.look t).bind (·.elem)).bind Θ.look=some j->i.str=false->slK P t=.slice j.ty.w:=by
  intro i j e L hs;rw[Y.sk e,hs];rw[e]at L;simp only[Option.bind_some]at L;rw[L];rfl
 split at h
 case h_5=>cases h
 .rename_i i _ b l u W O B E
  obtain⟨U,h⟩:=A7 h;cases h;refine F _ ?_;rw[Y.sk W,U,Bh O];unfold Lh
  show(match bnd 0 (lo.map s.den.ev),bnd b.size (e.map s.den.ev)with
   |some l,some h=>_
   |_,_=>False)
  rw[C7 B,C7 E];exact⟨Z,Sub.refl _⟩
 .rename_i i j A xs l u W L O B E
  obtain⟨U,h⟩:=A7 h;cases h;obtain⟨h1,J⟩:=IX U;have J:i.str=false:=by simpa using J
  refine F _ ?_;rw[M W L J,Bh O]
  show(match bnd 0 (lo.map s.den.ev),bnd xs.length (e.map s.den.ev)with
   |some l,some h=>_
   |_,_=>False)
  rw[C7 B,C7 E];refine⟨h1,Z,?_⟩;obtain⟨p1,p2,p3⟩:0<=l.getD 0/\l.getD 0<=u.getD xs.length/\u.getD xs.length<=xs.length:=Z;show Sub (V.nd true false A.w ((u.getD xs.length).toNat-(l.getD 0).toNat) λi k=>(tyV A 0 (xs.getD (i+(l.getD 0).toNat) A.dflt)).getD k .dead) (arr false A.w (tyV A 0) A.dflt _)
  have key:∀ys:List A.T,ys.length=(u.getD xs.length).toNat-(l.getD 0).toNat->(∀i,i<ys.length->ys.getD i A.dflt=xs.getD (i+(l.getD 0).toNat) A.dflt)->
    Sub (V.nd true false A.w ((u.getD xs.length).toNat-(l.getD 0).toNat) λi k=>(tyV A 0 (xs.getD (i+(l.getD 0).toNat) A.dflt)).getD k .dead) (arr false A.w (tyV A 0) A.dflt ys):=by
   intro ys hl hg;unfold arr;rw[hl];refine⟨_,rfl,λi k e _=>?_⟩
   rw[hg i (by omega)]
   exact Sub.refl _
  cases l with
  |none=>cases u with
   |none=>exact key xs (by simp) λi e=>by simp
   |some u=>
    simp only[Option.getD_none,Option.getD_some]at p1 p2 p3⊢;refine key _ ?_ λi e=>?_
    .simp only[KQ,List.length_take];simp;omega
    .simp only[KQ,List.length_take]at e
     have:i<u.toNat:=by omega
     simp[List.getElem?_take,this]
  |some l=>cases u with
   |none=>
    simp only[Option.getD_none,Option.getD_some]at p1 p2 p3⊢;refine key _ ?_ λi e=>?_
    .simp
    .simp[Nat.add_comm]
   |some u=>
    simp only[Option.getD_some]at p1 p2 p3⊢;refine key _ ?_ λi e=>?_
    .simp only[KQ,Option.getD_some,List.length_take,List.length_drop];omega
    .simp only[KQ,List.length_take,List.length_drop]at e
     have:i<u.toNat-l.toNat:=by omega
     simp[List.getElem?_take,this,Nat.add_comm]
 .rename_i i j id p l u W L O B E
  split at h
  case h_2=>cases h
  rename_i ro A d xs hn;have hne:Ae s.r id p≠.dead:=by rw[hn];simp
  obtain⟨U,h⟩:=A7 h;cases h;obtain⟨h1,J⟩:=IX U;have J:i.str=false:=by simpa using J
  refine F _ ?_;rw[M W L J,Bh O];have hl:(Ae s.r id p).len=xs.length:=by rw[hn];rfl
  show(match bnd 0 (lo.map s.den.ev),bnd (Ae s.r id p).len (e.map s.den.ev)with
   |some l,some h=>_
   |_,_=>False)
  rw[C7 B,C7 E,hl];refine⟨by rw[Cj (by rw[hn];rfl),hn];exact h1,Z,?_⟩
  show Sub (V.rs id p (0+(l.getD 0).toNat) _) (V.rs id p (l.getD 0).toNat _);rw[Nat.zero_add];exact Sub.refl _
 .rename_i i j id p off len l u W L O B E
  split at h
  case h_2=>cases h
  rename_i ro A d xs hn;have hne:Ae s.r id p≠.dead:=by rw[hn];simp
  obtain⟨U,h⟩:=A7 h;cases h;obtain⟨h1,J⟩:=IX U;have J:i.str=false:=by simpa using J
  refine F _ ?_;rw[M W L J,Bh O]
  show(match bnd 0 (lo.map s.den.ev),bnd len (e.map s.den.ev)with
   |some l,some h=>_
   |_,_=>False)
  rw[C7 B,C7 E];exact⟨by rw[Cj (by rw[hn];rfl),hn];exact h1,Z,Sub.refl _⟩
end Go.Ve


namespace Go.Ve
variable{b:Bool}{y y':Cl}{f:FuncId}{r:List Ac}{ys:List Sl}{g:Nat}{D fp:Nat->Prop}{t1 t2:Nat->Sl}{op:Op}{x:Operand}{P:Program}{s:St}{Θ:Tab}{t:Ty}{v:V}{R:V->Value->Prop}{cv:Value}{w:World}
def PT:List (Bool×Ty)->Ty
 |[]=>.unit
 |[p]=>p.2
 |p::q::l=>.pair p.2 (PT (q::l))
def vOf(b:Bool)(t:Ty)(d:Nat)(x:t.T):V:=if b then Aj (tyV t d x)else cV t d x
def CC:(l:List (Bool×Ty))->(PT l).T->List V
 |[],_=>[]
 |[p],x=>[vOf p.1 p.2 0 x]
 |p::q::l,x=>vOf p.1 p.2 0 x.1::CC (q::l) x.2
def RT:List (Bool×Nat×Ty)->Ty
 |[]=>.unit
 |[p]=>p.2.2
 |p::q::l=>.pair p.2.2 (RT (q::l))
def Abg:(l:List (Bool×Nat×Ty))->(RT l).T->List V
 |[],_=>[]
 |[p],x=>[vOf p.1 p.2.2 p.2.1 x]
 |p::q::l,x=>vOf p.1 p.2.2 p.2.1 x.1::Abg (q::l) x.2
def NP(l:List (Bool×Nat×Ty))(x:(RT l).T):V:=Ol (Abg l x)
def isP(p:Bool×Nat×Ty):Bool:=!p.1&&match p.2.2 with
 |.ptr _=>true
 |_=>false
def X3(b:Bool)(p:Bool×Nat×Ty)(x:p.2.2.T):V:=bif b|| !isP p then vOf p.1 p.2.2 p.2.1 x else .c (.pointer none)
def UO(b:Bool):(l:List (Bool×Nat×Ty))->(RT l).T->List V
 |[],_=>[]
 |[p],x=>[X3 b p x]
 |p::q::l,x=>X3 b p x.1::UO b (q::l) x.2
def Ww:∀(l:List (Bool×Nat×Ty)) (x:(RT l).T),UO true l x=Abg l x
 |[],_=>rfl
 |[_],_=>rfl
 |p::q::l,x=>congrArg (vOf p.1 p.2.2 p.2.1 x.1:: ·) (Ww (q::l) x.2)
def KM(b:Bool)(l:List (Bool×Nat×Ty))(x:(RT l).T):V:=Ol (UO b l x)
def Dx(l:List (Bool×Nat×Ty))(x:(RT l).T):KM true l x=NP l x:=congrArg Ol (Ww l x)
structure Sig where
 ps:List (Bool×Ty)
 rs:List (Bool×Nat×Ty)
def FT(P:Program)(f:FuncId)(S:Sig)(g:(PT S.ps).T->Option (RT S.rs).T):Prop:=∀x y,g x=some y->FC P f (CC S.ps x) (NP S.rs y)
structure En where
 f:FuncId
 S:Sig
 g:(PT S.ps).T->Option (RT S.rs).T
variable{Γ:List En}
def look:List En->FuncId->Option En
 |[],_=>none
 |e::l,f=>bif Nat.beq e.f f then some e else look l f
def En.OK(P:Program)(e:En):Prop:=Ai P e.f=true/\FT P e.f e.S e.g
def KZ(P:Program)(Γ:List En):Prop:=∀e∈Γ,e.OK P
theorem FC.sub{P:Program}{f:FuncId}{args e:List V}{r:V}(h:FC P f args r)(B:CG e args):FC P f e r:=by
 intro w D cvs F J A E;refine h w D cvs F J (by rw[A,B.len]) λi L=>Rel.sub (B.getD i) (E i (by rw[B.len];grind))
structure EnN where
 f:FuncId
 S:Sig
 g:(PT S.ps).T->Option (Bool×(RT S.rs).T)
def EnN.OK(_:Program)(_:EnN):Prop:=False
def PU(s:St)(w:Nat):Cl->Option Cl
 |.c t _ x=>bif t.one then some (.c t 0 x)else none
 |.nil=>some .nil
 |.rf id p=>match Ae s.r id p with
  |.arr _ t _ xs=>some (.c (.sl t) 0 xs)
  |_=>none
 |.rs id p off len=>match Ae s.r id p with
  |.arr _ t _ xs=>some (.c (.sl t) 0 (UI off len xs t.dflt))
  |_=>none
 |.rp id p j k=>match Ae s.r id p with
  |.obj _ l=>match j with
   |0=>bif Nat.ble (k+w) l.length then(match DO ((l.drop k).take w)with
    |some ⟨t,x⟩=>some (.c (.ptr t) 0 x)
    |none=>none)else none
   |_+1=>none
  |.arr _ t _ xs=>bif Nat.ble (k+w) t.w then(match DO (((AA t 0 (AcB xs j t.dflt)).drop k).take w)with
   |some ⟨e,x⟩=>some (.c (.ptr e) 0 x)
   |none=>none)else none
  |_=>none
 |_=>none
theorem Q5(h:t.one=true)(d:Nat)(x:t.T):frz (cV t d x)=cV t 0 x:=by
 have:=Bl t d x;rw[BO h,BO h]at this
 grind
def ZB(v v':V):Prop:=Sub v v'\/∃sz e n f,v=.nd false false sz n f/\e<=sz/\Sub (.nd false false e n f) v'
theorem Rel.trunc{sz e n:Nat}{f:Nat->Nat->V}(h:Rel D w R (.nd false false sz n f) cv fp)(W:e<=sz):Rel D w R (.nd false false e n f) cv fp:=by
 rcases h with h|⟨b,o,cap,F,L,E,B,A,O,U,ho⟩
 .grind
 have hn:=A rfl;subst hn;refine .inr ⟨b,o,cap,F,L,E,B,A,λi k U Y=>?_,λZ=>?_,λh=>by cases h⟩
 .obtain rfl:i=0:=by omega
  obtain⟨x,M,J⟩:=O 0 k (by omega) (by omega)
  exact⟨x,by simpa using M,J⟩
 grind
theorem Rel.sub1{v':V}(e:ZB v v')(h:Rel D w R v cv fp):Rel D w R v' cv fp:=by
 rcases e with e|⟨sz,A,n,f,rfl,B,e⟩
 .exact Rel.sub e h
 .exact Rel.sub e (h.trunc B)
def Jk:List V->List V->Prop
 |[],[]=>True
 |a::l,b::m=>ZB a b/\Jk l m
 |_,_=>False
def Jk.len:∀{l m:List V},Jk l m->l.length=m.length
 |[],[],_=>rfl
 |_::_,_::_,h=>by simp[Jk.len h.2]
 |[],_::_,h=>h.elim
 |_::_,[],h=>h.elim
def Jk.getD:∀{l m:List V} (_:Jk l m) (k:Nat),ZB (l.getD k .dead) (m.getD k .dead)
 |[],[],_,_=>.inl (Sub.refl _)
 |_::_,_::_,h,0=>h.1
 |_::_,_::_,h,k+1=>Jk.getD h.2 k
 |[],_::_,h,_=>h.elim
 |_::_,[],h,_=>h.elim
theorem FC.sub1{P:Program}{f:FuncId}{args e:List V}{r:V}(h:FC P f args r)(B:Jk e args):FC P f e r:=by
 intro w D cvs F J A E;refine h w D cvs F J (by rw[A,B.len]) λi L=>Rel.sub1 (B.getD i) (E i (by rw[B.len];grind))
theorem Jy{x:t.T}(h:v∈tyV t 0 x):Go.Ve.frz v=v:=by
 obtain⟨i,A,rfl⟩:=List.getElem_of_mem h;have e:=Bl t 0 x
 grind
theorem Dm{σ:List V}:∀(t:Ty) (x:t.T),∀v∈tyV t 0 x,BS σ v=v
 |.int _,_,v,h=>by simp[tyV]at h;subst h;rfl
 |.bool,_,v,h=>by simp[tyV]at h;subst h;rfl
 |.str,_,v,h=>by simp[tyV]at h;subst h;rfl
 |.sl t,x,v,h=>by
  have e:=Jy (x:=x) h;simp only[tyV,List.mem_singleton]at h;subst h;exact e
 |.ptr t,x,v,h=>by
  have e:=Jy (x:=x) h;simp only[tyV,List.mem_singleton]at h;subst h;exact e
 |.unit,_,v,h=>by simp[tyV]at h
 |.mp _ _,_,v,h=>by simp[tyV]at h;subst h;rfl
 |.pair a b,x,v,h=>by
  simp only[tyV,List.mem_append]at h;exact h.elim (Dm a x.1 v) (Dm b x.2 v)
 |.osl t,x,v,h=>by
  have e:=Jy (x:=x) h;simp only[tyV,List.mem_singleton]at h;subst h;cases x with
  |none=>rfl
  |some xs=>exact e
 |.clo g t,x,v,h=>by
  simp only[tyV,List.mem_singleton]at h;subst h;show(if Tg.cl g=.bx then _ else V.many (.cl g) t.w λk=>BS σ ((tyV t 0 x).getD k .dead))=_
  rw[if_neg (by intro h;cases h)]
  congr 1
  funext k
  by_cases A:k<(tyV t 0 x).length
  .rw[gDE,gEE A]
   exact Dm t x _ (List.getElem_mem A)
  .rw[gDE,List.getElem?_eq_none (by omega)];rfl
theorem H3:∀(t:Ty) (x:t.T),∀v∈tyV t 0 x,AT v=false
 |.int _,_,v,h=>by simp[tyV]at h;subst h;rfl
 |.bool,_,v,h=>by simp[tyV]at h;subst h;rfl
 |.str,_,v,h=>by simp[tyV]at h;subst h;rfl
 |.sl _,_,v,h=>by simp[tyV,List.mem_singleton]at h;subst h;rfl
 |.ptr _,_,v,h=>by simp[tyV,List.mem_singleton]at h;subst h;rfl
 |.unit,_,v,h=>by trivial
 |.mp _ _,_,v,h=>by simp[tyV]at h;subst h;rfl
 |.pair a b,x,v,h=>by
  simp[tyV,List.mem_append]at h;exact h.elim (H3 a x.1 v) (H3 b x.2 v)
 |.osl t,x,v,h=>by
  simp[tyV,List.mem_singleton]at h;subst h;cases x<;>rfl
 |.clo g t,x,v,h=>by
  simp[tyV,List.mem_singleton]at h;subst h;show((List.range t.w).any λk=>AT ((tyV t 0 x).getD k .dead))=false
  rw[List.any_eq_false];intro k e;have e:k<(tyV t 0 x).length:=by rw[AB];grind
  rw[gDE,gEE e];simp[H3 t x _ (List.getElem_mem e)]
def Y2{σ:List V}{u:Ty}{d:Nat}{x:u.T}:BS σ (cV (.clo g u) d x)=Go.Ve.frz (cV (.clo g u) d x):=by
 have e:cV (.clo g u) d x∈tyV (.clo g u) 0 x:=List.mem_singleton.2 rfl;rw[Dm _ _ _ e,Jy e]
theorem ML{w:Nat}(h:PU s w y=some y'):ZB (BS (s.r.map Ac.v) (y.v s.r)) y'.v0/\y'.v0=y'.v s.r/\((∀id p i k,y≠.rp id p i k)->Sub (BS (s.r.map Ac.v) (y.v s.r)) y'.v0):=by
 have A:∀{v v':V},Sub v v'->ZB v v'/\((∀id p i k,y≠.rp id p i k)->Sub v v'):=λh=>⟨.inl h,λ_=>h⟩
 unfold PU at h;split at h
 .rename_i t d x
  cases ho:t.one with
  |false=>rw[ho]at h;cases h
  |true=>
   rw[ho]at h;cases h
   have:Sub (BS (s.r.map Ac.v) (cV t d x)) (cV t 0 x):=by
    rw[<-Q5 ho d x];cases t<;>first|exact Sub.refl _|(cases ho;done)|(cases x<;>exact Sub.refl _)|exact Sub.of_eq Y2
   exact⟨(A this).1,rfl,(A this).2⟩
 .cases h;exact⟨(A (Sub.refl _)).1,rfl,(A (Sub.refl _)).2⟩
 .rename_i id p
  split at h
  case h_2=>cases h
  rename_i ro t d xs hn;cases h;have B:Ae s.r id p≠.dead:=by rw[hn];simp
  have:Sub (BS (s.r.map Ac.v) (V.rs id p 0 (Ae s.r id p).len)) (cV (.sl t) 0 xs):=by
   rw[PP,A5 B,hn];show Sub (Xc (arr true t.w (tyV t d) t.dflt xs) 0 xs.length) _;rw[OA rfl];have e:(λa=>(tyV t d a).map frz)=tyV t 0:=funext λx=>Bl t d x
   rw[e];exact Sub.refl _
  exact⟨(A this).1,rfl,(A this).2⟩
 .rename_i id p off len
  split at h
  case h_2=>cases h
  rename_i ro t d xs hn;cases h;have B:Ae s.r id p≠.dead:=by rw[hn];simp
  have:Sub (BS (s.r.map Ac.v) (V.rs id p off len)) (cV (.sl t) 0 (UI off len xs t.dflt)):=by
   rw[PP,A5 B,hn];show Sub (Xc (arr true t.w (tyV t d) t.dflt xs) off len) (arr false t.w (tyV t 0) t.dflt (UI off len xs t.dflt));unfold arr;have F:(UI off len xs t.dflt).length=len:=by simp[UI]
   rw[F];refine⟨_,rfl,λi k M J=>Sub.of_eq ?_⟩
   have U:(UI off len xs t.dflt).getD i t.dflt=xs.getD (off+i) t.dflt:=by simp[UI,M]
   rw[U,<-Bl t d];exact(AG (f:=frz) (a:=.dead) rfl (tyV t d (xs.getD (off+i) t.dflt)) k).symm
  exact⟨(A this).1,rfl,(A this).2⟩
 .rename_i id p j k
  split at h
  .rename_i ro l hn
   have B:Ae s.r id p≠.dead:=by rw[hn];simp
   split at h
   case h_2=>cases h
   cases E:Nat.ble (k+w) l.length with
   |false=>rw[E]at h;cases h
   |true=>
    rw[E]at h;have E:=blE E;simp only[cond_true]at h;split at h
    case h_2=>cases h
    rename_i t x W;cases h;refine⟨.inr ⟨l.length-k,w,1,λi' k'=>([((l.drop k).map Cl.v0).map frz].getD i' []).getD k' .dead,?_,by omega,?_⟩,rfl,λh=>absurd rfl (h _ _ _ _)⟩
    .show BS (s.r.map Ac.v) (V.rp id p 0 k)=_
     rw[PQ,A5 B,hn];show Y4 (Bi true (l.map Cl.v0)) 0 k=_;rw[Ls];unfold Bi;simp only[List.map_drop,List.length_drop,List.length_map]
    .show Sub _ (Bi false (tyV t 0 x))
     have e:=Ha _ _ W;unfold Bi;have F:(tyV t 0 x).length=w:=by rw[e];simp;omega
     rw[F];refine⟨_,rfl,λi' k' M J=>?_⟩
     obtain rfl:i'=0:=by omega
     refine Sub.of_eq ?_;show(((l.drop k).map Cl.v0).map frz).getD k' .dead=(tyV t 0 x).getD k' .dead;rw[e];simp[List.getElem?_take,J]
  .rename_i ro t d xs hn
   have B:Ae s.r id p≠.dead:=by rw[hn];simp
   cases E:Nat.ble (k+w) t.w with
   |false=>rw[E]at h;cases h
   |true=>
    rw[E]at h;have E:=blE E;simp only[cond_true]at h;split at h
    case h_2=>cases h
    rename_i L x hd;cases h;refine⟨.inr ⟨t.w-k,w,1,λi' O=>if i'=0 then frz ((tyV t d (xs.getD j t.dflt)).getD (k+O) .dead)else .dead,?_,by omega,?_⟩,rfl,λh=>absurd rfl (h _ _ _ _)⟩
    .show BS (s.r.map Ac.v) (V.rp id p j k)=_
     rw[PQ,A5 B,hn];rfl
    .show Sub _ (Bi false (tyV L 0 x))
     have e:=Ha _ _ hd;rw[List.map_take,List.map_drop,Bv,List.map_take,List.map_drop,Bl]at e;unfold Bi;have F:(tyV L 0 x).length=w:=by rw[e];simp[AB];omega
     rw[F];refine⟨_,rfl,λi' k' M J=>?_⟩
     obtain rfl:i'=0:=by omega
     refine Sub.of_eq ?_;simp only[if_true];show _=(tyV L 0 x).getD k' .dead;rw[e,<-Bl t d];have:=AG (f:=frz) (a:=.dead) rfl (tyV t d (xs.getD j t.dflt)) (k+k');rw[<-this];simp only[gDE,List.getElem?_take,J,if_true,List.getElem?_drop]
  .cases h
 .cases h
def OB(s:St):List Cl->Option (List Cl)
 |[]=>some []
 |y::l=>match(match y with
   |.rp _ _ _ _=>none
   |y=>PU s 0 y)with
  |some y'=>match OB s l with
   |some e=>some (y'::e)
   |none=>none
  |none=>none
theorem MJ{s:St}:∀{l e:List Cl},OB s l=some e->CG ((l.map (Cl.v s.r)).map (BS (s.r.map Ac.v))) (e.map (Cl.v s.r))
 |[],e,h=>by cases h;trivial
 |y::l,e,h=>by
  unfold OB at h;split at h
  case h_2=>grind
  rename_i y' A;split at h
  case h_2=>grind
  rename_i m E;cases h;have B:∀id p i k,y≠.rp id p i k:=by grind
  have A:PU s 0 y=some y':=by
   grind
  obtain⟨_,F,J⟩:=ML A;exact⟨by grind,MJ E⟩
def Xd(s:St):Cl->Option Cl
 |.rp id p i k=>match i,k with
  |0,0=>match Ae s.r id p with
   |.obj _ l=>match DO l with
    |some ⟨t,x⟩=>some (.c (.ptr t) 0 x)
    |none=>none
   |_=>none
  |_,_=>none
 |y=>PU s 0 y
theorem AbL(h:Xd s y=some y'):Sub (BS (s.r.map Ac.v) (y.v s.r)) y'.v0/\y'.v0=y'.v s.r:=by
 by_cases B:∃id p i k,y=.rp id p i k
 .obtain⟨id,p,i,k,rfl⟩:=B
  unfold Xd at h;simp at h;split at h
  case h_2=>cases h
  split at h
  case h_2=>cases h
  rename_i ro l hn;split at h
  case h_2=>cases h
  rename_i t x E;cases h;have A:Ae s.r id p≠.dead:=by grind
  refine⟨?_,rfl⟩;show Sub (BS (s.r.map Ac.v) (V.rp id p 0 0)) (Bi false (tyV t 0 x));rw[PQ,A5 A,hn];show Sub (Y4 (Bi true (l.map Cl.v0)) 0 0) _;rw[Ls,Ha _ _ E];exact Sub.refl _
 .have A:=λid p i k e=>B ⟨id,p,i,k,e⟩
  have h:PU s 0 y=some y':=by
   cases y with
   |rp id p i k=>grind
   |_=>exact h
  obtain⟨_,F,J⟩:=ML h
  grind
def J9(s:St):List Cl->Option (List Cl)
 |[]=>some []
 |y::l=>match Xd s y with
  |some y'=>match J9 s l with
   |some e=>some (y'::e)
   |none=>none
  |none=>none
theorem MK{s:St}:∀{l e:List Cl},J9 s l=some e->CG ((l.map (Cl.v s.r)).map (BS (s.r.map Ac.v))) (e.map (Cl.v s.r))
 |[],e,h=>by cases h;trivial
 |y::l,e,h=>by
  unfold J9 at h;split at h
  case h_2=>grind
  rename_i y' A;split at h
  case h_2=>grind
  rename_i m B;cases h;obtain⟨F,E⟩:=AbL A;exact⟨by grind,MK B⟩
theorem CG.pk{t:Tg}{l m:List V}(h:CG l m):Sub (pkL t l) (pkL t m):=by
 unfold pkL;rw[h.len];exact⟨_,rfl,λk _=>h.getD k⟩
def Jg(s:St)(b:Bool)(t:Ty):Option Sl->Option t.T
 |some (.one y)=>bif b then none else bif t.one then(match PU s (match t with
   |.ptr u=>u.w
   |_=>0) y with
  |some y'=>DZ t 0 y'
  |none=>none)else none
 |some (.agg l)=>bif b then(match OB s l with
  |some e=>IG t 0 e
  |none=>none)else none
 |some (.pk .bx l)=>bif b then none else(match t with
  |.ptr u=>(match OB s l with
   |some e=>IG u 0 e
   |none=>none)
  |_=>none)
 |some (.pk (.cl g) l)=>bif b then none else(match t with
  |.clo A u=>bif Nat.beq g A then(match J9 s l with
   |some e=>IG u 0 e
   |none=>none)else none
  |_=>none)
 |_=>none
theorem CG.trans:∀{a b c:List V},CG a b->CG b c->CG a c:=by
 intro a
 induction a with
 |nil=>intro b c A e;cases b<;>first|rfl|trivial
 |cons v a B=>intro b c A e;cases b with
  |nil=>trivial
  |cons w b=>cases c with
   |nil=>trivial
   |cons u c=>exact⟨A.1.trans e.1,B A.2 e.2⟩
theorem NG{z:t.T}(h:Jg s b t (s.ev x)=some z):ZB (BS (s.r.map Ac.v) (s.den.ev x)) (vOf b t 0 z):=by
 unfold Jg at h;split at h
 case h_5=>cases h
 .rename_i y A
  cases b with
  |true=>cases h
  |false=>
   cases ho:t.one with
   |false=>rw[ho]at h;cases h
   |true=>
    rw[ho]at h;simp only[cond_false,cond_true]at h;split at h
    case h_2=>cases h
    rename_i y' B;obtain⟨E,L,_⟩:=ML B;obtain⟨g1,g2⟩:=J1 h s.r;rw[Bh A];have g1:Sub y'.v0 (vOf false t 0 z):=L▸g1;rcases E with E|⟨sz,F,n,f,Z,Y,W⟩
    .exact .inl (E.trans g1)
    .exact .inr ⟨sz,F,n,f,Z,Y,W.trans g1⟩
 .rename_i l A
  cases b with
  |false=>cases h
  |true=>
   simp only[cond_true]at h;split at h
   case h_2=>cases h
   rename_i M B;rw[Bh A];left;show Sub (BS _ (Aj _)) (Aj _);rw[AbJ];refine CG.mk ?_;have E:=MJ B;have L:=(Dj h s.r).1;exact CG.trans E L
 .rename_i l A
  cases b with
  |true=>cases h
  |false=>
   simp only[cond_false]at h;split at h
   case h_2=>cases h
   rename_i u;split at h
   case h_2=>cases h
   rename_i M B;rw[Bh A];left;show Sub (BS _ (boxL _)) (Bi false (tyV u 0 z));rw[Y3];exact CG.obj (CG.trans (MJ B) (Dj h s.r).1)
 .rename_i g l A
  cases b with
  |true=>cases h
  |false=>
   simp only[cond_false]at h;split at h
   case h_2=>cases h
   rename_i U u;cases J:Nat.beq g U with
   |false=>rw[J]at h;cases h
   |true=>
    rw[J]at h;simp only[cond_true]at h;have O:=bqE J;subst O;split at h
    case h_2=>cases h
    rename_i M B;rw[Bh A];left
    have e:V.many (.cl g) u.w (λk=>(tyV u 0 z).getD k .dead)=pkL (.cl g) (tyV u 0 z):=by
     unfold pkL;rw[AB]
    show Sub (BS _ (pkL (.cl g) _)) (V.many (.cl g) u.w λk=>(tyV u 0 z).getD k .dead)
    rw[e,AbK];exact CG.pk (CG.trans (MK B) (Dj h s.r).1)
def Hs(s:St):(l:List (Bool×Ty))->List (Option Sl)->Option (PT l).T
 |[],[]=>some ()
 |[p],[y]=>Jg s p.1 p.2 y
 |p::q::l,y::ys=>match Jg s p.1 p.2 y with
  |some z=>match Hs s (q::l) ys with
   |some e=>some (z,e)
   |none=>none
  |none=>none
 |_,_=>none
theorem Aa6{s:St}:∀(l:List (Bool×Ty)) (xs:List Operand) (z:(PT l).T),Hs s l (xs.map s.ev)=some z->Jk ((xs.map s.den.ev).map (BS (s.r.map Ac.v))) (CC l z)
 |[],[],z,h=>trivial
 |[p],[x],z,h=>⟨NG h,trivial⟩
 |p::q::l,x::xs,z,h=>by
  have h:(match Jg s p.1 p.2 (s.ev x)with
   |some z=>match Hs s (q::l) (xs.map s.ev)with
    |some e=>some (z,e)
    |none=>none
   |none=>none:Option (PT (p::q::l)).T)=some z:=h
  split at h
  case h_2=>grind
  rename_i E B;split at h
  case h_2=>grind
  rename_i e A;cases h;exact⟨NG B,Aa6 (q::l) xs e A⟩
 |[],_::_,_,h=>by cases h
 |[_],[],_,h=>by cases h
 |[_],_::_::_,_,h=>by cases h
 |_::_::_,[],_,h=>by cases h
def resC(b:Bool)(d:Nat)(t:Ty)(x:t.T):Bool×List Cl:=(b,AA t d x)
def UP(b:Bool)(p:Bool×Nat×Ty)(x:p.2.2.T):Bool×List Cl:=bif b|| !isP p then resC p.1 p.2.1 p.2.2 x else(false,[.nilp])
def resL(b:Bool):(l:List (Bool×Nat×Ty))->(RT l).T->List (Bool×List Cl)
 |[],_=>[]
 |[p],x=>[UP b p x]
 |p::q::l,x=>UP b p x.1::resL b (q::l) x.2
def Nl(b:Bool)(l:List (Bool×Nat×Ty))(x:(RT l).T):Sl:=match resL b l x with
 |[(true,cs)]=>.agg cs
 |[(false,cs)]=>.one (cs.getD 0 .dead)
 |m=>.tup m
theorem Abh(b:Bool)(d:Nat)(t:Ty)(x:t.T)(h:b=true\/t.one=true):(if b then Aj ((AA t d x).map (Cl.v r))else((AA t d x).map (Cl.v r)).getD 0 .dead)=vOf b t d x:=by
 rw[Cl.v_c];cases b with
 |true=>rfl
 |false=>
  rcases h with h|h
  .grind
  .rw[BO h];rfl
def Hj:List (Bool×Nat×Ty)->Bool
 |[]=>true
 |p::l=>(p.1||p.2.2.one)&&Hj l
def Qs(b:Bool)(p:Bool×Nat×Ty)(x:p.2.2.T)(h:p.1=true\/p.2.2.one=true):(if(UP b p x).1 then Aj ((UP b p x).2.map (Cl.v r))else((UP b p x).2.map (Cl.v r)).getD 0 .dead)=X3 b p x:=by
 unfold UP X3;cases b|| !isP p with
 |true=>exact Abh p.1 p.2.1 p.2.2 x h
 |false=>rfl
def ZS{r:List Ac}(b:Bool):∀(l:List (Bool×Nat×Ty)) (x:(RT l).T),Hj l=true->(resL b l x).map (λp=>if p.1 then Aj (p.2.map (Cl.v r))else(p.2.map (Cl.v r)).getD 0 .dead)=UO b l x
 |[],x,_=>rfl
 |[p],x,h=>by
  simp only[Hj,bAE,Bool.or_eq_true]at h;show [_]=[X3 _ _ _];rw[<-Qs b p x h.1]
 |p::q::l,x,h=>by
  have e:((p.1||p.2.2.one)&&Hj (q::l))=true:=h;simp[Bool.or_eq_true]at e;show _::(resL b (q::l) x.2).map _=X3 _ _ _::_;rw[ZS b (q::l) x.2 e.2,<-Qs b p x.1 e.1]
theorem NQ(b:Bool)(l:List (Bool×Nat×Ty))(x:(RT l).T)(h:Hj l=true):(Nl b l x).v r=KM b l x:=by
 have e:=ZS (r:=r) b l x h;unfold KM;rw[<-e];unfold Nl;split
 .rename_i cs A
  rw[A];rfl
 .rename_i cs A
  rw[A];show(cs.getD 0 .dead).v r=(cs.map (Cl.v r)).getD 0 .dead;rw[AG (a:=.dead) rfl]
 .rename_i m E B
  generalize resL b l x=m at*
  match m,E,B with
  |[],_,_=>rfl
  |[(true,cs)],E,_=>grind
  |[(false,cs)],_,B=>grind
  |a::b::m,_,_=>rfl
def Ty.noFn:Ty->Bool
 |.clo _ _=>false
 |.osl _=>false
 |.sl t=>t.noFn
 |.ptr t=>t.noFn
 |.pair a b=>a.noFn&&b.noFn
 |_=>true
theorem Cb:∀(t:Ty) (d:Nat) (x:t.T),t.dep<=d->t.noFn=true->∀v∈tyV t d x,BF v
 |.int _,_,_,_,_,v,h=>by simp only[tyV,List.mem_singleton]at h;subst h;trivial
 |.bool,_,_,_,_,v,h=>by simp only[tyV,List.mem_singleton]at h;subst h;trivial
 |.str,_,_,_,_,v,h=>by simp only[tyV,List.mem_singleton]at h;subst h;trivial
 |.unit,_,_,_,_,v,h=>by cases h
 |.clo _ _,_,_,_,hf,_,_=>by cases hf
 |.osl _,_,_,_,hf,_,_=>by cases hf
 |.mp _ _,d,_,hd,_,v,h=>by
  simp only[Ty.dep]at hd;simp only[tyV,List.mem_singleton]at h;subst h;exact dT (by omega)
 |.sl t,d,xs,hd,hf,v,h=>by
  simp only[Ty.dep]at hd;simp only[tyV,List.mem_singleton]at h;subst h;refine⟨dT (by omega),λi k _ e=>?_⟩
  exact Cb t (d-1) _ (by omega) hf _ (Jx (by rw[AB];exact e))
 |.ptr t,d,x,hd,hf,v,h=>by
  simp only[Ty.dep]at hd;simp only[tyV,List.mem_singleton]at h;subst h;refine⟨dT (by omega),λi k A e=>?_⟩
  obtain rfl:i=0:=by omega
  exact Cb t (d-1) _ (by omega) hf _ (Jx e)
 |.pair a b,d,x,hd,hf,v,h=>by
  simp only[Ty.noFn,bAE]at hf;simp only[Ty.dep]at hd;rcases List.mem_append.1 h with h|h
  .exact Cb a d _ (by omega) hf.1 v h
  .exact Cb b d _ (by omega) hf.2 v h
def DU:List (Bool×Nat×Ty)->Bool
 |[]=>true
 |p::l=>Nat.ble p.2.2.dep p.2.1&&p.2.2.noFn&&(p.1||p.2.2.one)&&DU l
theorem PG(b:Bool)(d:Nat)(t:Ty)(x:t.T)(h:t.dep<=d)(A:t.noFn=true)(e:b=true\/t.one=true):BF (vOf b t d x):=by
 cases b with
 |true=>
  show BF (Aj _);rw[U2];exact Cb t d x h A
 |false=>
  rcases e with e|e
  .grind
  .exact Cb t d x h A _ (by rw[BO e];exact List.mem_singleton.2 rfl)
def I7(b:Bool)(p:Bool×Nat×Ty)(x:p.2.2.T)(h:p.2.2.dep<=p.2.1)(e:p.2.2.noFn=true)(A:p.1=true\/p.2.2.one=true):BF (X3 b p x):=by
 unfold X3;cases b|| !isP p with
 |true=>exact PG _ _ _ _ h e A
 |false=>trivial
def I8(b:Bool):∀(l:List (Bool×Nat×Ty)) (x:(RT l).T),DU l=true->∀v∈UO b l x,BF v
 |[],_,_,v,h=>by cases h
 |[p],x,hr,v,h=>by
  simp only[DU,bAE,Bool.or_eq_true]at hr;rw[List.mem_singleton.1 h];exact I7 b p x (blE hr.1.1.1) hr.1.1.2 hr.1.2
 |p::q::l,x,hr,v,h=>by
  have e:(Nat.ble p.2.2.dep p.2.1&&p.2.2.noFn&&(p.1||p.2.2.one)&&DU (q::l))=true:=hr;simp only[bAE,Bool.or_eq_true]at e;rcases List.mem_cons.1 h with rfl|h
  .exact I7 b p x.1 (blE e.1.1.1) e.1.1.2 e.1.2
  .exact I8 b (q::l) x.2 e.2 v h
theorem DB(b:Bool)(l:List (Bool×Nat×Ty))(x:(RT l).T)(h:DU l=true):BF (KM b l x):=by
 have:=I8 b l x h;unfold KM Ol;split
 .grind
 .have e:=this
  rw[<-PH]at e
  trivial
def Cl.lent:Cl->Bool
 |.rf _ _=>true
 |.rs _ _ _ _=>true
 |.rp _ _ _ _=>true
 |.rm _ _=>true
 |y=>y.own
def Sl.lent:Sl->Bool
 |.one c=>c.lent
 |.agg l=>l.any Cl.lent
 |.pk _ l=>l.any Cl.lent
 |_=>true
def Lq(xs:List (Option Sl)):Bool:=xs.all λx=>match x with
 |some y=>!y.lent
 |none=>false
theorem Cl.lent_v(c:Cl):c.lent=false->AT (c.v r)=false:=by
 intro h;cases c with
 |c t d x=>
  cases t<;>cases d<;>first|rfl|trivial|(cases x<;>first|rfl|trivial)|exact H3 (.clo _ _) x _ (List.mem_singleton.2 rfl)
 |rf=>cases h
 |rs=>cases h
 |rp=>cases h
 |rm=>cases h
 |_=>rfl
theorem Oq(e:Tg)(l:List Cl)(h:l.any Cl.lent=false):AT (.many e (l.map (Cl.v r)).length λk=>(l.map (Cl.v r)).getD k .dead)=false:=by
 show((List.range _).any λk=>AT ((l.map (Cl.v r)).getD k .dead))=false
 rw[List.any_eq_false];intro k A;rw[AG (a:=.dead) rfl]
 have:(l.getD k .dead).lent=false:=by
  grind
 rw[Cl.lent_v _ this];simp
theorem QO{xs:List Operand}(h:Lq (xs.map s.ev)=true):(xs.map s.den.ev).any AT=false:=by
 rw[List.any_eq_false];intro v E;obtain⟨x,B,rfl⟩:=List.mem_map.1 E;have e:=aET.1 h (s.ev x) (List.mem_map.2 ⟨x,B,rfl⟩);cases A:s.ev x with
 |none=>grind
 |some y=>
  rw[A]at e;have e:=by simpa using e
  rw[Bh A]
  have:AT (y.v s.r)=false:=by
   cases y with
   |one c=>exact Cl.lent_v c e
   |agg l=>exact Oq .ag l e
   |pk t l=>exact Oq t l e
   |new l=>trivial
   |tup l=>trivial
  grind
def Hk(s:St):Option Sl->Option Sl
 |some (.one (.rf id p))=>match Ae s.r id p with
  |.opt _ u _ x=>some (.one (.c (.sl u) 0 (getO x)))
  |_=>some (.one (.rf id p))
 |y=>y
def Zs(s:St):Option Sl->List Bool
 |some (.one (.rf id p))=>match Ae s.r id p with
  |.opt _ _ _ x=>[isO x]
  |_=>[]
 |_=>[]
def OY(s:St):List (Option Sl)->List Bool
 |[]=>[]
 |y::l=>Zs s y++OY s l
def gate{α:Type}:List Bool->Option α->Option α
 |[],o=>o
 |b::l,o=>P7 b (gate l o) none
structure VE where
 α:Type
 o:Option α
 y:α->Sl
variable{a:VE}
structure CallN where
 α:Type
 o:Option (Bool×α)
 y:Bool->α->Sl
def K9(e:En)(s:St)(xs:List (Option Sl)):Option VE:=
 bif DU e.S.rs||(Hj e.S.rs&&Lq xs)then(match Hs s e.S.ps (xs.map (Hk s))with
  |some z=>some ⟨(RT e.S.rs).T,gate (OY s xs) (e.g z),λy=>Nl true e.S.rs y⟩
  |none=>none)else none
def JG:List En->St->FuncId->List (Option Sl)->Option VE
 |[],_,_,_=>none
 |e::Γ,s,f,xs=>bif Nat.beq e.f f then(match K9 e s xs with
  |some a=>some a
  |none=>JG Γ s f xs)else JG Γ s f xs
theorem Jn{s:St}{f:FuncId}{xs:List (Option Sl)}{a:VE}:∀{Γ:List En},JG Γ s f xs=some a->∃e∈Γ,e.f=f/\K9 e s xs=some a
 |[],h=>by cases h
 |e::Γ,h=>by
  have back:JG Γ s f xs=some a->∃A∈e::Γ,A.f=f/\K9 A s xs=some a:=λh=>by
   obtain⟨A,F,E⟩:=Jn h
   grind
  unfold JG at h;cases B:Nat.beq e.f f with
  |false=>grind
  |true=>
   rw[B]at h;split at h
   .simp_all
   grind
def Wj(_:List EnN)(_:St)(_:FuncId)(_:List (Option Sl)):Option CallN:=none
def HQ:∀{l:List (Bool×Nat×Ty)},DU l=true->Hj l=true
 |[],_=>rfl
 |p::l,h=>by
  simp only[DU,bAE]at h;simp only[Hj,bAE];exact⟨h.1.2,HQ h.2⟩
def PS{t1 t2:Nat->Sl}{r:List Ac}:∀l:List Cl,OB ⟨t1,r⟩ l=OB ⟨t2,r⟩ l
 |[]=>rfl
 |y::l=>by
  unfold OB;rw[PS l];rfl
def AbM:Xd ⟨t1,r⟩ y=Xd ⟨t2,r⟩ y:=by rfl
def QX{t1 t2:Nat->Sl}{r:List Ac}:∀l:List Cl,J9 ⟨t1,r⟩ l=J9 ⟨t2,r⟩ l
 |[]=>rfl
 |y::l=>by
  unfold J9;rw[QX l,AbM]
theorem ZO{o:Option Sl}:Jg ⟨t1,r⟩ b t o=Jg ⟨t2,r⟩ b t o:=by
 cases o with
 |none=>rfl
 |some y=>
  cases y with
  |one y=>rfl
  |agg l=>unfold Jg;simp[PS (t2:=t2)]
  |pk t l=>cases t<;>first|rfl|(unfold Jg;simp[QX (t2:=t2)];done)|(unfold Jg;simp[PS (t2:=t2)])
  |_=>rfl
theorem Wl{y:Sl}{z:t.T}(h:Jg s b t (some y)=some z):ZB (BS (s.r.map Ac.v) (y.v s.r)) (vOf b t 0 z):=
 NG (x:=.tmp 0) (by
  have:Jg ⟨λ_=>y,s.r⟩ b t (some y)=some z:=by rw[<-h];exact ZO
  trivial)
theorem Aa5{s:St}:∀(l:List (Bool×Ty)) (ys:List Sl) (z:(PT l).T),Hs s l (ys.map some)=some z->Jk ((ys.map (Sl.v s.r)).map (BS (s.r.map Ac.v))) (CC l z)
 |[],[],z,h=>trivial
 |[p],[y],z,h=>⟨Wl h,trivial⟩
 |p::q::l,y::ys,z,h=>by
  have h:(match Jg s p.1 p.2 (some y)with
   |some z=>match Hs s (q::l) (ys.map some)with
    |some e=>some (z,e)
    |none=>none
   |none=>none:Option (PT (p::q::l)).T)=some z:=h
  split at h
  case h_2=>grind
  rename_i E B;split at h
  case h_2=>grind
  rename_i e A;cases h;exact⟨Wl B,Aa5 (q::l) ys e A⟩
 |[],_::_,_,h=>by cases h
 |[_],[],_,h=>by cases h
 |[_],_::_::_,_,h=>by cases h
 |_::_::_,[],_,h=>by cases h
theorem H7{α:Type}{u:α}:∀{l:List Bool}{o:Option α},gate l o=some u->o=some u/\∀b∈l,b=true
 |[],_,h=>⟨h,λ_ h=>by grind⟩
 |b::l,o,h=>by
  cases b with
  |false=>cases h
  |true=>
   obtain⟨A,e⟩:=H7 (l:=l) h
   grind
theorem PI{z:t.T}(h:Jg s b t (Hk s (s.ev x))=some z)(B:∀c∈Zs s (s.ev x),c=true):ZB (BS (s.r.map Ac.v) (s.den.ev x)) (vOf b t 0 z):=by
 cases A:s.ev x with
 |none=>rw[A]at h;exact NG (by rw[A];exact h)
 |some y=>
  by_cases J:∃id p ro u d v,y=.one (.rf id p)/\Ae s.r id p=.opt ro u d v
  .obtain⟨id,p,ro,u,d,v,rfl,hn⟩:=J
   rw[A]at h B;simp only[Hk,Zs,hn]at h B;have L:isO v=true:=B _ (List.mem_singleton.2 rfl);cases v with
   |none=>cases L
   |some ys=>
    have F:=Wl h;have O:BS (s.r.map Ac.v) ((Sl.one (.c (.sl u) 0 ys)).v s.r)=cV (.sl u) 0 ys:=Dm (.sl u) ys _ (List.mem_singleton.2 rfl);have E:BS (s.r.map Ac.v) ((Sl.one (.c (.sl u) 0 (getO (some ys)))).v s.r)=cV (.sl u) 0 ys:=O;rw[E]at F
    have M:BS (s.r.map Ac.v) (s.den.ev x)=cV (.sl u) 0 ys:=by
     rw[Bh A];show BS (s.r.map Ac.v) (V.rs id p 0 (Ae s.r id p).len)=_;rw[PP,A5 (by rw[hn];simp),hn]
     show Xc (arr true u.w (tyV u d) u.dflt ys) 0 ys.length=_;rw[OA rfl];have e:=funext λx=>Bl u d x
     rw[e];rfl
    rw[M];exact F
  .have e:Hk s (some y)=some y:=by
    cases y with
    |one c=>
     cases c with
     |rf id p=>
      cases hn:Ae s.r id p with
      |opt ro u d v=>grind
      |_=>simp only[Hk,hn]
     |_=>rfl
    |_=>rfl
   rw[A,e,<-A]at h;exact NG h
theorem WZ{y:Sl}{z:t.T}(h:Jg s b t (Hk s (some y))=some z)(e:∀c∈Zs s (some y),c=true):ZB (BS (s.r.map Ac.v) (y.v s.r)) (vOf b t 0 z):=by
 have A:Hk ⟨λ_=>y,s.r⟩ (some y)=Hk s (some y):=by
  rfl
 refine PI (s:=⟨λ_=>y,s.r⟩) (x:=.tmp 0) ?_ ?_
 .show Jg ⟨λ_=>y,s.r⟩ b t (Hk ⟨λ_=>y,s.r⟩ (some y))=some z
  rw[<-h];exact ZO
 trivial
theorem Mi{s:St}:∀(l:List (Bool×Ty)) (ys:List Sl) (z:(PT l).T),Hs s l ((ys.map some).map (Hk s))=some z->(∀c∈OY s (ys.map some),c=true)->Jk ((ys.map (Sl.v s.r)).map (BS (s.r.map Ac.v))) (CC l z)
 |[],[],z,h,_=>trivial
 |[p],[y],z,h,hc=>⟨WZ h λc h=>hc c (List.mem_append_left _ h),trivial⟩
 |p::q::l,y::ys,z,h,hc=>by
  have h:(match Jg s p.1 p.2 (Hk s (some y))with
   |some z=>match Hs s (q::l) ((ys.map some).map (Hk s))with
    |some e=>some (z,e)
    |none=>none
   |none=>none:Option (PT (p::q::l)).T)=some z:=h
  split at h
  case h_2=>grind
  rename_i E B;split at h
  case h_2=>grind
  rename_i e A;cases h;exact⟨WZ B λc h=>hc c (List.mem_append_left _ h),Mi (q::l) ys e A λc h=>hc c (List.mem_append_right _ h)⟩
 |[],_::_,_,h,_=>by cases h
 |[_],[],_,h,_=>by cases h
 |[_],_::_::_,_,h,_=>by cases h
 |_::_::_,[],_,h,_=>by cases h
theorem Ql{s:St}:∀(l:List (Bool×Ty)) (xs:List Operand) (z:(PT l).T),Hs s l ((xs.map s.ev).map (Hk s))=some z->(∀c∈OY s (xs.map s.ev),c=true)->Jk ((xs.map s.den.ev).map (BS (s.r.map Ac.v))) (CC l z)
 |[],[],z,h,_=>trivial
 |[p],[x],z,h,hc=>⟨PI h λc h=>hc c (List.mem_append_left _ h),trivial⟩
 |p::q::l,x::xs,z,h,hc=>by
  have h:(match Jg s p.1 p.2 (Hk s (s.ev x))with
   |some z=>match Hs s (q::l) ((xs.map s.ev).map (Hk s))with
    |some e=>some (z,e)
    |none=>none
   |none=>none:Option (PT (p::q::l)).T)=some z:=h
  split at h
  case h_2=>grind
  rename_i E B;split at h
  case h_2=>grind
  rename_i e A;cases h;exact⟨PI B λc h=>hc c (List.mem_append_left _ h),Ql (q::l) xs e A λc h=>hc c (List.mem_append_right _ h)⟩
 |[],_::_,_,h,_=>by cases h
 |[_],[],_,h,_=>by cases h
 |[_],_::_::_,_,h,_=>by cases h
 |_::_::_,[],_,h,_=>by cases h
theorem Vw{xs:Array Operand}{E}{ps:List (Bool×Ty)}{rs:List (Bool×Nat×Ty)}{z:(PT ps).T}{u:(RT rs).T}(L:Ai P f=true)(A:FC P f (CC ps z) (KM b rs u))(F:Hs s ps ((xs.toList.map s.ev).map (Hk s))=some z)(B:∀c∈OY s (xs.toList.map s.ev),c=true)
  (ho:(DU rs||(Hj rs&&Lq (xs.toList.map s.ev)))=true):QS P s (.call ⟨.value (.func f),xs,E⟩) (Nl b rs u):=by
 rw[Bool.or_eq_true,bAE]at ho;have e:=ho.elim HQ (·.1)
 refine⟨KM b rs u,⟨L,A.sub1 (Ql _ _ _ F B)⟩,λJ=>?_,?_⟩
 .rcases ho with ho|⟨_,ho⟩
  .exact DB _ _ _ ho
  .rw[QO ho]at J;grind
 .show Sub _ ((Nl b rs u).v s.r)
  rw[NQ _ _ _ e];exact Sub.refl _
theorem Ps(A:KZ P Γ){xs L}(h:JG Γ s f (xs.toList.map s.ev)=some a){u:a.α}(B:a.o=some u):QS P s (.call ⟨.value (.func f),xs,L⟩) (a.y u):=by
 obtain⟨e,U,F,M⟩:=Jn h;subst F;unfold K9 at M;have h:=M;cases ho:(DU e.S.rs||(Hj e.S.rs&&Lq (xs.toList.map s.ev)))with
 |false=>grind
 |true=>
  rw[ho]at h;split at h
  case h_2=>grind
  rename_i z O;cases h;obtain⟨W,E⟩:=A e U;obtain⟨B,J⟩:=H7 B;exact Vw W (by rw[Dx];exact E z u B) O J ho
def ND{Γ:List EnN}(B:∀e∈Γ,e.OK P){xs A}{a:CallN}(h:Wj Γ s f (xs.toList.map s.ev)=some a){u:a.α}(E:a.o=some (b,u)):QS P s (.call ⟨.value (.func f),xs,A⟩) (a.y b u):=by
 unfold Wj at h;cases h
theorem QM(h:Lq (ys.map some)=true):(ys.map (Sl.v s.r)).any AT=false:=by
 have:=QO (s:=⟨λi=>ys.getD i (.one .dead),s.r⟩) (by
  have e:((List.range ys.length).map Operand.tmp).map (St.ev ⟨λi=>ys.getD i (.one .dead),s.r⟩)=ys.map some:=by
   rw[List.map_map];apply List.ext_getElem (by simp)
   intro i A E;have B:i<ys.length:=by simpa using A
   have:(St.ev ⟨λi=>ys.getD i (.one .dead),s.r⟩ (.tmp i))=some (ys.getD i (.one .dead)):=rfl
   grind
  rw[e];exact h)
 have F:((List.range ys.length).map Operand.tmp).map (St.den ⟨λi=>ys.getD i (.one .dead),s.r⟩).ev=ys.map (Sl.v s.r):=by
  rw[List.map_map];apply List.ext_getElem (by simp)
  intro i A E;have B:=by simpa using A
  have:(St.den ⟨λi=>ys.getD i (.one .dead),s.r⟩).ev (.tmp i)=(ys.getD i (.one .dead)).v s.r:=rfl
  grind
 rw[F]at this;exact this
def allS:List (Option Sl)->Option (List Sl)
 |[]=>some []
 |some y::l=>match allS l with
  |some m=>some (y::m)
  |none=>none
 |none::_=>none
def XT{s:St}:∀{xs:List Operand}{ys:List Sl},allS (xs.map s.ev)=some ys->xs.map s.den.ev=ys.map (Sl.v s.r)
 |[],ys,h=>by cases h;rfl
 |x::xs,ys,h=>by
  rw[List.map_cons]at h;cases e:s.ev x with
  |none=>rw[e]at h;cases h
  |some y=>
   rw[e]at h;unfold allS at h;split at h
   case h_2=>grind
   rename_i m A;cases h;rw[List.map_cons,List.map_cons,Bh e,XT A]
def cloS(s:St)(y:Nat):Option (FuncId×List Sl):=match s.t y with
 |.one (.c (.clo g t) _ x)=>bif Nat.blt g 1000000 then some (g,(AA t 0 x).map .one)else none
 |.pk (.cl g) l=>bif Nat.blt g 1000000 then some (g,l.map .one)else none
 |_=>none
def cloF(s:St):Op->Option (FuncId×List Sl)
 |.call c=>match c.callee with
  |.value (.tmp y)=>match cloS s y,allS (c.args.toList.map s.ev)with
   |some (g,cs),some ys=>some (g,ys++cs)
   |_,_=>none
  |_=>none
 |_=>none
theorem Vu(O:KZ P Γ){g:FuncId}(J:cloF s op=some (g,ys))(h:JG Γ s g (ys.map some)=some a){u:a.α}(Y:a.o=some u):QS P s op (a.y u):=by
 unfold cloF at J;split at J
 case h_2=>cases J
 rename_i c;obtain⟨callee,xs,ats⟩:=c;split at J
 case h_2=>cases J
 rename_i y E;have E:callee=.value (.tmp y):=E;subst E;split at J
 case h_2=>cases J
 rename_i g' cs zs A U;cases J
 have key:Nat.blt g 1000000=true/\∃(n:Nat) (F:Nat->V),s.den.ev (.tmp y)=.many (.cl g) n F/\tab n F=cs.map (Sl.v s.r):=by
  have tk:∀l:List V,tab l.length (λk=>l.getD k .dead)=l:=λl=>by
   rw[Jm (l:=l) l.length (Nat.le_refl _),List.take_length]
  unfold cloS at A;split at A
  case h_3=>cases A
  .rename_i g2 t d x W
   obtain⟨B,A⟩:=A7 A;cases A;refine⟨B,t.w,λk=>(tyV t 0 x).getD k .dead,?_,?_⟩
   .show(s.t y).v s.r=_
    rw[W];rfl
   .have:=tk (tyV t 0 x)
    rw[AB]at this;rw[this,List.map_map];exact(Cl.v_c (r:=s.r) t 0 x).symm
  .rename_i g2 l W
   obtain⟨B,A⟩:=A7 A;cases A;refine⟨B,(l.map (Cl.v s.r)).length,λk=>(l.map (Cl.v s.r)).getD k .dead,?_,?_⟩
   .show(s.t y).v s.r=_
    rw[W];rfl
   .rw[tk,List.map_map];rfl
 obtain⟨B,n,F,hev,M⟩:=key;obtain⟨e,he,hef,hx⟩:=Jn h;subst hef;clear h;unfold K9 at hx;obtain⟨ho,h⟩:=A7 hx;split at h
 case h_2=>cases h
 rename_i z hz;cases h;obtain⟨hc,hft⟩:=O e he;obtain⟨Y,hcd⟩:=H7 Y
 have L:(xs.toList.map s.den.ev)++tab n F=(zs++cs).map (Sl.v s.r):=by
  rw[XT U,List.map_append,M]
 rw[Bool.or_eq_true,bAE]at ho;have Z:Hj e.S.rs=true:=ho.elim HQ (·.1)
 show N8 P (s.r.map Ac.v) (s.den.ev (.tmp y)) (xs.toList.map s.den.ev) (SK s _);rw[hev];show Nat.blt e.f 1000000=true/\Call P e.f (((xs.toList.map s.den.ev)++tab n F).any AT) (((xs.toList.map s.den.ev)++tab n F).map (BS (s.r.map Ac.v))) (SK s _);rw[L];refine⟨B,KM true e.S.rs u,⟨hc,FC.sub1 (by rw[Dx];exact hft z u Y) (Mi _ _ _ hz hcd)⟩,λhl=>?_,?_⟩
 .rcases ho with ho|⟨_,ho⟩
  .exact DB _ _ _ ho
  .rw[QM ho]at hl;cases hl
 .show Sub _ ((Nl true e.S.rs u).v s.r)
  rw[NQ _ _ _ Z];exact Sub.refl _
def strB(a b:String):Bool:=a==b
def YY:List (String×Nat)->String->Option Nat
 |[],_=>none
 |(a,f)::l,s=>bif strB a s then some f else YY l s
theorem Ou{s:String}{f:Nat}:∀{l:List (String×Nat)},YY l s=some f->(s,f)∈l
 |[],h=>by cases h
 |(a,f')::l,h=>by
  unfold YY at h;cases e:strB a s with
  |false=>rw[e]at h;exact mCM _ (Ou h)
  |true=>
   rw[e]at h;have:a=s:=by unfold strB at e;grind
   grind
def cloI(Θ:Tab)(s:St):Op->Option (FuncId×List Sl)
 |.call c=>match c.callee with
  |.invoke (.tmp y) nm=>match s.t y with
   |.one (.c (.clo g t) _ x)=>bif Nat.ble 1000000 g&&Nat.beq t.w 1 then(match Θ.look (g-1000000)with
    |some i=>match YY i.met nm,allS (c.args.toList.map s.ev)with
     |some f,some ys=>some (f,(AA t 0 x).map .one++ys)
     |_,_=>none
    |none=>none)else none
   |_=>none
  |_=>none
 |_=>none
theorem Vt(U:Θ.OK P)(W:KZ P Γ){g:FuncId}(A:cloI Θ s op=some (g,ys))(h:JG Γ s g (ys.map some)=some a){u:a.α}(hu:a.o=some u):QS P s op (a.y u):=by
 unfold cloI at A;split at A
 case h_2=>cases A
 rename_i c;obtain⟨callee,xs,ats⟩:=c;split at A
 case h_2=>cases A
 rename_i y O B;have B:callee=.invoke (.tmp y) O:=B;subst B;split at A
 case h_2=>cases A
 rename_i g2 t d x hy;cases E:(Nat.ble 1000000 g2&&Nat.beq t.w 1)with
 |false=>rw[E]at A;cases A
 |true=>
 rw[E]at A;simp only[cond_true]at A;rw[bAE]at E;obtain⟨M,F⟩:=E;have M:=blE M;have F:t.w=1:=bqE F;split at A
 case h_2=>cases A
 rename_i i hi;split at A
 case h_2=>cases A
 rename_i f zs hfm Y;cases A;have L:=U.met hi (Ou hfm);obtain⟨e,he,hef,Z⟩:=Jn h;subst hef;clear h;unfold K9 at Z;have h:=Z;clear Z;cases ho:(DU e.S.rs||(Hj e.S.rs&&Lq (((AA t 0 x).map Sl.one++zs).map some)))with
 |false=>rw[ho]at h;cases h
 |true=>
  rw[ho]at h;simp only[cond_true]at h;split at h
  case h_2=>cases h
  rename_i z hz;cases h;obtain⟨hc,hft⟩:=W e he;obtain⟨hu,hcd⟩:=H7 hu
  have hev:s.den.ev (.tmp y)=.many (.cl g2) t.w λk=>(tyV t 0 x).getD k .dead:=by
   show(s.t y).v s.r=_;rw[hy];rfl
  have J:tab t.w (λk=>(tyV t 0 x).getD k .dead)++(xs.toList.map s.den.ev)=((AA t 0 x).map Sl.one++zs).map (Sl.v s.r):=by
   rw[XT Y,List.map_append]
   congr 1
   have h1:tab t.w (λk=>(tyV t 0 x).getD k .dead)=tyV t 0 x:=by
    have:=Jm (l:=tyV t 0 x) t.w (by rw[AB];exact Nat.le_refl _)
    rw[this];exact List.take_of_length_le (by rw[AB];exact Nat.le_refl _)
   rw[h1,List.map_map];exact(Cl.v_c (r:=s.r) t 0 x).symm
  rw[Bool.or_eq_true,bAE]at ho;have hok:Hj e.S.rs=true:=ho.elim HQ (·.1)
  show Oa P (s.r.map Ac.v) (s.den.ev (.tmp y)) O (xs.toList.map s.den.ev) (SK s _);rw[hev];show ∃t' fn,(g2=1000000+t'/\t.w=1/\AbE P t' O=some fn)/\Call P fn ((tab t.w (λk=>(tyV t 0 x).getD k .dead)++(xs.toList.map s.den.ev)).any AT) ((tab t.w (λk=>(tyV t 0 x).getD k .dead)++(xs.toList.map s.den.ev)).map (BS (s.r.map Ac.v))) (SK s _)
  rw[J];refine⟨g2-1000000,e.f,⟨by omega,F,L⟩,KM true e.S.rs u,⟨hc,FC.sub1 (by rw[Dx];exact hft z u hu) (Mi _ _ _ hz hcd)⟩,λhl=>?_,?_⟩
  .rcases ho with ho|⟨_,ho⟩
   .exact DB _ _ _ ho
   .rw[QM ho]at hl;cases hl
  .show Sub _ ((Nl true e.S.rs u).v s.r)
   rw[NQ _ _ _ hok];exact Sub.refl _
def capL(s:St):List Operand->Option (List Cl)
 |[]=>some []
 |x::xs=>match s.ev x with
  |some (.one (.c t d y))=>bif t.one&& !(Cl.c t d y).own then(match capL s xs with
   |some l=>some (.c t 0 y::l)
   |none=>none)else none
  |_=>none
def capR(s:St):List Operand->Option (List Cl)
 |[]=>some []
 |x::xs=>match s.ev x with
  |some (.one y)=>bif y.own then none else(match capR s xs with
   |some l=>some (y::l)
   |none=>none)
  |_=>none
theorem Aau{s:St}:∀{xs:List Operand}{l:List Cl},capR s xs=some l->xs.map s.den.ev=l.map (Cl.v s.r)/\(xs.map s.den.ev).all (λv=>!AS v)=true
 |[],l,h=>by cases h;simp
 |x::xs,l,h=>by
  unfold capR at h;split at h
  case h_2=>grind
  rename_i y B;cases A:y.own with
  |true=>grind
  |false=>
   rw[A]at h;split at h
   case h_2=>grind
   rename_i m E;obtain⟨J,F⟩:=Aau E;have e:s.den.ev x=y.v s.r:=Bh B;refine⟨by grind,?_⟩
   rw[List.map_cons,List.all_cons,e,Cl.own_v,A,F];rfl
def tMkG(g:Nat)(s:St)(e:List Operand):Option TR:=match capL s e with
  |some l=>match DO l with
   |some ⟨t,x⟩=>some (.ok (.one (.c (.clo g t) 0 x)))
   |none=>none
  |none=>match capR s e with
   |some l=>some (.ok (.pk (.cl g) l))
   |none=>none
def tMkF(s:St)(fn:Fn)(first:List Operand)(e:List Operand):Option TR:=match fn,first with
 |.func g,[]=>bif Nat.blt g 1000000 then tMkG g s e else none
 |_,_=>none
def tMkI(_:Tab)(_:St)(_:TypeId)(_:Operand):Option TR:=none
theorem Aav{s:St}:∀{xs:List Operand}{l:List Cl},capL s xs=some l->xs.map s.den.ev=(l.map Cl.v0).map frz/\(xs.map s.den.ev).all (λv=>!AS v)=true/\l.length=xs.length
 |[],l,h=>by cases h;exact⟨rfl,rfl,rfl⟩
 |x::xs,l,h=>by
  unfold capL at h;split at h
  case h_2=>cases h
  rename_i t d y J;cases B:(t.one&& !(Cl.c t d y).own)with
  |false=>rw[B]at h;cases h
  |true=>
   rw[B]at h;simp only[cond_true]at h;split at h
   case h_2=>cases h
   rename_i m L;cases h;rw[bAE]at B;obtain⟨O,U,M⟩:=Aav L;have E:s.den.ev x=cV t d y:=Bh J
   have A:AS (cV t d y)=false:=by
    have:=Cl.own_v (r:=s.r) (.c t d y);have e:(Cl.c t d y).own=false:=by simpa using B.2
    rw[e]at this;exact this
   have F:cV t d y=frz (cV t 0 y):=by
    rw[Q5 B.1];cases t<;>first|rfl|(cases d<;>first|rfl|(cases A;done))|(cases y<;>cases d<;>first|rfl|(cases A;done))
   refine⟨?_,?_,by simp[M]⟩
   .rw[List.map_cons,List.map_cons,List.map_cons,E,O,F];rfl
   grind
theorem tMkG_v{A:List Operand}{a:TR}(h:tMkG g s A=some a):∃y,a=.ok y/\(A.map s.den.ev).all (λv=>!AS v)=true/\Sub (V.many (.cl g) (A.map s.den.ev).length λk=>(A.map s.den.ev).getD k .dead) (y.v s.r):=by
 unfold tMkG at h;split at h
 case h_2=>
  split at h
  case h_2=>grind
  rename_i l B;cases h;obtain⟨F,E⟩:=Aau B;refine⟨_,rfl,E,?_⟩;rw[F];exact Sub.refl _
 rename_i l B;split at h
 case h_2=>grind
 rename_i t x hd;cases h;obtain⟨F,E,J⟩:=Aav B;have e:=Ha _ _ hd;refine⟨_,rfl,E,?_⟩;rw[F,<-e,AB];exact Sub.refl _
theorem Uy{fn:Fn}{first e:Array Operand}{a:TR}(h:tMkF s fn first.toList e.toList=some a):QS P s (.makeFunc fn first e) a.y:=by
 unfold tMkF at h;split at h
 case h_2=>grind
 rename_i g B;cases A:Nat.blt g 1000000 with
 |false=>grind
 |true=>
 rw[A]at h;obtain⟨y,rfl,F,E⟩:=tMkG_v h
 show(match Fn.func g,first.toList with
  |.func g,[]=>qMkF g (e.toList.map s.den.ev) (SK s _)
  |_,_=>False)
 rw[B]
 trivial
def Ux(e:Θ.OK P){t:TypeId}{a:TR}(h:tMkI Θ s t x=some a):QS P s (.makeInterface t x) a.y:=by
 unfold tMkI at h;cases h
end Go.Ve


namespace Go.Ve
variable{P:Program}
inductive CM where
 |p (t:Ty)
 |r (i:Nat) (p:AW) (j k:Nat)
inductive AM where
 |p (b:Bool) (t:Ty)
 |r (i:Nat) (p:AW) (j k:Nat)
 |k (g:Nat) (l:List CM)
def CsM:List CM->Ty
 |[]=>.unit
 |.p t::l=>.pair t (CsM l)
 |.r _ _ _ _::l=>CsM l
def PM:List AM->Ty
 |[]=>.unit
 |.p _ t::l=>.pair t (PM l)
 |.r _ _ _ _::l=>PM l
 |.k _ c::l=>.pair (CsM c) (PM l)
def M8:(l:List CM)->(CsM l).T->List Cl
 |[],_=>[]
 |.p t::l,x=>.c t 0 x.1::M8 l x.2
 |.r i p j k::l,x=>.rp i p j k::M8 l x
def slM(b:Bool)(t:Ty)(x:t.T):Sl:=bif b then .agg (AA t 0 x)else .one (.c t 0 x)
def Jj:(l:List AM)->(PM l).T->List Sl
 |[],_=>[]
 |.p b t::l,x=>slM b t x.1::Jj l x.2
 |.r i p j k::l,x=>.one (.rp i p j k)::Jj l x
 |.k g c::l,x=>.pk (.cl g) (M8 c x.1)::Jj l x.2
def TM:List (Nat×Ty)->Ty
 |[]=>.unit
 |p::l=>.pair p.2 (TM l)
def Bd:(l:List (Nat×Ty))->(TM l).T->List Ac
 |[],_=>[]
 |p::l,x=>.obj false (AA p.2 p.1 x.1)::Bd l x.2
structure AaD where
 ps:List AM
 ts:List (Nat×Ty)
 rs:List (Bool×Nat×Ty)
def FTM(P:Program)(f:FuncId)(S:AaD)(g:(PM S.ps).T->(TM S.ts).T->Option ((RT S.rs).T×(TM S.ts).T)):Prop:=
 ∀z x u,g z x=some u->FCM P f ((Jj S.ps z).map (Sl.v [])) ((Bd S.ts x).map Ac.v) (NP S.rs u.1) ((Bd S.ts u.2).map Ac.v)
structure EnM where
 f:FuncId
 S:AaD
 g:(PM S.ps).T->(TM S.ts).T->Option ((RT S.rs).T×(TM S.ts).T)
def EnM.OK(P:Program)(e:EnM):Prop:=Ai P e.f=true/\FTM P e.f e.S e.g
def MY:∀e∈([]:List EnM),e.OK P:=by simp
def Zm{e:EnM}{l:List EnM}(F:Ai P e.f=true)(E:FTM P e.f e.S e.g)(B:∀e∈l,e.OK P):∀x∈e::l,x.OK P:=by
 intro x A;rcases List.mem_cons.1 A with rfl|A
 .exact⟨F,E⟩
 .exact B x A
def CJ:∀(l:List (Nat×Ty)) (x:(TM l).T),(Bd l x).length=l.length
 |[],_=>rfl
 |_::l,x=>congrArg (· +1) (CJ l x.2)
def eqP:AW->AW->Bool
 |[],[]=>true
 |a::p,b::q=>Nat.beq a.1 b.1&&Nat.beq a.2 b.2&&eqP p q
 |_,_=>false
def OR:∀p q:AW,eqP p q=true->p=q
 |[],[],_=>rfl
 |(a,a')::p,(b,b')::q,h=>by
  have h:(Nat.beq a b&&Nat.beq a' b'&&eqP p q)=true:=h;simp only[bAE]at h;rw[bqE h.1.1,bqE h.1.2,OR p q h.2]
 |[],_::_,h=>by cases h
 |_::_,[],h=>by cases h
end Go.Ve


namespace Go.Ve
variable{b:Bool}{c:Cl}{r:List Ac}{l σ:List V}{d i k:Nat}{P:Program}{s:St}{t:Ty}
structure O5 where
 k:Nat
 ps:List (Bool×Ty)
 t:Ty
 d:Nat
 eat:Bool
 rs:List (Bool×Nat×Ty)
def Vi(k:Nat)(l:List V):List V:=l.take k++ .dead::l.drop k
theorem Jt:(Vi k l).length=l.length+1:=by
 unfold Vi
 grind
theorem AbU(h:i<k)(e:k<=l.length):(Vi k l).getD i .dead=l.getD i .dead:=by
 unfold Vi
 grind
theorem AbV(h:k<=i)(A:k<=l.length):(Vi k l).getD (i+1) .dead=l.getD i .dead:=by
 unfold Vi;have e:(l.take k).length=k:=by grind
 simp;rw[gAR (by omega),e,show i+1-k=(i-k)+1 by omega,List.getElem?_cons_succ,List.getElem?_drop,show k+(i-k)=i by omega]
def isTr:Ty->Bool
 |.sl _=>true
 |.ptr _=>true
 |_=>false
def O5.ok(S:O5):Bool:=Nat.blt 0 S.d&&Nat.ble S.k S.ps.length&&isTr S.t
def FTU(P:Program)(f:FuncId)(S:O5)(g:(PT S.ps).T->S.t.T->Option ((RT S.rs).T×S.t.T)):Prop:=
 ∀z x u,g z x=some u->FCU P f S.k (Vi S.k (CC S.ps z)) (cV S.t S.d x) (NP S.rs u.1) (bif S.eat then .dead else cV S.t S.d u.2)
structure EnU where
 f:FuncId
 S:O5
 g:(PT S.ps).T->S.t.T->Option ((RT S.rs).T×S.t.T)
def J8:List EnU->FuncId->Option EnU
 |[],_=>none
 |e::l,f=>bif Nat.beq e.f f then some e else J8 l f
def EnU.OK(P:Program)(e:EnU):Prop:=Ai P e.f=true/\e.S.ok=true/\FTU P e.f e.S e.g
def QW{P:Program}{f:FuncId}{e:EnU}:∀{Γ:List EnU},(∀e∈Γ,e.OK P)->J8 Γ f=some e->e.OK P/\e.f=f
 |[],_,h=>by cases h
 |a::l,hΓ,h=>by
  unfold J8 at h;cases B:Nat.beq a.f f with
  |true=>
   simp_all
  |false=>rw[B]at h;exact QW (λe A=>hΓ e (mCM _ A)) h
theorem Cl.lend_id(h:c.lent=false):BS σ (c.v r)=c.v r:=by
 cases c with
 |c t d x=>
  have e:∀{t:Ty} (x:t.T),t.one=true->BS σ (cV t 0 x)=cV t 0 x:=fun{t} x ht=>Dm t x _ (by rw[BO ht];simp)
  cases t with
  |int k=>rfl
  |bool=>rfl
  |str=>rfl
  |unit=>rfl
  |pair a b=>rfl
  |sl t=>cases d with
   |zero=>exact e x rfl
   |succ d=>cases h
  |ptr t=>cases d with
   |zero=>exact e x rfl
   |succ d=>cases h
  |clo g t=>exact e x rfl
  |mp k v=>cases d with
   |zero=>exact e x rfl
   |succ d=>cases h
  |osl t=>cases d with
   |zero=>exact e x rfl
   |succ d=>cases x with
    |none=>rfl
    |some y=>cases h
 |rf=>cases h
 |rs=>cases h
 |rp=>cases h
 |rm=>cases h
 |_=>rfl
theorem Cl.clean_v(h:c.lent=false):clean (c.v r):=by
 cases c with
 |c t d x=>
  cases t with
  |osl t=>cases x<;>exact trivial
  |clo g t=>
   have:∀(t:Ty) (x:t.T),∀v∈tyV t 0 x,clean v:=by
    intro t
    induction t with
    |int k=>intro x v e;simp[tyV]at e;subst e;trivial
    |bool=>intro x v e;simp[tyV]at e;subst e;trivial
    |str=>intro x v e;simp[tyV]at e;subst e;trivial
    |sl t _=>intro x v e;simp only[tyV,List.mem_singleton]at e;subst e;trivial
    |ptr t _=>intro x v e;simp only[tyV,List.mem_singleton]at e;subst e;trivial
    |unit=>intro x v e;simp[tyV]at e
    |pair a b B A=>
     intro x v e;simp only[tyV,List.mem_append]at e
     grind
    |mp k v _ _=>intro x v e;simp only[tyV,List.mem_singleton]at e;subst e;trivial
    |osl t _=>
     intro x v e;simp only[tyV,List.mem_singleton]at e;subst e;cases x<;>trivial
    |clo g t E=>
     intro x v e;simp only[tyV,List.mem_singleton]at e;subst e;intro k F;refine E x _ ?_;show(tyV t 0 x).getD k .dead∈_;rw[gDE,gEE (by rw[AB];exact F)]
     simp
   exact this (.clo g t) x _ (List.mem_singleton.2 rfl)
  |_=>trivial
 |rf=>cases h
 |rs=>cases h
 |rp=>cases h
 |_=>trivial
theorem Nc{l:List Cl}(h:l.any Cl.lent=false):∀c∈l,c.lent=false:=by grind
theorem QT{l:List Cl}(h:l.any Cl.lent=false):(l.map (Cl.v r)).map (BS σ)=l.map (Cl.v r):=by
 rw[List.map_map];exact List.map_congr_left λc e=>Cl.lend_id (Nc h c e)
def Sl.notB:Sl->Bool
 |.one _=>true
 |.agg _=>true
 |.pk (.cl _) _=>true
 |_=>false
theorem ZL{y:Sl}{z:t.T}(M:y.lent=false)(F:y.notB=true)(h:Jg s b t (some y)=some z):Sub (y.v s.r) (vOf b t 0 z)/\AS (y.v s.r)=false/\clean (y.v s.r):=by
 have many:∀(B:Tg) (l:List Cl),l.any Cl.lent=false->AS (pkL B (l.map (Cl.v s.r)))=false/\clean (pkL B (l.map (Cl.v s.r))):=by
  intro B l h;refine⟨?_,λk O=>?_⟩
  .have e:AS ((Sl.pk B l).v s.r)=l.any Cl.own:=Sl.own_v (.pk B l)
   refine e.trans ?_;rw[List.any_eq_false];intro c A;have J:=Nc h c A;cases c with
   |c t d x=>rw[show(Cl.c t d x).own=false from J];simp
   |_=>simp[Cl.own]
  .have O:k<l.length:=by simpa using O
   show clean ((l.map (Cl.v s.r)).getD k .dead);rw[AG (f:=Cl.v s.r) (a:=.dead) rfl];refine Cl.clean_v (Nc h _ ?_);simp[O]
 cases y with
 |one c=>
  have A:c.lent=false:=M;refine⟨?_,?_,Cl.clean_v A⟩
  .unfold Jg at h
   cases b with
   |true=>cases h
   |false=>
    cases ho:t.one with
    |false=>rw[ho]at h;cases h
    |true=>
     rw[ho]at h;simp only[cond_false,cond_true]at h;split at h
     case h_2=>cases h
     rename_i y' W;obtain⟨_,Z,L⟩:=ML W;have L:=L λid p i k e=>by rw[e]at A;cases A
     rw[Cl.lend_id A]at L;obtain⟨g1,_⟩:=J1 h s.r;have g1:Sub y'.v0 (vOf false t 0 z):=Z▸g1;exact L.trans g1
  .have e:AS (c.v s.r)=c.own:=Cl.own_v c
   refine e.trans ?_;cases c with
   |c t d x=>exact A
   |_=>rfl
 |agg l=>
  have A:l.any Cl.lent=false:=M;refine⟨?_,many .ag l A⟩;unfold Jg at h;cases b with
  |false=>cases h
  |true=>
   simp only[cond_true]at h;split at h
   case h_2=>cases h
   rename_i U E;show Sub (Aj _) (Aj _);refine CG.mk ?_;have J:=MJ E;rw[QT A]at J;exact CG.trans J (Dj h s.r).1
 |pk B l=>
  have A:l.any Cl.lent=false:=M;cases B with
  |cl g=>
   refine⟨?_,many (.cl g) l A⟩;unfold Jg at h;cases b with
   |true=>cases h
   |false=>
    simp only[cond_false]at h;split at h
    case h_2=>cases h
    rename_i g' u;obtain⟨F,h⟩:=A7 h;have Y:=bqE F;subst Y;split at h
    case h_2=>cases h
    rename_i U E
    have e:V.many (.cl g) u.w (λk=>(tyV u 0 z).getD k .dead)=pkL (.cl g) (tyV u 0 z):=by
     unfold pkL;rw[AB]
    show Sub (pkL (.cl g) _) (V.many (.cl g) u.w λk=>(tyV u 0 z).getD k .dead)
    rw[e];have J:=MK E;rw[QT A]at J;exact CG.pk (CG.trans J (Dj h s.r).1)
  |ag=>cases F
  |tu=>cases F
  |bx=>cases F
 |new l=>cases F
 |tup l=>cases F
def uok:Option Sl->Bool
 |some y=>!y.lent&&y.notB
 |none=>false
theorem uok_v{x:Operand}{z:t.T}(e:uok (s.ev x)=true)(h:Jg s b t (s.ev x)=some z):AS (s.den.ev x)=false/\clean (s.den.ev x)/\Sub (s.den.ev x) (vOf b t 0 z):=by
 cases A:s.ev x with
 |none=>rw[A]at e;trivial
 |some y=>
  rw[A]at e h;simp[uok,Bool.not_eq_true']at e;obtain⟨F,E,B⟩:=ZL e.1 e.2 h;rw[Bh A]
  grind
theorem VR{s:St}:∀(ps:List (Bool×Ty)) (xs:List Operand) (z:(PT ps).T),Hs s ps (xs.map s.ev)=some z->(xs.map s.ev).all uok=true->
  xs.length=(CC ps z).length/\∀i x,xs[i]? =some x->AS (s.den.ev x)=false/\clean (s.den.ev x)/\Sub (s.den.ev x) ((CC ps z).getD i .dead)
 |[],[],z,_,_=>⟨rfl,λi x h=>by simp at h⟩
 |[p],[x],z,h,e=>by
  have e:(uok (s.ev x)&&true)=true:=e;rw[Bool.and_true]at e;refine⟨rfl,λi E A=>?_⟩
  cases i with
  |zero=>
   cases A;exact uok_v e h
  |succ i=>simp at A
 |p::q::l,x::xs,z,h,e=>by
  have h:(match Jg s p.1 p.2 (s.ev x)with
   |some z=>match Hs s (q::l) (xs.map s.ev)with
    |some B=>some (z,B)
    |none=>none
   |none=>none:Option (PT (p::q::l)).T)=some z:=h
  have e:(uok (s.ev x)&&(xs.map s.ev).all uok)=true:=e;rw[bAE]at e;split at h
  case h_2=>cases h
  rename_i L J;split at h
  case h_2=>cases h
  rename_i B F;cases h;obtain⟨k1,k2⟩:=VR (q::l) xs B F e.2;refine⟨by show xs.length+1=(CC (q::l) B).length+1;rw[k1],λi E A=>?_⟩
  cases i with
  |zero=>
   cases A;exact uok_v e.1 J
  |succ i=>exact k2 i E (by simpa using A)
 |[],_::_,_,h,_=>by cases h
 |[_],[],_,h,_=>by cases h
 |[_],_::_::_,_,h,_=>by cases h
 |_::_::_,[],_,h,_=>by cases h
def CZ(k:Nat)(l:List Operand):List Operand:=l.take k++l.drop (k+1)
theorem Vr{l:List Operand}(h:k<l.length):(CZ k l).length+1=l.length:=by
 unfold CZ
 grind
theorem OO{l:List Operand}(h:i<k)(e:k<l.length):(CZ k l)[i]? =l[i]?:=by
 unfold CZ
 grind
theorem OP{l:List Operand}(h:k<=i)(e:k<l.length):(CZ k l)[i]? =l[i+1]?:=by
 unfold CZ
 grind
theorem AaK{ps:List (Bool×Ty)}{xs:List Operand}{z:(PT ps).T}(e:k<xs.length)(h:Hs s ps ((CZ k xs).map s.ev)=some z)(E:((CZ k xs).map s.ev).all uok=true):
  xs.length=(Vi k (CC ps z)).length/\∀i x,i≠k->xs[i]? =some x->AS (s.den.ev x)=false/\clean (s.den.ev x)/\Sub (s.den.ev x) ((Vi k (CC ps z)).getD i .dead):=by
 obtain⟨L,A⟩:=VR ps (CZ k xs) z h E;have J:=Vr e;refine⟨by rw[Jt];omega,λi x F B=>?_⟩
 rcases Nat.lt_or_ge i k with hlt|hge
 .have:=A i x (by rw[OO hlt e];exact B)
  rw[AbU hlt (by omega)]
  grind
 .obtain⟨j,rfl⟩:∃j,i=j+1:=⟨i-1,by omega⟩
  have:=A j x (by rw[OP (by omega) e];grind)
  rw[AbV (by omega) (by omega)]
  grind
def AbZ:(t:Ty)->t.T->Bool
 |.sl _,xs=>ltI (Int.ofNat 0) (ofN (H4 xs))
 |.ptr _,_=>true
 |_,_=>false
theorem AbY{x:t.T}(hd:0<d)(h:AbZ t x=true):Lu (cV t d x):=by
 have hd:=dT hd;cases t with
 |sl t=>
  refine⟨true,_,_,_,show arr (decide (0<d)) _ _ _ x=_ by rw[hd];rfl,.inr ?_⟩
  have h:decide (0<(x.length:Int))=true:=h
  grind
 |ptr t=>exact⟨false,_,_,_,show Bi (decide (0<d)) _=_ by rw[hd];rfl,.inl rfl⟩
 |_=>cases h
def treeND{x:t.T}(hd:0<d)(h:isTr t=true):∃s sz n f,cV t d x=.nd s true sz n f:=by
 have hd:=dT hd;cases t with
 |sl t=>exact⟨true,_,_,_,show arr (decide (0<d)) _ _ _ x=_ by rw[hd];rfl⟩
 |ptr t=>exact⟨false,_,_,_,show Bi (decide (0<d)) _=_ by rw[hd];rfl⟩
 |_=>cases h
def Dh:∀e∈([]:List EnU),e.OK P:=by simp
theorem BN{e:EnU}{l:List EnU}(F:Ai P e.f=true)(J:e.S.ok=true)(E:FTU P e.f e.S e.g)(B:∀e∈l,e.OK P):∀x∈e::l,x.OK P:=by
 intro x A;rcases List.mem_cons.1 A with rfl|A
 .trivial
 grind
end Go.Ve


namespace Go.Ve
abbrev WP:=Bool×Bool×Ty
def PTW:List WP->Ty
 |[]=>.unit
 |[p]=>p.2.2
 |p::q::l=>.pair p.2.2 (PTW (q::l))
def Aa7:Ty->List Ty
 |.sl t=>[.sl t]
 |.pair a b=>Aa7 a++Aa7 b
 |_=>[]
def tysW:List WP->List Ty
 |[]=>[]
 |p::l=>(bif p.1 then Aa7 p.2.2 else [])++tysW l
structure SigW where
 ps:List WP
 rt:Ty
def wty:List Ty->Ty
 |[]=>.unit
 |[t]=>t
 |t::u::l=>.pair t (wty (u::l))
structure EnW where
 f:FuncId
 S:SigW
 g:(PTW S.ps).T->Option (S.rt.T×(wty (tysW S.ps)).T)
def lookW:List EnW->FuncId->Option EnW
 |[],_=>none
 |e::l,f=>bif Nat.beq e.f f then some e else lookW l f
def EnW.OK(_:Program)(_:EnW):Prop:=False
end Go.Ve


namespace Go.Ve
variable{r:List Ac}{l m:List V}{op:Op}{i:Option TI}{P:Program}{s:St}{a:TR}{w:World}
def OT(Θ:Tab)(t:TypeId):Option TI:=((Θ.look t).bind (·.elem)).bind Θ.look
def Qk(Θ:Tab)(s:St):Builtin->List Operand->List TypeId->Option TR
 |.len,[x],[t]=>match Aa1 s (Θ.look t) (s.ev x)with
  |some a=>some a
  |none=>tLen s (Θ.look t) (s.ev x)
 |.min,[x,y],_=>tMin (s.ev x) (s.ev y)
 |.max,[x,y],_=>tMax (s.ev x) (s.ev y)
 |_,_,_=>none
def AbS:Operand->Bool
 |.const (.slice none 0 0)=>true
 |_=>false
def Qi(s:St)(i:Option TI)(x:Operand):Option TR:=bif AbS x then(match i with
 |some j=>some (.ok (.one (.c (.sl j.ty) (j.sd+1) [])))
 |none=>none)else AaZ (s.ev x)
theorem I4{x:Operand}(ho:op=.move x\/op=.assign x)(h:Qi s i x=some a):QS P s op a.y:=by
 unfold Qi at h;cases e:AbS x with
 |false=>rw[e]at h;exact Pl ho h
 |true=>
  rw[e]at h;split at h
  case h_2=>grind
  rename_i j;cases h;unfold AbS at e;split at e
  case h_2=>grind
  have:WL (s.den.ev (.const (.slice none 0 0))) (SK s (.one (.c (.sl j.ty) (j.sd+1) []))):=⟨rfl,.inr ⟨rfl,_,_,_,rfl⟩⟩;rcases ho with rfl|rfl<;>exact this
def Mc:Option TI->Option Operand->Option TR
 |some i,none=>match i.ty with
  |.mp k v=>some (.ok (.one (.c (.mp k v) 1 [])))
  |_=>none
 |_,_=>none
def KI{t:TypeId}{n:Option Operand}(h:Mc i n=some a):QS P s (.makeMap t n) a.y:=by
 unfold Mc at h;split at h
 case h_2=>cases h
 split at h
 case h_2=>cases h
 cases h;exact⟨rfl,Sub.refl _⟩
def tq(Θ:Tab)(s:St)(ty:TypeId):Op->Option TR
 |.move x=>Qi s (OT Θ ty) x
 |.assign x=>Qi s (OT Θ ty) x
 |.pick c x y=>AaX (s.ev c) (s.ev x) (s.ev y)
 |.load t x=>We s (Θ.look t) (s.ev x)
 |.fieldAddr t x k=>Wg s (Θ.look t) k (s.ev x)
 |.indexAddr t x i=>Is s (OT Θ t) (s.ev x) (s.ev i)
 |.index t x i=>Wf (Θ.look t) (s.ev x) (s.ev i)
 |.nilCheck x=>tNil (s.ev x)
 |.binOp op t x y _=>tBin (Θ.look t) op (s.ev x) (s.ev y)
 |.unOp op _ x=>tUn op (s.ev x)
 |.convert u v x=>Aa2 s.r (Θ.look u) (Θ.look v) (OT Θ u) (OT Θ v) (s.ev x)
 |.extract x k=>Mg k (s.ev x)
 |.build t ps=>Wk (Θ.look t) (ps.toList.map λp=>(p.1,s.ev p.2))
 |.buildSlice t n ps=>Hr n (ps.toList.map λp=>(p.1,s.ev p.2)) (OT Θ t)
 |.alloc t=>Wm (Θ.look t)
 |.box _ x=>tBox (s.ev x)
 |.makeSlice t l c=>Aa0 (OT Θ t) (s.ev l) (s.ev c)
 |.slice t x lo B A=>match A with
  |none=>V7 s (Θ.look t) (OT Θ t) (s.ev x) (La (lo.map s.ev)) (La (B.map s.ev))
  |some _=>none
 |.call c=>match c.callee with
  |.builtin b=>Qk Θ s b c.args.toList c.argTypes.toList
  |_=>none
 |.makeFunc fn first e=>tMkF s fn first.toList e.toList
 |.makeInterface t x=>tMkI Θ s t x
 |.makeMap t n=>Mc (Θ.look t) n
 |.lookup t x i co=>Po s (Θ.look t) (s.ev x) (s.ev i) co
 |_=>none
theorem Qf{Θ:Tab}(A:Θ.OK P){ty:TypeId}(h:tq Θ s ty op=some a)(E:a.p):QS P s op a.y:=by
 unfold tq at h;split at h
 case h_1=>exact I4 (.inl rfl) h
 case h_2=>exact I4 (.inr rfl) h
 case h_3=>exact Pk h
 case h_4=>exact Pp A h E
 case h_5=>exact NB A h
 case h_6=>exact Jf A h E
 case h_7=>exact Nz A h E
 case h_8=>exact Uw h
 case h_9=>exact UF A h E
 case h_10=>exact V4 h
 case h_11=>exact Pr A h E
 case h_12=>exact KJ h
 case h_13=>exact NF A h
 case h_14=>exact It A h
 case h_15=>exact NH A h
 case h_16=>exact UE h
 case h_17=>exact Pn A h E
 case h_18=>
  split at h
  .exact Ny A h E
  .cases h
 case h_19 c=>
  obtain⟨callee,args,J⟩:=c;split at h
  case h_2=>cases h
  rename_i b F;have F:callee=.builtin b:=F;subst F;unfold Qk at h;split at h
  case h_4=>cases h
  .rename_i x t B L
   rw[Y0 (show args.toList=[x]from B),Y0 (show J.toList=[t]from L)]
   split at h
   .rename_i M ha
    cases h;exact Pq A ha
   .exact UC A h
  .rename_i x y B
   have e:args= #[x,y]:=by have B:args.toList=[x,y]:=B;cases args;simp at B;simp[B]
   subst e;exact Uz h
  .rename_i x y B
   have e:args= #[x,y]:=by grind
   subst e;exact UA h
 case h_20=>exact Uy h
 case h_21=>exact Ux A h
 case h_22=>exact KI h
 case h_23=>exact Md A h
 case h_24=>cases h
def As:V->V->Prop
 |.many t n f,v'=>v'=.dead\/∃g,v'=.many t n g/\∀k,k<n->As (f k) (g k)
 |v,v'=>v'=.dead\/Sub v v'
theorem As.of:∀{v v':V},Sub v v'->As v v':=by
 intro v
 induction v with
 |many t n f e=>intro v' h;obtain⟨g,rfl,h⟩:=h;exact .inr ⟨g,rfl,λk A=>e k (h k A)⟩
 |_=>intro v' h;exact .inr h
def As.refl(v:V):As v v:=As.of (Sub.refl v)
def As.dead:∀(v:V),As v .dead:=by
 intro v;cases v<;>exact .inl rfl
def As.mk(e:l.length=m.length)(h:∀k,k<l.length->As (l.getD k .dead) (m.getD k .dead)):As (Aj l) (Aj m):=by
 unfold Aj;rw[<-e];exact .inr ⟨_,rfl,h⟩
def As.tup(e:l.length=m.length)(h:∀k,k<l.length->As (l.getD k .dead) (m.getD k .dead)):As (DH l) (DH m):=by
 unfold DH;rw[<-e];exact .inr ⟨_,rfl,h⟩
def As.pk{t:Tg}(e:l.length=m.length)(h:∀k,k<l.length->As (l.getD k .dead) (m.getD k .dead)):As (pkL t l) (pkL t m):=by
 unfold pkL;rw[<-e];exact .inr ⟨_,rfl,h⟩
theorem Rel.subS{D:Nat->Prop}{R:V->Value->Prop}:∀{v v':V}{cv:Value},As v v'->Rel D w R v cv noF->Rel D w R v' cv noF:=by
 intro v
 induction v with
 |many t n f E=>
  intro v' cv h e;rcases h with rfl|⟨g,rfl,h⟩
  .exact λ_ h=>h
  obtain⟨cs,F,B,hn,e,hd,J⟩:=e;have M:=λk A=>Bb λb L=>(J b).2 ⟨k,A,L⟩
  exact⟨cs,λ_=>noF,B,hn,λk A=>E k (h k A) (by grind),λ_ _ _ _ _ _ h=>h.elim,λb=>⟨λh=>h.elim,fun⟨_,_,h⟩=>h⟩⟩
 |_=>
  intro v' cv h e;rcases h with rfl|h
  .exact λ_ h=>h
  .exact Rel.sub h e
theorem At.sub'{w:World}:∀{p:AW}{v e:V}{cv:Value}{s:Bool}{sz n:Nat}{f:Nat->Nat->V}{c:Value},Sub v e->At w p v cv (.nd s true sz n f) c->∃A,At w p e cv (.nd s true sz n A) c
 |[],v,e,cv,s,sz,n,f,c,h,ha=>by
  obtain⟨rfl,rfl⟩:=ha;obtain⟨g,rfl,_⟩:=h;exact⟨g,rfl,rfl⟩
 |(i,k)::p,.nd s0 true sz0 n0 f0,e,cv,s,sz,n,f,c,h,ha=>by
  obtain⟨g,rfl,h⟩:=h;obtain⟨E,B,b,o,cap,x,L,J,F⟩:=ha;obtain⟨A,M⟩:=At.sub' (h i k E B) F;exact⟨A,E,B,b,o,cap,x,L,J,M⟩
 |_::_,.nd _ false _ _ _,_,_,_,_,_,_,_,_,ha=>ha.elim
 |_::_,.c _,_,_,_,_,_,_,_,_,ha=>ha.elim
 |_::_,.dead,_,_,_,_,_,_,_,_,ha=>ha.elim
 |_::_,.many ..,_,_,_,_,_,_,_,_,ha=>ha.elim
 |_::_,.rs ..,_,_,_,_,_,_,_,_,ha=>ha.elim
 |_::_,.rp ..,_,_,_,_,_,_,_,_,ha=>ha.elim
 |_::_,.rm ..,_,_,_,_,_,_,_,_,ha=>ha.elim
 |_::_,.mp ..,_,_,_,_,_,_,_,_,ha=>ha.elim
theorem At.subM{w:World}:∀{p:AW}{v e:V}{cv:Value}{l:List (Value×Value)}{c:Value},Sub v e->At w p v cv (.mp true l) c->At w p e cv (.mp true l) c
 |[],v,e,cv,l,c,h,ha=>by
  obtain⟨rfl,rfl⟩:=ha;cases h;exact⟨rfl,rfl⟩
 |(i,k)::p,.nd s0 true sz0 n0 f0,e,cv,l,c,h,ha=>by
  obtain⟨g,rfl,h⟩:=h;obtain⟨B,A,b,o,cap,x,J,F,E⟩:=ha;exact⟨B,A,b,o,cap,x,J,F,At.subM (h i k B A) E⟩
 |_::_,.nd _ false _ _ _,_,_,_,_,_,ha=>ha.elim
 |_::_,.c _,_,_,_,_,_,ha=>ha.elim
 |_::_,.dead,_,_,_,_,_,ha=>ha.elim
 |_::_,.many ..,_,_,_,_,_,ha=>ha.elim
 |_::_,.rs ..,_,_,_,_,_,ha=>ha.elim
 |_::_,.rp ..,_,_,_,_,_,ha=>ha.elim
 |_::_,.rm ..,_,_,_,_,_,ha=>ha.elim
 |_::_,.mp ..,_,_,_,_,_,ha=>ha.elim
theorem Am.sub{σ σ':List V}{ρ:Nat->Value}(J:σ'.length=σ.length)(B:∀i,i<σ.length->Sub (σ.getD i .dead) (σ'.getD i .dead)):∀v cv,Am σ ρ w v cv->Am σ' ρ w v cv
 |.rs id p off len,cv,⟨e,sz,n,f,F,ha,r⟩=>by
  obtain⟨E,A⟩:=At.sub' (B id e) ha;exact⟨by grind,sz,n,E,F,A,r⟩
 |.rp id p i k,cv,⟨e,s,sz,n,f,b,o,cap,ha,r⟩=>by
  obtain⟨E,A⟩:=At.sub' (B id e) ha;exact⟨by omega,s,sz,n,E,b,o,cap,A,r⟩
 |.rm id p,cv,⟨e,l,b,ha,r⟩=>⟨by omega,l,b,At.subM (B id e) ha,r⟩
 |.mp ..,_,h=>h.elim
 |.c _,_,h=>h.elim
 |.dead,_,h=>h.elim
 |.many ..,_,h=>h.elim
 |.nd ..,_,h=>h.elim
theorem CR.sub{C:Ctx}{σ σ' ts ts':List V}{cts:Array Value}{w:World}{D:Nat->Prop}{ρ:Nat->Value}{F:Nat->Nat->Prop}(h:CR C σ ts cts w D ρ F)(B:σ'.length=σ.length)(A:∀i,i<σ.length->Sub (σ.getD i .dead) (σ'.getD i .dead))
  (e:ts'.length=ts.length) (J:∀i,i<ts.length->As (ts.getD i .dead) (ts'.getD i .dead)):CR C σ' ts' cts w D ρ F:=by
 refine⟨⟨λi L=>Rel.sub (A i (by omega)) (h.wr.rel i (by omega)),h.wr.disj,h.wr.dD,h.wr.Dlt,λi b L=>h.wr.out i b (by omega)⟩,by rw[h.sz,e],λt E=>?_,h.fr,h.Fn,h.D1,h.D2,h.rt,by rw[B];exact h.ml⟩
 exact Rel.subS (J t (by omega)) (Rel.mono (λ_ h=>h) (Am.sub B A) _ _ _ (λ_ _=>rfl) (h.tm t (by omega)))
theorem AU.sub{C:Ctx}{N:Nat}{S S':Ms}{a:Act}{w:World}(h:AU C N S a w)(L:S'.σ.length=S.σ.length)(J:∀i,i<S.σ.length->Sub (S.σ.getD i .dead) (S'.σ.getD i .dead))(E:∀i,As (S.t i) (S'.t i)):AU C N S' a w:=by
 obtain⟨hd,e,D,ρ,F,A⟩:=h;refine⟨hd,λx B=>?_,D,ρ,F,A.sub L J (by simp) λi M=>?_⟩
 .have:=E x
  rw[e x B]at this;rcases this with h|h
  .exact h
  trivial
 grind
def Cl.frz:Cl->Cl
 |.c t _ x=>.c t 0 x
 |y=>y
def Sl.frz:Sl->Option Sl
 |.one y=>some (.one y.frz)
 |.new l=>match DO l with
  |some ⟨t,x⟩=>some (.one (.c (.ptr t) 0 x))
  |none=>none
 |.agg l=>some (.agg (l.map Cl.frz))
 |.pk t l=>some (.pk t (l.map Cl.frz))
 |.tup l=>some (.tup (l.map λp=>(p.1,p.2.map Cl.frz)))
theorem Cl.frz_v(y:Cl):Go.Ve.frz (y.v r)=y.frz.v r:=by
 cases y with
 |c t d x=>
  cases ho:t.one with
  |true=>exact Q5 ho d x
  |false=>cases t<;>first|rfl|trivial
 |_=>rfl
theorem Ul(l:List Cl):Go.Ve.frz (Aj (l.map (Cl.v r)))=Aj ((l.map Cl.frz).map (Cl.v r)):=by
 rw[frz_mk,List.map_map,List.map_map]
 congr 1
 exact List.map_congr_left λy _=>Cl.frz_v y
theorem Sl.frz_v{r:List Ac}{y y':Sl}(h:y.frz=some y'):Go.Ve.frz (y.v r)=y'.v r:=by
 cases y with
 |one c=>cases h;exact Cl.frz_v c
 |new l=>
  unfold Sl.frz at h;simp only at h;split at h
  .rename_i t x e
   cases h;show Go.Ve.frz (Bi true (l.map Cl.v0))=Bi false (tyV t 0 x);rw[MV,Ha _ _ e]
  .cases h
 |agg l=>cases h;exact Ul l
 |pk t l=>
  cases h;show Go.Ve.frz (pkL t (l.map (Cl.v r)))=pkL t ((l.map Cl.frz).map (Cl.v r));rw[frz_pk,List.map_map,List.map_map]
  congr 1
  exact List.map_congr_left λy _=>Cl.frz_v y
 |tup l=>
  cases h;show Go.Ve.frz (DH _)=DH _;rw[Ab2,List.map_map,List.map_map]
  congr 1
  refine List.map_congr_left λp _=>?_
  obtain⟨b,l⟩:=p;cases b with
  |true=>exact Ul l
  |false=>
   show Go.Ve.frz ((l.map (Cl.v r)).getD 0 .dead)=((l.map Cl.frz).map (Cl.v r)).getD 0 .dead;rw[AG (a:=.dead) rfl,Cl.frz_v];simp only[gDE,List.getElem?_map];cases l[0]? <;>rfl
def Cl.chk(m:Nat):Cl->Cl
 |.rf id p=>bif Nat.blt id m then .rf id p else .dead
 |.rs id p off len=>bif Nat.blt id m then .rs id p off len else .dead
 |.rp id p i k=>bif Nat.blt id m then .rp id p i k else .dead
 |y=>y
def Sl.chk(m:Nat):Sl->Sl
 |.one y=>.one (y.chk m)
 |.new l=>.new l
 |.agg l=>.agg (l.map (Cl.chk m))
 |.pk t l=>.pk t (l.map (Cl.chk m))
 |.tup l=>.tup (l.map λp=>(p.1,p.2.map (Cl.chk m)))
def Cl.chk_v{r':List Ac}(A:∀id,id<r.length->r'.getD id .dead=r.getD id .dead)(y:Cl):As (y.v r) ((y.chk r.length).v r'):=by
 cases y with
 |rf id p=>
  show As _ ((bif Nat.blt id r.length then Cl.rf id p else .dead).v r');cases e:Nat.blt id r.length with
  |false=>exact As.dead _
  |true=>
   have e:=blE e;show As (V.rs id p 0 (Ae r id p).len) (V.rs id p 0 (Ae r' id p).len);unfold Ae;rw[A id e];exact As.refl _
 |rs id p off len=>
  show As _ ((bif Nat.blt id r.length then Cl.rs id p off len else .dead).v r');cases e:Nat.blt id r.length with
  |false=>exact As.dead _
  |true=>exact As.refl _
 |rp id p off len=>
  show As _ ((bif Nat.blt id r.length then Cl.rp id p off len else .dead).v r');cases e:Nat.blt id r.length with
  |false=>exact As.dead _
  |true=>exact As.refl _
 |_=>exact As.refl _
theorem BJ{l:List Cl}{f g:Cl->V}(A:f .dead=.dead)(e:g .dead=.dead)(h:∀y,As (f y) (g y))(k:Nat):As ((l.map f).getD k .dead) ((l.map g).getD k .dead):=by grind
theorem Sl.chk_v{r r':List Ac}(A:∀id,id<r.length->r'.getD id .dead=r.getD id .dead)(y:Sl):As (y.v r) ((y.chk r.length).v r'):=by
 have agg:∀l:List Cl,As (Aj (l.map (Cl.v r))) (Aj ((l.map (Cl.chk r.length)).map (Cl.v r'))):=by
  intro l;refine As.mk (by simp) λk _=>?_
  rw[List.map_map];exact BJ rfl rfl (λy=>Cl.chk_v A y) k
 cases y with
 |one c=>exact Cl.chk_v A c
 |new l=>exact As.refl _
 |agg l=>exact agg l
 |pk t l=>
  refine As.pk (by simp) λk _=>?_
  rw[List.map_map];exact BJ rfl rfl (λy=>Cl.chk_v A y) k
 |tup l=>
  refine As.tup (by simp) λk B=>?_
  have B:k<l.length:=by simpa using B
  simp only[gDE,List.getElem?_map,gEE B,Option.map_some,Option.getD_some];generalize l[k]=p;obtain⟨b,m⟩:=p;cases b with
  |true=>exact agg m
  |false=>
   have:=BJ (l:=m) (f:=Cl.v r) rfl rfl (λy=>Cl.chk_v A y) 0
   have e:(m.map λy=>(y.chk r.length).v r')=(m.map (Cl.chk r.length)).map (Cl.v r'):=by rw[List.map_map];rfl
   grind
end Go.Ve

