/- The typed machine: structs that are built, new memory, slices of slices. -/
import Derived.Test.YtgobokfkomalhaaTc
import Derived.Test.YtgobokfkomalhaaVr
import Derived.Test.YtgobokfkomalhaaVwa
import Derived.Test.YtgobokfkomalhaaXa
namespace Go.Ve
variable{ps:Array (Nat×Operand)}{y:Cl}{r:List Ae}{l:List Cl}{m:List V}{d:Nat}{lo:Option Operand}{P:Program}{s:St}{a:TR}{Θ:Tab}{t:TypeId}
def CW:List V->List V->Prop
 | [],[]=>True
 |a::l,b::m=>Sub a b/\CW l m
 |_,_=>False
theorem CW.len: ∀ {l m:List V},CW l m->l.length=m.length
 | [],[],_=>rfl
 |_::_,_::_,h=>by simp [CW.len h.2]
 | [],_::_,h=>h.elim
 |_::_,[],h=>h.elim
theorem CW.getD: ∀ {l m:List V} (_:CW l m) (k:Nat),Sub (l.getD k .dead) (m.getD k .dead)
 | [],[],_,_=>Sub.refl _
 |_::_,_::_,h,0=>h.1
 |_::_,_::_,h,k+1=>CW.getD h.2 k
 | [],_::_,h,_=>h.elim
 |_::_,[],h,_=>h.elim
theorem CW.app: ∀ {l m l' m':List V},CW l m->CW l' m'->CW (l++l') (m++m')
 | [],[],_,_,_,h=>h
 |_::_,_::_,_,_,h,h'=>⟨h.1,CW.app h.2 h'⟩
 | [],_::_,_,_,h,_=>h.elim
 |_::_,[],_,_,h,_=>h.elim
theorem CW.mk{l:List V}(h:CW l m):Sub (Aj l) (Aj m):=by
 unfold Aj;rw [h.len];exact⟨_,rfl,λk _=>h.getD k⟩
theorem CW.obj{o:Bool}{l:List V}(h:CW l m):Sub (Br o l) (Br o m):=by
 unfold Br;rw [h.len];refine⟨_,rfl,λi k hi _=>?_⟩
 obtain rfl:i=0:=by omega
 exact h.getD k
theorem Eqv.symm: ∀ {v v':V},Eqv v v'->Eqv v' v:=by
 intro v
 induction v with
 |c v=>intro v' h;cases h;rfl
 |dead=>intro v' h;cases h;rfl
 |many t n f ih=>intro v' h;obtain⟨g,rfl,h⟩:=h;exact⟨f,rfl,λk hk=>ih k (h k hk)⟩
 |nd s own sz n f ih=>intro v' h;obtain⟨g,rfl,h⟩:=h;exact⟨f,rfl,λi k hi hk=>ih i k (h i k hi hk)⟩
 |rs id p off len=>intro v' h;cases h;rfl
 |rp id p i k=>intro v' h;cases h;rfl
def Od(a b:Nat):Nat:=bif Nat.ble a b then a else b
theorem Im(a b:Nat):Od a b=min a b:=by
 unfold Od;cases h:Nat.ble a b with
 |true=>simp_all
 |false=>
  have: ¬a<=b:=λe=>by rw [Nat.ble_eq_true_of_le e]at h;grind
  grind
def dOK(t:Ty)(d d':Nat):Bool:=Nat.beq t.dep 0||Nat.beq d d'
theorem Mg{t:Ty}{d':Nat}(h:dOK t d d'=true):min d t.dep=min d' t.dep:=by
 unfold dOK at h;rw [Bool.or_eq_true]at h;rcases h with h|h
 ·simp_all
 simp_all
def fit(d':Nat):Cl->Cl
 | .c t d x=>bif Nat.beq (Od d t.dep) (Od d' t.dep)then .c t d' x else .c t d x
 |y=>y
def Hb(t:Ty)(d:Nat):Cl->Option t.T
 | .c t' d' x=>if h:t'=t then(bif dOK t d' d then some (h▸x)else none)else none
 | .nil=>match t with
  | .sl _=>some []
  |_=>none
 |_=>none
def LM(t:Ty)(d:Nat):List Cl->Option (t.T×List Cl)
 |c::l=>match Hb t d c with
  |some x=>some (x,l)
  |none=>none
 | []=>none
def AaH:(t:Ty)->Nat->List Cl->Option (t.T×List Cl)
 | .unit,_,l=>some ((),l)
 | .pair a b,d,l=>match AaH a d l with
  |some (x,l)=>match AaH b d l with
   |some (y,l)=>some ((x,y),l)
   |none=>none
  |none=>none
 | .int k,d,l=>LM (.int k) d l
 | .bool,d,l=>LM .bool d l
 | .str,d,l=>LM .str d l
 | .sl t,d,l=>LM (.sl t) d l
 | .ptr t,d,l=>LM (.ptr t) d l
 | .clo g t,d,l=>LM (.clo g t) d l
 | .osl t,d,l=>LM (.osl t) d l
def Ii(t:Ty)(d:Nat)(l:List Cl):Option t.T:=match AaH t d l with
 |some (x,[])=>some x
 |_=>none
theorem LN{t:Ty}{c:Cl}{x:t.T}(h:Hb t d c=some x)(r:List Ae):Sub (c.v r) (cV t d x)/\c.v r=c.v0:=by
 unfold Hb at h;split at h
 ·rename_i t' d' x'
  split at h
  case isFalse=>grind
  rename_i ht;subst ht;cases hd:dOK t' d' d with
  |false=>grind
  |true=>
   rw [hd]at h;cases h;exact⟨Sub.of_eq (IK (Mg hd)),rfl⟩
 ·split at h
  ·cases h
   exact⟨.inr ⟨rfl,_,_,_,rfl⟩,rfl⟩
  grind
 grind
theorem Ha{t:Ty}(ht:t.one=true){l':List Cl}{x:t.T}(h:LM t d l=some (x,l'))(r:List Ae): ∃m,l=m++l'/\CW (m.map (Cl.v r)) (tyV t d x)/\m.map (Cl.v r)=m.map Cl.v0:=by
 unfold LM at h;split at h
 ·rename_i c l0
  split at h
  ·rename_i y hy
   cases h;obtain⟨h1,h2⟩:=LN hy r;exact⟨[c],rfl,by rw [BM ht];trivial,by grind⟩
  grind
 grind
theorem PC(r:List Ae): ∀ (t:Ty) (d:Nat) (l l':List Cl) (x:t.T),AaH t d l=some (x,l')->∃m,l=m++l'/\CW (m.map (Cl.v r)) (tyV t d x)/\m.map (Cl.v r)=m.map Cl.v0
 | .unit,d,l,l',x,h=>by cases h;exact⟨[],rfl,trivial,rfl⟩
 | .int k,d,l,l',x,h=>Ha rfl h r
 | .bool,d,l,l',x,h=>Ha rfl h r
 | .str,d,l,l',x,h=>Ha rfl h r
 | .sl t,d,l,l',x,h=>Ha rfl h r
 | .ptr t,d,l,l',x,h=>Ha rfl h r
 | .clo g t,d,l,l',x,h=>Ha rfl h r
 | .osl t,d,l,l',x,h=>Ha rfl h r
 | .pair a b,d,l,l',x,h=>by
  unfold AaH at h;split at h
  ·rename_i y l1 h1
   split at h
   ·rename_i z l2 h2
    cases h;obtain⟨m1,e1,s1,t1⟩:=PC r a d l l1 y h1;obtain⟨m2,e2,s2,t2⟩:=PC r b d l1 l' z h2;subst e2;subst e1;exact⟨m1++m2,by simp,by rw [List.map_append];exact s1.app s2,by grind⟩
   grind
  grind
theorem C2{t:Ty}{x:t.T}(h:Ii t d l=some x)(r:List Ae):CW (l.map (Cl.v r)) (tyV t d x)/\l.map (Cl.v r)=l.map Cl.v0:=by
 unfold Ii at h;split at h
 ·rename_i y hy
  cases h;obtain⟨m,e,h1,h2⟩:=PC r t d l [] x hy
  grind
 grind
theorem I8(r:List Ae): ∀t:Ty,(H0 t).map (Cl.v r)=(B1 t).map .c
 | .int _=>rfl
 | .bool=>rfl
 | .str=>rfl
 | .sl _=>rfl
 | .ptr _=>rfl
 | .unit=>rfl
 | .clo _ _=>rfl
 | .osl _=>rfl
 | .pair a b=>by simp [H0,B1,I8 r a,I8 r b]
theorem Of: ∀t:Ty,CW ((B1 t).map .c) ((UB t).map Cl.v0)
 | .int _=>⟨Sub.refl _,trivial⟩
 | .bool=>⟨Sub.refl _,trivial⟩
 | .str=>⟨Sub.refl _,trivial⟩
 | .sl _=>⟨.inr ⟨rfl,_,_,_,rfl⟩,trivial⟩
 | .ptr _=>⟨Sub.refl _,trivial⟩
 | .clo _ _=>⟨Sub.refl _,trivial⟩
 | .osl _=>⟨.inr ⟨rfl,_,_,_,rfl⟩,trivial⟩
 | .unit=>trivial
 | .pair a b=>by simp [B1,UB,List.map_append];exact(Of a).app (Of b)
def Ty.noPtr:Ty->Bool
 | .ptr _=>false
 | .clo _ _=>false
 | .osl _=>false
 | .pair a b=>a.noPtr&&b.noPtr
 |_=>true
theorem Oe(d:Nat): ∀t:Ty,t.noPtr=true->CW ((B1 t).map .c) (tyV t d t.dflt)
 | .int _,_=>⟨Sub.refl _,trivial⟩
 | .bool,_=>⟨Sub.refl _,trivial⟩
 | .str,_=>⟨Sub.refl _,trivial⟩
 | .sl _,_=>⟨.inr ⟨rfl,_,_,_,rfl⟩,trivial⟩
 | .unit,_=>trivial
 | .pair a b,h=>by
  simp [Ty.noPtr,bAE]at h;simp [B1,tyV];exact(Oe d a h.1).app (Oe d b h.2)
theorem Hn: ∀t:Ty,(B1 t).length=t.w
 | .int _=>rfl
 | .bool=>rfl
 | .str=>rfl
 | .sl _=>rfl
 | .ptr _=>rfl
 | .unit=>rfl
 | .clo _ _=>rfl
 | .osl _=>rfl
 | .pair a b=>by simp [B1,Ty.w,Hn a,Hn b]
def Cl.plain:Cl->Bool
 | .dead=>false
 | .c .unit _ _=>false
 | .c (.pair _ _) _ _=>false
 | .c (.clo _ _) _ _=>false
 | .c (.osl _) _ _=>false
 |y=>!y.own
def Sl.cells:Sl->Option (List Cl)
 | .one y=>bif y.plain then some [y]else none
 | .agg l=>bif l.all Cl.plain then some l else none
 |_=>none
theorem VO(h:y.plain=true):one1 (y.v r)=true/\AQ (y.v r)=false/\BC (y.v r)=true/\Go.Ve.cellsV (y.v r)= [y.v r]:=by
 cases y with
 |c t d x=>cases t<;>cases d<;>first|trivial|rfl
 |dead=>cases h
 |_=>trivial
theorem CM{y:Sl}(h:y.cells=some l):BC (y.v r)=true/\Go.Ve.cellsV (y.v r)=l.map (Cl.v r)/\l.all Cl.plain=true:=by
 unfold Sl.cells at h;split at h
 ·rename_i c
  cases hb:c.plain with
  |false=>grind
  |true=>
   rw [hb]at h;cases h;obtain⟨_,_,h1,h2⟩:=VO hb;exact⟨h1,h2,by grind⟩
 ·rename_i l'
  cases hb:l'.all Cl.plain with
  |false=>grind
  |true=>
   rw [hb]at h;cases h;refine⟨?_,N4,hb⟩;show BC (Aj _)=true;rw [VP,List.all_map,aET];intro y hy;exact(VO (aET.1 hb y hy)).1
 grind
def Sl.cellsF:Sl->Option (List Cl)
 | .one (.c (.clo g t) d x)=>some [.c (.clo g t) d x]
 |y=>y.cells
theorem N6{y:Sl}(h:y.cellsF=some l):BC (y.v r)=true/\Go.Ve.cellsV (y.v r)=l.map (Cl.v r):=by
 unfold Sl.cellsF at h;split at h
 ·rename_i g t d x
  cases h;refine⟨?_,rfl⟩;show(!AQ (cV (.clo g t) d x))=true;have e:AQ (cV (.clo g t) d x)=false:=Ho (.clo g t) x _ (List.mem_singleton.2 rfl)
  grind
 ·obtain⟨h1,h2,_⟩:=CM (r:=r) h
  grind
def AaE(cells:List Cl):Nat->List Cl->List Cl
 |_,[]=>cells
 |off,y::l=>AaE (cells.set off y) (off+1) l
theorem ZF: ∀ (l cells:List V) (off k:Nat),((l.zipIdx k).foldl (λcs (c,j)=>cs.set (off+j) c) cells)=Xv cells (off+k) l:=by
 have gen: ∀ (l cells:List V) (off k:Nat),((l.zipIdx k).foldl (λcs (c,j)=>cs.set (off+j) c) cells)=((l.zipIdx 0).foldl (λcs (c,j)=>cs.set (off+k+j) c) cells):=by
  intro l
  induction l with
  |nil=>simp
  |cons v l ih=>
   intro cells off k;simp [Nat.add_zero];rw [ih _ off (k+1),ih _ (off+k) (0+1)];rfl
 trivial
theorem Vl{v:V}{l cells:List V}{off:Nat}:Xv cells off (v::l)=Xv (cells.set off v) (off+1) l:=by
 show((v::l).zipIdx 0).foldl _ cells=_;exact ZF l _ off (0+1)
theorem Vn{r:List Ae}: ∀ (l cells:List Cl) (off:Nat),(AaE cells off l).map (Cl.v r)=Xv (cells.map (Cl.v r)) off (l.map (Cl.v r))
 | [],cells,off=>rfl
 |y::l,cells,off=>by
  rw [List.map_cons,Vl];show(AaE (cells.set off y) (off+1) l).map (Cl.v r)=_;rw [Vn l,List.map_set]
def Qv(place:Nat->Option (Nat×Nat))(cells:List Cl):List (Nat×Option Sl)->Option (List Cl)
 | []=>some cells
 |(i,y)::rest=>match place i,y with
  |some (off,size),some y=>match y.cellsF with
   |some l=>bif Nat.beq l.length size&&Nat.ble (off+size) cells.length then Qv place (AaE cells off l) rest else none
   |none=>none
  |_,_=>none
theorem Lr{s:St}{place:Nat->Option (Nat×Nat)}: ∀ (ps:List (Nat×Operand)) (cells l:List Cl),Qv place cells (ps.map λp=>(p.1,s.ev p.2))=some l->
  (ps.map λp=>(p.1,s.den.ev p.2)).all (λp=>BC p.2)=true/\Cf place (cells.map (Cl.v s.r)) (ps.map λp=>(p.1,s.den.ev p.2))=some (l.map (Cl.v s.r))
 | [],cells,l,h=>by cases h;exact⟨rfl,rfl⟩
 |(i,x)::ps,cells,l,h=>by
  rw [List.map_cons]at h;unfold Qv at h;split at h
  case h_2=>cases h
  rename_i off size y hpl hy;split at h
  case h_2=>cases h
  rename_i m hm;cases hb:(Nat.beq m.length size&&Nat.ble (off+size) cells.length)with
  |false=>rw [hb]at h;cases h
  |true=>
   rw [hb]at h;simp only [bAE]at hb;have h1:=bqE hb.1;have h2:=blE hb.2;obtain⟨g1,g2⟩:=N6 (r:=s.r) hm;obtain⟨k1,k2⟩:=Lr ps _ _ h;rw [List.map_cons,List.all_cons];refine⟨by simp only [Bc hy,g1,Bool.true_and];exact k1,?_⟩
   unfold Cf;simp only [hpl,Bc hy,g2];rw [if_neg (by grind),<-Vn]
   exact k2
def Vb:Option TI->List (Nat×Option Sl)->Option TR
 |some i,ps=>bif i.agg then(match Qv (λk=>i.places[k]?) (H0 i.ty) ps with
   |some l=>some (.ok (.agg l))
   |none=>none)
  else none
 |none,_=>none
theorem MV(hΘ:Θ.OK P)(h:Vb (Θ.look t) (ps.toList.map λp=>(p.1,s.ev p.2))=some a):QS P s (.build t ps) a.y:=by
 unfold Vb at h;split at h
 case h_2=>grind
 rename_i i hi;cases hb:i.agg with
 |false=>grind
 |true=>
  rw [hb]at h;split at h
  case h_2=>grind
  rename_i l hl;cases h;obtain⟨h1,h2⟩:=Lr _ _ _ hl;show KE (Y8 P t) (ps.toList.map λp=>(p.1,s.den.ev p.2)) (SK s _)
  rw [hΘ.bd hi,hb];unfold KE;rw [I8]at h2;simp only [if_true];rw [h2];exact⟨h1,Sub.refl _⟩
def NB(t:Ty)(d:Nat):Nat->List Cl->Option (List t.T)
 |0,[]=>some []
 |0,_::_=>none
 |n+1,l=>match AaH t d l with
  |some (x,l)=>match NB t d n l with
   |some xs=>some (x::xs)
   |none=>none
  |none=>none
theorem OE{t:Ty}(r:List Ae): ∀ (n:Nat) (l:List Cl) (xs:List t.T),NB t d n l=some xs->xs.length=n/\l.map (Cl.v r)=l.map Cl.v0/\
  ∀i k,i<n->k<t.w->Sub ((l.map (Cl.v r)).getD (i*t.w+k) .dead) ((tyV t d (xs.getD i t.dflt)).getD k .dead):=by
 intro n
 induction n with
 |zero=>
  intro l xs h;cases l with
  |nil=>cases h;exact⟨rfl,rfl,λi k hi=>by omega⟩
  |cons y l=>cases h
 |succ n ih=>
  intro l xs h;unfold NB at h;split at h
  case h_2=>cases h
  rename_i x l1 h1;split at h
  case h_2=>cases h
  rename_i ys h2;cases h;obtain⟨m,e,s1,s2⟩:=PC r t d l l1 x h1;obtain⟨g1,g2,g3⟩:=ih l1 ys h2;subst e;have hm:(m.map (Cl.v r)).length=t.w:=by rw [s1.len,AA]
  refine⟨by simp [g1],by simp [s2,g2],λi k hi hk=>?_⟩
  rw [List.map_append];cases i with
  |zero=>
   simp only [Nat.zero_mul,Nat.zero_add,List.getD_cons_zero];have:=s1.getD k;rw [gDE,gAL (by omega),<-gDE]
   exact this
  |succ i=>
   have:=g3 i k (by omega) hk
   rw [List.getD_cons_succ];have e:(i+1)*t.w+k-(m.map (Cl.v r)).length=i*t.w+k:=by rw [hm,Nat.add_mul];omega
   rw [gDE,gAR (by rw [hm,Nat.add_mul];omega),e,<-gDE]
   exact this
def ZN(n:Nat)(l:List Cl):List Cl:=match n with
 |0=>[]
 |n+1=>l++ZN n l
theorem Wq: ∀ (n w:Nat) (l:List V),l.length=w->0<w->∀j,j<n*w->((List.replicate n l).flatten).getD j .dead=l.getD (j % w) .dead:=by
 intro n w l hl hw
 induction n with
 |zero=>simp
 |succ n ih=>
  intro j hj;rw [List.replicate_succ,List.flatten_cons];by_cases h:j<w
  ·rw [gDE,gAL (by omega),<-gDE,Nat.mod_eq_of_lt h]
  ·have:=Nat.add_one_mul n w
   rw [gDE,gAR (by omega),<-gDE,hl,ih (j-w) (by omega),<-Nat.mod_eq_sub_mod (by omega)]
theorem Vy(r:List Ae)(t:Ty)(n:Nat)(hw:0<t.w):(ZN n (H0 t)).map (Cl.v r)=(List.range (n*t.w)).map λj=>.c ((B1 t).getD (j % t.w) undef):=by
 have e:(ZN n (H0 t)).map (Cl.v r)=(List.replicate n ((B1 t).map V.c)).flatten:=by
  induction n with
  |zero=>rfl
  |succ n ih=>
   show((H0 t)++ZN n (H0 t)).map (Cl.v r)=_;rw [List.map_append,ih,I8,List.replicate_succ,List.flatten_cons]
 have hl:((B1 t).map V.c).length=t.w:=by rw [List.length_map,Hn]
 rw [e];apply List.ext_getElem
 ·simp_all
 ·intro j h1 h2
  have hj:=by simpa using h2
  have g:=Wq n t.w _ hl hw j hj;rw [gDE,gEE h1]at g;simp at g;rw [g];have hm:j % t.w<(B1 t).length:=by rw [Hn];exact Nat.mod_lt _ hw
  simp [hm]
def Ty.noO:Ty->Bool
 | .osl _=>false
 | .clo _ t=>t.noO
 | .pair a b=>a.noO&&b.noO
 |_=>true
theorem I1: ∀ (t:Ty) (x:t.T),t.noO=true->∀v∈tyV t 0 x,Ce v=true
 | .int _,_,_,v,h=>by simp [tyV]at h;subst h;rfl
 | .bool,_,_,v,h=>by simp [tyV]at h;subst h;rfl
 | .str,_,_,v,h=>by simp [tyV]at h;subst h;rfl
 | .sl _,_,_,v,h=>by simp only [tyV,List.mem_singleton]at h;subst h;rfl
 | .ptr _,_,_,v,h=>by simp only [tyV,List.mem_singleton]at h;subst h;rfl
 | .unit,_,_,v,h=>by trivial
 | .pair a b,x,ho,v,h=>by
  simp only [Ty.noO,bAE]at ho;simp only [tyV,List.mem_append]at h;exact h.elim (I1 a x.1 ho.1 v) (I1 b x.2 ho.2 v)
 | .osl _,_,ho,_,_=>by cases ho
 | .clo g t,x,ho,v,h=>by
  simp only [tyV,List.mem_singleton]at h;subst h;show((List.range t.w).all λk=>Ce ((tyV t 0 x).getD k .dead))=true
  rw [aET];intro k hk;have hk:k<(tyV t 0 x).length:=by rw [AA];grind
  rw [gDE,gEE hk];exact I1 t x ho _ (List.getElem_mem hk)
def Cl.imm:Cl->Bool
 | .c .unit _ _=>false
 | .c (.pair _ _) _ _=>false
 | .c (.clo _ _) _ _=>false
 | .c (.osl _) _ _=>false
 | .c t d x=>!(Cl.c t d x).own
 | .nil=>true
 | .nilp=>true
 | .nilf=>true
 |_=>false
theorem OW(h:y.imm=true):Ce (y.v r)=true/\y.v r=y.v0:=by
 cases y with
 |c t d x=>cases t<;>cases d<;>first|trivial|rfl
 |nil=>trivial
 |nilp=>trivial
 |nilf=>trivial
 |_=>cases h
def Cl.immF:Cl->Bool
 | .c (.clo _ t) _ _=>t.noO
 |y=>y.imm
theorem immF_v(h:y.immF=true):Ce (y.v r)=true:=by
 unfold Cl.immF at h;split at h
 ·rename_i g t d x
  exact I1 (.clo g t) x h _ (List.mem_singleton.2 rfl)
 ·exact(OW h).1
theorem Aag(h:l.all Cl.immF=true):(l.map (Cl.v r)).all Ce=true:=by
 rw [List.all_map,aET];intro y hy;exact immF_v (aET.1 h y hy)
theorem imms_v(h:l.all Cl.imm=true):(l.map (Cl.v r)).all Ce=true/\l.map (Cl.v r)=l.map Cl.v0:=by
 refine⟨?_,List.map_congr_left λy hy=>(OW (aET.1 h y hy)).2⟩
 rw [List.all_map,aET];intro y hy;exact(OW (aET.1 h y hy)).1
def D5(n:Nat)(ps:List (Nat×Option Sl)):Option TI->Option TR
 |some j=>bif Nat.blt 0 j.ty.w&&Nat.ble (n*j.ty.w) 16777216 then(bif Nat.beq n 0 then(match ps with
  | []=>some (.ok (.one (.c (.sl j.ty) (j.sd+1) [])))
  |_::_=>none)else match Qv (λi=>some (i*j.ty.w,j.ty.w)) (ZN n (H0 j.ty)) ps with
   |some l=>bif l.all Cl.immF then(match NB j.ty j.sd n l with
    |some xs=>some (.ok (.one (.c (.sl j.ty) (j.sd+1) xs)))
    |none=>match NB j.ty 0 n l with
     |some xs=>some (.ok (.one (.c (.sl j.ty) 1 xs)))
     |none=>none)else none
   |none=>none)
  else none
 |none=>none
theorem H6(hΘ:Θ.OK P){n:Nat}(h:D5 n (ps.toList.map λp=>(p.1,s.ev p.2)) (((Θ.look t).bind (·.elem)).bind Θ.look)=some a):QS P s (.buildSlice t n ps) a.y:=by
 unfold D5 at h;split at h
 case h_2=>cases h
 rename_i j hj;obtain⟨e,hsl,_⟩:=C9 hΘ hj;cases hb:(Nat.blt 0 j.ty.w&&Nat.ble (n*j.ty.w) 16777216)with
 |false=>rw [hb]at h;cases h
 |true=>
  rw [hb]at h;simp only [bAE]at hb;have hw:=Kj hb.1;have hn:=blE hb.2;simp only [cond_true]at h;cases h0:Nat.beq n 0 with
  |true=>
   rw [h0]at h;simp only [cond_true]at h;have h0:=bqE h0;subst h0;split at h
   case h_2=>cases h
   rename_i hps;cases h;have hps':ps.toList= []:=by simpa using hps
   show B9 (slI P t) (ZI P t) 0 (ps.toList.map λp=>(p.1,s.den.ev p.2)) (SK s _)
   rw [hsl,hps'];refine⟨rfl,⟨hw,hn⟩,?_⟩;simp only [Nat.zero_mul,List.range_zero,List.map_nil,Cf];refine⟨rfl,?_⟩;refine(Eqv.sub (Eqv.symm (Lw (ZI P t) j.ty.w 0 _))).trans ?_;show Sub _ (arr true j.ty.w (tyV j.ty j.sd) j.ty.dflt []);exact⟨_,rfl,λi k hi hk=>by omega⟩
  |false=>
  rw [h0]at h;simp only [cond_false]at h;split at h
  case h_2=>cases h
  rename_i l hl;cases hi:l.all Cl.immF with
  |false=>rw [hi]at h;cases h
  |true=>
   rw [hi]at h;simp only [cond_true]at h
   have key: ∀ (d:Nat) (xs:List j.ty.T),NB j.ty d n l=some xs->a= .ok (.one (.c (.sl j.ty) (d+1) xs))->QS P s (.buildSlice t n ps) a.y:=by
    intro d xs hxs ha;subst ha;obtain⟨h1,h2⟩:=Lr _ _ _ hl;rw [Vy s.r j.ty n hw]at h2;show B9 (slI P t) (ZI P t) n (ps.toList.map λp=>(p.1,s.den.ev p.2)) (SK s _)
    rw [hsl];refine⟨h1,⟨hw,hn⟩,?_⟩;rw [h2];refine⟨Aag hi,?_⟩;obtain⟨g1,g2,g3⟩:=OE s.r n l xs hxs;refine(Eqv.sub (Eqv.symm (Lw (ZI P t) j.ty.w n _))).trans ?_;show Sub _ (arr true j.ty.w (tyV j.ty d) j.ty.dflt xs);unfold arr;rw [g1];exact⟨_,rfl,λi k hi hk=>g3 i k hi hk⟩
   split at h
   ·rename_i xs hxs
    cases h;exact key _ xs hxs rfl
   ·split at h
    case h_2=>cases h
    rename_i xs hxs;cases h;exact key 0 xs hxs rfl
def Vf:Option TI->Option TR
 |some i=>bif Nat.blt 0 i.ty.w then some (.ok (.new (UB i.ty)))else none
 |none=>none
theorem MX(hΘ:Θ.OK P)(h:Vf (Θ.look t)=some a):QS P s (.alloc t) a.y:=by
 unfold Vf at h;split at h
 case h_2=>grind
 rename_i i hi;cases hb:Nat.blt 0 i.ty.w with
 |false=>grind
 |true=>
  rw [hb]at h;cases h;show Nt (tyI P t) (SK s _);rw [hΘ.ty hi];exact⟨Kj hb,(Of i.ty).obj⟩
def tBox:Option Sl->Option TR
 |some y=>match y.cells with
  |some l=>bif l.all Cl.imm then some (.ok (.new l))else some (.ok (.pk .bx l))
  |none=>none
 |none=>none
theorem Qw{x:Operand}(h:tBox (s.ev x)=some a):QS P s (.box t x) a.y:=by
 unfold tBox at h;split at h
 case h_2=>grind
 rename_i y hy;split at h
 case h_2=>grind
 rename_i l hl;cases hb:l.all Cl.imm with
 |false=>
  rw [hb]at h;cases h;obtain⟨h1,h2,_⟩:=CM hl;show qBox (s.den.ev x) (SK s _);rw [Bc hy];refine⟨h1,.inr ?_⟩;rw [h2];exact Sub.refl _
 |true=>
  rw [hb]at h;cases h;obtain⟨h1,h2,_⟩:=CM hl;obtain⟨g1,g2⟩:=imms_v (r:=s.r) hb;show qBox (s.den.ev x) (SK s _);rw [Bc hy];refine⟨h1,.inl ⟨by grind,?_⟩⟩
  rw [h2,g2];exact Sub.refl _
def Zw:Option TI->Option Sl->Option Sl->Option TR
 |some j,some (.one (.c (.int _) _ l)),some (.one (.c (.int _) _ c))=>
  bif Nat.blt 0 j.ty.w&&j.ty.noPtr then some (.cnd (0<=l/\l<=c/\(j.bytes:Int)*c<=281474976710656/\c<=9223372036854775807) inferInstance (.one (.c (.sl j.ty) (j.sd+1) (YE (JE l) j.ty.dflt))))else none
 |_,_,_=>none
theorem Q3(deep:Bool){t:Ty}(d n:Nat)(h:t.noPtr=true):Sub (V1 deep t.w n (B1 t)) (cV (.sl t) (d+1) (List.replicate n t.dflt)):=by
 have gen:Sub (arr true t.w (λx=>x) [] (List.replicate n ((B1 t).map .c))) (cV (.sl t) (d+1) (List.replicate n t.dflt)):=by
  have e0:cV (.sl t) (d+1) (List.replicate n t.dflt)=arr true t.w (tyV t d) t.dflt (List.replicate n t.dflt):=by rfl
  rw [e0];unfold arr;rw [List.length_replicate,List.length_replicate];refine⟨_,rfl,λi k hi _=>?_⟩
  have e1:(List.replicate n ((B1 t).map V.c)).getD i []=(B1 t).map .c:=by grind
  have e2:(List.replicate n t.dflt).getD i t.dflt=t.dflt:=by grind
  show Sub (((List.replicate n ((B1 t).map V.c)).getD i []).getD k .dead) ((tyV t d ((List.replicate n t.dflt).getD i t.dflt)).getD k .dead);rw [e1,e2];exact(Oe d t h).getD k
 trivial
theorem Oq(hΘ:Θ.OK P){l c:Operand}(h:Zw (((Θ.look t).bind (·.elem)).bind Θ.look) (s.ev l) (s.ev c)=some a)(hp:a.p):QS P s (.makeSlice t l c) a.y:=by
 unfold Zw at h;split at h
 case h_2=>grind
 rename_i j _ _ li _ _ ci hj hl hc;obtain⟨e,hsl,_⟩:=C9 hΘ hj;cases hb:(Nat.blt 0 j.ty.w&&j.ty.noPtr)with
 |false=>grind
 |true=>
  rw [hb]at h;simp only [bAE]at hb;cases h;show VJ (slI P t) (ZI P t) (s.den.ev l) (s.den.ev c) (SK s _);rw [hsl,Bc hl,Bc hc];exact⟨Kj hb.1,hp,Q3 _ _ _ hb.2⟩
def Kr:Option (Option Sl)->Option (Option Int)
 |none=>some none
 |some (some (.one (.c (.int _) _ n)))=>some (some n)
 |_=>none
def UY(s:St):Option TI->Option TI->Option Sl->Option (Option Int)->Option (Option Int)->Option TR
 |some i,_,some (.one (.c .str _ b)),some lo,some hi=>
  bif i.str then some (.cnd (0<=lo.getD 0/\lo.getD 0<=hi.getD (ofN (Lx b))/\hi.getD (ofN (Lx b))<=ofN (Lx b)) inferInstance (.one (.c .str 0 (cutS b (JE (lo.getD 0)) (JE (hi.getD (ofN (Lx b))))))))else none
 |some i,some j,some (.one (.c (.sl t) 0 xs)),some lo,some hi=>
  bif Nat.beq t.w j.ty.w&& !i.str then some (.cnd (0<=lo.getD 0/\lo.getD 0<=hi.getD (ofN (Io xs))/\hi.getD (ofN (Io xs))<=ofN (Io xs)) inferInstance
   (.one (.c (.sl t) 0 (match lo,hi with
    |none,none=>xs
    |some l,none=>O2 (JE l) xs
    |none,some h=>Oj (JE h) xs
    |some l,some h=>Oj (JE h-JE l) (O2 (JE l) xs)))))else none
 |some i,some j,some (.one (.rf id p)),some lo,some hi=>
  match Ag s.r id p with
  | .arr _ t _ xs=>bif Nat.beq t.w j.ty.w&& !i.str then some (.cnd (0<=lo.getD 0/\lo.getD 0<=hi.getD (ofN (Io xs))/\hi.getD (ofN (Io xs))<=ofN (Io xs)) inferInstance
    (.one (.rs id p (JE (lo.getD 0)) (JE (hi.getD (ofN (Io xs)))-JE (lo.getD 0)))))else none
  |_=>none
 |some i,some j,some (.one (.rs id p off len)),some lo,some hi=>
  match Ag s.r id p with
  | .arr _ t _ _=>bif Nat.beq t.w j.ty.w&& !i.str then some (.cnd (0<=lo.getD 0/\lo.getD 0<=hi.getD (ofN len)/\hi.getD (ofN len)<=ofN len) inferInstance
    (.one (.rs id p (off+JE (lo.getD 0)) (JE (hi.getD (ofN len))-JE (lo.getD 0)))))else none
  |_=>none
 |_,_,_,_,_=>none
theorem CQ{l:Option Int}(h:Kr (lo.map s.ev)=some l)(d:Int):bnd d (lo.map s.den.ev)=some (l.getD d):=by
 cases lo with
 |none=>cases h;rfl
 |some x=>
  simp at h⊢;unfold Kr at h;split at h
  ·grind
  ·rename_i hx
   cases h;simp at hx;rw [Bc hx];rfl
  grind
theorem MP{s:St}(hΘ:Θ.OK P){t:TypeId}{x:Operand}{lo hi:Option Operand}{a:TR}
  (h:UY s (Θ.look t) (((Θ.look t).bind (·.elem)).bind Θ.look) (s.ev x) (Kr (lo.map s.ev)) (Kr (hi.map s.ev))=some a) (hp:a.p):QS P s (.slice t x lo hi none) a.y:=by
 unfold UY at h;have goal: ∀y,KC (slK P t) (s.r.map Ae.v) (s.den.ev x) (lo.map s.den.ev) (hi.map s.den.ev) (SK s y)->QS P s (.slice t x lo hi none) y:=λy h=>⟨rfl,h⟩
 have skS: ∀ {i j:TI},Θ.look t=some i->((Θ.look t).bind (·.elem)).bind Θ.look=some j->i.str=false->slK P t= .slice j.ty.w:=by
  intro i j hi hj hs;rw [hΘ.sk hi,hs];rw [hi]at hj;simp only [Option.bind_some]at hj;rw [hj];rfl
 split at h
 case h_5=>cases h
 ·rename_i i _ b l u hI hx hlo hhi
  cases hb:i.str with
  |false=>rw [hb]at h;cases h
  |true=>
   rw [hb]at h;cases h;refine goal _ ?_;rw [hΘ.sk hI,hb,Bc hx];unfold KC
   show(match bnd 0 (lo.map s.den.ev),bnd b.size (hi.map s.den.ev)with
    |some l,some h=>_
    |_,_=>False)
   rw [CQ hlo,CQ hhi];exact⟨hp,Sub.refl _⟩
 ·rename_i i j t' xs l u hI hj hx hlo hhi
  cases hb:(Nat.beq t'.w j.ty.w&& !i.str)with
  |false=>rw [hb]at h;cases h
  |true=>
   rw [hb]at h;cases h;obtain⟨h1,h2⟩:=Iw hb;have h2:i.str=false:=by simpa using h2
   refine goal _ ?_;rw [skS hI hj h2,Bc hx]
   show(match bnd 0 (lo.map s.den.ev),bnd xs.length (hi.map s.den.ev)with
    |some l,some h=>_
    |_,_=>False)
   rw [CQ hlo,CQ hhi];refine⟨h1,hp,?_⟩;obtain⟨p1,p2,p3⟩:0<=l.getD 0/\l.getD 0<=u.getD xs.length/\u.getD xs.length<=xs.length:=hp;show Sub (V.nd true false t'.w ((u.getD xs.length).toNat-(l.getD 0).toNat) λi k=>(tyV t' 0 (xs.getD (i+(l.getD 0).toNat) t'.dflt)).getD k .dead) (arr false t'.w (tyV t' 0) t'.dflt _)
   have key: ∀ys:List t'.T,ys.length=(u.getD xs.length).toNat-(l.getD 0).toNat->(∀i,i<ys.length->ys.getD i t'.dflt=xs.getD (i+(l.getD 0).toNat) t'.dflt)->
     Sub (V.nd true false t'.w ((u.getD xs.length).toNat-(l.getD 0).toNat) λi k=>(tyV t' 0 (xs.getD (i+(l.getD 0).toNat) t'.dflt)).getD k .dead) (arr false t'.w (tyV t' 0) t'.dflt ys):=by
    intro ys hl hg;unfold arr;rw [hl];refine⟨_,rfl,λi k hi _=>?_⟩
    rw [hg i (by omega)]
    exact Sub.refl _
   cases l with
   |none=>cases u with
    |none=>exact key xs (by simp) λi hi=>by simp
    |some u=>
     simp only [Option.getD_none,Option.getD_some]at p1 p2 p3⊢;refine key _ ?_ λi hi=>?_
     ·simp only [JE,List.length_take];simp;omega
     ·simp only [JE,List.length_take]at hi
      have:i<u.toNat:=by omega
      simp [List.getElem?_take,this]
   |some l=>cases u with
    |none=>
     simp only [Option.getD_none,Option.getD_some]at p1 p2 p3⊢;refine key _ ?_ λi hi=>?_
     ·simp
     ·simp [Nat.add_comm]
    |some u=>
     simp only [Option.getD_some]at p1 p2 p3⊢;refine key _ ?_ λi hi=>?_
     ·simp only [JE,Option.getD_some,List.length_take,List.length_drop];omega
     ·simp only [JE,List.length_take,List.length_drop]at hi
      have:i<u.toNat-l.toNat:=by omega
      simp [List.getElem?_take,this,Nat.add_comm]
 ·rename_i i j id p l u hI hj hx hlo hhi
  split at h
  case h_2=>cases h
  rename_i ro t' d xs hn;have hne:Ag s.r id p≠.dead:=by rw [hn];simp
  cases hb:(Nat.beq t'.w j.ty.w&& !i.str)with
  |false=>rw [hb]at h;cases h
  |true=>
   rw [hb]at h;cases h;obtain⟨h1,h2⟩:=Iw hb;have h2:i.str=false:=by simpa using h2
   refine goal _ ?_;rw [skS hI hj h2,Bc hx];have hl:(Ag s.r id p).len=xs.length:=by rw [hn];rfl
   show(match bnd 0 (lo.map s.den.ev),bnd (Ag s.r id p).len (hi.map s.den.ev)with
    |some l,some h=>_
    |_,_=>False)
   rw [CQ hlo,CQ hhi,hl];refine⟨by rw [Ck (by rw [hn];rfl),hn];exact h1,hp,?_⟩
   show Sub (V.rs id p (0+(l.getD 0).toNat) _) (V.rs id p (l.getD 0).toNat _);rw [Nat.zero_add];exact Sub.refl _
 ·rename_i i j id p off len l u hI hj hx hlo hhi
  split at h
  case h_2=>cases h
  rename_i ro t' d xs hn;have hne:Ag s.r id p≠.dead:=by rw [hn];simp
  cases hb:(Nat.beq t'.w j.ty.w&& !i.str)with
  |false=>rw [hb]at h;cases h
  |true=>
   rw [hb]at h;cases h;obtain⟨h1,h2⟩:=Iw hb;have h2:i.str=false:=by simpa using h2
   refine goal _ ?_;rw [skS hI hj h2,Bc hx]
   show(match bnd 0 (lo.map s.den.ev),bnd len (hi.map s.den.ev)with
    |some l,some h=>_
    |_,_=>False)
   rw [CQ hlo,CQ hhi];exact⟨by rw [Ck (by rw [hn];rfl),hn];exact h1,hp,Sub.refl _⟩
end Go.Ve


namespace Go.Ve
variable{b:Bool}{y y':Cl}{f:FuncId}{r:List Ae}{ys:List Sl}{g:Nat}{D fp:Nat->Prop}{t1 t2:Nat->Sl}{op:Op}{x:Operand}{P:Program}{s:St}{Θ:Tab}{t:Ty}{v:V}{R:V->Value->Prop}{cv:Value}{w:World}
def PT:List (Bool×Ty)->Ty
 | []=>.unit
 | [p]=>p.2
 |p::q::l=>.pair p.2 (PT (q::l))
def vOf(b:Bool)(t:Ty)(d:Nat)(x:t.T):V:=if b then Aj (tyV t d x)else cV t d x
def Cu:(l:List (Bool×Ty))->(PT l).T->List V
 | [],_=>[]
 | [p],x=>[vOf p.1 p.2 0 x]
 |p::q::l,x=>vOf p.1 p.2 0 x.1::Cu (q::l) x.2
def RT:List (Bool×Nat×Ty)->Ty
 | []=>.unit
 | [p]=>p.2.2
 |p::q::l=>.pair p.2.2 (RT (q::l))
def ZL:(l:List (Bool×Nat×Ty))->(RT l).T->List V
 | [],_=>[]
 | [p],x=>[vOf p.1 p.2.2 p.2.1 x]
 |p::q::l,x=>vOf p.1 p.2.2 p.2.1 x.1::ZL (q::l) x.2
def Vx(l:List (Bool×Nat×Ty))(x:(RT l).T):V:=NA (ZL l x)
def isP(p:Bool×Nat×Ty):Bool:=!p.1&&match p.2.2 with
 | .ptr _=>true
 |_=>false
def W3(b:Bool)(p:Bool×Nat×Ty)(x:p.2.2.T):V:=bif b|| !isP p then vOf p.1 p.2.2 p.2.1 x else .c (.pointer none)
def QG(b:Bool):(l:List (Bool×Nat×Ty))->(RT l).T->List V
 | [],_=>[]
 | [p],x=>[W3 b p x]
 |p::q::l,x=>W3 b p x.1::QG b (q::l) x.2
theorem Vw: ∀ (l:List (Bool×Nat×Ty)) (x:(RT l).T),QG true l x=ZL l x
 | [],_=>rfl
 | [_],_=>rfl
 |p::q::l,x=>congrArg (vOf p.1 p.2.2 p.2.1 x.1:: ·) (Vw (q::l) x.2)
def Kd(b:Bool)(l:List (Bool×Nat×Ty))(x:(RT l).T):V:=NA (QG b l x)
theorem D9(l:List (Bool×Nat×Ty))(x:(RT l).T):Kd true l x=Vx l x:=congrArg NA (Vw l x)
structure Sig where
 ps:List (Bool×Ty)
 rs:List (Bool×Nat×Ty)
def FT(P:Program)(f:FuncId)(S:Sig)(g:(PT S.ps).T->Option (RT S.rs).T):Prop:=∀x y,g x=some y->FC P f (Cu S.ps x) (Vx S.rs y)
structure En where
 f:FuncId
 S:Sig
 g:(PT S.ps).T->Option (RT S.rs).T
variable{Γ:List En}
def look:List En->FuncId->Option En
 | [],_=>none
 |e::l,f=>bif Nat.beq e.f f then some e else look l f
def En.OK(P:Program)(e:En):Prop:=Af P e.f=true/\FT P e.f e.S e.g
def Mz(P:Program)(Γ:List En):Prop:=∀e∈Γ,e.OK P
theorem FC.sub{P:Program}{f:FuncId}{args args':List V}{r:V}(h:FC P f args r)(hs:CW args' args):FC P f args' r:=by
 intro w D cvs hk hD hsz hr;refine h w D cvs hk hD (by rw [hsz,hs.len]) λi hi=>Rel.sub (hs.getD i) (hr i (by rw [hs.len];grind))
structure EnN where
 f:FuncId
 S:Sig
 g:(PT S.ps).T->Option (Bool×(RT S.rs).T)
def PS:List EnN->FuncId->Option EnN
 | [],_=>none
 |e::l,f=>bif Nat.beq e.f f then some e else PS l f
def EnN.OK(_:Program)(_:EnN):Prop:=False
theorem PQ{P:Program}{f:FuncId}{e:EnN}: ∀ {Γ:List EnN},(∀e∈Γ,e.OK P)->PS Γ f=some e->e.OK P/\e.f=f
 | [],_,h=>by cases h
 |e'::l,hΓ,h=>by
  unfold PS at h;cases hb:Nat.beq e'.f f with
  |true=>
   simp_all
  |false=>
   rw [hb]at h;exact PQ (λe he=>hΓ e (mCM _ he)) h
def OS(s:St)(w:Nat):Cl->Option Cl
 | .c t _ x=>bif t.one then some (.c t 0 x)else none
 | .nil=>some .nil
 | .rf id p=>match Ag s.r id p with
  | .arr _ t _ xs=>some (.c (.sl t) 0 xs)
  |_=>none
 | .rs id p off len=>match Ag s.r id p with
  | .arr _ t _ xs=>some (.c (.sl t) 0 (Ks off len xs t.dflt))
  |_=>none
 | .rp id p j k=>match Ag s.r id p with
  | .obj _ l=>match j with
   |0=>bif Nat.ble (k+w) l.length then(match Hi ((l.drop k).take w)with
    |some ⟨t,x⟩=>some (.c (.ptr t) 0 x)
    |none=>none)else none
   |_+1=>none
  | .arr _ t _ xs=>bif Nat.ble (k+w) t.w then(match Hi (((AD t 0 (Aak xs j t.dflt)).drop k).take w)with
   |some ⟨t',x⟩=>some (.c (.ptr t') 0 x)
   |none=>none)else none
  |_=>none
 |_=>none
theorem Wt(h:t.one=true)(d:Nat)(x:t.T):frz (cV t d x)=cV t 0 x:=by
 have:=Bq t d x;rw [BM h,BM h]at this
 grind
def Yj(v v':V):Prop:=Sub v v'\/∃sz sz' n f,v= .nd false false sz n f/\sz'<=sz/\Sub (.nd false false sz' n f) v'
theorem Rel.trunc{sz sz' n:Nat}{f:Nat->Nat->V}(h:Rel D w R (.nd false false sz n f) cv fp)(hs:sz'<=sz):Rel D w R (.nd false false sz' n f) cv fp:=by
 rcases h with h|⟨b,o,cap,F,hcv,hcap,hmax,hs1,hr,hi,ho⟩
 ·grind
 have hn:=hs1 rfl;subst hn;refine .inr ⟨b,o,cap,F,hcv,hcap,hmax,hs1,λi k hi hk=>?_,λhh=>?_,λh=>by cases h⟩
 ·obtain rfl:i=0:=by omega
  obtain⟨x,hx,hrx⟩:=hr 0 k (by omega) (by omega)
  exact⟨x,by simpa using hx,hrx⟩
 grind
theorem Rel.sub1{v':V}(he:Yj v v')(h:Rel D w R v cv fp):Rel D w R v' cv fp:=by
 rcases he with he|⟨sz,sz',n,f,rfl,hs,he⟩
 ·exact Rel.sub he h
 ·exact Rel.sub he (h.trunc hs)
def IQ:List V->List V->Prop
 | [],[]=>True
 |a::l,b::m=>Yj a b/\IQ l m
 |_,_=>False
theorem IQ.len: ∀ {l m:List V},IQ l m->l.length=m.length
 | [],[],_=>rfl
 |_::_,_::_,h=>by simp [IQ.len h.2]
 | [],_::_,h=>h.elim
 |_::_,[],h=>h.elim
theorem IQ.getD: ∀ {l m:List V} (_:IQ l m) (k:Nat),Yj (l.getD k .dead) (m.getD k .dead)
 | [],[],_,_=>.inl (Sub.refl _)
 |_::_,_::_,h,0=>h.1
 |_::_,_::_,h,k+1=>IQ.getD h.2 k
 | [],_::_,h,_=>h.elim
 |_::_,[],h,_=>h.elim
theorem FC.sub1{P:Program}{f:FuncId}{args args':List V}{r:V}(h:FC P f args r)(hs:IQ args' args):FC P f args' r:=by
 intro w D cvs hk hD hsz hr;refine h w D cvs hk hD (by rw [hsz,hs.len]) λi hi=>Rel.sub1 (hs.getD i) (hr i (by rw [hs.len];grind))
theorem I5{x:t.T}(h:v∈tyV t 0 x):Go.Ve.frz v=v:=by
 obtain⟨i,hi,rfl⟩:=List.getElem_of_mem h;have e:=Bq t 0 x
 grind
theorem C7{σ:List V}: ∀ (t:Ty) (x:t.T),∀v∈tyV t 0 x,BR σ v=v
 | .int _,_,v,h=>by simp [tyV]at h;subst h;rfl
 | .bool,_,v,h=>by simp [tyV]at h;subst h;rfl
 | .str,_,v,h=>by simp [tyV]at h;subst h;rfl
 | .sl t,x,v,h=>by
  have e:=I5 (x:=x) h;simp only [tyV,List.mem_singleton]at h;subst h;exact e
 | .ptr t,x,v,h=>by
  have e:=I5 (x:=x) h;simp only [tyV,List.mem_singleton]at h;subst h;exact e
 | .unit,_,v,h=>by simp [tyV]at h
 | .pair a b,x,v,h=>by
  simp only [tyV,List.mem_append]at h;exact h.elim (C7 a x.1 v) (C7 b x.2 v)
 | .osl t,x,v,h=>by
  have e:=I5 (x:=x) h;simp only [tyV,List.mem_singleton]at h;subst h;cases x with
  |none=>rfl
  |some xs=>exact e
 | .clo g t,x,v,h=>by
  simp only [tyV,List.mem_singleton]at h;subst h;show(if Tg.cl g= .bx then _ else V.many (.cl g) t.w λk=>BR σ ((tyV t 0 x).getD k .dead))=_
  rw [if_neg (by intro h;cases h)]
  congr 1
  funext k
  by_cases hk:k<(tyV t 0 x).length
  ·rw [gDE,gEE hk]
   exact C7 t x _ (List.getElem_mem hk)
  ·rw [gDE,List.getElem?_eq_none (by omega)];rfl
theorem HL: ∀ (t:Ty) (x:t.T),∀v∈tyV t 0 x,AS v=false
 | .int _,_,v,h=>by simp [tyV]at h;subst h;rfl
 | .bool,_,v,h=>by simp [tyV]at h;subst h;rfl
 | .str,_,v,h=>by simp [tyV]at h;subst h;rfl
 | .sl _,_,v,h=>by simp [tyV,List.mem_singleton]at h;subst h;rfl
 | .ptr _,_,v,h=>by simp [tyV,List.mem_singleton]at h;subst h;rfl
 | .unit,_,v,h=>by trivial
 | .pair a b,x,v,h=>by
  simp [tyV,List.mem_append]at h;exact h.elim (HL a x.1 v) (HL b x.2 v)
 | .osl t,x,v,h=>by
  simp [tyV,List.mem_singleton]at h;subst h;cases x<;>rfl
 | .clo g t,x,v,h=>by
  simp [tyV,List.mem_singleton]at h;subst h;show((List.range t.w).any λk=>AS ((tyV t 0 x).getD k .dead))=false
  rw [List.any_eq_false];intro k hk;have hk:k<(tyV t 0 x).length:=by rw [AA];grind
  rw [gDE,gEE hk];simp [HL t x _ (List.getElem_mem hk)]
theorem XT{σ:List V}{u:Ty}{d:Nat}{x:u.T}:BR σ (cV (.clo g u) d x)=Go.Ve.frz (cV (.clo g u) d x):=by
 have hm:cV (.clo g u) d x∈tyV (.clo g u) 0 x:=List.mem_singleton.2 rfl;rw [C7 _ _ _ hm,I5 hm]
theorem L6{w:Nat}(h:OS s w y=some y'):Yj (BR (s.r.map Ae.v) (y.v s.r)) y'.v0/\y'.v0=y'.v s.r/\((∀id p i k,y≠.rp id p i k)->Sub (BR (s.r.map Ae.v) (y.v s.r)) y'.v0):=by
 have both: ∀ {v v':V},Sub v v'->Yj v v'/\((∀id p i k,y≠.rp id p i k)->Sub v v'):=λh=>⟨.inl h,λ_=>h⟩
 unfold OS at h;split at h
 ·rename_i t d x
  cases ho:t.one with
  |false=>rw [ho]at h;cases h
  |true=>
   rw [ho]at h;cases h
   have:Sub (BR (s.r.map Ae.v) (cV t d x)) (cV t 0 x):=by
    rw [<-Wt ho d x];cases t<;>first|exact Sub.refl _|(cases ho;done)|(cases x<;>exact Sub.refl _)|exact Sub.of_eq XT
   exact⟨(both this).1,rfl,(both this).2⟩
 ·cases h;exact⟨(both (Sub.refl _)).1,rfl,(both (Sub.refl _)).2⟩
 ·rename_i id p
  split at h
  case h_2=>cases h
  rename_i ro t d xs hn;cases h;have hne:Ag s.r id p≠.dead:=by rw [hn];simp
  have:Sub (BR (s.r.map Ae.v) (V.rs id p 0 (Ag s.r id p).len)) (cV (.sl t) 0 xs):=by
   rw [OP,A4 hne,hn];show Sub (V9 (arr true t.w (tyV t d) t.dflt xs) 0 xs.length) _;rw [NO rfl];have e:(λa=>(tyV t d a).map frz)=tyV t 0:=funext λx=>Bq t d x
   rw [e];exact Sub.refl _
  exact⟨(both this).1,rfl,(both this).2⟩
 ·rename_i id p off len
  split at h
  case h_2=>cases h
  rename_i ro t d xs hn;cases h;have hne:Ag s.r id p≠.dead:=by rw [hn];simp
  have:Sub (BR (s.r.map Ae.v) (V.rs id p off len)) (cV (.sl t) 0 (Ks off len xs t.dflt)):=by
   rw [OP,A4 hne,hn];show Sub (V9 (arr true t.w (tyV t d) t.dflt xs) off len) (arr false t.w (tyV t 0) t.dflt (Ks off len xs t.dflt));unfold arr;have hl:(Ks off len xs t.dflt).length=len:=by simp [Ks]
   rw [hl];refine⟨_,rfl,λi k hi hk=>Sub.of_eq ?_⟩
   have hg:(Ks off len xs t.dflt).getD i t.dflt=xs.getD (off+i) t.dflt:=by simp [Ks,hi]
   rw [hg,<-Bq t d];exact(AT (f:=frz) (a:=.dead) rfl (tyV t d (xs.getD (off+i) t.dflt)) k).symm
  exact⟨(both this).1,rfl,(both this).2⟩
 ·rename_i id p j k
  split at h
  ·rename_i ro l hn
   have hne:Ag s.r id p≠.dead:=by rw [hn];simp
   split at h
   case h_2=>cases h
   cases hb:Nat.ble (k+w) l.length with
   |false=>rw [hb]at h;cases h
   |true=>
    rw [hb]at h;have hb:=blE hb;simp only [cond_true]at h;split at h
    case h_2=>cases h
    rename_i t x hf;cases h;refine⟨.inr ⟨l.length-k,w,1,λi' k'=>([((l.drop k).map Cl.v0).map frz].getD i' []).getD k' .dead,?_,by omega,?_⟩,rfl,λh=>absurd rfl (h _ _ _ _)⟩
    ·show BR (s.r.map Ae.v) (V.rp id p 0 k)=_
     rw [OQ,A4 hne,hn];show XV (Br true (l.map Cl.v0)) 0 k=_;rw [KM];unfold Br;simp only [List.map_drop,List.length_drop,List.length_map]
    ·show Sub _ (Br false (tyV t 0 x))
     have e:=DP _ _ hf;unfold Br;have hl:(tyV t 0 x).length=w:=by rw [e];simp;omega
     rw [hl];refine⟨_,rfl,λi' k' hi hk=>?_⟩
     obtain rfl:i'=0:=by omega
     refine Sub.of_eq ?_;show(((l.drop k).map Cl.v0).map frz).getD k' .dead=(tyV t 0 x).getD k' .dead;rw [e];simp [List.getElem?_take,hk]
  ·rename_i ro t d xs hn
   have hne:Ag s.r id p≠.dead:=by rw [hn];simp
   cases hb:Nat.ble (k+w) t.w with
   |false=>rw [hb]at h;cases h
   |true=>
    rw [hb]at h;have hb:=blE hb;simp only [cond_true]at h;split at h
    case h_2=>cases h
    rename_i t' x hd;cases h;refine⟨.inr ⟨t.w-k,w,1,λi' j'=>if i'=0 then frz ((tyV t d (xs.getD j t.dflt)).getD (k+j') .dead)else .dead,?_,by omega,?_⟩,rfl,λh=>absurd rfl (h _ _ _ _)⟩
    ·show BR (s.r.map Ae.v) (V.rp id p j k)=_
     rw [OQ,A4 hne,hn];rfl
    ·show Sub _ (Br false (tyV t' 0 x))
     have e:=DP _ _ hd;rw [List.map_take,List.map_drop,B0,List.map_take,List.map_drop,Bq]at e;unfold Br;have hl:(tyV t' 0 x).length=w:=by rw [e];simp [AA];omega
     rw [hl];refine⟨_,rfl,λi' k' hi hk=>?_⟩
     obtain rfl:i'=0:=by omega
     refine Sub.of_eq ?_;simp only [if_true];show _=(tyV t' 0 x).getD k' .dead;rw [e,<-Bq t d];have:=AT (f:=frz) (a:=.dead) rfl (tyV t d (xs.getD j t.dflt)) (k+k');rw [<-this];simp only [gDE,List.getElem?_take,hk,if_true,List.getElem?_drop]
  ·cases h
 ·cases h
def NP(s:St):List Cl->Option (List Cl)
 | []=>some []
 |y::l=>match(match y with
   | .rp _ _ _ _=>none
   |y=>OS s 0 y)with
  |some y'=>match NP s l with
   |some l'=>some (y'::l')
   |none=>none
  |none=>none
theorem L4{s:St}: ∀ {l l':List Cl},NP s l=some l'->CW ((l.map (Cl.v s.r)).map (BR (s.r.map Ae.v))) (l'.map (Cl.v s.r))
 | [],l',h=>by cases h;trivial
 |y::l,l',h=>by
  unfold NP at h;split at h
  case h_2=>grind
  rename_i y' hy;split at h
  case h_2=>grind
  rename_i m hm;cases h;have hne: ∀id p i k,y≠.rp id p i k:=by grind
  have hy:OS s 0 y=some y':=by
   grind
  obtain⟨_,h2,h1⟩:=L6 hy;exact⟨by grind,L4 hm⟩
def Wa(s:St):Cl->Option Cl
 | .rp id p i k=>match i,k with
  |0,0=>match Ag s.r id p with
   | .obj _ l=>match Hi l with
    |some ⟨t,x⟩=>some (.c (.ptr t) 0 x)
    |none=>none
   |_=>none
  |_,_=>none
 |y=>OS s 0 y
theorem Z6(h:Wa s y=some y'):Sub (BR (s.r.map Ae.v) (y.v s.r)) y'.v0/\y'.v0=y'.v s.r:=by
 by_cases hc: ∃id p i k,y= .rp id p i k
 ·obtain⟨id,p,i,k,rfl⟩:=hc
  unfold Wa at h;simp at h;split at h
  case h_2=>cases h
  split at h
  case h_2=>cases h
  rename_i ro l hn;split at h
  case h_2=>cases h
  rename_i t x hf;cases h;have hne:Ag s.r id p≠.dead:=by grind
  refine⟨?_,rfl⟩;show Sub (BR (s.r.map Ae.v) (V.rp id p 0 0)) (Br false (tyV t 0 x));rw [OQ,A4 hne,hn];show Sub (XV (Br true (l.map Cl.v0)) 0 0) _;rw [KM,DP _ _ hf];exact Sub.refl _
 ·have hne:=λid p i k e=>hc ⟨id,p,i,k,e⟩
  have h:OS s 0 y=some y':=by
   cases y with
   |rp id p i k=>grind
   |_=>exact h
  obtain⟨_,h2,h1⟩:=L6 h
  grind
def JH(s:St):List Cl->Option (List Cl)
 | []=>some []
 |y::l=>match Wa s y with
  |some y'=>match JH s l with
   |some l'=>some (y'::l')
   |none=>none
  |none=>none
theorem L5{s:St}: ∀ {l l':List Cl},JH s l=some l'->CW ((l.map (Cl.v s.r)).map (BR (s.r.map Ae.v))) (l'.map (Cl.v s.r))
 | [],l',h=>by cases h;trivial
 |y::l,l',h=>by
  unfold JH at h;split at h
  case h_2=>grind
  rename_i y' hy;split at h
  case h_2=>grind
  rename_i m hm;cases h;obtain⟨h1,h2⟩:=Z6 hy;exact⟨by grind,L5 hm⟩
theorem CW.pk{t:Tg}{l m:List V}(h:CW l m):Sub (pkL t l) (pkL t m):=by
 unfold pkL;rw [h.len];exact⟨_,rfl,λk _=>h.getD k⟩
def IV(s:St)(b:Bool)(t:Ty):Option Sl->Option t.T
 |some (.one y)=>bif b then none else bif t.one then(match OS s (match t with
   | .ptr u=>u.w
   |_=>0) y with
  |some y'=>Hb t 0 y'
  |none=>none)else none
 |some (.agg l)=>bif b then(match NP s l with
  |some l'=>Ii t 0 l'
  |none=>none)else none
 |some (.pk .bx l)=>bif b then none else(match t with
  | .ptr u=>(match NP s l with
   |some l'=>Ii u 0 l'
   |none=>none)
  |_=>none)
 |some (.pk (.cl g) l)=>bif b then none else(match t with
  | .clo g' u=>bif Nat.beq g g' then(match JH s l with
   |some l'=>Ii u 0 l'
   |none=>none)else none
  |_=>none)
 |_=>none
theorem CW.trans: ∀ {a b c:List V},CW a b->CW b c->CW a c:=by
 intro a
 induction a with
 |nil=>intro b c h1 h2;cases b<;>first|rfl|trivial
 |cons v a ih=>intro b c h1 h2;cases b with
  |nil=>trivial
  |cons w b=>cases c with
   |nil=>trivial
   |cons u c=>exact⟨h1.1.trans h2.1,ih h1.2 h2.2⟩
theorem MW{z:t.T}(h:IV s b t (s.ev x)=some z):Yj (BR (s.r.map Ae.v) (s.den.ev x)) (vOf b t 0 z):=by
 unfold IV at h;split at h
 case h_5=>cases h
 ·rename_i y hy
  cases b with
  |true=>cases h
  |false=>
   cases ho:t.one with
   |false=>rw [ho]at h;cases h
   |true=>
    rw [ho]at h;simp only [cond_false,cond_true]at h;split at h
    case h_2=>cases h
    rename_i y' hl;obtain⟨h1,h2,_⟩:=L6 hl;obtain⟨g1,g2⟩:=LN h s.r;rw [Bc hy];have g1:Sub y'.v0 (vOf false t 0 z):=h2▸g1;rcases h1 with h1|⟨sz,sz',n,f,e1,e2,e3⟩
    ·exact .inl (h1.trans g1)
    ·exact .inr ⟨sz,sz',n,f,e1,e2,e3.trans g1⟩
 ·rename_i l hy
  cases b with
  |false=>cases h
  |true=>
   simp only [cond_true]at h;split at h
   case h_2=>cases h
   rename_i l' hl;rw [Bc hy];left;show Sub (BR _ (Aj _)) (Aj _);rw [Z4];refine CW.mk ?_;have h1:=L4 hl;have h2:=(C2 h s.r).1;exact CW.trans h1 h2
 ·rename_i l hy
  cases b with
  |true=>cases h
  |false=>
   simp only [cond_false]at h;split at h
   case h_2=>cases h
   rename_i u;split at h
   case h_2=>cases h
   rename_i l' hl;rw [Bc hy];left;show Sub (BR _ (boxL _)) (Br false (tyV u 0 z));rw [XU];exact CW.obj (CW.trans (L4 hl) (C2 h s.r).1)
 ·rename_i g l hy
  cases b with
  |true=>cases h
  |false=>
   simp only [cond_false]at h;split at h
   case h_2=>cases h
   rename_i g' u;cases hb:Nat.beq g g' with
   |false=>rw [hb]at h;cases h
   |true=>
    rw [hb]at h;simp only [cond_true]at h;have hg:=bqE hb;subst hg;split at h
    case h_2=>cases h
    rename_i l' hl;rw [Bc hy];left
    have e:V.many (.cl g) u.w (λk=>(tyV u 0 z).getD k .dead)=pkL (.cl g) (tyV u 0 z):=by
     unfold pkL;rw [AA]
    show Sub (BR _ (pkL (.cl g) _)) (V.many (.cl g) u.w λk=>(tyV u 0 z).getD k .dead)
    rw [e,Z5];exact CW.pk (CW.trans (L5 hl) (C2 h s.r).1)
def DY(s:St):(l:List (Bool×Ty))->List (Option Sl)->Option (PT l).T
 | [],[]=>some ()
 | [p],[y]=>IV s p.1 p.2 y
 |p::q::l,y::ys=>match IV s p.1 p.2 y with
  |some z=>match DY s (q::l) ys with
   |some zs=>some (z,zs)
   |none=>none
  |none=>none
 |_,_=>none
theorem ZB{s:St}: ∀ (l:List (Bool×Ty)) (xs:List Operand) (z:(PT l).T),DY s l (xs.map s.ev)=some z->IQ ((xs.map s.den.ev).map (BR (s.r.map Ae.v))) (Cu l z)
 | [],[],z,h=>trivial
 | [p],[x],z,h=>⟨MW h,trivial⟩
 |p::q::l,x::xs,z,h=>by
  have h:(match IV s p.1 p.2 (s.ev x)with
   |some z=>match DY s (q::l) (xs.map s.ev)with
    |some zs=>some (z,zs)
    |none=>none
   |none=>none:Option (PT (p::q::l)).T)=some z:=h
  split at h
  case h_2=>grind
  rename_i z1 h1;split at h
  case h_2=>grind
  rename_i zs h2;cases h;exact⟨MW h1,ZB (q::l) xs zs h2⟩
 | [],_::_,_,h=>by cases h
 | [_],[],_,h=>by cases h
 | [_],_::_::_,_,h=>by cases h
 |_::_::_,[],_,h=>by cases h
def resC(b:Bool)(d:Nat)(t:Ty)(x:t.T):Bool×List Cl:=(b,AD t d x)
def QH(b:Bool)(p:Bool×Nat×Ty)(x:p.2.2.T):Bool×List Cl:=bif b|| !isP p then resC p.1 p.2.1 p.2.2 x else(false,[.nilp])
def resL(b:Bool):(l:List (Bool×Nat×Ty))->(RT l).T->List (Bool×List Cl)
 | [],_=>[]
 | [p],x=>[QH b p x]
 |p::q::l,x=>QH b p x.1::resL b (q::l) x.2
def MA(b:Bool)(l:List (Bool×Nat×Ty))(x:(RT l).T):Sl:=match resL b l x with
 | [(true,cs)]=>.agg cs
 | [(false,cs)]=>.one (cs.getD 0 .dead)
 |m=>.tup m
theorem ZM(b:Bool)(d:Nat)(t:Ty)(x:t.T)(h:b=true\/t.one=true):(if b then Aj ((AD t d x).map (Cl.v r))else((AD t d x).map (Cl.v r)).getD 0 .dead)=vOf b t d x:=by
 rw [Cl.v_c];cases b with
 |true=>rfl
 |false=>
  rcases h with h|h
  ·grind
  ·rw [BM h];rfl
def DE:List (Bool×Nat×Ty)->Bool
 | []=>true
 |p::l=>(p.1||p.2.2.one)&&DE l
theorem Ps(b:Bool)(p:Bool×Nat×Ty)(x:p.2.2.T)(h:p.1=true\/p.2.2.one=true):(if(QH b p x).1 then Aj ((QH b p x).2.map (Cl.v r))else((QH b p x).2.map (Cl.v r)).getD 0 .dead)=W3 b p x:=by
 unfold QH W3;cases b|| !isP p with
 |true=>exact ZM p.1 p.2.1 p.2.2 x h
 |false=>rfl
theorem YD{r:List Ae}(b:Bool): ∀ (l:List (Bool×Nat×Ty)) (x:(RT l).T),DE l=true->(resL b l x).map (λp=>if p.1 then Aj (p.2.map (Cl.v r))else(p.2.map (Cl.v r)).getD 0 .dead)=QG b l x
 | [],x,_=>rfl
 | [p],x,h=>by
  simp only [DE,bAE,Bool.or_eq_true]at h;show [_]= [W3 _ _ _];rw [<-Ps b p x h.1]
 |p::q::l,x,h=>by
  have h':((p.1||p.2.2.one)&&DE (q::l))=true:=h;simp [Bool.or_eq_true]at h';show _::(resL b (q::l) x.2).map _=W3 _ _ _::_;rw [YD b (q::l) x.2 h'.2,<-Ps b p x.1 h'.1]
theorem Pr(b:Bool)(l:List (Bool×Nat×Ty))(x:(RT l).T)(h:DE l=true):(MA b l x).v r=Kd b l x:=by
 have e:=YD (r:=r) b l x h;unfold Kd;rw [<-e];unfold MA;split
 ·rename_i cs hc
  rw [hc];rfl
 ·rename_i cs hc
  rw [hc];show(cs.getD 0 .dead).v r=(cs.map (Cl.v r)).getD 0 .dead;rw [AT (a:=.dead) rfl]
 ·rename_i m h1 h2
  generalize resL b l x=m at*
  match m,h1,h2 with
  | [],_,_=>rfl
  | [(true,cs)],h1,_=>grind
  | [(false,cs)],_,h2=>grind
  |a::b::m,_,_=>rfl
def Ty.noFn:Ty->Bool
 | .clo _ _=>false
 | .osl _=>false
 | .sl t=>t.noFn
 | .ptr t=>t.noFn
 | .pair a b=>a.noFn&&b.noFn
 |_=>true
theorem Cc: ∀ (t:Ty) (d:Nat) (x:t.T),t.dep<=d->t.noFn=true->∀v∈tyV t d x,BG v
 | .int _,_,_,_,_,v,h=>by simp only [tyV,List.mem_singleton]at h;subst h;trivial
 | .bool,_,_,_,_,v,h=>by simp only [tyV,List.mem_singleton]at h;subst h;trivial
 | .str,_,_,_,_,v,h=>by simp only [tyV,List.mem_singleton]at h;subst h;trivial
 | .unit,_,_,_,_,v,h=>by cases h
 | .clo _ _,_,_,_,hf,_,_=>by cases hf
 | .osl _,_,_,_,hf,_,_=>by cases hf
 | .sl t,d,xs,hd,hf,v,h=>by
  simp only [Ty.dep]at hd;simp only [tyV,List.mem_singleton]at h;subst h;refine⟨dT (by omega),λi k _ hk=>?_⟩
  exact Cc t (d-1) _ (by omega) hf _ (I4 (by rw [AA];exact hk))
 | .ptr t,d,x,hd,hf,v,h=>by
  simp only [Ty.dep]at hd;simp only [tyV,List.mem_singleton]at h;subst h;refine⟨dT (by omega),λi k hi hk=>?_⟩
  obtain rfl:i=0:=by omega
  exact Cc t (d-1) _ (by omega) hf _ (I4 hk)
 | .pair a b,d,x,hd,hf,v,h=>by
  simp only [Ty.noFn,bAE]at hf;simp only [Ty.dep]at hd;rcases List.mem_append.1 h with h|h
  ·exact Cc a d _ (by omega) hf.1 v h
  ·exact Cc b d _ (by omega) hf.2 v h
def C0:List (Bool×Nat×Ty)->Bool
 | []=>true
 |p::l=>Nat.ble p.2.2.dep p.2.1&&p.2.2.noFn&&(p.1||p.2.2.one)&&C0 l
theorem OG(b:Bool)(d:Nat)(t:Ty)(x:t.T)(h:t.dep<=d)(hf:t.noFn=true)(h2:b=true\/t.one=true):BG (vOf b t d x):=by
 cases b with
 |true=>
  show BG (Aj _);rw [QX];exact Cc t d x h hf
 |false=>
  rcases h2 with h2|h2
  ·grind
  ·exact Cc t d x h hf _ (by rw [BM h2];exact List.mem_singleton.2 rfl)
theorem ID(b:Bool)(p:Bool×Nat×Ty)(x:p.2.2.T)(h:p.2.2.dep<=p.2.1)(hf:p.2.2.noFn=true)(h2:p.1=true\/p.2.2.one=true):BG (W3 b p x):=by
 unfold W3;cases b|| !isP p with
 |true=>exact OG _ _ _ _ h hf h2
 |false=>trivial
theorem IE(b:Bool): ∀ (l:List (Bool×Nat×Ty)) (x:(RT l).T),C0 l=true->∀v∈QG b l x,BG v
 | [],_,_,v,h=>by cases h
 | [p],x,hr,v,h=>by
  simp only [C0,bAE,Bool.or_eq_true]at hr;rw [List.mem_singleton.1 h];exact ID b p x (blE hr.1.1.1) hr.1.1.2 hr.1.2
 |p::q::l,x,hr,v,h=>by
  have hr':(Nat.ble p.2.2.dep p.2.1&&p.2.2.noFn&&(p.1||p.2.2.one)&&C0 (q::l))=true:=hr;simp only [bAE,Bool.or_eq_true]at hr';rcases List.mem_cons.1 h with rfl|h
  ·exact ID b p x.1 (blE hr'.1.1.1) hr'.1.1.2 hr'.1.2
  ·exact IE b (q::l) x.2 hr'.2 v h
theorem Dl(b:Bool)(l:List (Bool×Nat×Ty))(x:(RT l).T)(h:C0 l=true):BG (Kd b l x):=by
 have:=IE b l x h;unfold Kd NA;split
 ·grind
 ·have h2:=this
  rw [<-OH]at h2
  trivial
def Cl.lent:Cl->Bool
 | .rf _ _=>true
 | .rs _ _ _ _=>true
 | .rp _ _ _ _=>true
 |y=>y.own
def Sl.lent:Sl->Bool
 | .one c=>c.lent
 | .agg l=>l.any Cl.lent
 | .pk _ l=>l.any Cl.lent
 |_=>true
def IF(xs:List (Option Sl)):Bool:=xs.all λx=>match x with
 |some y=>!y.lent
 |none=>false
theorem Cl.lent_v(c:Cl):c.lent=false->AS (c.v r)=false:=by
 intro h;cases c with
 |c t d x=>
  cases t<;>cases d<;>first|rfl|trivial|(cases x<;>first|rfl|trivial)|exact HL (.clo _ _) x _ (List.mem_singleton.2 rfl)
 |rf=>cases h
 |rs=>cases h
 |rp=>cases h
 |_=>rfl
theorem NH(tg:Tg)(l:List Cl)(h:l.any Cl.lent=false):AS (.many tg (l.map (Cl.v r)).length λk=>(l.map (Cl.v r)).getD k .dead)=false:=by
 show((List.range _).any λk=>AS ((l.map (Cl.v r)).getD k .dead))=false
 rw [List.any_eq_false];intro k hk;rw [AT (a:=.dead) rfl]
 have:(l.getD k .dead).lent=false:=by
  grind
 rw [Cl.lent_v _ this];simp
theorem PH{xs:List Operand}(h:IF (xs.map s.ev)=true):(xs.map s.den.ev).any AS=false:=by
 rw [List.any_eq_false];intro v hv;obtain⟨x,hx,rfl⟩:=List.mem_map.1 hv;have h1:=aET.1 h (s.ev x) (List.mem_map.2 ⟨x,hx,rfl⟩);cases hy:s.ev x with
 |none=>grind
 |some y=>
  rw [hy]at h1;have h1:=by simpa using h1
  rw [Bc hy]
  have:AS (y.v s.r)=false:=by
   cases y with
   |one c=>exact Cl.lent_v c h1
   |agg l=>exact NH .ag l h1
   |pk t l=>exact NH t l h1
   |new l=>trivial
   |tup l=>trivial
  grind
def DG(s:St):Option Sl->Option Sl
 |some (.one (.rf id p))=>match Ag s.r id p with
  | .opt _ u _ x=>some (.one (.c (.sl u) 0 (getO x)))
  |_=>some (.one (.rf id p))
 |y=>y
def Yf(s:St):Option Sl->List Bool
 |some (.one (.rf id p))=>match Ag s.r id p with
  | .opt _ _ _ x=>[isO x]
  |_=>[]
 |_=>[]
def K4(s:St):List (Option Sl)->List Bool
 | []=>[]
 |y::l=>Yf s y++K4 s l
def gate{α:Type}:List Bool->Option α->Option α
 | [],o=>o
 |b::l,o=>Oa b (gate l o) none
structure Uw where
 α:Type
 o:Option α
 y:α->Sl
variable{a:Uw}
structure CallN where
 α:Type
 o:Option (Bool×α)
 y:Bool->α->Sl
def Kq(e:En)(s:St)(xs:List (Option Sl)):Option Uw:=
 bif C0 e.S.rs||(DE e.S.rs&&IF xs)then(match DY s e.S.ps (xs.map (DG s))with
  |some z=>some ⟨(RT e.S.rs).T,gate (K4 s xs) (e.g z),λy=>MA true e.S.rs y⟩
  |none=>none)else none
def Jg:List En->St->FuncId->List (Option Sl)->Option Uw
 | [],_,_,_=>none
 |e::Γ,s,f,xs=>bif Nat.beq e.f f then(match Kq e s xs with
  |some a=>some a
  |none=>Jg Γ s f xs)else Jg Γ s f xs
theorem IU{s:St}{f:FuncId}{xs:List (Option Sl)}{a:Uw}: ∀ {Γ:List En},Jg Γ s f xs=some a->∃e∈Γ,e.f=f/\Kq e s xs=some a
 | [],h=>by cases h
 |e::Γ,h=>by
  have back:Jg Γ s f xs=some a->∃e'∈e::Γ,e'.f=f/\Kq e' s xs=some a:=λh=>by
   obtain⟨e',h1,h2⟩:=IU h
   grind
  unfold Jg at h;cases hb:Nat.beq e.f f with
  |false=>grind
  |true=>
   rw [hb]at h;split at h
   ·simp_all
   grind
def Va(Γ:List EnN)(s:St)(f:FuncId)(xs:List (Option Sl)):Option CallN:=
 match PS Γ f with
 |some e=>bif C0 e.S.rs||(DE e.S.rs&&IF xs)then(match DY s e.S.ps (xs.map (DG s))with
  |some z=>some ⟨(RT e.S.rs).T,gate (K4 s xs) (e.g z),λb y=>MA b e.S.rs y⟩
  |none=>none)else none
 |none=>none
theorem Hy: ∀ {l:List (Bool×Nat×Ty)},C0 l=true->DE l=true
 | [],_=>rfl
 |p::l,h=>by
  simp only [C0,bAE]at h;simp only [DE,bAE];exact⟨h.1.2,Hy h.2⟩
theorem OR{t1 t2:Nat->Sl}{r:List Ae}: ∀l:List Cl,NP ⟨t1,r⟩ l=NP ⟨t2,r⟩ l
 | []=>rfl
 |y::l=>by
  unfold NP;rw [OR l];rfl
theorem Z7:Wa ⟨t1,r⟩ y=Wa ⟨t2,r⟩ y:=by rfl
theorem PU{t1 t2:Nat->Sl}{r:List Ae}: ∀l:List Cl,JH ⟨t1,r⟩ l=JH ⟨t2,r⟩ l
 | []=>rfl
 |y::l=>by
  unfold JH;rw [PU l,Z7]
theorem Yy{o:Option Sl}:IV ⟨t1,r⟩ b t o=IV ⟨t2,r⟩ b t o:=by
 cases o with
 |none=>rfl
 |some y=>
  cases y with
  |one y=>rfl
  |agg l=>unfold IV;simp [OR (t2:=t2)]
  |pk t l=>cases t<;>first|rfl|(unfold IV;simp [PU (t2:=t2)];done)|(unfold IV;simp [OR (t2:=t2)])
  |_=>rfl
theorem Vc{y:Sl}{z:t.T}(h:IV s b t (some y)=some z):Yj (BR (s.r.map Ae.v) (y.v s.r)) (vOf b t 0 z):=
 MW (x:=.tmp 0) (by
  have:IV ⟨λ_=>y,s.r⟩ b t (some y)=some z:=by rw [<-h];exact Yy
  trivial)
theorem ZA{s:St}: ∀ (l:List (Bool×Ty)) (ys:List Sl) (z:(PT l).T),DY s l (ys.map some)=some z->IQ ((ys.map (Sl.v s.r)).map (BR (s.r.map Ae.v))) (Cu l z)
 | [],[],z,h=>trivial
 | [p],[y],z,h=>⟨Vc h,trivial⟩
 |p::q::l,y::ys,z,h=>by
  have h:(match IV s p.1 p.2 (some y)with
   |some z=>match DY s (q::l) (ys.map some)with
    |some zs=>some (z,zs)
    |none=>none
   |none=>none:Option (PT (p::q::l)).T)=some z:=h
  split at h
  case h_2=>grind
  rename_i z1 h1;split at h
  case h_2=>grind
  rename_i zs h2;cases h;exact⟨Vc h1,ZA (q::l) ys zs h2⟩
 | [],_::_,_,h=>by cases h
 | [_],[],_,h=>by cases h
 | [_],_::_::_,_,h=>by cases h
 |_::_::_,[],_,h=>by cases h
theorem HO{α:Type}{u:α}: ∀ {l:List Bool} {o:Option α},gate l o=some u->o=some u/\∀b∈l,b=true
 | [],_,h=>⟨h,λ_ h=>by grind⟩
 |b::l,o,h=>by
  cases b with
  |false=>cases h
  |true=>
   obtain⟨h1,h2⟩:=HO (l:=l) h
   grind
theorem OJ{z:t.T}(h:IV s b t (DG s (s.ev x))=some z)(hc: ∀c∈Yf s (s.ev x),c=true):Yj (BR (s.r.map Ae.v) (s.den.ev x)) (vOf b t 0 z):=by
 cases hx:s.ev x with
 |none=>rw [hx]at h;exact MW (by rw [hx];exact h)
 |some y=>
  by_cases hy: ∃id p ro u d v,y= .one (.rf id p)/\Ag s.r id p= .opt ro u d v
  ·obtain⟨id,p,ro,u,d,v,rfl,hn⟩:=hy
   rw [hx]at h hc;simp only [DG,Yf,hn]at h hc;have hv:isO v=true:=hc _ (List.mem_singleton.2 rfl);cases v with
   |none=>cases hv
   |some ys=>
    have h2:=Vc h;have e1:BR (s.r.map Ae.v) ((Sl.one (.c (.sl u) 0 ys)).v s.r)=cV (.sl u) 0 ys:=C7 (.sl u) ys _ (List.mem_singleton.2 rfl);have e1':BR (s.r.map Ae.v) ((Sl.one (.c (.sl u) 0 (getO (some ys)))).v s.r)=cV (.sl u) 0 ys:=e1;rw [e1']at h2
    have e2:BR (s.r.map Ae.v) (s.den.ev x)=cV (.sl u) 0 ys:=by
     rw [Bc hx];show BR (s.r.map Ae.v) (V.rs id p 0 (Ag s.r id p).len)=_;rw [OP,A4 (by rw [hn];simp),hn]
     show V9 (arr true u.w (tyV u d) u.dflt ys) 0 ys.length=_;rw [NO rfl];have e:=funext λx=>Bq u d x
     rw [e];rfl
    rw [e2];exact h2
  ·have e:DG s (some y)=some y:=by
    cases y with
    |one c=>
     cases c with
     |rf id p=>
      cases hn:Ag s.r id p with
      |opt ro u d v=>grind
      |_=>simp only [DG,hn]
     |_=>rfl
    |_=>rfl
   rw [hx,e,<-hx]at h;exact MW h
theorem VU{y:Sl}{z:t.T}(h:IV s b t (DG s (some y))=some z)(hc: ∀c∈Yf s (some y),c=true):Yj (BR (s.r.map Ae.v) (y.v s.r)) (vOf b t 0 z):=by
 have e1:DG ⟨λ_=>y,s.r⟩ (some y)=DG s (some y):=by
  rfl
 refine OJ (s:=⟨λ_=>y,s.r⟩) (x:=.tmp 0) ?_ ?_
 ·show IV ⟨λ_=>y,s.r⟩ b t (DG ⟨λ_=>y,s.r⟩ (some y))=some z
  rw [<-h];exact Yy
 trivial
theorem Lu{s:St}: ∀ (l:List (Bool×Ty)) (ys:List Sl) (z:(PT l).T),DY s l ((ys.map some).map (DG s))=some z->(∀c∈K4 s (ys.map some),c=true)->IQ ((ys.map (Sl.v s.r)).map (BR (s.r.map Ae.v))) (Cu l z)
 | [],[],z,h,_=>trivial
 | [p],[y],z,h,hc=>⟨VU h λc h=>hc c (List.mem_append_left _ h),trivial⟩
 |p::q::l,y::ys,z,h,hc=>by
  have h:(match IV s p.1 p.2 (DG s (some y))with
   |some z=>match DY s (q::l) ((ys.map some).map (DG s))with
    |some zs=>some (z,zs)
    |none=>none
   |none=>none:Option (PT (p::q::l)).T)=some z:=h
  split at h
  case h_2=>grind
  rename_i z1 h1;split at h
  case h_2=>grind
  rename_i zs h2;cases h;exact⟨VU h1 λc h=>hc c (List.mem_append_left _ h),Lu (q::l) ys zs h2 λc h=>hc c (List.mem_append_right _ h)⟩
 | [],_::_,_,h,_=>by cases h
 | [_],[],_,h,_=>by cases h
 | [_],_::_::_,_,h,_=>by cases h
 |_::_::_,[],_,h,_=>by cases h
theorem Pn{s:St}: ∀ (l:List (Bool×Ty)) (xs:List Operand) (z:(PT l).T),DY s l ((xs.map s.ev).map (DG s))=some z->(∀c∈K4 s (xs.map s.ev),c=true)->IQ ((xs.map s.den.ev).map (BR (s.r.map Ae.v))) (Cu l z)
 | [],[],z,h,_=>trivial
 | [p],[x],z,h,hc=>⟨OJ h λc h=>hc c (List.mem_append_left _ h),trivial⟩
 |p::q::l,x::xs,z,h,hc=>by
  have h:(match IV s p.1 p.2 (DG s (s.ev x))with
   |some z=>match DY s (q::l) ((xs.map s.ev).map (DG s))with
    |some zs=>some (z,zs)
    |none=>none
   |none=>none:Option (PT (p::q::l)).T)=some z:=h
  split at h
  case h_2=>grind
  rename_i z1 h1;split at h
  case h_2=>grind
  rename_i zs h2;cases h;exact⟨OJ h1 λc h=>hc c (List.mem_append_left _ h),Pn (q::l) xs zs h2 λc h=>hc c (List.mem_append_right _ h)⟩
 | [],_::_,_,h,_=>by cases h
 | [_],[],_,h,_=>by cases h
 | [_],_::_::_,_,h,_=>by cases h
 |_::_::_,[],_,h,_=>by cases h
theorem Up{xs:Array Operand}{ats}{ps:List (Bool×Ty)}{rs:List (Bool×Nat×Ty)}{z:(PT ps).T}{u:(RT rs).T}(hc:Af P f=true)(hft:FC P f (Cu ps z) (Kd b rs u))(hz:DY s ps ((xs.toList.map s.ev).map (DG s))=some z)(hcd: ∀c∈K4 s (xs.toList.map s.ev),c=true)
  (ho:(C0 rs||(DE rs&&IF (xs.toList.map s.ev)))=true):QS P s (.call ⟨.value (.func f),xs,ats⟩) (MA b rs u):=by
 rw [Bool.or_eq_true,bAE]at ho;have hok:=ho.elim Hy (·.1)
 refine⟨Kd b rs u,⟨hc,hft.sub1 (Pn _ _ _ hz hcd)⟩,λhl=>?_,?_⟩
 ·rcases ho with ho|⟨_,ho⟩
  ·exact Dl _ _ _ ho
  ·rw [PH ho]at hl;grind
 ·show Sub _ ((MA b rs u).v s.r)
  rw [Pr _ _ _ hok];exact Sub.refl _
theorem Ov(hΓ:Mz P Γ){xs ats}(h:Jg Γ s f (xs.toList.map s.ev)=some a){u:a.α}(hu:a.o=some u):QS P s (.call ⟨.value (.func f),xs,ats⟩) (a.y u):=by
 obtain⟨e,he,hef,hx⟩:=IU h;subst hef;unfold Kq at hx;have h:=hx;cases ho:(C0 e.S.rs||(DE e.S.rs&&IF (xs.toList.map s.ev)))with
 |false=>grind
 |true=>
  rw [ho]at h;split at h
  case h_2=>grind
  rename_i z hz;cases h;obtain⟨hc,hft⟩:=hΓ e he;obtain⟨hu,hcd⟩:=HO hu;exact Up hc (by rw [D9];exact hft z u hu) hz hcd ho
theorem MU{Γ:List EnN}(hΓ: ∀e∈Γ,e.OK P){xs ats}{a:CallN}(h:Va Γ s f (xs.toList.map s.ev)=some a){u:a.α}(hu:a.o=some (b,u)):QS P s (.call ⟨.value (.func f),xs,ats⟩) (a.y b u):=by
 unfold Va at h;split at h
 ·rename_i e he
  exact(PQ hΓ he).1.elim
 ·cases h
theorem PG(h:IF (ys.map some)=true):(ys.map (Sl.v s.r)).any AS=false:=by
 have:=PH (s:=⟨λi=>ys.getD i (.one .dead),s.r⟩) (by
  have e:((List.range ys.length).map Operand.tmp).map (St.ev ⟨λi=>ys.getD i (.one .dead),s.r⟩)=ys.map some:=by
   rw [List.map_map];apply List.ext_getElem (by simp)
   intro i h1 h2;have hi:i<ys.length:=by simpa using h1
   have:(St.ev ⟨λi=>ys.getD i (.one .dead),s.r⟩ (.tmp i))=some (ys.getD i (.one .dead)):=rfl
   grind
  rw [e];exact h)
 have e2:((List.range ys.length).map Operand.tmp).map (St.den ⟨λi=>ys.getD i (.one .dead),s.r⟩).ev=ys.map (Sl.v s.r):=by
  rw [List.map_map];apply List.ext_getElem (by simp)
  intro i h1 h2;have hi:=by simpa using h1
  have:(St.den ⟨λi=>ys.getD i (.one .dead),s.r⟩).ev (.tmp i)=(ys.getD i (.one .dead)).v s.r:=rfl
  grind
 rw [e2]at this;exact this
def allS:List (Option Sl)->Option (List Sl)
 | []=>some []
 |some y::l=>match allS l with
  |some m=>some (y::m)
  |none=>none
 |none::_=>none
theorem WV{s:St}: ∀ {xs:List Operand} {ys:List Sl},allS (xs.map s.ev)=some ys->xs.map s.den.ev=ys.map (Sl.v s.r)
 | [],ys,h=>by cases h;rfl
 |x::xs,ys,h=>by
  rw [List.map_cons]at h;cases hx:s.ev x with
  |none=>rw [hx]at h;cases h
  |some y=>
   rw [hx]at h;unfold allS at h;split at h
   case h_2=>grind
   rename_i m hm;cases h;rw [List.map_cons,List.map_cons,Bc hx,WV hm]
def cloS(s:St)(y:Nat):Option (FuncId×List Sl):=match s.t y with
 | .one (.c (.clo g t) _ x)=>bif Nat.blt g 1000000 then some (g,(AD t 0 x).map .one)else none
 |_=>none
def cloF(s:St):Op->Option (FuncId×List Sl)
 | .call c=>match c.callee with
  | .value (.tmp y)=>match cloS s y,allS (c.args.toList.map s.ev)with
   |some (g,cs),some ys=>some (g,ys++cs)
   |_,_=>none
  |_=>none
 |_=>none
theorem Um(hΓ:Mz P Γ){g:FuncId}(hf:cloF s op=some (g,ys))(h:Jg Γ s g (ys.map some)=some a){u:a.α}(hu:a.o=some u):QS P s op (a.y u):=by
 unfold cloF at hf;split at hf
 case h_2=>cases hf
 rename_i c;obtain⟨callee,xs,ats⟩:=c;split at hf
 case h_2=>cases hf
 rename_i y hcal;have hcal:callee= .value (.tmp y):=hcal;subst hcal;split at hf
 case h_2=>cases hf
 rename_i g' cs zs hcs hzs;cases hf;unfold cloS at hcs;split at hcs
 case h_2=>cases hcs
 rename_i g2 t d x hy;cases hlt:Nat.blt g2 1000000 with
 |false=>rw [hlt]at hcs;cases hcs
 |true=>
 rw [hlt]at hcs;cases hcs;obtain⟨e,he,hef,hx⟩:=IU h;subst hef;clear h;unfold Kq at hx;have h:=hx;clear hx;cases ho:(C0 e.S.rs||(DE e.S.rs&&IF ((zs++(AD t 0 x).map Sl.one).map some)))with
 |false=>rw [ho]at h;cases h
 |true=>
  rw [ho]at h;simp only [cond_true]at h;split at h
  case h_2=>cases h
  rename_i z hz;cases h;obtain⟨hc,hft⟩:=hΓ e he;obtain⟨hu,hcd⟩:=HO hu
  have hev:s.den.ev (.tmp y)= .many (.cl e.f) t.w λk=>(tyV t 0 x).getD k .dead:=by
   show(s.t y).v s.r=_;rw [hy];rfl
  have htab:(xs.toList.map s.den.ev)++tab t.w (λk=>(tyV t 0 x).getD k .dead)=(zs++(AD t 0 x).map Sl.one).map (Sl.v s.r):=by
   rw [WV hzs,List.map_append]
   congr 1
   have h1:tab t.w (λk=>(tyV t 0 x).getD k .dead)=tyV t 0 x:=by
    have:=IT (l:=tyV t 0 x) t.w (by rw [AA];exact Nat.le_refl _)
    rw [this];exact List.take_of_length_le (by rw [AA];exact Nat.le_refl _)
   rw [h1,List.map_map];exact(Cl.v_c (r:=s.r) t 0 x).symm
  rw [Bool.or_eq_true,bAE]at ho;have hok:DE e.S.rs=true:=ho.elim Hy (·.1)
  show Nn P (s.r.map Ae.v) (s.den.ev (.tmp y)) (xs.toList.map s.den.ev) (SK s _);rw [hev];show Nat.blt e.f 1000000=true/\Call P e.f (((xs.toList.map s.den.ev)++tab t.w (λk=>(tyV t 0 x).getD k .dead)).any AS) (((xs.toList.map s.den.ev)++tab t.w (λk=>(tyV t 0 x).getD k .dead)).map (BR (s.r.map Ae.v))) (SK s _)
  rw [htab];refine⟨hlt,Kd true e.S.rs u,⟨hc,FC.sub1 (by rw [D9];exact hft z u hu) (Lu _ _ _ hz hcd)⟩,λhl=>?_,?_⟩
  ·rcases ho with ho|⟨_,ho⟩
   ·exact Dl _ _ _ ho
   ·rw [PG ho]at hl;cases hl
  ·show Sub _ ((MA true e.S.rs u).v s.r)
   rw [Pr _ _ _ hok];exact Sub.refl _
def strB(a b:String):Bool:=a==b
def XP:List (String×Nat)->String->Option Nat
 | [],_=>none
 |(a,f)::l,s=>bif strB a s then some f else XP l s
theorem NI{s:String}{f:Nat}: ∀ {l:List (String×Nat)},XP l s=some f->(s,f)∈l
 | [],h=>by cases h
 |(a,f')::l,h=>by
  unfold XP at h;cases hb:strB a s with
  |false=>rw [hb]at h;exact mCM _ (NI h)
  |true=>
   rw [hb]at h;have:a=s:=by unfold strB at hb;grind
   grind
def cloI(Θ:Tab)(s:St):Op->Option (FuncId×List Sl)
 | .call c=>match c.callee with
  | .invoke (.tmp y) nm=>match s.t y with
   | .one (.c (.clo g t) _ x)=>bif Nat.ble 1000000 g&&Nat.beq t.w 1 then(match Θ.look (g-1000000)with
    |some i=>match XP i.met nm,allS (c.args.toList.map s.ev)with
     |some f,some ys=>some (f,(AD t 0 x).map .one++ys)
     |_,_=>none
    |none=>none)else none
   |_=>none
  |_=>none
 |_=>none
theorem Ul(hΘ:Θ.OK P)(hΓ:Mz P Γ){g:FuncId}(hf:cloI Θ s op=some (g,ys))(h:Jg Γ s g (ys.map some)=some a){u:a.α}(hu:a.o=some u):QS P s op (a.y u):=by
 unfold cloI at hf;split at hf
 case h_2=>cases hf
 rename_i c;obtain⟨callee,xs,ats⟩:=c;split at hf
 case h_2=>cases hf
 rename_i y nm hcal;have hcal:callee= .invoke (.tmp y) nm:=hcal;subst hcal;split at hf
 case h_2=>cases hf
 rename_i g2 t d x hy;cases hgt:(Nat.ble 1000000 g2&&Nat.beq t.w 1)with
 |false=>rw [hgt]at hf;cases hf
 |true=>
 rw [hgt]at hf;simp only [cond_true]at hf;rw [bAE]at hgt;obtain⟨hg1,hg2⟩:=hgt;have hg1:=blE hg1;have hg2:t.w=1:=bqE hg2;split at hf
 case h_2=>cases hf
 rename_i i hi;split at hf
 case h_2=>cases hf
 rename_i f zs hfm hzs;cases hf;have hmet:=hΘ.met hi (NI hfm);obtain⟨e,he,hef,hx⟩:=IU h;subst hef;clear h;unfold Kq at hx;have h:=hx;clear hx;cases ho:(C0 e.S.rs||(DE e.S.rs&&IF (((AD t 0 x).map Sl.one++zs).map some)))with
 |false=>rw [ho]at h;cases h
 |true=>
  rw [ho]at h;simp only [cond_true]at h;split at h
  case h_2=>cases h
  rename_i z hz;cases h;obtain⟨hc,hft⟩:=hΓ e he;obtain⟨hu,hcd⟩:=HO hu
  have hev:s.den.ev (.tmp y)= .many (.cl g2) t.w λk=>(tyV t 0 x).getD k .dead:=by
   show(s.t y).v s.r=_;rw [hy];rfl
  have htab:tab t.w (λk=>(tyV t 0 x).getD k .dead)++(xs.toList.map s.den.ev)=((AD t 0 x).map Sl.one++zs).map (Sl.v s.r):=by
   rw [WV hzs,List.map_append]
   congr 1
   have h1:tab t.w (λk=>(tyV t 0 x).getD k .dead)=tyV t 0 x:=by
    have:=IT (l:=tyV t 0 x) t.w (by rw [AA];exact Nat.le_refl _)
    rw [this];exact List.take_of_length_le (by rw [AA];exact Nat.le_refl _)
   rw [h1,List.map_map];exact(Cl.v_c (r:=s.r) t 0 x).symm
  rw [Bool.or_eq_true,bAE]at ho;have hok:DE e.S.rs=true:=ho.elim Hy (·.1)
  show Nq P (s.r.map Ae.v) (s.den.ev (.tmp y)) nm (xs.toList.map s.den.ev) (SK s _);rw [hev];show ∃t' fn,(g2=1000000+t'/\t.w=1/\XM P t' nm=some fn)/\Call P fn ((tab t.w (λk=>(tyV t 0 x).getD k .dead)++(xs.toList.map s.den.ev)).any AS) ((tab t.w (λk=>(tyV t 0 x).getD k .dead)++(xs.toList.map s.den.ev)).map (BR (s.r.map Ae.v))) (SK s _)
  rw [htab];refine⟨g2-1000000,e.f,⟨by omega,hg2,hmet⟩,Kd true e.S.rs u,⟨hc,FC.sub1 (by rw [D9];exact hft z u hu) (Lu _ _ _ hz hcd)⟩,λhl=>?_,?_⟩
  ·rcases ho with ho|⟨_,ho⟩
   ·exact Dl _ _ _ ho
   ·rw [PG ho]at hl;cases hl
  ·show Sub _ ((MA true e.S.rs u).v s.r)
   rw [Pr _ _ _ hok];exact Sub.refl _
def capL(s:St):List Operand->Option (List Cl)
 | []=>some []
 |x::xs=>match s.ev x with
  |some (.one (.c t d y))=>bif t.one&& !(Cl.c t d y).own then(match capL s xs with
   |some l=>some (.c t 0 y::l)
   |none=>none)else none
  |_=>none
def capR(s:St):List Operand->Option (List Cl)
 | []=>some []
 |x::xs=>match s.ev x with
  |some (.one y)=>bif y.own then none else(match capR s xs with
   |some l=>some (y::l)
   |none=>none)
  |_=>none
theorem Y5{s:St}: ∀ {xs:List Operand} {l:List Cl},capR s xs=some l->xs.map s.den.ev=l.map (Cl.v s.r)/\(xs.map s.den.ev).all (λv=>!AQ v)=true
 | [],l,h=>by cases h;simp
 |x::xs,l,h=>by
  unfold capR at h;split at h
  case h_2=>grind
  rename_i y hx;cases hb:y.own with
  |true=>grind
  |false=>
   rw [hb]at h;split at h
   case h_2=>grind
   rename_i m hm;obtain⟨h1,h2⟩:=Y5 hm;have hev:s.den.ev x=y.v s.r:=Bc hx;refine⟨by grind,?_⟩
   rw [List.map_cons,List.all_cons,hev,Cl.own_v,hb,h2];rfl
def tMkG(g:Nat)(s:St)(caps:List Operand):Option TR:=match capL s caps with
  |some l=>match Hi l with
   |some ⟨t,x⟩=>some (.ok (.one (.c (.clo g t) 0 x)))
   |none=>none
  |none=>match capR s caps with
   |some l=>some (.ok (.pk (.cl g) l))
   |none=>none
def tMkF(s:St)(fn:Fn)(first:List Operand)(caps:List Operand):Option TR:=match fn,first with
 | .func g,[]=>bif Nat.blt g 1000000 then tMkG g s caps else none
 |_,_=>none
def tMkI(Θ:Tab)(s:St)(t:TypeId)(x:Operand):Option TR:=match Θ.look t with
 |some i=>match i.met with
  | []=>none
  |_::_=>tMkG (1000000+t) s [x]
 |none=>none
theorem Y6{s:St}: ∀ {xs:List Operand} {l:List Cl},capL s xs=some l->xs.map s.den.ev=(l.map Cl.v0).map frz/\(xs.map s.den.ev).all (λv=>!AQ v)=true/\l.length=xs.length
 | [],l,h=>by cases h;exact⟨rfl,rfl,rfl⟩
 |x::xs,l,h=>by
  unfold capL at h;split at h
  case h_2=>cases h
  rename_i t d y hx;cases hb:(t.one&& !(Cl.c t d y).own)with
  |false=>rw [hb]at h;cases h
  |true=>
   rw [hb]at h;simp only [cond_true]at h;split at h
   case h_2=>cases h
   rename_i m hm;cases h;rw [bAE]at hb;obtain⟨h1,h2,h3⟩:=Y6 hm;have hev:s.den.ev x=cV t d y:=Bc hx
   have hown:AQ (cV t d y)=false:=by
    have:=Cl.own_v (r:=s.r) (.c t d y);have e:(Cl.c t d y).own=false:=by simpa using hb.2
    rw [e]at this;exact this
   have hz:cV t d y=frz (cV t 0 y):=by
    rw [Wt hb.1];cases t<;>first|rfl|(cases d<;>first|rfl|(cases hown;done))|(cases y<;>cases d<;>first|rfl|(cases hown;done))
   refine⟨?_,?_,by simp [h3]⟩
   ·rw [List.map_cons,List.map_cons,List.map_cons,hev,h1,hz];rfl
   grind
theorem Yx{caps:List Operand}{a:TR}(h:tMkG g s caps=some a): ∃y,a= .ok y/\(caps.map s.den.ev).all (λv=>!AQ v)=true/\Sub (V.many (.cl g) (caps.map s.den.ev).length λk=>(caps.map s.den.ev).getD k .dead) (y.v s.r):=by
 unfold tMkG at h;split at h
 case h_2=>
  split at h
  case h_2=>grind
  rename_i l hl;cases h;obtain⟨h1,h2⟩:=Y5 hl;refine⟨_,rfl,h2,?_⟩;rw [h1];exact Sub.refl _
 rename_i l hl;split at h
 case h_2=>grind
 rename_i t x hd;cases h;obtain⟨h1,h2,h3⟩:=Y6 hl;have e:=DP _ _ hd;refine⟨_,rfl,h2,?_⟩;rw [h1,<-e,AA];exact Sub.refl _
theorem Qr{fn:Fn}{first caps:Array Operand}{a:TR}(h:tMkF s fn first.toList caps.toList=some a):QS P s (.makeFunc fn first caps) a.y:=by
 unfold tMkF at h;split at h
 case h_2=>grind
 rename_i g hf;cases hlt:Nat.blt g 1000000 with
 |false=>grind
 |true=>
 rw [hlt]at h;obtain⟨y,rfl,h1,h2⟩:=Yx h
 show(match Fn.func g,first.toList with
  | .func g,[]=>qMkF g (caps.toList.map s.den.ev) (SK s _)
  |_,_=>False)
 rw [hf]
 trivial
theorem Qq(hΘ:Θ.OK P){t:TypeId}{a:TR}(h:tMkI Θ s t x=some a):QS P s (.makeInterface t x) a.y:=by
 unfold tMkI at h;split at h
 case h_2=>grind
 rename_i i hi;split at h
 ·grind
 rename_i p l hm;obtain⟨y,rfl,h1,h2⟩:=Yx h;have hu:=XL (hΘ.met hi (nm:=p.1) (f:=p.2) (by grind))
 have h1:=by simpa using h1
 refine⟨⟨h1,hu⟩,Sub.trans ⟨_,rfl,λk hk=>?_⟩ h2⟩
 obtain rfl:k=0:=by omega
 exact Sub.refl _
end Go.Ve


namespace Go.Ve
variable{b:Bool}{c:Cl}{r:List Ae}{l σ:List V}{d i k:Nat}{P:Program}{s:St}{t:Ty}
structure J7 where
 k:Nat
 ps:List (Bool×Ty)
 t:Ty
 d:Nat
 eat:Bool
 rs:List (Bool×Nat×Ty)
def Ua(k:Nat)(l:List V):List V:=l.take k++ .dead::l.drop k
theorem I0:(Ua k l).length=l.length+1:=by
 unfold Ua
 grind
theorem Aae(h:i<k)(hk:k<=l.length):(Ua k l).getD i .dead=l.getD i .dead:=by
 unfold Ua
 grind
theorem Aaf(h:k<=i)(hk:k<=l.length):(Ua k l).getD (i+1) .dead=l.getD i .dead:=by
 unfold Ua;have e:(l.take k).length=k:=by grind
 simp;rw [gAR (by omega),e,show i+1-k=(i-k)+1 by omega,List.getElem?_cons_succ,List.getElem?_drop,show k+(i-k)=i by omega]
def isTr:Ty->Bool
 | .sl _=>true
 | .ptr _=>true
 |_=>false
def J7.ok(S:J7):Bool:=Nat.blt 0 S.d&&Nat.ble S.k S.ps.length&&isTr S.t
def FTU(P:Program)(f:FuncId)(S:J7)(g:(PT S.ps).T->S.t.T->Option ((RT S.rs).T×S.t.T)):Prop:=
 ∀z x u,g z x=some u->FCU P f S.k (Ua S.k (Cu S.ps z)) (cV S.t S.d x) (Vx S.rs u.1) (bif S.eat then .dead else cV S.t S.d u.2)
structure EnU where
 f:FuncId
 S:J7
 g:(PT S.ps).T->S.t.T->Option ((RT S.rs).T×S.t.T)
def JG:List EnU->FuncId->Option EnU
 | [],_=>none
 |e::l,f=>bif Nat.beq e.f f then some e else JG l f
def EnU.OK(P:Program)(e:EnU):Prop:=Af P e.f=true/\e.S.ok=true/\FTU P e.f e.S e.g
theorem PP{P:Program}{f:FuncId}{e:EnU}: ∀ {Γ:List EnU},(∀e∈Γ,e.OK P)->JG Γ f=some e->e.OK P/\e.f=f
 | [],_,h=>by cases h
 |a::l,hΓ,h=>by
  unfold JG at h;cases hb:Nat.beq a.f f with
  |true=>
   simp_all
  |false=>rw [hb]at h;exact PP (λe he=>hΓ e (mCM _ he)) h
theorem Cl.lend_id(h:c.lent=false):BR σ (c.v r)=c.v r:=by
 cases c with
 |c t d x=>
  have e0: ∀ {t:Ty} (x:t.T),t.one=true->BR σ (cV t 0 x)=cV t 0 x:=fun{t} x ht=>C7 t x _ (by rw [BM ht];simp)
  cases t with
  |int k=>rfl
  |bool=>rfl
  |str=>rfl
  |unit=>rfl
  |pair a b=>rfl
  |sl t=>cases d with
   |zero=>exact e0 x rfl
   |succ d=>cases h
  |ptr t=>cases d with
   |zero=>exact e0 x rfl
   |succ d=>cases h
  |clo g t=>exact e0 x rfl
  |osl t=>cases d with
   |zero=>exact e0 x rfl
   |succ d=>cases x with
    |none=>rfl
    |some y=>cases h
 |rf=>cases h
 |rs=>cases h
 |rp=>cases h
 |_=>rfl
theorem Cl.clean_v(h:c.lent=false):clean (c.v r):=by
 cases c with
 |c t d x=>
  cases t with
  |osl t=>cases x<;>exact trivial
  |clo g t=>
   have: ∀ (t:Ty) (x:t.T),∀v∈tyV t 0 x,clean v:=by
    intro t
    induction t with
    |int k=>intro x v hv;simp [tyV]at hv;subst hv;trivial
    |bool=>intro x v hv;simp [tyV]at hv;subst hv;trivial
    |str=>intro x v hv;simp [tyV]at hv;subst hv;trivial
    |sl t _=>intro x v hv;simp only [tyV,List.mem_singleton]at hv;subst hv;trivial
    |ptr t _=>intro x v hv;simp only [tyV,List.mem_singleton]at hv;subst hv;trivial
    |unit=>intro x v hv;simp [tyV]at hv
    |pair a b iha ihb=>
     intro x v hv;simp only [tyV,List.mem_append]at hv
     grind
    |osl t _=>
     intro x v hv;simp only [tyV,List.mem_singleton]at hv;subst hv;cases x<;>trivial
    |clo g t ih=>
     intro x v hv;simp only [tyV,List.mem_singleton]at hv;subst hv;intro k hk;refine ih x _ ?_;show(tyV t 0 x).getD k .dead∈_;rw [gDE,gEE (by rw [AA];exact hk)]
     simp
   exact this (.clo g t) x _ (List.mem_singleton.2 rfl)
  |_=>trivial
 |rf=>cases h
 |rs=>cases h
 |rp=>cases h
 |_=>trivial
theorem Mr{l:List Cl}(h:l.any Cl.lent=false): ∀c∈l,c.lent=false:=by grind
theorem PL{l:List Cl}(h:l.any Cl.lent=false):(l.map (Cl.v r)).map (BR σ)=l.map (Cl.v r):=by
 rw [List.map_map];exact List.map_congr_left λc hc=>Cl.lend_id (Mr h c hc)
def Sl.notB:Sl->Bool
 | .one _=>true
 | .agg _=>true
 | .pk (.cl _) _=>true
 |_=>false
theorem uArg_v{y:Sl}{z:t.T}(hl:y.lent=false)(hb:y.notB=true)(h:IV s b t (some y)=some z):Sub (y.v s.r) (vOf b t 0 z)/\AQ (y.v s.r)=false/\clean (y.v s.r):=by
 have many: ∀ (tg:Tg) (l:List Cl),l.any Cl.lent=false->AQ (pkL tg (l.map (Cl.v s.r)))=false/\clean (pkL tg (l.map (Cl.v s.r))):=by
  intro tg l h;refine⟨?_,λk hk=>?_⟩
  ·have e:AQ ((Sl.pk tg l).v s.r)=l.any Cl.own:=Sl.own_v (.pk tg l)
   refine e.trans ?_;rw [List.any_eq_false];intro c hc;have h1:=Mr h c hc;cases c with
   |c t d x=>rw [show(Cl.c t d x).own=false from h1];simp
   |_=>simp [Cl.own]
  ·have hk:k<l.length:=by simpa using hk
   show clean ((l.map (Cl.v s.r)).getD k .dead);rw [AT (f:=Cl.v s.r) (a:=.dead) rfl];refine Cl.clean_v (Mr h _ ?_);simp [hk]
 cases y with
 |one c=>
  have hc:c.lent=false:=hl;refine⟨?_,?_,Cl.clean_v hc⟩
  ·unfold IV at h
   cases b with
   |true=>cases h
   |false=>
    cases ho:t.one with
    |false=>rw [ho]at h;cases h
    |true=>
     rw [ho]at h;simp only [cond_false,cond_true]at h;split at h
     case h_2=>cases h
     rename_i y' hy;obtain⟨_,h2,h3⟩:=L6 hy;have h3:=h3 λid p i k e=>by rw [e]at hc;cases hc
     rw [Cl.lend_id hc]at h3;obtain⟨g1,_⟩:=LN h s.r;have g1:Sub y'.v0 (vOf false t 0 z):=h2▸g1;exact h3.trans g1
  ·have e:AQ (c.v s.r)=c.own:=Cl.own_v c
   refine e.trans ?_;cases c with
   |c t d x=>exact hc
   |_=>rfl
 |agg l=>
  have hc:l.any Cl.lent=false:=hl;refine⟨?_,many .ag l hc⟩;unfold IV at h;cases b with
  |false=>cases h
  |true=>
   simp only [cond_true]at h;split at h
   case h_2=>cases h
   rename_i l' hl';show Sub (Aj _) (Aj _);refine CW.mk ?_;have h1:=L4 hl';rw [PL hc]at h1;exact CW.trans h1 (C2 h s.r).1
 |pk tg l=>
  have hc:l.any Cl.lent=false:=hl;cases tg with
  |cl g=>
   refine⟨?_,many (.cl g) l hc⟩;unfold IV at h;cases b with
   |true=>cases h
   |false=>
    simp only [cond_false]at h;split at h
    case h_2=>cases h
    rename_i g' u;cases hb:Nat.beq g g' with
    |false=>rw [hb]at h;cases h
    |true=>
     rw [hb]at h;simp only [cond_true]at h;have hg:=bqE hb;subst hg;split at h
     case h_2=>cases h
     rename_i l' hl'
     have e:V.many (.cl g) u.w (λk=>(tyV u 0 z).getD k .dead)=pkL (.cl g) (tyV u 0 z):=by
      unfold pkL;rw [AA]
     show Sub (pkL (.cl g) _) (V.many (.cl g) u.w λk=>(tyV u 0 z).getD k .dead)
     rw [e];have h1:=L5 hl';rw [PL hc]at h1;exact CW.pk (CW.trans h1 (C2 h s.r).1)
  |ag=>cases hb
  |tu=>cases hb
  |bx=>cases hb
 |new l=>cases hb
 |tup l=>cases hb
def uok:Option Sl->Bool
 |some y=>!y.lent&&y.notB
 |none=>false
theorem uok_v{x:Operand}{z:t.T}(hu:uok (s.ev x)=true)(h:IV s b t (s.ev x)=some z):AQ (s.den.ev x)=false/\clean (s.den.ev x)/\Sub (s.den.ev x) (vOf b t 0 z):=by
 cases hx:s.ev x with
 |none=>rw [hx]at hu;trivial
 |some y=>
  rw [hx]at hu h;simp [uok,Bool.not_eq_true']at hu;obtain⟨h1,h2,h3⟩:=uArg_v hu.1 hu.2 h;rw [Bc hx]
  grind
theorem UK{s:St}: ∀ (ps:List (Bool×Ty)) (xs:List Operand) (z:(PT ps).T),DY s ps (xs.map s.ev)=some z->(xs.map s.ev).all uok=true->
  xs.length=(Cu ps z).length/\∀i x,xs[i]? =some x->AQ (s.den.ev x)=false/\clean (s.den.ev x)/\Sub (s.den.ev x) ((Cu ps z).getD i .dead)
 | [],[],z,_,_=>⟨rfl,λi x h=>by simp at h⟩
 | [p],[x],z,h,hu=>by
  have hu:(uok (s.ev x)&&true)=true:=hu;rw [Bool.and_true]at hu;refine⟨rfl,λi x' hx=>?_⟩
  cases i with
  |zero=>
   cases hx;exact uok_v hu h
  |succ i=>simp at hx
 |p::q::l,x::xs,z,h,hu=>by
  have h:(match IV s p.1 p.2 (s.ev x)with
   |some z=>match DY s (q::l) (xs.map s.ev)with
    |some zs=>some (z,zs)
    |none=>none
   |none=>none:Option (PT (p::q::l)).T)=some z:=h
  have hu:(uok (s.ev x)&&(xs.map s.ev).all uok)=true:=hu;rw [bAE]at hu;split at h
  case h_2=>cases h
  rename_i z1 h1;split at h
  case h_2=>cases h
  rename_i zs h2;cases h;obtain⟨k1,k2⟩:=UK (q::l) xs zs h2 hu.2;refine⟨by show xs.length+1=(Cu (q::l) zs).length+1;rw [k1],λi x' hx=>?_⟩
  cases i with
  |zero=>
   cases hx;exact uok_v hu.1 h1
  |succ i=>exact k2 i x' (by simpa using hx)
 | [],_::_,_,h,_=>by cases h
 | [_],[],_,h,_=>by cases h
 | [_],_::_::_,_,h,_=>by cases h
 |_::_::_,[],_,h,_=>by cases h
def CI(k:Nat)(l:List Operand):List Operand:=l.take k++l.drop (k+1)
theorem Uj{l:List Operand}(h:k<l.length):(CI k l).length+1=l.length:=by
 unfold CI
 grind
theorem NW{l:List Operand}(h:i<k)(hk:k<l.length):(CI k l)[i]? =l[i]?:=by
 unfold CI
 grind
theorem NX{l:List Operand}(h:k<=i)(hk:k<l.length):(CI k l)[i]? =l[i+1]?:=by
 unfold CI
 grind
theorem Zg{ps:List (Bool×Ty)}{xs:List Operand}{z:(PT ps).T}(hk:k<xs.length)(h:DY s ps ((CI k xs).map s.ev)=some z)(hu:((CI k xs).map s.ev).all uok=true):
  xs.length=(Ua k (Cu ps z)).length/\∀i x,i≠k->xs[i]? =some x->AQ (s.den.ev x)=false/\clean (s.den.ev x)/\Sub (s.den.ev x) ((Ua k (Cu ps z)).getD i .dead):=by
 obtain⟨h1,h2⟩:=UK ps (CI k xs) z h hu;have hl:=Uj hk;refine⟨by rw [I0];omega,λi x hik hx=>?_⟩
 rcases Nat.lt_or_ge i k with hlt|hge
 ·have:=h2 i x (by rw [NW hlt hk];exact hx)
  rw [Aae hlt (by omega)]
  grind
 ·obtain⟨j,rfl⟩: ∃j,i=j+1:=⟨i-1,by omega⟩
  have:=h2 j x (by rw [NX (by omega) hk];grind)
  rw [Aaf (by omega) (by omega)]
  grind
def XZ:(t:Ty)->t.T->Bool
 | .sl _,xs=>ltI (Int.ofNat 0) (ofN (Io xs))
 | .ptr _,_=>true
 |_,_=>false
theorem Aah{x:t.T}(hd:0<d)(h:XZ t x=true):KO (cV t d x):=by
 have hd:=dT hd;cases t with
 |sl t=>
  refine⟨true,_,_,_,show arr (decide (0<d)) _ _ _ x=_ by rw [hd];rfl,.inr ?_⟩
  have h:decide (0<(x.length:Int))=true:=h
  grind
 |ptr t=>exact⟨false,_,_,_,show Br (decide (0<d)) _=_ by rw [hd];rfl,.inl rfl⟩
 |_=>cases h
theorem treeND{x:t.T}(hd:0<d)(h:isTr t=true): ∃s sz n f,cV t d x= .nd s true sz n f:=by
 have hd:=dT hd;cases t with
 |sl t=>exact⟨true,_,_,_,show arr (decide (0<d)) _ _ _ x=_ by rw [hd];rfl⟩
 |ptr t=>exact⟨false,_,_,_,show Br (decide (0<d)) _=_ by rw [hd];rfl⟩
 |_=>cases h
theorem Cg: ∀e∈([]:List EnU),e.OK P:=by simp
theorem A6{e:EnU}{l:List EnU}(h1:Af P e.f=true)(h0:e.S.ok=true)(h2:FTU P e.f e.S e.g)(hl: ∀e∈l,e.OK P): ∀x∈e::l,x.OK P:=by
 intro x hx;rcases List.mem_cons.1 hx with rfl|hx
 ·trivial
 grind
end Go.Ve


namespace Go.Ve
abbrev WP:=Bool×Bool×Ty
def PTW:List WP->Ty
 | []=>.unit
 | [p]=>p.2.2
 |p::q::l=>.pair p.2.2 (PTW (q::l))
def ZC:Ty->List Ty
 | .sl t=>[.sl t]
 | .pair a b=>ZC a++ZC b
 |_=>[]
def tysW:List WP->List Ty
 | []=>[]
 |p::l=>(bif p.1 then ZC p.2.2 else [])++tysW l
structure SigW where
 ps:List WP
 rt:Ty
def Ty.sc:Ty->Bool
 | .int _=>true
 | .bool=>true
 | .str=>true
 |_=>false
def wty:List Ty->Ty
 | []=>.unit
 | [t]=>t
 |t::u::l=>.pair t (wty (u::l))
def wOf:(tys:List Ty)->(wty tys).T->List (Σ t:Ty,t.T)
 | [],_=>[]
 | [t],x=>[⟨t,x⟩]
 |t::u::l,x=>⟨t,x.1⟩::wOf (u::l) x.2
structure EnW where
 f:FuncId
 S:SigW
 g:(PTW S.ps).T->Option (S.rt.T×(wty (tysW S.ps)).T)
def V5:List EnW->FuncId->Option EnW
 | [],_=>none
 |e::l,f=>bif Nat.beq e.f f then some e else V5 l f
def EnW.OK(_:Program)(_:EnW):Prop:=False
theorem PO{P:Program}{f:FuncId}{e:EnW}: ∀ {Γ:List EnW},(∀e∈Γ,e.OK P)->V5 Γ f=some e->e.OK P/\e.f=f
 | [],_,h=>by cases h
 |a::l,hΓ,h=>by
  unfold V5 at h;cases hb:Nat.beq a.f f with
  |true=>
   simp_all
  |false=>rw [hb]at h;exact PO (λe he=>hΓ e (mCM _ he)) h
end Go.Ve


namespace Go.Ve
variable{r:List Ae}{l m:List V}{op:Op}{P:Program}{s:St}{a:TR}{w:World}
def N0(Θ:Tab)(t:TypeId):Option TI:=((Θ.look t).bind (·.elem)).bind Θ.look
def Pm(Θ:Tab)(s:St):Builtin->List Operand->List TypeId->Option TR
 | .len,[x],[t]=>tLen s (Θ.look t) (s.ev x)
 | .min,[x,y],_=>tMin (s.ev x) (s.ev y)
 | .max,[x,y],_=>tMax (s.ev x) (s.ev y)
 |_,_,_=>none
def Aac:Operand->Bool
 | .const (.slice none 0 0)=>true
 |_=>false
def Pk(s:St)(i:Option TI)(x:Operand):Option TR:=bif Aac x then(match i with
 |some j=>some (.ok (.one (.c (.sl j.ty) (j.sd+1) [])))
 |none=>none)else Zv (s.ev x)
theorem Iz{x:Operand}{i:Option TI}(ho:op= .move x\/op= .assign x)(h:Pk s i x=some a):QS P s op a.y:=by
 unfold Pk at h;cases hb:Aac x with
 |false=>rw [hb]at h;exact Oo ho h
 |true=>
  rw [hb]at h;split at h
  case h_2=>grind
  rename_i j;cases h;unfold Aac at hb;split at hb
  case h_2=>grind
  have:VI (s.den.ev (.const (.slice none 0 0))) (SK s (.one (.c (.sl j.ty) (j.sd+1) []))):=⟨rfl,.inr ⟨rfl,_,_,_,rfl⟩⟩;rcases ho with rfl|rfl<;>exact this
def tq(Θ:Tab)(s:St)(ty:TypeId):Op->Option TR
 | .move x=>Pk s (N0 Θ ty) x
 | .assign x=>Pk s (N0 Θ ty) x
 | .pick c x y=>Zt (s.ev c) (s.ev x) (s.ev y)
 | .load t x=>U5 s (Θ.look t) (s.ev x)
 | .fieldAddr t x k=>U7 s (Θ.look t) k (s.ev x)
 | .indexAddr t x i=>H5 s (N0 Θ t) (s.ev x) (s.ev i)
 | .index t x i=>U6 (Θ.look t) (s.ev x) (s.ev i)
 | .nilCheck x=>tNil (s.ev x)
 | .binOp op t x y _=>tBin (Θ.look t) op (s.ev x) (s.ev y)
 | .unOp op _ x=>tUn op (s.ev x)
 | .convert u v x=>Zx s.r (Θ.look u) (Θ.look v) (N0 Θ u) (N0 Θ v) (s.ev x)
 | .extract x k=>Lt k (s.ev x)
 | .build t ps=>Vb (Θ.look t) (ps.toList.map λp=>(p.1,s.ev p.2))
 | .buildSlice t n ps=>D5 n (ps.toList.map λp=>(p.1,s.ev p.2)) (N0 Θ t)
 | .alloc t=>Vf (Θ.look t)
 | .box _ x=>tBox (s.ev x)
 | .makeSlice t l c=>Zw (N0 Θ t) (s.ev l) (s.ev c)
 | .slice t x lo hi mx=>match mx with
  |none=>UY s (Θ.look t) (N0 Θ t) (s.ev x) (Kr (lo.map s.ev)) (Kr (hi.map s.ev))
  |some _=>none
 | .call c=>match c.callee with
  | .builtin b=>Pm Θ s b c.args.toList c.argTypes.toList
  |_=>none
 | .makeFunc fn first caps=>tMkF s fn first.toList caps.toList
 | .makeInterface t x=>tMkI Θ s t x
 |_=>none
theorem Pe{Θ:Tab}(hΘ:Θ.OK P){ty:TypeId}(h:tq Θ s ty op=some a)(hp:a.p):QS P s op a.y:=by
 unfold tq at h;split at h
 case h_1=>exact Iz (.inl rfl) h
 case h_2=>exact Iz (.inr rfl) h
 case h_3=>exact On h
 case h_4=>exact Ot hΘ h hp
 case h_5=>exact MS hΘ h
 case h_6=>exact IM hΘ h hp
 case h_7=>exact MQ hΘ h hp
 case h_8=>exact Qp h
 case h_9=>exact Qx hΘ h hp
 case h_10=>exact UV h
 case h_11=>exact Ou hΘ h hp
 case h_12=>exact Ka h
 case h_13=>exact MV hΘ h
 case h_14=>exact H6 hΘ h
 case h_15=>exact MX hΘ h
 case h_16=>exact Qw h
 case h_17=>exact Oq hΘ h hp
 case h_18=>
  split at h
  ·exact MP hΘ h hp
  ·cases h
 case h_19 c=>
  obtain⟨callee,args,ats⟩:=c;split at h
  case h_2=>cases h
  rename_i b hb;have hb:callee= .builtin b:=hb;subst hb;unfold Pm at h;split at h
  case h_4=>cases h
  ·rename_i x t hx ht
   rw [XR (show args.toList= [x]from hx),XR (show ats.toList= [t]from ht)]
   exact Qu hΘ h
  ·rename_i x y hx
   have e:args= #[x,y]:=by have hx:args.toList= [x,y]:=hx;cases args;simp at hx;simp [hx]
   subst e;exact Qs h
  ·rename_i x y hx
   have e:args= #[x,y]:=by grind
   subst e;exact Qt h
 case h_20=>exact Qr h
 case h_21=>exact Qq hΘ h
 case h_22=>cases h
def Az:V->V->Prop
 | .many t n f,v'=>v'= .dead\/∃g,v'= .many t n g/\∀k,k<n->Az (f k) (g k)
 |v,v'=>v'= .dead\/Sub v v'
theorem Az.of: ∀ {v v':V},Sub v v'->Az v v':=by
 intro v
 induction v with
 |many t n f ih=>intro v' h;obtain⟨g,rfl,h⟩:=h;exact .inr ⟨g,rfl,λk hk=>ih k (h k hk)⟩
 |_=>intro v' h;exact .inr h
theorem Az.refl(v:V):Az v v:=Az.of (Sub.refl v)
theorem Az.dead: ∀ (v:V),Az v .dead:=by
 intro v;cases v<;>exact .inl rfl
theorem Az.mk(hl:l.length=m.length)(h: ∀k,k<l.length->Az (l.getD k .dead) (m.getD k .dead)):Az (Aj l) (Aj m):=by
 unfold Aj;rw [<-hl];exact .inr ⟨_,rfl,h⟩
theorem Az.tup(hl:l.length=m.length)(h: ∀k,k<l.length->Az (l.getD k .dead) (m.getD k .dead)):Az (Dx l) (Dx m):=by
 unfold Dx;rw [<-hl];exact .inr ⟨_,rfl,h⟩
theorem Az.pk{t:Tg}(hl:l.length=m.length)(h: ∀k,k<l.length->Az (l.getD k .dead) (m.getD k .dead)):Az (pkL t l) (pkL t m):=by
 unfold pkL;rw [<-hl];exact .inr ⟨_,rfl,h⟩
theorem Rel.subS{D:Nat->Prop}{R:V->Value->Prop}: ∀ {v v':V} {cv:Value},Az v v'->Rel D w R v cv noF->Rel D w R v' cv noF:=by
 intro v
 induction v with
 |many t n f ih=>
  intro v' cv h hr;rcases h with rfl|⟨g,rfl,h⟩
  ·exact λ_ h=>h
  obtain⟨cs,F,hcv,hn,hr,hd,hf⟩:=hr;have hF:=λk hk=>Bd λb hb=>(hf b).2 ⟨k,hk,hb⟩
  exact⟨cs,λ_=>noF,hcv,hn,λk hk=>ih k (h k hk) (by grind),λ_ _ _ _ _ _ h=>h.elim,λb=>⟨λh=>h.elim,fun⟨_,_,h⟩=>h⟩⟩
 |_=>
  intro v' cv h hr;rcases h with rfl|h
  ·exact λ_ h=>h
  ·exact Rel.sub h hr
theorem At.sub'{w:World}: ∀ {p:A1} {v v1:V} {cv:Value} {s:Bool} {sz n:Nat} {f:Nat->Nat->V} {c:Value},Sub v v1->At w p v cv (.nd s true sz n f) c->∃f',At w p v1 cv (.nd s true sz n f') c
 | [],v,v1,cv,s,sz,n,f,c,h,ha=>by
  obtain⟨rfl,rfl⟩:=ha;obtain⟨g,rfl,_⟩:=h;exact⟨g,rfl,rfl⟩
 |(i,k)::p,.nd s0 true sz0 n0 f0,v1,cv,s,sz,n,f,c,h,ha=>by
  obtain⟨g,rfl,h⟩:=h;obtain⟨h1,h2,b,o,cap,x,h3,h4,h5⟩:=ha;obtain⟨f',h'⟩:=At.sub' (h i k h1 h2) h5;exact⟨f',h1,h2,b,o,cap,x,h3,h4,h'⟩
 |_::_,.nd _ false _ _ _,_,_,_,_,_,_,_,_,ha=>ha.elim
 |_::_,.c _,_,_,_,_,_,_,_,_,ha=>ha.elim
 |_::_,.dead,_,_,_,_,_,_,_,_,ha=>ha.elim
 |_::_,.many ..,_,_,_,_,_,_,_,_,ha=>ha.elim
 |_::_,.rs ..,_,_,_,_,_,_,_,_,ha=>ha.elim
 |_::_,.rp ..,_,_,_,_,_,_,_,_,ha=>ha.elim
theorem Av.sub{σ σ':List V}{ρ:Nat->Value}(hl:σ'.length=σ.length)(hs: ∀i,i<σ.length->Sub (σ.getD i .dead) (σ'.getD i .dead)): ∀v cv,Av σ ρ w v cv->Av σ' ρ w v cv
 | .rs id p off len,cv,⟨hid,sz,n,f,cn,ha,r⟩=>by
  obtain⟨f',ha'⟩:=At.sub' (hs id hid) ha;exact⟨by grind,sz,n,f',cn,ha',r⟩
 | .rp id p i k,cv,⟨hid,s,sz,n,f,b,o,cap,ha,r⟩=>by
  obtain⟨f',ha'⟩:=At.sub' (hs id hid) ha;exact⟨by omega,s,sz,n,f',b,o,cap,ha',r⟩
 | .c _,_,h=>h.elim
 | .dead,_,h=>h.elim
 | .many ..,_,h=>h.elim
 | .nd ..,_,h=>h.elim
theorem CR.sub{C:Ctx}{σ σ' ts ts':List V}{cts:Array Value}{w:World}{D:Nat->Prop}{ρ:Nat->Value}{F:Nat->Nat->Prop}(h:CR C σ ts cts w D ρ F)(hl:σ'.length=σ.length)(hs: ∀i,i<σ.length->Sub (σ.getD i .dead) (σ'.getD i .dead))
  (htl:ts'.length=ts.length) (ht: ∀i,i<ts.length->Az (ts.getD i .dead) (ts'.getD i .dead)):CR C σ' ts' cts w D ρ F:=by
 refine⟨⟨λi hi=>Rel.sub (hs i (by omega)) (h.wr.rel i (by omega)),h.wr.disj,h.wr.dD,h.wr.Dlt,λi b hi=>h.wr.out i b (by omega)⟩,by rw [h.sz,htl],λt ht'=>?_,h.fr,h.Fn,h.D1,h.D2,h.rt,by rw [hl];exact h.ml⟩
 exact Rel.subS (ht t (by omega)) (Rel.mono (λ_ h=>h) (Av.sub hl hs) _ _ _ (λ_ _=>rfl) (h.tm t (by omega)))
theorem AX.sub{C:Ctx}{N:Nat}{S S':Ms}{a:Act}{w:World}(h:AX C N S a w)(hl:S'.σ.length=S.σ.length)(hs: ∀i,i<S.σ.length->Sub (S.σ.getD i .dead) (S'.σ.getD i .dead))(ht: ∀i,Az (S.t i) (S'.t i)):AX C N S' a w:=by
 obtain⟨hd,hdd,D,ρ,F,hcr⟩:=h;refine⟨hd,λx hx=>?_,D,ρ,F,hcr.sub hl hs (by simp) λi hi=>?_⟩
 ·have:=ht x
  rw [hdd x hx]at this;rcases this with h|h
  ·exact h
  trivial
 grind
def Cl.frz:Cl->Cl
 | .c t _ x=>.c t 0 x
 |y=>y
def Sl.frz:Sl->Option Sl
 | .one y=>some (.one y.frz)
 | .new l=>match Hi l with
  |some ⟨t,x⟩=>some (.one (.c (.ptr t) 0 x))
  |none=>none
 | .agg l=>some (.agg (l.map Cl.frz))
 | .pk t l=>some (.pk t (l.map Cl.frz))
 | .tup l=>some (.tup (l.map λp=>(p.1,p.2.map Cl.frz)))
theorem Cl.frz_v(y:Cl):Go.Ve.frz (y.v r)=y.frz.v r:=by
 cases y with
 |c t d x=>
  cases ho:t.one with
  |true=>exact Wt ho d x
  |false=>cases t<;>first|rfl|trivial
 |_=>rfl
theorem Qc(l:List Cl):Go.Ve.frz (Aj (l.map (Cl.v r)))=Aj ((l.map Cl.frz).map (Cl.v r)):=by
 rw [frz_mk,List.map_map,List.map_map]
 congr 1
 exact List.map_congr_left λy _=>Cl.frz_v y
theorem Sl.frz_v{r:List Ae}{y y':Sl}(h:y.frz=some y'):Go.Ve.frz (y.v r)=y'.v r:=by
 cases y with
 |one c=>cases h;exact Cl.frz_v c
 |new l=>
  unfold Sl.frz at h;simp only at h;split at h
  ·rename_i t x hf
   cases h;show Go.Ve.frz (Br true (l.map Cl.v0))=Br false (tyV t 0 x);rw [Md,DP _ _ hf]
  ·cases h
 |agg l=>cases h;exact Qc l
 |pk t l=>
  cases h;show Go.Ve.frz (pkL t (l.map (Cl.v r)))=pkL t ((l.map Cl.frz).map (Cl.v r));rw [frz_pk,List.map_map,List.map_map]
  congr 1
  exact List.map_congr_left λy _=>Cl.frz_v y
 |tup l=>
  cases h;show Go.Ve.frz (Dx _)=Dx _;rw [Aal,List.map_map,List.map_map]
  congr 1
  refine List.map_congr_left λp _=>?_
  obtain⟨b,l⟩:=p;cases b with
  |true=>exact Qc l
  |false=>
   show Go.Ve.frz ((l.map (Cl.v r)).getD 0 .dead)=((l.map Cl.frz).map (Cl.v r)).getD 0 .dead;rw [AT (a:=.dead) rfl,Cl.frz_v];simp only [gDE,List.getElem?_map];cases l[0]? <;>rfl
def Cl.chk(m:Nat):Cl->Cl
 | .rf id p=>bif Nat.blt id m then .rf id p else .dead
 | .rs id p off len=>bif Nat.blt id m then .rs id p off len else .dead
 | .rp id p i k=>bif Nat.blt id m then .rp id p i k else .dead
 |y=>y
def Sl.chk(m:Nat):Sl->Sl
 | .one y=>.one (y.chk m)
 | .new l=>.new l
 | .agg l=>.agg (l.map (Cl.chk m))
 | .pk t l=>.pk t (l.map (Cl.chk m))
 | .tup l=>.tup (l.map λp=>(p.1,p.2.map (Cl.chk m)))
theorem Cl.chk_v{r':List Ae}(hr: ∀id,id<r.length->r'.getD id .dead=r.getD id .dead)(y:Cl):Az (y.v r) ((y.chk r.length).v r'):=by
 cases y with
 |rf id p=>
  show Az _ ((bif Nat.blt id r.length then Cl.rf id p else .dead).v r');cases hb:Nat.blt id r.length with
  |false=>exact Az.dead _
  |true=>
   have hb:=blE hb;show Az (V.rs id p 0 (Ag r id p).len) (V.rs id p 0 (Ag r' id p).len);unfold Ag;rw [hr id hb];exact Az.refl _
 |rs id p off len=>
  show Az _ ((bif Nat.blt id r.length then Cl.rs id p off len else .dead).v r');cases hb:Nat.blt id r.length with
  |false=>exact Az.dead _
  |true=>exact Az.refl _
 |rp id p off len=>
  show Az _ ((bif Nat.blt id r.length then Cl.rp id p off len else .dead).v r');cases hb:Nat.blt id r.length with
  |false=>exact Az.dead _
  |true=>exact Az.refl _
 |_=>exact Az.refl _
theorem BW{l:List Cl}{f g:Cl->V}(hf:f .dead= .dead)(hg:g .dead= .dead)(h: ∀y,Az (f y) (g y))(k:Nat):Az ((l.map f).getD k .dead) ((l.map g).getD k .dead):=by grind
theorem Sl.chk_v{r r':List Ae}(hr: ∀id,id<r.length->r'.getD id .dead=r.getD id .dead)(y:Sl):Az (y.v r) ((y.chk r.length).v r'):=by
 have agg: ∀l:List Cl,Az (Aj (l.map (Cl.v r))) (Aj ((l.map (Cl.chk r.length)).map (Cl.v r'))):=by
  intro l;refine Az.mk (by simp) λk _=>?_
  rw [List.map_map];exact BW rfl rfl (λy=>Cl.chk_v hr y) k
 cases y with
 |one c=>exact Cl.chk_v hr c
 |new l=>exact Az.refl _
 |agg l=>exact agg l
 |pk t l=>
  refine Az.pk (by simp) λk _=>?_
  rw [List.map_map];exact BW rfl rfl (λy=>Cl.chk_v hr y) k
 |tup l=>
  refine Az.tup (by simp) λk hk=>?_
  have hk:k<l.length:=by simpa using hk
  simp only [gDE,List.getElem?_map,gEE hk,Option.map_some,Option.getD_some];generalize l[k]=p;obtain⟨b,m⟩:=p;cases b with
  |true=>exact agg m
  |false=>
   have:=BW (l:=m) (f:=Cl.v r) rfl rfl (λy=>Cl.chk_v hr y) 0
   have e:(m.map λy=>(y.chk r.length).v r')=(m.map (Cl.chk r.length)).map (Cl.v r'):=by rw [List.map_map];rfl
   grind
end Go.Ve

