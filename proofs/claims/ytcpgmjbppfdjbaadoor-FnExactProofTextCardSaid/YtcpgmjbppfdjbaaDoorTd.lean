/- The typed machine: structs that are built, new memory, slices of slices. -/
import Derived.Test.YtcpgmjbppfdjbaaDoorTc
import Derived.Test.YtcpgmjbppfdjbaaDoorVr
import Derived.Test.YtcpgmjbppfdjbaaDoorVwa
import Derived.Test.YtcpgmjbppfdjbaaDoorXa
namespace Go.Ve
variable{ps:Array (Nat×Operand)}{y:Cl}{r:List Aa}{l:List Cl}{m:List V}{d:Nat}{lo:Option Operand}{P:Program}{s:St}{a:TR}{Θ:Tab}{t:TypeId}
def CO:List V->List V->Prop
 | [],[]=>True
 |a::l,b::m=>Sub a b/\CO l m
 |_,_=>False
theorem CO.len: ∀ {l m:List V},CO l m->l.length=m.length
 | [],[],_=>rfl
 |_::_,_::_,h=>by simp [CO.len h.2]
 | [],_::_,h=>h.elim
 |_::_,[],h=>h.elim
theorem CO.getD: ∀ {l m:List V} (_:CO l m) (k:Nat),Sub (l.getD k .dead) (m.getD k .dead)
 | [],[],_,_=>Sub.refl _
 |_::_,_::_,h,0=>h.1
 |_::_,_::_,h,k+1=>CO.getD h.2 k
 | [],_::_,h,_=>h.elim
 |_::_,[],h,_=>h.elim
theorem CO.app: ∀ {l m l' m':List V},CO l m->CO l' m'->CO (l++l') (m++m')
 | [],[],_,_,_,h=>h
 |_::_,_::_,_,_,h,h'=>⟨h.1,CO.app h.2 h'⟩
 | [],_::_,_,_,h,_=>h.elim
 |_::_,[],_,_,h,_=>h.elim
theorem CO.mk{l:List V}(h:CO l m):Sub (Ac l) (Ac m):=by
 unfold Ac;rw [h.len];exact⟨_,rfl,λk _=>h.getD k⟩
theorem CO.obj{o:Bool}{l:List V}(h:CO l m):Sub (A7 o l) (A7 o m):=by
 unfold A7;rw [h.len];refine⟨_,rfl,λi k hi _=>?_⟩
 obtain rfl:i=0:=by omega
 exact h.getD k
theorem Eqv.symm: ∀ {v v':V},Eqv v v'->Eqv v' v:=by
 intro v
 induction v with
 |c v=>intro v' h;cases h;rfl
 |dead=>intro v' h;cases h;rfl
 |many t n f ih=>intro v' h;obtain⟨g,rfl,h⟩:=h;exact⟨f,rfl,λk hk=>ih k (h k hk)⟩
 |nd s own sz n f ih=>intro v' h;obtain⟨g,rfl,h⟩:=h;exact⟨f,rfl,λi k hi hk=>ih i k (h i k hi hk)⟩
 |rs id p off len=>intro v' h;cases h;rfl
 |rp id p i k=>intro v' h;cases h;rfl
def Oa(a b:Nat):Nat:=bif Nat.ble a b then a else b
theorem H4(a b:Nat):Oa a b=min a b:=by
 unfold Oa;cases h:Nat.ble a b with
 |true=>simp_all
 |false=>
  have: ¬a<=b:=λe=>by rw [Nat.ble_eq_true_of_le e]at h;grind
  grind
def dOK(t:Ty)(d d':Nat):Bool:=Nat.beq t.dep 0||Nat.beq d d'
theorem JP{t:Ty}{d':Nat}(h:dOK t d d'=true):min d t.dep=min d' t.dep:=by
 unfold dOK at h;rw [Bool.or_eq_true]at h;rcases h with h|h
 ·simp_all
 simp_all
def fit(d':Nat):Cl->Cl
 | .c t d x=>bif Nat.beq (Oa d t.dep) (Oa d' t.dep)then .c t d' x else .c t d x
 |y=>y
def DO(t:Ty)(d:Nat):Cl->Option t.T
 | .c t' d' x=>if h:t'=t then(bif dOK t d' d then some (h▸x)else none)else none
 | .nil=>match t with
  | .sl _=>some []
  |_=>none
 |_=>none
def LL(t:Ty)(d:Nat):List Cl->Option (t.T×List Cl)
 |c::l=>match DO t d c with
  |some x=>some (x,l)
  |none=>none
 | []=>none
def AaJ:(t:Ty)->Nat->List Cl->Option (t.T×List Cl)
 | .unit,_,l=>some ((),l)
 | .pair a b,d,l=>match AaJ a d l with
  |some (x,l)=>match AaJ b d l with
   |some (y,l)=>some ((x,y),l)
   |none=>none
  |none=>none
 | .int k,d,l=>LL (.int k) d l
 | .bool,d,l=>LL .bool d l
 | .str,d,l=>LL .str d l
 | .sl t,d,l=>LL (.sl t) d l
 | .ptr t,d,l=>LL (.ptr t) d l
 | .clo g t,d,l=>LL (.clo g t) d l
 | .osl t,d,l=>LL (.osl t) d l
def HZ(t:Ty)(d:Nat)(l:List Cl):Option t.T:=match AaJ t d l with
 |some (x,[])=>some x
 |_=>none
theorem LM{t:Ty}{c:Cl}{x:t.T}(h:DO t d c=some x)(r:List Aa):Sub (c.v r) (cV t d x)/\c.v r=c.v0:=by
 unfold DO at h;split at h
 ·rename_i t' d' x'
  split at h
  case isFalse=>grind
  rename_i ht;subst ht;cases hd:dOK t' d' d with
  |false=>grind
  |true=>
   rw [hd]at h;cases h;exact⟨Sub.of_eq (Ix (JP hd)),rfl⟩
 ·split at h
  ·cases h
   exact⟨.inr ⟨rfl,_,_,_,rfl⟩,rfl⟩
  grind
 grind
theorem DN{t:Ty}(ht:t.one=true){l':List Cl}{x:t.T}(h:LL t d l=some (x,l'))(r:List Aa): ∃m,l=m++l'/\CO (m.map (Cl.v r)) (tyV t d x)/\m.map (Cl.v r)=m.map Cl.v0:=by
 unfold LL at h;split at h
 ·rename_i c l0
  split at h
  ·rename_i y hy
   cases h;obtain⟨h1,h2⟩:=LM hy r;exact⟨[c],rfl,by rw [Bv ht];trivial,by grind⟩
  grind
 grind
theorem PJ(r:List Aa): ∀ (t:Ty) (d:Nat) (l l':List Cl) (x:t.T),AaJ t d l=some (x,l')->∃m,l=m++l'/\CO (m.map (Cl.v r)) (tyV t d x)/\m.map (Cl.v r)=m.map Cl.v0
 | .unit,d,l,l',x,h=>by cases h;exact⟨[],rfl,trivial,rfl⟩
 | .int k,d,l,l',x,h=>DN rfl h r
 | .bool,d,l,l',x,h=>DN rfl h r
 | .str,d,l,l',x,h=>DN rfl h r
 | .sl t,d,l,l',x,h=>DN rfl h r
 | .ptr t,d,l,l',x,h=>DN rfl h r
 | .clo g t,d,l,l',x,h=>DN rfl h r
 | .osl t,d,l,l',x,h=>DN rfl h r
 | .pair a b,d,l,l',x,h=>by
  unfold AaJ at h;split at h
  ·rename_i y l1 h1
   split at h
   ·rename_i z l2 h2
    cases h;obtain⟨m1,e1,s1,t1⟩:=PJ r a d l l1 y h1;obtain⟨m2,e2,s2,t2⟩:=PJ r b d l1 l' z h2;subst e2;subst e1;exact⟨m1++m2,by simp,by rw [List.map_append];exact s1.app s2,by grind⟩
   grind
  grind
theorem CS{t:Ty}{x:t.T}(h:HZ t d l=some x)(r:List Aa):CO (l.map (Cl.v r)) (tyV t d x)/\l.map (Cl.v r)=l.map Cl.v0:=by
 unfold HZ at h;split at h
 ·rename_i y hy
  cases h;obtain⟨m,e,h1,h2⟩:=PJ r t d l [] x hy
  grind
 grind
theorem IW(r:List Aa): ∀t:Ty,(HF t).map (Cl.v r)=(BN t).map .c
 | .int _=>rfl
 | .bool=>rfl
 | .str=>rfl
 | .sl _=>rfl
 | .ptr _=>rfl
 | .unit=>rfl
 | .clo _ _=>rfl
 | .osl _=>rfl
 | .pair a b=>by simp [HF,BN,IW r a,IW r b]
theorem Oc: ∀t:Ty,CO ((BN t).map .c) ((UL t).map Cl.v0)
 | .int _=>⟨Sub.refl _,trivial⟩
 | .bool=>⟨Sub.refl _,trivial⟩
 | .str=>⟨Sub.refl _,trivial⟩
 | .sl _=>⟨.inr ⟨rfl,_,_,_,rfl⟩,trivial⟩
 | .ptr _=>⟨Sub.refl _,trivial⟩
 | .clo _ _=>⟨Sub.refl _,trivial⟩
 | .osl _=>⟨.inr ⟨rfl,_,_,_,rfl⟩,trivial⟩
 | .unit=>trivial
 | .pair a b=>by simp [BN,UL,List.map_append];exact(Oc a).app (Oc b)
def Ty.noPtr:Ty->Bool
 | .ptr _=>false
 | .clo _ _=>false
 | .osl _=>false
 | .pair a b=>a.noPtr&&b.noPtr
 |_=>true
theorem Ob(d:Nat): ∀t:Ty,t.noPtr=true->CO ((BN t).map .c) (tyV t d t.dflt)
 | .int _,_=>⟨Sub.refl _,trivial⟩
 | .bool,_=>⟨Sub.refl _,trivial⟩
 | .str,_=>⟨Sub.refl _,trivial⟩
 | .sl _,_=>⟨.inr ⟨rfl,_,_,_,rfl⟩,trivial⟩
 | .unit,_=>trivial
 | .pair a b,h=>by
  simp [Ty.noPtr,bAE]at h;simp [BN,tyV];exact(Ob d a h.1).app (Ob d b h.2)
theorem DV: ∀t:Ty,(BN t).length=t.w
 | .int _=>rfl
 | .bool=>rfl
 | .str=>rfl
 | .sl _=>rfl
 | .ptr _=>rfl
 | .unit=>rfl
 | .clo _ _=>rfl
 | .osl _=>rfl
 | .pair a b=>by simp [BN,Ty.w,DV a,DV b]
def Cl.plain:Cl->Bool
 | .dead=>false
 | .c .unit _ _=>false
 | .c (.pair _ _) _ _=>false
 | .c (.clo _ _) _ _=>false
 | .c (.osl _) _ _=>false
 |y=>!y.own
def Sl.cells:Sl->Option (List Cl)
 | .one y=>bif y.plain then some [y]else none
 | .agg l=>bif l.all Cl.plain then some l else none
 |_=>none
theorem VT(h:y.plain=true):one1 (y.v r)=true/\AE (y.v r)=false/\Bo (y.v r)=true/\Go.Ve.cellsV (y.v r)= [y.v r]:=by
 cases y with
 |c t d x=>cases t<;>cases d<;>first|trivial|rfl
 |dead=>cases h
 |_=>trivial
theorem Cw{y:Sl}(h:y.cells=some l):Bo (y.v r)=true/\Go.Ve.cellsV (y.v r)=l.map (Cl.v r)/\l.all Cl.plain=true:=by
 unfold Sl.cells at h;split at h
 ·rename_i c
  cases hb:c.plain with
  |false=>grind
  |true=>
   rw [hb]at h;cases h;obtain⟨_,_,h1,h2⟩:=VT hb;exact⟨h1,h2,by grind⟩
 ·rename_i l'
  cases hb:l'.all Cl.plain with
  |false=>grind
  |true=>
   rw [hb]at h;cases h;refine⟨?_,NW,hb⟩;show Bo (Ac _)=true;rw [VU,List.all_map,aET];intro y hy;exact(VT (aET.1 hb y hy)).1
 grind
def Sl.cellsF:Sl->Option (List Cl)
 | .one (.c (.clo g t) d x)=>some [.c (.clo g t) d x]
 |y=>y.cells
theorem NY{y:Sl}(h:y.cellsF=some l):Bo (y.v r)=true/\Go.Ve.cellsV (y.v r)=l.map (Cl.v r):=by
 unfold Sl.cellsF at h;split at h
 ·rename_i g t d x
  cases h;refine⟨?_,rfl⟩;show(!AE (cV (.clo g t) d x))=true;have e:AE (cV (.clo g t) d x)=false:=DW (.clo g t) x _ (List.mem_singleton.2 rfl)
  grind
 ·obtain⟨h1,h2,_⟩:=Cw (r:=r) h
  grind
def setC(cells:List Cl):Nat->List Cl->List Cl
 |_,[]=>cells
 |off,y::l=>setC (cells.set off y) (off+1) l
theorem ZG: ∀ (l cells:List V) (off k:Nat),((l.zipIdx k).foldl (λcs (c,j)=>cs.set (off+j) c) cells)=XD cells (off+k) l:=by
 have gen: ∀ (l cells:List V) (off k:Nat),((l.zipIdx k).foldl (λcs (c,j)=>cs.set (off+j) c) cells)=((l.zipIdx 0).foldl (λcs (c,j)=>cs.set (off+k+j) c) cells):=by
  intro l
  induction l with
  |nil=>simp
  |cons v l ih=>
   intro cells off k;simp [Nat.add_zero];rw [ih _ off (k+1),ih _ (off+k) (0+1)];rfl
 trivial
theorem Vr{v:V}{l cells:List V}{off:Nat}:XD cells off (v::l)=XD (cells.set off v) (off+1) l:=by
 show((v::l).zipIdx 0).foldl _ cells=_;exact ZG l _ off (0+1)
theorem Vt{r:List Aa}: ∀ (l cells:List Cl) (off:Nat),(setC cells off l).map (Cl.v r)=XD (cells.map (Cl.v r)) off (l.map (Cl.v r))
 | [],cells,off=>rfl
 |y::l,cells,off=>by
  rw [List.map_cons,Vr];show(setC (cells.set off y) (off+1) l).map (Cl.v r)=_;rw [Vt l,List.map_set]
def QH(place:Nat->Option (Nat×Nat))(cells:List Cl):List (Nat×Option Sl)->Option (List Cl)
 | []=>some cells
 |(i,y)::rest=>match place i,y with
  |some (off,size),some y=>match y.cellsF with
   |some l=>bif Nat.beq l.length size&&Nat.ble (off+size) cells.length then QH place (setC cells off l) rest else none
   |none=>none
  |_,_=>none
theorem Lr{s:St}{place:Nat->Option (Nat×Nat)}: ∀ (ps:List (Nat×Operand)) (cells l:List Cl),QH place cells (ps.map λp=>(p.1,s.ev p.2))=some l->
  (ps.map λp=>(p.1,s.den.ev p.2)).all (λp=>Bo p.2)=true/\BX place (cells.map (Cl.v s.r)) (ps.map λp=>(p.1,s.den.ev p.2))=some (l.map (Cl.v s.r))
 | [],cells,l,h=>by cases h;exact⟨rfl,rfl⟩
 |(i,x)::ps,cells,l,h=>by
  rw [List.map_cons]at h;unfold QH at h;split at h
  case h_2=>cases h
  rename_i off size y hpl hy;split at h
  case h_2=>cases h
  rename_i m hm;obtain⟨hb,h⟩:=A1 h;simp only [bAE]at hb;have h1:=bqE hb.1;have h2:=blE hb.2;obtain⟨g1,g2⟩:=NY (r:=s.r) hm;obtain⟨k1,k2⟩:=Lr ps _ _ h;rw [List.map_cons,List.all_cons];refine⟨by simp only [AZ hy,g1,Bool.true_and];exact k1,?_⟩
  unfold BX;simp only [hpl,AZ hy,g2];rw [if_neg (by grind),<-Vt]
  exact k2
def Vj:Option TI->List (Nat×Option Sl)->Option TR
 |some i,ps=>bif i.agg then(match QH (λk=>i.places[k]?) (HF i.ty) ps with
   |some l=>some (.ok (.agg l))
   |none=>none)
  else none
 |none,_=>none
theorem MN(hΘ:Θ.OK P)(h:Vj (Θ.look t) (ps.toList.map λp=>(p.1,s.ev p.2))=some a):QS P s (.build t ps) a.y:=by
 unfold Vj at h;split at h
 case h_2=>grind
 rename_i i hi;cases hb:i.agg with
 |false=>grind
 |true=>
  rw [hb]at h;split at h
  case h_2=>grind
  rename_i l hl;cases h;obtain⟨h1,h2⟩:=Lr _ _ _ hl;show Ky (Zc P t) (ps.toList.map λp=>(p.1,s.den.ev p.2)) (SK s _)
  rw [hΘ.bd hi,hb];unfold Ky;rw [IW]at h2;simp only [if_true];rw [h2];exact⟨h1,Sub.refl _⟩
def Nq(t:Ty)(d:Nat):Nat->List Cl->Option (List t.T)
 |0,[]=>some []
 |0,_::_=>none
 |n+1,l=>match AaJ t d l with
  |some (x,l)=>match Nq t d n l with
   |some xs=>some (x::xs)
   |none=>none
  |none=>none
theorem OE{t:Ty}(r:List Aa): ∀ (n:Nat) (l:List Cl) (xs:List t.T),Nq t d n l=some xs->xs.length=n/\l.map (Cl.v r)=l.map Cl.v0/\
  ∀i k,i<n->k<t.w->Sub ((l.map (Cl.v r)).getD (i*t.w+k) .dead) ((tyV t d (xs.getD i t.dflt)).getD k .dead):=by
 intro n
 induction n with
 |zero=>
  intro l xs h;cases l with
  |nil=>cases h;exact⟨rfl,rfl,λi k hi=>by omega⟩
  |cons y l=>cases h
 |succ n ih=>
  intro l xs h;unfold Nq at h;split at h
  case h_2=>cases h
  rename_i x l1 h1;split at h
  case h_2=>cases h
  rename_i ys h2;cases h;obtain⟨m,e,s1,s2⟩:=PJ r t d l l1 x h1;obtain⟨g1,g2,g3⟩:=ih l1 ys h2;subst e;have hm:(m.map (Cl.v r)).length=t.w:=by rw [s1.len,Aq]
  refine⟨by simp [g1],by simp [s2,g2],λi k hi hk=>?_⟩
  rw [List.map_append];cases i with
  |zero=>
   simp only [Nat.zero_mul,Nat.zero_add,List.getD_cons_zero];have:=s1.getD k;rw [gDE,gAL (by omega),<-gDE]
   exact this
  |succ i=>
   have:=g3 i k (by omega) hk
   rw [List.getD_cons_succ];have e:(i+1)*t.w+k-(m.map (Cl.v r)).length=i*t.w+k:=by rw [hm,Nat.add_mul];omega
   rw [gDE,gAR (by rw [hm,Nat.add_mul];omega),e,<-gDE]
   exact this
def ZM(n:Nat)(l:List Cl):List Cl:=match n with
 |0=>[]
 |n+1=>l++ZM n l
theorem Wt: ∀ (n w:Nat) (l:List V),l.length=w->0<w->∀j,j<n*w->((List.replicate n l).flatten).getD j .dead=l.getD (j % w) .dead:=by
 intro n w l hl hw
 induction n with
 |zero=>simp
 |succ n ih=>
  intro j hj;rw [List.replicate_succ,List.flatten_cons];by_cases h:j<w
  ·rw [gDE,gAL (by omega),<-gDE,Nat.mod_eq_of_lt h]
  ·have:=Nat.add_one_mul n w
   rw [gDE,gAR (by omega),<-gDE,hl,ih (j-w) (by omega),<-Nat.mod_eq_sub_mod (by omega)]
theorem VE(r:List Aa)(t:Ty)(n:Nat)(hw:0<t.w):(ZM n (HF t)).map (Cl.v r)=(List.range (n*t.w)).map λj=>.c ((BN t).getD (j % t.w) undef):=by
 have e:(ZM n (HF t)).map (Cl.v r)=(List.replicate n ((BN t).map V.c)).flatten:=by
  induction n with
  |zero=>rfl
  |succ n ih=>
   show((HF t)++ZM n (HF t)).map (Cl.v r)=_;rw [List.map_append,ih,IW,List.replicate_succ,List.flatten_cons]
 have hl:((BN t).map V.c).length=t.w:=by rw [List.length_map,DV]
 rw [e];apply List.ext_getElem
 ·simp_all
 ·intro j h1 h2
  have hj:=by simpa using h2
  have g:=Wt n t.w _ hl hw j hj;rw [gDE,gEE h1]at g;simp at g;rw [g];have hm:j % t.w<(BN t).length:=by rw [DV];exact Nat.mod_lt _ hw
  simp [hm]
def Ty.noO:Ty->Bool
 | .osl _=>false
 | .clo _ t=>t.noO
 | .pair a b=>a.noO&&b.noO
 |_=>true
theorem IP: ∀ (t:Ty) (x:t.T),t.noO=true->∀v∈tyV t 0 x,BW v=true
 | .int _,_,_,v,h=>by simp [tyV]at h;subst h;rfl
 | .bool,_,_,v,h=>by simp [tyV]at h;subst h;rfl
 | .str,_,_,v,h=>by simp [tyV]at h;subst h;rfl
 | .sl _,_,_,v,h=>by simp only [tyV,List.mem_singleton]at h;subst h;rfl
 | .ptr _,_,_,v,h=>by simp only [tyV,List.mem_singleton]at h;subst h;rfl
 | .unit,_,_,v,h=>by trivial
 | .pair a b,x,ho,v,h=>by
  simp only [Ty.noO,bAE]at ho;simp only [tyV,List.mem_append]at h;exact h.elim (IP a x.1 ho.1 v) (IP b x.2 ho.2 v)
 | .osl _,_,ho,_,_=>by cases ho
 | .clo g t,x,ho,v,h=>by
  simp only [tyV,List.mem_singleton]at h;subst h;show((List.range t.w).all λk=>BW ((tyV t 0 x).getD k .dead))=true
  rw [aET];intro k hk;have hk:k<(tyV t 0 x).length:=by rw [Aq];grind
  rw [gDE,gEE hk];exact IP t x ho _ (List.getElem_mem hk)
def Cl.imm:Cl->Bool
 | .c .unit _ _=>false
 | .c (.pair _ _) _ _=>false
 | .c (.clo _ _) _ _=>false
 | .c (.osl _) _ _=>false
 | .c t d x=>!(Cl.c t d x).own
 | .nil=>true
 | .nilp=>true
 | .nilf=>true
 |_=>false
theorem OW(h:y.imm=true):BW (y.v r)=true/\y.v r=y.v0:=by
 cases y with
 |c t d x=>cases t<;>cases d<;>first|trivial|rfl
 |nil=>trivial
 |nilp=>trivial
 |nilf=>trivial
 |_=>cases h
def Cl.immF:Cl->Bool
 | .c (.clo _ t) _ _=>t.noO
 |y=>y.imm
theorem immF_v(h:y.immF=true):BW (y.v r)=true:=by
 unfold Cl.immF at h;split at h
 ·rename_i g t d x
  exact IP (.clo g t) x h _ (List.mem_singleton.2 rfl)
 ·exact(OW h).1
theorem Aae(h:l.all Cl.immF=true):(l.map (Cl.v r)).all BW=true:=by
 rw [List.all_map,aET];intro y hy;exact immF_v (aET.1 h y hy)
theorem imms_v(h:l.all Cl.imm=true):(l.map (Cl.v r)).all BW=true/\l.map (Cl.v r)=l.map Cl.v0:=by
 refine⟨?_,List.map_congr_left λy hy=>(OW (aET.1 h y hy)).2⟩
 rw [List.all_map,aET];intro y hy;exact(OW (aET.1 h y hy)).1
def DL(n:Nat)(ps:List (Nat×Option Sl)):Option TI->Option TR
 |some j=>bif Nat.blt 0 j.ty.w&&Nat.ble (n*j.ty.w) 16777216 then(bif Nat.beq n 0 then(match ps with
  | []=>some (.ok (.one (.c (.sl j.ty) (j.sd+1) [])))
  |_::_=>none)else match QH (λi=>some (i*j.ty.w,j.ty.w)) (ZM n (HF j.ty)) ps with
   |some l=>bif l.all Cl.immF then(match Nq j.ty j.sd n l with
    |some xs=>some (.ok (.one (.c (.sl j.ty) (j.sd+1) xs)))
    |none=>match Nq j.ty 0 n l with
     |some xs=>some (.ok (.one (.c (.sl j.ty) 1 xs)))
     |none=>none)else none
   |none=>none)
  else none
 |none=>none
theorem HK(hΘ:Θ.OK P){n:Nat}(h:DL n (ps.toList.map λp=>(p.1,s.ev p.2)) (((Θ.look t).bind (·.elem)).bind Θ.look)=some a):QS P s (.buildSlice t n ps) a.y:=by
 unfold DL at h;split at h
 case h_2=>cases h
 rename_i j hj;obtain⟨e,hsl,_⟩:=CV hΘ hj;cases hb:(Nat.blt 0 j.ty.w&&Nat.ble (n*j.ty.w) 16777216)with
 |false=>rw [hb]at h;cases h
 |true=>
  rw [hb]at h;simp only [bAE]at hb;have hw:=Kf hb.1;have hn:=blE hb.2;simp only [cond_true]at h;cases h0:Nat.beq n 0 with
  |true=>
   rw [h0]at h;simp only [cond_true]at h;have h0:=bqE h0;subst h0;split at h
   case h_2=>cases h
   rename_i hps;cases h;have hps':ps.toList= []:=by simpa using hps
   show BT (slI P t) (ZJ P t) 0 (ps.toList.map λp=>(p.1,s.den.ev p.2)) (SK s _)
   rw [hsl,hps'];refine⟨rfl,⟨hw,hn⟩,?_⟩;simp only [Nat.zero_mul,List.range_zero,List.map_nil,BX];refine⟨rfl,?_⟩;refine(Eqv.sub (Eqv.symm (Lw (ZJ P t) j.ty.w 0 _))).trans ?_;show Sub _ (arr true j.ty.w (tyV j.ty j.sd) j.ty.dflt []);exact⟨_,rfl,λi k hi hk=>by omega⟩
  |false=>
  rw [h0]at h;simp only [cond_false]at h;split at h
  case h_2=>cases h
  rename_i l hl;obtain⟨hi,h⟩:=A1 h
  have key: ∀ (d:Nat) (xs:List j.ty.T),Nq j.ty d n l=some xs->a= .ok (.one (.c (.sl j.ty) (d+1) xs))->QS P s (.buildSlice t n ps) a.y:=by
   intro d xs hxs ha;subst ha;obtain⟨h1,h2⟩:=Lr _ _ _ hl;rw [VE s.r j.ty n hw]at h2;show BT (slI P t) (ZJ P t) n (ps.toList.map λp=>(p.1,s.den.ev p.2)) (SK s _)
   rw [hsl];refine⟨h1,⟨hw,hn⟩,?_⟩;rw [h2];refine⟨Aae hi,?_⟩;obtain⟨g1,g2,g3⟩:=OE s.r n l xs hxs;refine(Eqv.sub (Eqv.symm (Lw (ZJ P t) j.ty.w n _))).trans ?_;show Sub _ (arr true j.ty.w (tyV j.ty d) j.ty.dflt xs);unfold arr;rw [g1];exact⟨_,rfl,λi k hi hk=>g3 i k hi hk⟩
  split at h
  ·rename_i xs hxs
   cases h;exact key _ xs hxs rfl
  ·split at h
   case h_2=>cases h
   rename_i xs hxs;cases h;exact key 0 xs hxs rfl
def Vl:Option TI->Option TR
 |some i=>bif Nat.blt 0 i.ty.w then some (.ok (.new (UL i.ty)))else none
 |none=>none
theorem MP(hΘ:Θ.OK P)(h:Vl (Θ.look t)=some a):QS P s (.alloc t) a.y:=by
 unfold Vl at h;split at h
 case h_2=>grind
 rename_i i hi;cases hb:Nat.blt 0 i.ty.w with
 |false=>grind
 |true=>
  rw [hb]at h;cases h;show Nj (tyI P t) (SK s _);rw [hΘ.ty hi];exact⟨Kf hb,(Oc i.ty).obj⟩
def tBox:Option Sl->Option TR
 |some y=>match y.cells with
  |some l=>bif l.all Cl.imm then some (.ok (.new l))else some (.ok (.pk .bx l))
  |none=>none
 |none=>none
theorem QI{x:Operand}(h:tBox (s.ev x)=some a):QS P s (.box t x) a.y:=by
 unfold tBox at h;split at h
 case h_2=>grind
 rename_i y hy;split at h
 case h_2=>grind
 rename_i l hl;cases hb:l.all Cl.imm with
 |false=>
  rw [hb]at h;cases h;obtain⟨h1,h2,_⟩:=Cw hl;show qBox (s.den.ev x) (SK s _);rw [AZ hy];refine⟨h1,.inr ?_⟩;rw [h2];exact Sub.refl _
 |true=>
  rw [hb]at h;cases h;obtain⟨h1,h2,_⟩:=Cw hl;obtain⟨g1,g2⟩:=imms_v (r:=s.r) hb;show qBox (s.den.ev x) (SK s _);rw [AZ hy];refine⟨h1,.inl ⟨by grind,?_⟩⟩
  rw [h2,g2];exact Sub.refl _
def Zy:Option TI->Option Sl->Option Sl->Option TR
 |some j,some (.one (.c (.int _) _ l)),some (.one (.c (.int _) _ c))=>
  bif Nat.blt 0 j.ty.w&&j.ty.noPtr then some (.cnd (0<=l/\l<=c/\(j.bytes:Int)*c<=281474976710656/\c<=9223372036854775807) inferInstance (.one (.c (.sl j.ty) (j.sd+1) (YN (Jv l) j.ty.dflt))))else none
 |_,_,_=>none
theorem Uf(deep:Bool){t:Ty}(d n:Nat)(h:t.noPtr=true):Sub (V7 deep t.w n (BN t)) (cV (.sl t) (d+1) (List.replicate n t.dflt)):=by
 have gen:Sub (arr true t.w (λx=>x) [] (List.replicate n ((BN t).map .c))) (cV (.sl t) (d+1) (List.replicate n t.dflt)):=by
  have e0:cV (.sl t) (d+1) (List.replicate n t.dflt)=arr true t.w (tyV t d) t.dflt (List.replicate n t.dflt):=by rfl
  rw [e0];unfold arr;rw [List.length_replicate,List.length_replicate];refine⟨_,rfl,λi k hi _=>?_⟩
  have e1:(List.replicate n ((BN t).map V.c)).getD i []=(BN t).map .c:=by grind
  have e2:(List.replicate n t.dflt).getD i t.dflt=t.dflt:=by grind
  show Sub (((List.replicate n ((BN t).map V.c)).getD i []).getD k .dead) ((tyV t d ((List.replicate n t.dflt).getD i t.dflt)).getD k .dead);rw [e1,e2];exact(Ob d t h).getD k
 trivial
theorem Om(hΘ:Θ.OK P){l c:Operand}(h:Zy (((Θ.look t).bind (·.elem)).bind Θ.look) (s.ev l) (s.ev c)=some a)(hp:a.p):QS P s (.makeSlice t l c) a.y:=by
 unfold Zy at h;split at h
 case h_2=>grind
 rename_i j _ _ li _ _ ci hj hl hc;obtain⟨e,hsl,_⟩:=CV hΘ hj;cases hb:(Nat.blt 0 j.ty.w&&j.ty.noPtr)with
 |false=>grind
 |true=>
  rw [hb]at h;simp only [bAE]at hb;cases h;show VQ (slI P t) (ZJ P t) (s.den.ev l) (s.den.ev c) (SK s _);rw [hsl,AZ hl,AZ hc];exact⟨Kf hb.1,hp,Uf _ _ _ hb.2⟩
def Km:Option (Option Sl)->Option (Option Int)
 |none=>some none
 |some (some (.one (.c (.int _) _ n)))=>some (some n)
 |_=>none
def U5(s:St):Option TI->Option TI->Option Sl->Option (Option Int)->Option (Option Int)->Option TR
 |some i,_,some (.one (.c .str _ b)),some lo,some hi=>
  bif i.str then some (.cnd (0<=lo.getD 0/\lo.getD 0<=hi.getD (ofN (Lx b))/\hi.getD (ofN (Lx b))<=ofN (Lx b)) inferInstance (.one (.c .str 0 (cutS b (Jv (lo.getD 0)) (Jv (hi.getD (ofN (Lx b))))))))else none
 |some i,some j,some (.one (.c (.sl t) 0 xs)),some lo,some hi=>
  bif Nat.beq t.w j.ty.w&& !i.str then some (.cnd (0<=lo.getD 0/\lo.getD 0<=hi.getD (ofN (H5 xs))/\hi.getD (ofN (H5 xs))<=ofN (H5 xs)) inferInstance
   (.one (.c (.sl t) 0 (match lo,hi with
    |none,none=>xs
    |some l,none=>O2 (Jv l) xs
    |none,some h=>Og (Jv h) xs
    |some l,some h=>Og (Jv h-Jv l) (O2 (Jv l) xs)))))else none
 |some i,some j,some (.one (.rf id p)),some lo,some hi=>
  match Ab s.r id p with
  | .arr _ t _ xs=>bif Nat.beq t.w j.ty.w&& !i.str then some (.cnd (0<=lo.getD 0/\lo.getD 0<=hi.getD (ofN (H5 xs))/\hi.getD (ofN (H5 xs))<=ofN (H5 xs)) inferInstance
    (.one (.rs id p (Jv (lo.getD 0)) (Jv (hi.getD (ofN (H5 xs)))-Jv (lo.getD 0)))))else none
  |_=>none
 |some i,some j,some (.one (.rs id p off len)),some lo,some hi=>
  match Ab s.r id p with
  | .arr _ t _ _=>bif Nat.beq t.w j.ty.w&& !i.str then some (.cnd (0<=lo.getD 0/\lo.getD 0<=hi.getD (ofN len)/\hi.getD (ofN len)<=ofN len) inferInstance
    (.one (.rs id p (off+Jv (lo.getD 0)) (Jv (hi.getD (ofN len))-Jv (lo.getD 0)))))else none
  |_=>none
 |_,_,_,_,_=>none
theorem CA{l:Option Int}(h:Km (lo.map s.ev)=some l)(d:Int):bnd d (lo.map s.den.ev)=some (l.getD d):=by
 cases lo with
 |none=>cases h;rfl
 |some x=>
  simp at h⊢;unfold Km at h;split at h
  ·grind
  ·rename_i hx
   cases h;simp at hx;rw [AZ hx];rfl
  grind
theorem MH{s:St}(hΘ:Θ.OK P){t:TypeId}{x:Operand}{lo hi:Option Operand}{a:TR}
  (h:U5 s (Θ.look t) (((Θ.look t).bind (·.elem)).bind Θ.look) (s.ev x) (Km (lo.map s.ev)) (Km (hi.map s.ev))=some a) (hp:a.p):QS P s (.slice t x lo hi none) a.y:=by
 unfold U5 at h;have goal: ∀y,Kw (slK P t) (s.r.map Aa.v) (s.den.ev x) (lo.map s.den.ev) (hi.map s.den.ev) (SK s y)->QS P s (.slice t x lo hi none) y:=λy h=>⟨rfl,h⟩
 have skS: ∀ {i j:TI},Θ.look t=some i->((Θ.look t).bind (·.elem)).bind Θ.look=some j->i.str=false->slK P t= .slice j.ty.w:=by
  intro i j hi hj hs;rw [hΘ.sk hi,hs];rw [hi]at hj;simp only [Option.bind_some]at hj;rw [hj];rfl
 split at h
 case h_5=>cases h
 ·rename_i i _ b l u hI hx hlo hhi
  obtain⟨hb,h⟩:=A1 h;cases h;refine goal _ ?_;rw [hΘ.sk hI,hb,AZ hx];unfold Kw
  show(match bnd 0 (lo.map s.den.ev),bnd b.size (hi.map s.den.ev)with
   |some l,some h=>_
   |_,_=>False)
  rw [CA hlo,CA hhi];exact⟨hp,Sub.refl _⟩
 ·rename_i i j t' xs l u hI hj hx hlo hhi
  obtain⟨hb,h⟩:=A1 h;cases h;obtain⟨h1,h2⟩:=Id hb;have h2:i.str=false:=by simpa using h2
  refine goal _ ?_;rw [skS hI hj h2,AZ hx]
  show(match bnd 0 (lo.map s.den.ev),bnd xs.length (hi.map s.den.ev)with
   |some l,some h=>_
   |_,_=>False)
  rw [CA hlo,CA hhi];refine⟨h1,hp,?_⟩;obtain⟨p1,p2,p3⟩:0<=l.getD 0/\l.getD 0<=u.getD xs.length/\u.getD xs.length<=xs.length:=hp;show Sub (V.nd true false t'.w ((u.getD xs.length).toNat-(l.getD 0).toNat) λi k=>(tyV t' 0 (xs.getD (i+(l.getD 0).toNat) t'.dflt)).getD k .dead) (arr false t'.w (tyV t' 0) t'.dflt _)
  have key: ∀ys:List t'.T,ys.length=(u.getD xs.length).toNat-(l.getD 0).toNat->(∀i,i<ys.length->ys.getD i t'.dflt=xs.getD (i+(l.getD 0).toNat) t'.dflt)->
    Sub (V.nd true false t'.w ((u.getD xs.length).toNat-(l.getD 0).toNat) λi k=>(tyV t' 0 (xs.getD (i+(l.getD 0).toNat) t'.dflt)).getD k .dead) (arr false t'.w (tyV t' 0) t'.dflt ys):=by
   intro ys hl hg;unfold arr;rw [hl];refine⟨_,rfl,λi k hi _=>?_⟩
   rw [hg i (by omega)]
   exact Sub.refl _
  cases l with
  |none=>cases u with
   |none=>exact key xs (by simp) λi hi=>by simp
   |some u=>
    simp only [Option.getD_none,Option.getD_some]at p1 p2 p3⊢;refine key _ ?_ λi hi=>?_
    ·simp only [Jv,List.length_take];simp;omega
    ·simp only [Jv,List.length_take]at hi
     have:i<u.toNat:=by omega
     simp [List.getElem?_take,this]
  |some l=>cases u with
   |none=>
    simp only [Option.getD_none,Option.getD_some]at p1 p2 p3⊢;refine key _ ?_ λi hi=>?_
    ·simp
    ·simp [Nat.add_comm]
   |some u=>
    simp only [Option.getD_some]at p1 p2 p3⊢;refine key _ ?_ λi hi=>?_
    ·simp only [Jv,Option.getD_some,List.length_take,List.length_drop];omega
    ·simp only [Jv,List.length_take,List.length_drop]at hi
     have:i<u.toNat-l.toNat:=by omega
     simp [List.getElem?_take,this,Nat.add_comm]
 ·rename_i i j id p l u hI hj hx hlo hhi
  split at h
  case h_2=>cases h
  rename_i ro t' d xs hn;have hne:Ab s.r id p≠.dead:=by rw [hn];simp
  obtain⟨hb,h⟩:=A1 h;cases h;obtain⟨h1,h2⟩:=Id hb;have h2:i.str=false:=by simpa using h2
  refine goal _ ?_;rw [skS hI hj h2,AZ hx];have hl:(Ab s.r id p).len=xs.length:=by rw [hn];rfl
  show(match bnd 0 (lo.map s.den.ev),bnd (Ab s.r id p).len (hi.map s.den.ev)with
   |some l,some h=>_
   |_,_=>False)
  rw [CA hlo,CA hhi,hl];refine⟨by rw [B0 (by rw [hn];rfl),hn];exact h1,hp,?_⟩
  show Sub (V.rs id p (0+(l.getD 0).toNat) _) (V.rs id p (l.getD 0).toNat _);rw [Nat.zero_add];exact Sub.refl _
 ·rename_i i j id p off len l u hI hj hx hlo hhi
  split at h
  case h_2=>cases h
  rename_i ro t' d xs hn;have hne:Ab s.r id p≠.dead:=by rw [hn];simp
  obtain⟨hb,h⟩:=A1 h;cases h;obtain⟨h1,h2⟩:=Id hb;have h2:i.str=false:=by simpa using h2
  refine goal _ ?_;rw [skS hI hj h2,AZ hx]
  show(match bnd 0 (lo.map s.den.ev),bnd len (hi.map s.den.ev)with
   |some l,some h=>_
   |_,_=>False)
  rw [CA hlo,CA hhi];exact⟨by rw [B0 (by rw [hn];rfl),hn];exact h1,hp,Sub.refl _⟩
end Go.Ve


namespace Go.Ve
variable{b:Bool}{y y':Cl}{f:FuncId}{r:List Aa}{ys:List Sl}{g:Nat}{D fp:Nat->Prop}{t1 t2:Nat->Sl}{op:Op}{x:Operand}{P:Program}{s:St}{Θ:Tab}{t:Ty}{v:V}{R:V->Value->Prop}{cv:Value}{w:World}
def PT:List (Bool×Ty)->Ty
 | []=>.unit
 | [p]=>p.2
 |p::q::l=>.pair p.2 (PT (q::l))
def vOf(b:Bool)(t:Ty)(d:Nat)(x:t.T):V:=if b then Ac (tyV t d x)else cV t d x
def Cf:(l:List (Bool×Ty))->(PT l).T->List V
 | [],_=>[]
 | [p],x=>[vOf p.1 p.2 0 x]
 |p::q::l,x=>vOf p.1 p.2 0 x.1::Cf (q::l) x.2
def RT:List (Bool×Nat×Ty)->Ty
 | []=>.unit
 | [p]=>p.2.2
 |p::q::l=>.pair p.2.2 (RT (q::l))
def ZK:(l:List (Bool×Nat×Ty))->(RT l).T->List V
 | [],_=>[]
 | [p],x=>[vOf p.1 p.2.2 p.2.1 x]
 |p::q::l,x=>vOf p.1 p.2.2 p.2.1 x.1::ZK (q::l) x.2
def VD(l:List (Bool×Nat×Ty))(x:(RT l).T):V:=Np (ZK l x)
def isP(p:Bool×Nat×Ty):Bool:=!p.1&&match p.2.2 with
 | .ptr _=>true
 |_=>false
def W7(b:Bool)(p:Bool×Nat×Ty)(x:p.2.2.T):V:=bif b|| !isP p then vOf p.1 p.2.2 p.2.1 x else .c (.pointer none)
def QU(b:Bool):(l:List (Bool×Nat×Ty))->(RT l).T->List V
 | [],_=>[]
 | [p],x=>[W7 b p x]
 |p::q::l,x=>W7 b p x.1::QU b (q::l) x.2
theorem VB: ∀ (l:List (Bool×Nat×Ty)) (x:(RT l).T),QU true l x=ZK l x
 | [],_=>rfl
 | [_],_=>rfl
 |p::q::l,x=>congrArg (vOf p.1 p.2.2 p.2.1 x.1:: ·) (VB (q::l) x.2)
def Jl(b:Bool)(l:List (Bool×Nat×Ty))(x:(RT l).T):V:=Np (QU b l x)
theorem Jk(l:List (Bool×Nat×Ty))(x:(RT l).T):Jl true l x=VD l x:=congrArg Np (VB l x)
structure Sig where
 ps:List (Bool×Ty)
 rs:List (Bool×Nat×Ty)
def FT(P:Program)(f:FuncId)(S:Sig)(g:(PT S.ps).T->Option (RT S.rs).T):Prop:=∀x y,g x=some y->FC P f (Cf S.ps x) (VD S.rs y)
structure En where
 f:FuncId
 S:Sig
 g:(PT S.ps).T->Option (RT S.rs).T
variable{Γ:List En}
def look:List En->FuncId->Option En
 | [],_=>none
 |e::l,f=>bif Nat.beq e.f f then some e else look l f
def En.OK(P:Program)(e:En):Prop:=Aj P e.f=true/\FT P e.f e.S e.g
def N9(P:Program)(Γ:List En):Prop:=∀e∈Γ,e.OK P
theorem FC.sub{P:Program}{f:FuncId}{args args':List V}{r:V}(h:FC P f args r)(hs:CO args' args):FC P f args' r:=by
 intro w D cvs hk hD hsz hr;refine h w D cvs hk hD (by rw [hsz,hs.len]) λi hi=>Rel.sub (hs.getD i) (hr i (by rw [hs.len];grind))
def FTN(P:Program)(f:FuncId)(S:Sig)(g:(PT S.ps).T->Option (Bool×(RT S.rs).T)):Prop:=∀x b y,g x=some (b,y)->FC P f (Cf S.ps x) (Jl b S.rs y)
structure EnN where
 f:FuncId
 S:Sig
 g:(PT S.ps).T->Option (Bool×(RT S.rs).T)
def P0:List EnN->FuncId->Option EnN
 | [],_=>none
 |e::l,f=>bif Nat.beq e.f f then some e else P0 l f
def EnN.OK(P:Program)(e:EnN):Prop:=Aj P e.f=true/\FTN P e.f e.S e.g
theorem PZ{P:Program}{f:FuncId}{e:EnN}: ∀ {Γ:List EnN},(∀e∈Γ,e.OK P)->P0 Γ f=some e->e.OK P/\e.f=f
 | [],_,h=>by cases h
 |e'::l,hΓ,h=>by
  unfold P0 at h;cases hb:Nat.beq e'.f f with
  |true=>
   simp_all
  |false=>
   rw [hb]at h;exact PZ (λe he=>hΓ e (mCM _ he)) h
def OR(s:St)(w:Nat):Cl->Option Cl
 | .c t _ x=>bif t.one then some (.c t 0 x)else none
 | .nil=>some .nil
 | .rf id p=>match Ab s.r id p with
  | .arr _ t _ xs=>some (.c (.sl t) 0 xs)
  |_=>none
 | .rs id p off len=>match Ab s.r id p with
  | .arr _ t _ xs=>some (.c (.sl t) 0 (QO off len xs t.dflt))
  |_=>none
 | .rp id p j k=>match Ab s.r id p with
  | .obj _ l=>match j with
   |0=>bif Nat.ble (k+w) l.length then(match DR ((l.drop k).take w)with
    |some ⟨t,x⟩=>some (.c (.ptr t) 0 x)
    |none=>none)else none
   |_+1=>none
  | .arr _ t _ xs=>bif Nat.ble (k+w) t.w then(match DR (((Am t 0 (Aaj xs j t.dflt)).drop k).take w)with
   |some ⟨t',x⟩=>some (.c (.ptr t') 0 x)
   |none=>none)else none
  |_=>none
 |_=>none
theorem P6(h:t.one=true)(d:Nat)(x:t.T):frz (cV t d x)=cV t 0 x:=by
 have:=Bd t d x;rw [Bv h,Bv h]at this
 grind
def Yw(v v':V):Prop:=Sub v v'\/∃sz sz' n f,v= .nd false false sz n f/\sz'<=sz/\Sub (.nd false false sz' n f) v'
theorem Rel.trunc{sz sz' n:Nat}{f:Nat->Nat->V}(h:Rel D w R (.nd false false sz n f) cv fp)(hs:sz'<=sz):Rel D w R (.nd false false sz' n f) cv fp:=by
 rcases h with h|⟨b,o,cap,F,hcv,hcap,hmax,hs1,hr,hi,ho⟩
 ·grind
 have hn:=hs1 rfl;subst hn;refine .inr ⟨b,o,cap,F,hcv,hcap,hmax,hs1,λi k hi hk=>?_,λhh=>?_,λh=>by cases h⟩
 ·obtain rfl:i=0:=by omega
  obtain⟨x,hx,hrx⟩:=hr 0 k (by omega) (by omega)
  exact⟨x,by simpa using hx,hrx⟩
 grind
theorem Rel.sub1{v':V}(he:Yw v v')(h:Rel D w R v cv fp):Rel D w R v' cv fp:=by
 rcases he with he|⟨sz,sz',n,f,rfl,hs,he⟩
 ·exact Rel.sub he h
 ·exact Rel.sub he (h.trunc hs)
def IC:List V->List V->Prop
 | [],[]=>True
 |a::l,b::m=>Yw a b/\IC l m
 |_,_=>False
theorem IC.len: ∀ {l m:List V},IC l m->l.length=m.length
 | [],[],_=>rfl
 |_::_,_::_,h=>by simp [IC.len h.2]
 | [],_::_,h=>h.elim
 |_::_,[],h=>h.elim
theorem IC.getD: ∀ {l m:List V} (_:IC l m) (k:Nat),Yw (l.getD k .dead) (m.getD k .dead)
 | [],[],_,_=>.inl (Sub.refl _)
 |_::_,_::_,h,0=>h.1
 |_::_,_::_,h,k+1=>IC.getD h.2 k
 | [],_::_,h,_=>h.elim
 |_::_,[],h,_=>h.elim
theorem FC.sub1{P:Program}{f:FuncId}{args args':List V}{r:V}(h:FC P f args r)(hs:IC args' args):FC P f args' r:=by
 intro w D cvs hk hD hsz hr;refine h w D cvs hk hD (by rw [hsz,hs.len]) λi hi=>Rel.sub1 (hs.getD i) (hr i (by rw [hs.len];grind))
theorem IU{x:t.T}(h:v∈tyV t 0 x):Go.Ve.frz v=v:=by
 obtain⟨i,hi,rfl⟩:=List.getElem_of_mem h;have e:=Bd t 0 x
 grind
theorem CT{σ:List V}: ∀ (t:Ty) (x:t.T),∀v∈tyV t 0 x,BE σ v=v
 | .int _,_,v,h=>by simp [tyV]at h;subst h;rfl
 | .bool,_,v,h=>by simp [tyV]at h;subst h;rfl
 | .str,_,v,h=>by simp [tyV]at h;subst h;rfl
 | .sl t,x,v,h=>by
  have e:=IU (x:=x) h;simp only [tyV,List.mem_singleton]at h;subst h;exact e
 | .ptr t,x,v,h=>by
  have e:=IU (x:=x) h;simp only [tyV,List.mem_singleton]at h;subst h;exact e
 | .unit,_,v,h=>by simp [tyV]at h
 | .pair a b,x,v,h=>by
  simp only [tyV,List.mem_append]at h;exact h.elim (CT a x.1 v) (CT b x.2 v)
 | .osl t,x,v,h=>by
  have e:=IU (x:=x) h;simp only [tyV,List.mem_singleton]at h;subst h;cases x with
  |none=>rfl
  |some xs=>exact e
 | .clo g t,x,v,h=>by
  simp only [tyV,List.mem_singleton]at h;subst h;show(if Tg.cl g= .bx then _ else V.many (.cl g) t.w λk=>BE σ ((tyV t 0 x).getD k .dead))=_
  rw [if_neg (by intro h;cases h)]
  congr 1
  funext k
  by_cases hk:k<(tyV t 0 x).length
  ·rw [gDE,gEE hk]
   exact CT t x _ (List.getElem_mem hk)
  ·rw [gDE,List.getElem?_eq_none (by omega)];rfl
theorem Hn: ∀ (t:Ty) (x:t.T),∀v∈tyV t 0 x,AG v=false
 | .int _,_,v,h=>by simp [tyV]at h;subst h;rfl
 | .bool,_,v,h=>by simp [tyV]at h;subst h;rfl
 | .str,_,v,h=>by simp [tyV]at h;subst h;rfl
 | .sl _,_,v,h=>by simp [tyV,List.mem_singleton]at h;subst h;rfl
 | .ptr _,_,v,h=>by simp [tyV,List.mem_singleton]at h;subst h;rfl
 | .unit,_,v,h=>by trivial
 | .pair a b,x,v,h=>by
  simp [tyV,List.mem_append]at h;exact h.elim (Hn a x.1 v) (Hn b x.2 v)
 | .osl t,x,v,h=>by
  simp [tyV,List.mem_singleton]at h;subst h;cases x<;>rfl
 | .clo g t,x,v,h=>by
  simp [tyV,List.mem_singleton]at h;subst h;show((List.range t.w).any λk=>AG ((tyV t 0 x).getD k .dead))=false
  rw [List.any_eq_false];intro k hk;have hk:k<(tyV t 0 x).length:=by rw [Aq];grind
  rw [gDE,gEE hk];simp [Hn t x _ (List.getElem_mem hk)]
theorem XZ{σ:List V}{u:Ty}{d:Nat}{x:u.T}:BE σ (cV (.clo g u) d x)=Go.Ve.frz (cV (.clo g u) d x):=by
 have hm:cV (.clo g u) d x∈tyV (.clo g u) 0 x:=List.mem_singleton.2 rfl;rw [CT _ _ _ hm,IU hm]
theorem L3{w:Nat}(h:OR s w y=some y'):Yw (BE (s.r.map Aa.v) (y.v s.r)) y'.v0/\y'.v0=y'.v s.r/\((∀id p i k,y≠.rp id p i k)->Sub (BE (s.r.map Aa.v) (y.v s.r)) y'.v0):=by
 have both: ∀ {v v':V},Sub v v'->Yw v v'/\((∀id p i k,y≠.rp id p i k)->Sub v v'):=λh=>⟨.inl h,λ_=>h⟩
 unfold OR at h;split at h
 ·rename_i t d x
  cases ho:t.one with
  |false=>rw [ho]at h;cases h
  |true=>
   rw [ho]at h;cases h
   have:Sub (BE (s.r.map Aa.v) (cV t d x)) (cV t 0 x):=by
    rw [<-P6 ho d x];cases t<;>first|exact Sub.refl _|(cases ho;done)|(cases x<;>exact Sub.refl _)|exact Sub.of_eq XZ
   exact⟨(both this).1,rfl,(both this).2⟩
 ·cases h;exact⟨(both (Sub.refl _)).1,rfl,(both (Sub.refl _)).2⟩
 ·rename_i id p
  split at h
  case h_2=>cases h
  rename_i ro t d xs hn;cases h;have hne:Ab s.r id p≠.dead:=by rw [hn];simp
  have:Sub (BE (s.r.map Aa.v) (V.rs id p 0 (Ab s.r id p).len)) (cV (.sl t) 0 xs):=by
   rw [OO,AP hne,hn];show Sub (Wf (arr true t.w (tyV t d) t.dflt xs) 0 xs.length) _;rw [NC rfl];have e:(λa=>(tyV t d a).map frz)=tyV t 0:=funext λx=>Bd t d x
   rw [e];exact Sub.refl _
  exact⟨(both this).1,rfl,(both this).2⟩
 ·rename_i id p off len
  split at h
  case h_2=>cases h
  rename_i ro t d xs hn;cases h;have hne:Ab s.r id p≠.dead:=by rw [hn];simp
  have:Sub (BE (s.r.map Aa.v) (V.rs id p off len)) (cV (.sl t) 0 (QO off len xs t.dflt)):=by
   rw [OO,AP hne,hn];show Sub (Wf (arr true t.w (tyV t d) t.dflt xs) off len) (arr false t.w (tyV t 0) t.dflt (QO off len xs t.dflt));unfold arr;have hl:(QO off len xs t.dflt).length=len:=by simp [QO]
   rw [hl];refine⟨_,rfl,λi k hi hk=>Sub.of_eq ?_⟩
   have hg:(QO off len xs t.dflt).getD i t.dflt=xs.getD (off+i) t.dflt:=by simp [QO,hi]
   rw [hg,<-Bd t d];exact(Ay (f:=frz) (a:=.dead) rfl (tyV t d (xs.getD (off+i) t.dflt)) k).symm
  exact⟨(both this).1,rfl,(both this).2⟩
 ·rename_i id p j k
  split at h
  ·rename_i ro l hn
   have hne:Ab s.r id p≠.dead:=by rw [hn];simp
   split at h
   case h_2=>cases h
   cases hb:Nat.ble (k+w) l.length with
   |false=>rw [hb]at h;cases h
   |true=>
    rw [hb]at h;have hb:=blE hb;simp only [cond_true]at h;split at h
    case h_2=>cases h
    rename_i t x hf;cases h;refine⟨.inr ⟨l.length-k,w,1,λi' k'=>([((l.drop k).map Cl.v0).map frz].getD i' []).getD k' .dead,?_,by omega,?_⟩,rfl,λh=>absurd rfl (h _ _ _ _)⟩
    ·show BE (s.r.map Aa.v) (V.rp id p 0 k)=_
     rw [OP,AP hne,hn];show X1 (A7 true (l.map Cl.v0)) 0 k=_;rw [KJ];unfold A7;simp only [List.map_drop,List.length_drop,List.length_map]
    ·show Sub _ (A7 false (tyV t 0 x))
     have e:=Du _ _ hf;unfold A7;have hl:(tyV t 0 x).length=w:=by rw [e];simp;omega
     rw [hl];refine⟨_,rfl,λi' k' hi hk=>?_⟩
     obtain rfl:i'=0:=by omega
     refine Sub.of_eq ?_;show(((l.drop k).map Cl.v0).map frz).getD k' .dead=(tyV t 0 x).getD k' .dead;rw [e];simp [List.getElem?_take,hk]
  ·rename_i ro t d xs hn
   have hne:Ab s.r id p≠.dead:=by rw [hn];simp
   cases hb:Nat.ble (k+w) t.w with
   |false=>rw [hb]at h;cases h
   |true=>
    rw [hb]at h;have hb:=blE hb;simp only [cond_true]at h;split at h
    case h_2=>cases h
    rename_i t' x hd;cases h;refine⟨.inr ⟨t.w-k,w,1,λi' j'=>if i'=0 then frz ((tyV t d (xs.getD j t.dflt)).getD (k+j') .dead)else .dead,?_,by omega,?_⟩,rfl,λh=>absurd rfl (h _ _ _ _)⟩
    ·show BE (s.r.map Aa.v) (V.rp id p j k)=_
     rw [OP,AP hne,hn];rfl
    ·show Sub _ (A7 false (tyV t' 0 x))
     have e:=Du _ _ hd;rw [List.map_take,List.map_drop,Bu,List.map_take,List.map_drop,Bd]at e;unfold A7;have hl:(tyV t' 0 x).length=w:=by rw [e];simp [Aq];omega
     rw [hl];refine⟨_,rfl,λi' k' hi hk=>?_⟩
     obtain rfl:i'=0:=by omega
     refine Sub.of_eq ?_;simp only [if_true];show _=(tyV t' 0 x).getD k' .dead;rw [e,<-Bd t d];have:=Ay (f:=frz) (a:=.dead) rfl (tyV t d (xs.getD j t.dflt)) (k+k');rw [<-this];simp only [gDE,List.getElem?_take,hk,if_true,List.getElem?_drop]
  ·cases h
 ·cases h
def ND(s:St):List Cl->Option (List Cl)
 | []=>some []
 |y::l=>match(match y with
   | .rp _ _ _ _=>none
   |y=>OR s 0 y)with
  |some y'=>match ND s l with
   |some l'=>some (y'::l')
   |none=>none
  |none=>none
theorem LY{s:St}: ∀ {l l':List Cl},ND s l=some l'->CO ((l.map (Cl.v s.r)).map (BE (s.r.map Aa.v))) (l'.map (Cl.v s.r))
 | [],l',h=>by cases h;trivial
 |y::l,l',h=>by
  unfold ND at h;split at h
  case h_2=>grind
  rename_i y' hy;split at h
  case h_2=>grind
  rename_i m hm;cases h;have hne: ∀id p i k,y≠.rp id p i k:=by grind
  have hy:OR s 0 y=some y':=by
   grind
  obtain⟨_,h2,h1⟩:=L3 hy;exact⟨by grind,LY hm⟩
def Wg(s:St):Cl->Option Cl
 | .rp id p i k=>match i,k with
  |0,0=>match Ab s.r id p with
   | .obj _ l=>match DR l with
    |some ⟨t,x⟩=>some (.c (.ptr t) 0 x)
    |none=>none
   |_=>none
  |_,_=>none
 |y=>OR s 0 y
theorem Z5(h:Wg s y=some y'):Sub (BE (s.r.map Aa.v) (y.v s.r)) y'.v0/\y'.v0=y'.v s.r:=by
 by_cases hc: ∃id p i k,y= .rp id p i k
 ·obtain⟨id,p,i,k,rfl⟩:=hc
  unfold Wg at h;simp at h;split at h
  case h_2=>cases h
  split at h
  case h_2=>cases h
  rename_i ro l hn;split at h
  case h_2=>cases h
  rename_i t x hf;cases h;have hne:Ab s.r id p≠.dead:=by grind
  refine⟨?_,rfl⟩;show Sub (BE (s.r.map Aa.v) (V.rp id p 0 0)) (A7 false (tyV t 0 x));rw [OP,AP hne,hn];show Sub (X1 (A7 true (l.map Cl.v0)) 0 0) _;rw [KJ,Du _ _ hf];exact Sub.refl _
 ·have hne:=λid p i k e=>hc ⟨id,p,i,k,e⟩
  have h:OR s 0 y=some y':=by
   cases y with
   |rp id p i k=>grind
   |_=>exact h
  obtain⟨_,h2,h1⟩:=L3 h
  grind
def Jz(s:St):List Cl->Option (List Cl)
 | []=>some []
 |y::l=>match Wg s y with
  |some y'=>match Jz s l with
   |some l'=>some (y'::l')
   |none=>none
  |none=>none
theorem LZ{s:St}: ∀ {l l':List Cl},Jz s l=some l'->CO ((l.map (Cl.v s.r)).map (BE (s.r.map Aa.v))) (l'.map (Cl.v s.r))
 | [],l',h=>by cases h;trivial
 |y::l,l',h=>by
  unfold Jz at h;split at h
  case h_2=>grind
  rename_i y' hy;split at h
  case h_2=>grind
  rename_i m hm;cases h;obtain⟨h1,h2⟩:=Z5 hy;exact⟨by grind,LZ hm⟩
theorem CO.pk{t:Tg}{l m:List V}(h:CO l m):Sub (pkL t l) (pkL t m):=by
 unfold pkL;rw [h.len];exact⟨_,rfl,λk _=>h.getD k⟩
def IH(s:St)(b:Bool)(t:Ty):Option Sl->Option t.T
 |some (.one y)=>bif b then none else bif t.one then(match OR s (match t with
   | .ptr u=>u.w
   |_=>0) y with
  |some y'=>DO t 0 y'
  |none=>none)else none
 |some (.agg l)=>bif b then(match ND s l with
  |some l'=>HZ t 0 l'
  |none=>none)else none
 |some (.pk .bx l)=>bif b then none else(match t with
  | .ptr u=>(match ND s l with
   |some l'=>HZ u 0 l'
   |none=>none)
  |_=>none)
 |some (.pk (.cl g) l)=>bif b then none else(match t with
  | .clo g' u=>bif Nat.beq g g' then(match Jz s l with
   |some l'=>HZ u 0 l'
   |none=>none)else none
  |_=>none)
 |_=>none
theorem CO.trans: ∀ {a b c:List V},CO a b->CO b c->CO a c:=by
 intro a
 induction a with
 |nil=>intro b c h1 h2;cases b<;>first|rfl|trivial
 |cons v a ih=>intro b c h1 h2;cases b with
  |nil=>trivial
  |cons w b=>cases c with
   |nil=>trivial
   |cons u c=>exact⟨h1.1.trans h2.1,ih h1.2 h2.2⟩
theorem MO{z:t.T}(h:IH s b t (s.ev x)=some z):Yw (BE (s.r.map Aa.v) (s.den.ev x)) (vOf b t 0 z):=by
 unfold IH at h;split at h
 case h_5=>cases h
 ·rename_i y hy
  cases b with
  |true=>cases h
  |false=>
   cases ho:t.one with
   |false=>rw [ho]at h;cases h
   |true=>
    rw [ho]at h;simp only [cond_false,cond_true]at h;split at h
    case h_2=>cases h
    rename_i y' hl;obtain⟨h1,h2,_⟩:=L3 hl;obtain⟨g1,g2⟩:=LM h s.r;rw [AZ hy];have g1:Sub y'.v0 (vOf false t 0 z):=h2▸g1;rcases h1 with h1|⟨sz,sz',n,f,e1,e2,e3⟩
    ·exact .inl (h1.trans g1)
    ·exact .inr ⟨sz,sz',n,f,e1,e2,e3.trans g1⟩
 ·rename_i l hy
  cases b with
  |false=>cases h
  |true=>
   simp only [cond_true]at h;split at h
   case h_2=>cases h
   rename_i l' hl;rw [AZ hy];left;show Sub (BE _ (Ac _)) (Ac _);rw [Z3];refine CO.mk ?_;have h1:=LY hl;have h2:=(CS h s.r).1;exact CO.trans h1 h2
 ·rename_i l hy
  cases b with
  |true=>cases h
  |false=>
   simp only [cond_false]at h;split at h
   case h_2=>cases h
   rename_i u;split at h
   case h_2=>cases h
   rename_i l' hl;rw [AZ hy];left;show Sub (BE _ (boxL _)) (A7 false (tyV u 0 z));rw [X0];exact CO.obj (CO.trans (LY hl) (CS h s.r).1)
 ·rename_i g l hy
  cases b with
  |true=>cases h
  |false=>
   simp only [cond_false]at h;split at h
   case h_2=>cases h
   rename_i g' u;cases hb:Nat.beq g g' with
   |false=>rw [hb]at h;cases h
   |true=>
    rw [hb]at h;simp only [cond_true]at h;have hg:=bqE hb;subst hg;split at h
    case h_2=>cases h
    rename_i l' hl;rw [AZ hy];left
    have e:V.many (.cl g) u.w (λk=>(tyV u 0 z).getD k .dead)=pkL (.cl g) (tyV u 0 z):=by
     unfold pkL;rw [Aq]
    show Sub (BE _ (pkL (.cl g) _)) (V.many (.cl g) u.w λk=>(tyV u 0 z).getD k .dead)
    rw [e,Z4];exact CO.pk (CO.trans (LZ hl) (CS h s.r).1)
def DE(s:St):(l:List (Bool×Ty))->List (Option Sl)->Option (PT l).T
 | [],[]=>some ()
 | [p],[y]=>IH s p.1 p.2 y
 |p::q::l,y::ys=>match IH s p.1 p.2 y with
  |some z=>match DE s (q::l) ys with
   |some zs=>some (z,zs)
   |none=>none
  |none=>none
 |_,_=>none
theorem ZD{s:St}: ∀ (l:List (Bool×Ty)) (xs:List Operand) (z:(PT l).T),DE s l (xs.map s.ev)=some z->IC ((xs.map s.den.ev).map (BE (s.r.map Aa.v))) (Cf l z)
 | [],[],z,h=>trivial
 | [p],[x],z,h=>⟨MO h,trivial⟩
 |p::q::l,x::xs,z,h=>by
  have h:(match IH s p.1 p.2 (s.ev x)with
   |some z=>match DE s (q::l) (xs.map s.ev)with
    |some zs=>some (z,zs)
    |none=>none
   |none=>none:Option (PT (p::q::l)).T)=some z:=h
  split at h
  case h_2=>grind
  rename_i z1 h1;split at h
  case h_2=>grind
  rename_i zs h2;cases h;exact⟨MO h1,ZD (q::l) xs zs h2⟩
 | [],_::_,_,h=>by cases h
 | [_],[],_,h=>by cases h
 | [_],_::_::_,_,h=>by cases h
 |_::_::_,[],_,h=>by cases h
def resC(b:Bool)(d:Nat)(t:Ty)(x:t.T):Bool×List Cl:=(b,Am t d x)
def QW(b:Bool)(p:Bool×Nat×Ty)(x:p.2.2.T):Bool×List Cl:=bif b|| !isP p then resC p.1 p.2.1 p.2.2 x else(false,[.nilp])
def resL(b:Bool):(l:List (Bool×Nat×Ty))->(RT l).T->List (Bool×List Cl)
 | [],_=>[]
 | [p],x=>[QW b p x]
 |p::q::l,x=>QW b p x.1::resL b (q::l) x.2
def Mq(b:Bool)(l:List (Bool×Nat×Ty))(x:(RT l).T):Sl:=match resL b l x with
 | [(true,cs)]=>.agg cs
 | [(false,cs)]=>.one (cs.getD 0 .dead)
 |m=>.tup m
theorem ZL(b:Bool)(d:Nat)(t:Ty)(x:t.T)(h:b=true\/t.one=true):(if b then Ac ((Am t d x).map (Cl.v r))else((Am t d x).map (Cl.v r)).getD 0 .dead)=vOf b t d x:=by
 rw [Cl.v_c];cases b with
 |true=>rfl
 |false=>
  rcases h with h|h
  ·grind
  ·rw [Bv h];rfl
def Db:List (Bool×Nat×Ty)->Bool
 | []=>true
 |p::l=>(p.1||p.2.2.one)&&Db l
theorem Pv(b:Bool)(p:Bool×Nat×Ty)(x:p.2.2.T)(h:p.1=true\/p.2.2.one=true):(if(QW b p x).1 then Ac ((QW b p x).2.map (Cl.v r))else((QW b p x).2.map (Cl.v r)).getD 0 .dead)=W7 b p x:=by
 unfold QW W7;cases b|| !isP p with
 |true=>exact ZL p.1 p.2.1 p.2.2 x h
 |false=>rfl
theorem YM{r:List Aa}(b:Bool): ∀ (l:List (Bool×Nat×Ty)) (x:(RT l).T),Db l=true->(resL b l x).map (λp=>if p.1 then Ac (p.2.map (Cl.v r))else(p.2.map (Cl.v r)).getD 0 .dead)=QU b l x
 | [],x,_=>rfl
 | [p],x,h=>by
  simp only [Db,bAE,Bool.or_eq_true]at h;show [_]= [W7 _ _ _];rw [<-Pv b p x h.1]
 |p::q::l,x,h=>by
  have h':((p.1||p.2.2.one)&&Db (q::l))=true:=h;simp [Bool.or_eq_true]at h';show _::(resL b (q::l) x.2).map _=W7 _ _ _::_;rw [YM b (q::l) x.2 h'.2,<-Pv b p x.1 h'.1]
theorem Pu(b:Bool)(l:List (Bool×Nat×Ty))(x:(RT l).T)(h:Db l=true):(Mq b l x).v r=Jl b l x:=by
 have e:=YM (r:=r) b l x h;unfold Jl;rw [<-e];unfold Mq;split
 ·rename_i cs hc
  rw [hc];rfl
 ·rename_i cs hc
  rw [hc];show(cs.getD 0 .dead).v r=(cs.map (Cl.v r)).getD 0 .dead;rw [Ay (a:=.dead) rfl]
 ·rename_i m h1 h2
  generalize resL b l x=m at*
  match m,h1,h2 with
  | [],_,_=>rfl
  | [(true,cs)],h1,_=>grind
  | [(false,cs)],_,h2=>grind
  |a::b::m,_,_=>rfl
def Ty.noFn:Ty->Bool
 | .clo _ _=>false
 | .osl _=>false
 | .sl t=>t.noFn
 | .ptr t=>t.noFn
 | .pair a b=>a.noFn&&b.noFn
 |_=>true
theorem BV: ∀ (t:Ty) (d:Nat) (x:t.T),t.dep<=d->t.noFn=true->∀v∈tyV t d x,Bp v
 | .int _,_,_,_,_,v,h=>by simp only [tyV,List.mem_singleton]at h;subst h;trivial
 | .bool,_,_,_,_,v,h=>by simp only [tyV,List.mem_singleton]at h;subst h;trivial
 | .str,_,_,_,_,v,h=>by simp only [tyV,List.mem_singleton]at h;subst h;trivial
 | .unit,_,_,_,_,v,h=>by cases h
 | .clo _ _,_,_,_,hf,_,_=>by cases hf
 | .osl _,_,_,_,hf,_,_=>by cases hf
 | .sl t,d,xs,hd,hf,v,h=>by
  simp only [Ty.dep]at hd;simp only [tyV,List.mem_singleton]at h;subst h;refine⟨dT (by omega),λi k _ hk=>?_⟩
  exact BV t (d-1) _ (by omega) hf _ (IT (by rw [Aq];exact hk))
 | .ptr t,d,x,hd,hf,v,h=>by
  simp only [Ty.dep]at hd;simp only [tyV,List.mem_singleton]at h;subst h;refine⟨dT (by omega),λi k hi hk=>?_⟩
  obtain rfl:i=0:=by omega
  exact BV t (d-1) _ (by omega) hf _ (IT hk)
 | .pair a b,d,x,hd,hf,v,h=>by
  simp only [Ty.noFn,bAE]at hf;simp only [Ty.dep]at hd;rcases List.mem_append.1 h with h|h
  ·exact BV a d _ (by omega) hf.1 v h
  ·exact BV b d _ (by omega) hf.2 v h
def CC:List (Bool×Nat×Ty)->Bool
 | []=>true
 |p::l=>Nat.ble p.2.2.dep p.2.1&&p.2.2.noFn&&(p.1||p.2.2.one)&&CC l
theorem OG(b:Bool)(d:Nat)(t:Ty)(x:t.T)(h:t.dep<=d)(hf:t.noFn=true)(h2:b=true\/t.one=true):Bp (vOf b t d x):=by
 cases b with
 |true=>
  show Bp (Ac _);rw [Ua];exact BV t d x h hf
 |false=>
  rcases h2 with h2|h2
  ·grind
  ·exact BV t d x h hf _ (by rw [Bv h2];exact List.mem_singleton.2 rfl)
theorem Ir(b:Bool)(p:Bool×Nat×Ty)(x:p.2.2.T)(h:p.2.2.dep<=p.2.1)(hf:p.2.2.noFn=true)(h2:p.1=true\/p.2.2.one=true):Bp (W7 b p x):=by
 unfold W7;cases b|| !isP p with
 |true=>exact OG _ _ _ _ h hf h2
 |false=>trivial
theorem Is(b:Bool): ∀ (l:List (Bool×Nat×Ty)) (x:(RT l).T),CC l=true->∀v∈QU b l x,Bp v
 | [],_,_,v,h=>by cases h
 | [p],x,hr,v,h=>by
  simp only [CC,bAE,Bool.or_eq_true]at hr;rw [List.mem_singleton.1 h];exact Ir b p x (blE hr.1.1.1) hr.1.1.2 hr.1.2
 |p::q::l,x,hr,v,h=>by
  have hr':(Nat.ble p.2.2.dep p.2.1&&p.2.2.noFn&&(p.1||p.2.2.one)&&CC (q::l))=true:=hr;simp only [bAE,Bool.or_eq_true]at hr';rcases List.mem_cons.1 h with rfl|h
  ·exact Ir b p x.1 (blE hr'.1.1.1) hr'.1.1.2 hr'.1.2
  ·exact Is b (q::l) x.2 hr'.2 v h
theorem C3(b:Bool)(l:List (Bool×Nat×Ty))(x:(RT l).T)(h:CC l=true):Bp (Jl b l x):=by
 have:=Is b l x h;unfold Jl Np;split
 ·grind
 ·have h2:=this
  rw [<-OH]at h2
  trivial
def Cl.lent:Cl->Bool
 | .rf _ _=>true
 | .rs _ _ _ _=>true
 | .rp _ _ _ _=>true
 |y=>y.own
def Sl.lent:Sl->Bool
 | .one c=>c.lent
 | .agg l=>l.any Cl.lent
 | .pk _ l=>l.any Cl.lent
 |_=>true
def Hh(xs:List (Option Sl)):Bool:=xs.all λx=>match x with
 |some y=>!y.lent
 |none=>false
theorem Cl.lent_v(c:Cl):c.lent=false->AG (c.v r)=false:=by
 intro h;cases c with
 |c t d x=>
  cases t<;>cases d<;>first|rfl|trivial|(cases x<;>first|rfl|trivial)|exact Hn (.clo _ _) x _ (List.mem_singleton.2 rfl)
 |rf=>cases h
 |rs=>cases h
 |rp=>cases h
 |_=>rfl
theorem Nu(tg:Tg)(l:List Cl)(h:l.any Cl.lent=false):AG (.many tg (l.map (Cl.v r)).length λk=>(l.map (Cl.v r)).getD k .dead)=false:=by
 show((List.range _).any λk=>AG ((l.map (Cl.v r)).getD k .dead))=false
 rw [List.any_eq_false];intro k hk;rw [Ay (a:=.dead) rfl]
 have:(l.getD k .dead).lent=false:=by
  grind
 rw [Cl.lent_v _ this];simp
theorem PN{xs:List Operand}(h:Hh (xs.map s.ev)=true):(xs.map s.den.ev).any AG=false:=by
 rw [List.any_eq_false];intro v hv;obtain⟨x,hx,rfl⟩:=List.mem_map.1 hv;have h1:=aET.1 h (s.ev x) (List.mem_map.2 ⟨x,hx,rfl⟩);cases hy:s.ev x with
 |none=>grind
 |some y=>
  rw [hy]at h1;have h1:=by simpa using h1
  rw [AZ hy]
  have:AG (y.v s.r)=false:=by
   cases y with
   |one c=>exact Cl.lent_v c h1
   |agg l=>exact Nu .ag l h1
   |pk t l=>exact Nu t l h1
   |new l=>trivial
   |tup l=>trivial
  grind
def Dj(s:St):Option Sl->Option Sl
 |some (.one (.rf id p))=>match Ab s.r id p with
  | .opt _ u _ x=>some (.one (.c (.sl u) 0 (getO x)))
  |_=>some (.one (.rf id p))
 |y=>y
def Yp(s:St):Option Sl->List Bool
 |some (.one (.rf id p))=>match Ab s.r id p with
  | .opt _ _ _ x=>[isO x]
  |_=>[]
 |_=>[]
def KZ(s:St):List (Option Sl)->List Bool
 | []=>[]
 |y::l=>Yp s y++KZ s l
def gate{α:Type}:List Bool->Option α->Option α
 | [],o=>o
 |b::l,o=>N3 b (gate l o) none
structure UH where
 α:Type
 o:Option α
 y:α->Sl
variable{a:UH}
structure CallN where
 α:Type
 o:Option (Bool×α)
 y:Bool->α->Sl
def Kl(e:En)(s:St)(xs:List (Option Sl)):Option UH:=
 bif CC e.S.rs||(Db e.S.rs&&Hh xs)then(match DE s e.S.ps (xs.map (Dj s))with
  |some z=>some ⟨(RT e.S.rs).T,gate (KZ s xs) (e.g z),λy=>Mq true e.S.rs y⟩
  |none=>none)else none
def I5:List En->St->FuncId->List (Option Sl)->Option UH
 | [],_,_,_=>none
 |e::Γ,s,f,xs=>bif Nat.beq e.f f then(match Kl e s xs with
  |some a=>some a
  |none=>I5 Γ s f xs)else I5 Γ s f xs
theorem IG{s:St}{f:FuncId}{xs:List (Option Sl)}{a:UH}: ∀ {Γ:List En},I5 Γ s f xs=some a->∃e∈Γ,e.f=f/\Kl e s xs=some a
 | [],h=>by cases h
 |e::Γ,h=>by
  have back:I5 Γ s f xs=some a->∃e'∈e::Γ,e'.f=f/\Kl e' s xs=some a:=λh=>by
   obtain⟨e',h1,h2⟩:=IG h
   grind
  unfold I5 at h;cases hb:Nat.beq e.f f with
  |false=>grind
  |true=>
   rw [hb]at h;split at h
   ·simp_all
   grind
def Vi(Γ:List EnN)(s:St)(f:FuncId)(xs:List (Option Sl)):Option CallN:=
 match P0 Γ f with
 |some e=>bif CC e.S.rs||(Db e.S.rs&&Hh xs)then(match DE s e.S.ps (xs.map (Dj s))with
  |some z=>some ⟨(RT e.S.rs).T,gate (KZ s xs) (e.g z),λb y=>Mq b e.S.rs y⟩
  |none=>none)else none
 |none=>none
theorem Hb: ∀ {l:List (Bool×Nat×Ty)},CC l=true->Db l=true
 | [],_=>rfl
 |p::l,h=>by
  simp only [CC,bAE]at h;simp only [Db,bAE];exact⟨h.1.2,Hb h.2⟩
theorem OQ{t1 t2:Nat->Sl}{r:List Aa}: ∀l:List Cl,ND ⟨t1,r⟩ l=ND ⟨t2,r⟩ l
 | []=>rfl
 |y::l=>by
  unfold ND;rw [OQ l];rfl
theorem Z6:Wg ⟨t1,r⟩ y=Wg ⟨t2,r⟩ y:=by rfl
theorem P2{t1 t2:Nat->Sl}{r:List Aa}: ∀l:List Cl,Jz ⟨t1,r⟩ l=Jz ⟨t2,r⟩ l
 | []=>rfl
 |y::l=>by
  unfold Jz;rw [P2 l,Z6]
theorem YG{o:Option Sl}:IH ⟨t1,r⟩ b t o=IH ⟨t2,r⟩ b t o:=by
 cases o with
 |none=>rfl
 |some y=>
  cases y with
  |one y=>rfl
  |agg l=>unfold IH;simp [OQ (t2:=t2)]
  |pk t l=>cases t<;>first|rfl|(unfold IH;simp [P2 (t2:=t2)];done)|(unfold IH;simp [OQ (t2:=t2)])
  |_=>rfl
theorem Vk{y:Sl}{z:t.T}(h:IH s b t (some y)=some z):Yw (BE (s.r.map Aa.v) (y.v s.r)) (vOf b t 0 z):=
 MO (x:=.tmp 0) (by
  have:IH ⟨λ_=>y,s.r⟩ b t (some y)=some z:=by rw [<-h];exact YG
  trivial)
theorem ZC{s:St}: ∀ (l:List (Bool×Ty)) (ys:List Sl) (z:(PT l).T),DE s l (ys.map some)=some z->IC ((ys.map (Sl.v s.r)).map (BE (s.r.map Aa.v))) (Cf l z)
 | [],[],z,h=>trivial
 | [p],[y],z,h=>⟨Vk h,trivial⟩
 |p::q::l,y::ys,z,h=>by
  have h:(match IH s p.1 p.2 (some y)with
   |some z=>match DE s (q::l) (ys.map some)with
    |some zs=>some (z,zs)
    |none=>none
   |none=>none:Option (PT (p::q::l)).T)=some z:=h
  split at h
  case h_2=>grind
  rename_i z1 h1;split at h
  case h_2=>grind
  rename_i zs h2;cases h;exact⟨Vk h1,ZC (q::l) ys zs h2⟩
 | [],_::_,_,h=>by cases h
 | [_],[],_,h=>by cases h
 | [_],_::_::_,_,h=>by cases h
 |_::_::_,[],_,h=>by cases h
theorem Ds{α:Type}{u:α}: ∀ {l:List Bool} {o:Option α},gate l o=some u->o=some u/\∀b∈l,b=true
 | [],_,h=>⟨h,λ_ h=>by grind⟩
 |b::l,o,h=>by
  cases b with
  |false=>cases h
  |true=>
   obtain⟨h1,h2⟩:=Ds (l:=l) h
   grind
theorem OI{z:t.T}(h:IH s b t (Dj s (s.ev x))=some z)(hc: ∀c∈Yp s (s.ev x),c=true):Yw (BE (s.r.map Aa.v) (s.den.ev x)) (vOf b t 0 z):=by
 cases hx:s.ev x with
 |none=>rw [hx]at h;exact MO (by rw [hx];exact h)
 |some y=>
  by_cases hy: ∃id p ro u d v,y= .one (.rf id p)/\Ab s.r id p= .opt ro u d v
  ·obtain⟨id,p,ro,u,d,v,rfl,hn⟩:=hy
   rw [hx]at h hc;simp only [Dj,Yp,hn]at h hc;have hv:isO v=true:=hc _ (List.mem_singleton.2 rfl);cases v with
   |none=>cases hv
   |some ys=>
    have h2:=Vk h;have e1:BE (s.r.map Aa.v) ((Sl.one (.c (.sl u) 0 ys)).v s.r)=cV (.sl u) 0 ys:=CT (.sl u) ys _ (List.mem_singleton.2 rfl);have e1':BE (s.r.map Aa.v) ((Sl.one (.c (.sl u) 0 (getO (some ys)))).v s.r)=cV (.sl u) 0 ys:=e1;rw [e1']at h2
    have e2:BE (s.r.map Aa.v) (s.den.ev x)=cV (.sl u) 0 ys:=by
     rw [AZ hx];show BE (s.r.map Aa.v) (V.rs id p 0 (Ab s.r id p).len)=_;rw [OO,AP (by rw [hn];simp),hn]
     show Wf (arr true u.w (tyV u d) u.dflt ys) 0 ys.length=_;rw [NC rfl];have e:=funext λx=>Bd u d x
     rw [e];rfl
    rw [e2];exact h2
  ·have e:Dj s (some y)=some y:=by
    cases y with
    |one c=>
     cases c with
     |rf id p=>
      cases hn:Ab s.r id p with
      |opt ro u d v=>grind
      |_=>simp only [Dj,hn]
     |_=>rfl
    |_=>rfl
   rw [hx,e,<-hx]at h;exact MO h
theorem V3{y:Sl}{z:t.T}(h:IH s b t (Dj s (some y))=some z)(hc: ∀c∈Yp s (some y),c=true):Yw (BE (s.r.map Aa.v) (y.v s.r)) (vOf b t 0 z):=by
 have e1:Dj ⟨λ_=>y,s.r⟩ (some y)=Dj s (some y):=by
  rfl
 refine OI (s:=⟨λ_=>y,s.r⟩) (x:=.tmp 0) ?_ ?_
 ·show IH ⟨λ_=>y,s.r⟩ b t (Dj ⟨λ_=>y,s.r⟩ (some y))=some z
  rw [<-h];exact YG
 trivial
theorem Lu{s:St}: ∀ (l:List (Bool×Ty)) (ys:List Sl) (z:(PT l).T),DE s l ((ys.map some).map (Dj s))=some z->(∀c∈KZ s (ys.map some),c=true)->IC ((ys.map (Sl.v s.r)).map (BE (s.r.map Aa.v))) (Cf l z)
 | [],[],z,h,_=>trivial
 | [p],[y],z,h,hc=>⟨V3 h λc h=>hc c (List.mem_append_left _ h),trivial⟩
 |p::q::l,y::ys,z,h,hc=>by
  have h:(match IH s p.1 p.2 (Dj s (some y))with
   |some z=>match DE s (q::l) ((ys.map some).map (Dj s))with
    |some zs=>some (z,zs)
    |none=>none
   |none=>none:Option (PT (p::q::l)).T)=some z:=h
  split at h
  case h_2=>grind
  rename_i z1 h1;split at h
  case h_2=>grind
  rename_i zs h2;cases h;exact⟨V3 h1 λc h=>hc c (List.mem_append_left _ h),Lu (q::l) ys zs h2 λc h=>hc c (List.mem_append_right _ h)⟩
 | [],_::_,_,h,_=>by cases h
 | [_],[],_,h,_=>by cases h
 | [_],_::_::_,_,h,_=>by cases h
 |_::_::_,[],_,h,_=>by cases h
theorem Ps{s:St}: ∀ (l:List (Bool×Ty)) (xs:List Operand) (z:(PT l).T),DE s l ((xs.map s.ev).map (Dj s))=some z->(∀c∈KZ s (xs.map s.ev),c=true)->IC ((xs.map s.den.ev).map (BE (s.r.map Aa.v))) (Cf l z)
 | [],[],z,h,_=>trivial
 | [p],[x],z,h,hc=>⟨OI h λc h=>hc c (List.mem_append_left _ h),trivial⟩
 |p::q::l,x::xs,z,h,hc=>by
  have h:(match IH s p.1 p.2 (Dj s (s.ev x))with
   |some z=>match DE s (q::l) ((xs.map s.ev).map (Dj s))with
    |some zs=>some (z,zs)
    |none=>none
   |none=>none:Option (PT (p::q::l)).T)=some z:=h
  split at h
  case h_2=>grind
  rename_i z1 h1;split at h
  case h_2=>grind
  rename_i zs h2;cases h;exact⟨OI h1 λc h=>hc c (List.mem_append_left _ h),Ps (q::l) xs zs h2 λc h=>hc c (List.mem_append_right _ h)⟩
 | [],_::_,_,h,_=>by cases h
 | [_],[],_,h,_=>by cases h
 | [_],_::_::_,_,h,_=>by cases h
 |_::_::_,[],_,h,_=>by cases h
theorem K8{xs:Array Operand}{ats}{ps:List (Bool×Ty)}{rs:List (Bool×Nat×Ty)}{z:(PT ps).T}{u:(RT rs).T}(hc:Aj P f=true)(hft:FC P f (Cf ps z) (Jl b rs u))(hz:DE s ps ((xs.toList.map s.ev).map (Dj s))=some z)(hcd: ∀c∈KZ s (xs.toList.map s.ev),c=true)
  (ho:(CC rs||(Db rs&&Hh (xs.toList.map s.ev)))=true):QS P s (.call ⟨.value (.func f),xs,ats⟩) (Mq b rs u):=by
 rw [Bool.or_eq_true,bAE]at ho;have hok:=ho.elim Hb (·.1)
 refine⟨Jl b rs u,⟨hc,hft.sub1 (Ps _ _ _ hz hcd)⟩,λhl=>?_,?_⟩
 ·rcases ho with ho|⟨_,ho⟩
  ·exact C3 _ _ _ ho
  ·rw [PN ho]at hl;grind
 ·show Sub _ ((Mq b rs u).v s.r)
  rw [Pu _ _ _ hok];exact Sub.refl _
theorem Oq(hΓ:N9 P Γ){xs ats}(h:I5 Γ s f (xs.toList.map s.ev)=some a){u:a.α}(hu:a.o=some u):QS P s (.call ⟨.value (.func f),xs,ats⟩) (a.y u):=by
 obtain⟨e,he,hef,hx⟩:=IG h;subst hef;unfold Kl at hx;have h:=hx;cases ho:(CC e.S.rs||(Db e.S.rs&&Hh (xs.toList.map s.ev)))with
 |false=>grind
 |true=>
  rw [ho]at h;split at h
  case h_2=>grind
  rename_i z hz;cases h;obtain⟨hc,hft⟩:=hΓ e he;obtain⟨hu,hcd⟩:=Ds hu;exact K8 hc (by rw [Jk];exact hft z u hu) hz hcd ho
theorem MM{Γ:List EnN}(hΓ: ∀e∈Γ,e.OK P){xs ats}{a:CallN}(h:Vi Γ s f (xs.toList.map s.ev)=some a){u:a.α}(hu:a.o=some (b,u)):QS P s (.call ⟨.value (.func f),xs,ats⟩) (a.y b u):=by
 unfold Vi at h;split at h
 case h_2=>grind
 rename_i e he;cases ho:(CC e.S.rs||(Db e.S.rs&&Hh (xs.toList.map s.ev)))with
 |false=>grind
 |true=>
  rw [ho]at h;split at h
  case h_2=>grind
  rename_i z hz;cases h;obtain⟨⟨hc,hft⟩,rfl⟩:=PZ hΓ he;obtain⟨hu,hcd⟩:=Ds hu;exact K8 hc (hft z b u hu) hz hcd ho
theorem PM(h:Hh (ys.map some)=true):(ys.map (Sl.v s.r)).any AG=false:=by
 have:=PN (s:=⟨λi=>ys.getD i (.one .dead),s.r⟩) (by
  have e:((List.range ys.length).map Operand.tmp).map (St.ev ⟨λi=>ys.getD i (.one .dead),s.r⟩)=ys.map some:=by
   rw [List.map_map];apply List.ext_getElem (by simp)
   intro i h1 h2;have hi:i<ys.length:=by simpa using h1
   have:(St.ev ⟨λi=>ys.getD i (.one .dead),s.r⟩ (.tmp i))=some (ys.getD i (.one .dead)):=rfl
   grind
  rw [e];exact h)
 have e2:((List.range ys.length).map Operand.tmp).map (St.den ⟨λi=>ys.getD i (.one .dead),s.r⟩).ev=ys.map (Sl.v s.r):=by
  rw [List.map_map];apply List.ext_getElem (by simp)
  intro i h1 h2;have hi:=by simpa using h1
  have:(St.den ⟨λi=>ys.getD i (.one .dead),s.r⟩).ev (.tmp i)=(ys.getD i (.one .dead)).v s.r:=rfl
  grind
 rw [e2]at this;exact this
def allS:List (Option Sl)->Option (List Sl)
 | []=>some []
 |some y::l=>match allS l with
  |some m=>some (y::m)
  |none=>none
 |none::_=>none
theorem WY{s:St}: ∀ {xs:List Operand} {ys:List Sl},allS (xs.map s.ev)=some ys->xs.map s.den.ev=ys.map (Sl.v s.r)
 | [],ys,h=>by cases h;rfl
 |x::xs,ys,h=>by
  rw [List.map_cons]at h;cases hx:s.ev x with
  |none=>rw [hx]at h;cases h
  |some y=>
   rw [hx]at h;unfold allS at h;split at h
   case h_2=>grind
   rename_i m hm;cases h;rw [List.map_cons,List.map_cons,AZ hx,WY hm]
def cloS(s:St)(y:Nat):Option (FuncId×List Sl):=match s.t y with
 | .one (.c (.clo g t) _ x)=>bif Nat.blt g 1000000 then some (g,(Am t 0 x).map .one)else none
 |_=>none
def cloF(s:St):Op->Option (FuncId×List Sl)
 | .call c=>match c.callee with
  | .value (.tmp y)=>match cloS s y,allS (c.args.toList.map s.ev)with
   |some (g,cs),some ys=>some (g,ys++cs)
   |_,_=>none
  |_=>none
 |_=>none
theorem Uz(hΓ:N9 P Γ){g:FuncId}(hf:cloF s op=some (g,ys))(h:I5 Γ s g (ys.map some)=some a){u:a.α}(hu:a.o=some u):QS P s op (a.y u):=by
 unfold cloF at hf;split at hf
 case h_2=>cases hf
 rename_i c;obtain⟨callee,xs,ats⟩:=c;split at hf
 case h_2=>cases hf
 rename_i y hcal;have hcal:callee= .value (.tmp y):=hcal;subst hcal;split at hf
 case h_2=>cases hf
 rename_i g' cs zs hcs hzs;cases hf;unfold cloS at hcs;split at hcs
 case h_2=>cases hcs
 rename_i g2 t d x hy;cases hlt:Nat.blt g2 1000000 with
 |false=>rw [hlt]at hcs;cases hcs
 |true=>
 rw [hlt]at hcs;cases hcs;obtain⟨e,he,hef,hx⟩:=IG h;subst hef;clear h;unfold Kl at hx;have h:=hx;clear hx;cases ho:(CC e.S.rs||(Db e.S.rs&&Hh ((zs++(Am t 0 x).map Sl.one).map some)))with
 |false=>rw [ho]at h;cases h
 |true=>
  rw [ho]at h;simp only [cond_true]at h;split at h
  case h_2=>cases h
  rename_i z hz;cases h;obtain⟨hc,hft⟩:=hΓ e he;obtain⟨hu,hcd⟩:=Ds hu
  have hev:s.den.ev (.tmp y)= .many (.cl e.f) t.w λk=>(tyV t 0 x).getD k .dead:=by
   show(s.t y).v s.r=_;rw [hy];rfl
  have htab:(xs.toList.map s.den.ev)++tab t.w (λk=>(tyV t 0 x).getD k .dead)=(zs++(Am t 0 x).map Sl.one).map (Sl.v s.r):=by
   rw [WY hzs,List.map_append]
   congr 1
   have h1:tab t.w (λk=>(tyV t 0 x).getD k .dead)=tyV t 0 x:=by
    have:=IF (l:=tyV t 0 x) t.w (by rw [Aq];exact Nat.le_refl _)
    rw [this];exact List.take_of_length_le (by rw [Aq];exact Nat.le_refl _)
   rw [h1,List.map_map];exact(Cl.v_c (r:=s.r) t 0 x).symm
  rw [Bool.or_eq_true,bAE]at ho;have hok:Db e.S.rs=true:=ho.elim Hb (·.1)
  show Nd P (s.r.map Aa.v) (s.den.ev (.tmp y)) (xs.toList.map s.den.ev) (SK s _);rw [hev];show Nat.blt e.f 1000000=true/\Call P e.f (((xs.toList.map s.den.ev)++tab t.w (λk=>(tyV t 0 x).getD k .dead)).any AG) (((xs.toList.map s.den.ev)++tab t.w (λk=>(tyV t 0 x).getD k .dead)).map (BE (s.r.map Aa.v))) (SK s _)
  rw [htab];refine⟨hlt,Jl true e.S.rs u,⟨hc,FC.sub1 (by rw [Jk];exact hft z u hu) (Lu _ _ _ hz hcd)⟩,λhl=>?_,?_⟩
  ·rcases ho with ho|⟨_,ho⟩
   ·exact C3 _ _ _ ho
   ·rw [PM ho]at hl;cases hl
  ·show Sub _ ((Mq true e.S.rs u).v s.r)
   rw [Pu _ _ _ hok];exact Sub.refl _
def strB(a b:String):Bool:=a==b
def XV:List (String×Nat)->String->Option Nat
 | [],_=>none
 |(a,f)::l,s=>bif strB a s then some f else XV l s
theorem Nv{s:String}{f:Nat}: ∀ {l:List (String×Nat)},XV l s=some f->(s,f)∈l
 | [],h=>by cases h
 |(a,f')::l,h=>by
  unfold XV at h;cases hb:strB a s with
  |false=>rw [hb]at h;exact mCM _ (Nv h)
  |true=>
   rw [hb]at h;have:a=s:=by unfold strB at hb;grind
   grind
def cloI(Θ:Tab)(s:St):Op->Option (FuncId×List Sl)
 | .call c=>match c.callee with
  | .invoke (.tmp y) nm=>match s.t y with
   | .one (.c (.clo g t) _ x)=>bif Nat.ble 1000000 g&&Nat.beq t.w 1 then(match Θ.look (g-1000000)with
    |some i=>match XV i.met nm,allS (c.args.toList.map s.ev)with
     |some f,some ys=>some (f,(Am t 0 x).map .one++ys)
     |_,_=>none
    |none=>none)else none
   |_=>none
  |_=>none
 |_=>none
theorem Uy(hΘ:Θ.OK P)(hΓ:N9 P Γ){g:FuncId}(hf:cloI Θ s op=some (g,ys))(h:I5 Γ s g (ys.map some)=some a){u:a.α}(hu:a.o=some u):QS P s op (a.y u):=by
 unfold cloI at hf;split at hf
 case h_2=>cases hf
 rename_i c;obtain⟨callee,xs,ats⟩:=c;split at hf
 case h_2=>cases hf
 rename_i y nm hcal;have hcal:callee= .invoke (.tmp y) nm:=hcal;subst hcal;split at hf
 case h_2=>cases hf
 rename_i g2 t d x hy;cases hgt:(Nat.ble 1000000 g2&&Nat.beq t.w 1)with
 |false=>rw [hgt]at hf;cases hf
 |true=>
 rw [hgt]at hf;simp only [cond_true]at hf;rw [bAE]at hgt;obtain⟨hg1,hg2⟩:=hgt;have hg1:=blE hg1;have hg2:t.w=1:=bqE hg2;split at hf
 case h_2=>cases hf
 rename_i i hi;split at hf
 case h_2=>cases hf
 rename_i f zs hfm hzs;cases hf;have hmet:=hΘ.met hi (Nv hfm);obtain⟨e,he,hef,hx⟩:=IG h;subst hef;clear h;unfold Kl at hx;have h:=hx;clear hx;cases ho:(CC e.S.rs||(Db e.S.rs&&Hh (((Am t 0 x).map Sl.one++zs).map some)))with
 |false=>rw [ho]at h;cases h
 |true=>
  rw [ho]at h;simp only [cond_true]at h;split at h
  case h_2=>cases h
  rename_i z hz;cases h;obtain⟨hc,hft⟩:=hΓ e he;obtain⟨hu,hcd⟩:=Ds hu
  have hev:s.den.ev (.tmp y)= .many (.cl g2) t.w λk=>(tyV t 0 x).getD k .dead:=by
   show(s.t y).v s.r=_;rw [hy];rfl
  have htab:tab t.w (λk=>(tyV t 0 x).getD k .dead)++(xs.toList.map s.den.ev)=((Am t 0 x).map Sl.one++zs).map (Sl.v s.r):=by
   rw [WY hzs,List.map_append]
   congr 1
   have h1:tab t.w (λk=>(tyV t 0 x).getD k .dead)=tyV t 0 x:=by
    have:=IF (l:=tyV t 0 x) t.w (by rw [Aq];exact Nat.le_refl _)
    rw [this];exact List.take_of_length_le (by rw [Aq];exact Nat.le_refl _)
   rw [h1,List.map_map];exact(Cl.v_c (r:=s.r) t 0 x).symm
  rw [Bool.or_eq_true,bAE]at ho;have hok:Db e.S.rs=true:=ho.elim Hb (·.1)
  show Ng P (s.r.map Aa.v) (s.den.ev (.tmp y)) nm (xs.toList.map s.den.ev) (SK s _);rw [hev];show ∃t' fn,(g2=1000000+t'/\t.w=1/\XU P t' nm=some fn)/\Call P fn ((tab t.w (λk=>(tyV t 0 x).getD k .dead)++(xs.toList.map s.den.ev)).any AG) ((tab t.w (λk=>(tyV t 0 x).getD k .dead)++(xs.toList.map s.den.ev)).map (BE (s.r.map Aa.v))) (SK s _)
  rw [htab];refine⟨g2-1000000,e.f,⟨by omega,hg2,hmet⟩,Jl true e.S.rs u,⟨hc,FC.sub1 (by rw [Jk];exact hft z u hu) (Lu _ _ _ hz hcd)⟩,λhl=>?_,?_⟩
  ·rcases ho with ho|⟨_,ho⟩
   ·exact C3 _ _ _ ho
   ·rw [PM ho]at hl;cases hl
  ·show Sub _ ((Mq true e.S.rs u).v s.r)
   rw [Pu _ _ _ hok];exact Sub.refl _
def capL(s:St):List Operand->Option (List Cl)
 | []=>some []
 |x::xs=>match s.ev x with
  |some (.one (.c t d y))=>bif t.one&& !(Cl.c t d y).own then(match capL s xs with
   |some l=>some (.c t 0 y::l)
   |none=>none)else none
  |_=>none
def capR(s:St):List Operand->Option (List Cl)
 | []=>some []
 |x::xs=>match s.ev x with
  |some (.one y)=>bif y.own then none else(match capR s xs with
   |some l=>some (y::l)
   |none=>none)
  |_=>none
theorem Y8{s:St}: ∀ {xs:List Operand} {l:List Cl},capR s xs=some l->xs.map s.den.ev=l.map (Cl.v s.r)/\(xs.map s.den.ev).all (λv=>!AE v)=true
 | [],l,h=>by cases h;simp
 |x::xs,l,h=>by
  unfold capR at h;split at h
  case h_2=>grind
  rename_i y hx;cases hb:y.own with
  |true=>grind
  |false=>
   rw [hb]at h;split at h
   case h_2=>grind
   rename_i m hm;obtain⟨h1,h2⟩:=Y8 hm;have hev:s.den.ev x=y.v s.r:=AZ hx;refine⟨by grind,?_⟩
   rw [List.map_cons,List.all_cons,hev,Cl.own_v,hb,h2];rfl
def tMkG(g:Nat)(s:St)(caps:List Operand):Option TR:=match capL s caps with
  |some l=>match DR l with
   |some ⟨t,x⟩=>some (.ok (.one (.c (.clo g t) 0 x)))
   |none=>none
  |none=>match capR s caps with
   |some l=>some (.ok (.pk (.cl g) l))
   |none=>none
def tMkF(s:St)(fn:Fn)(first:List Operand)(caps:List Operand):Option TR:=match fn,first with
 | .func g,[]=>bif Nat.blt g 1000000 then tMkG g s caps else none
 |_,_=>none
def tMkI(Θ:Tab)(s:St)(t:TypeId)(x:Operand):Option TR:=match Θ.look t with
 |some i=>match i.met with
  | []=>none
  |_::_=>tMkG (1000000+t) s [x]
 |none=>none
theorem Y9{s:St}: ∀ {xs:List Operand} {l:List Cl},capL s xs=some l->xs.map s.den.ev=(l.map Cl.v0).map frz/\(xs.map s.den.ev).all (λv=>!AE v)=true/\l.length=xs.length
 | [],l,h=>by cases h;exact⟨rfl,rfl,rfl⟩
 |x::xs,l,h=>by
  unfold capL at h;split at h
  case h_2=>cases h
  rename_i t d y hx;cases hb:(t.one&& !(Cl.c t d y).own)with
  |false=>rw [hb]at h;cases h
  |true=>
   rw [hb]at h;simp only [cond_true]at h;split at h
   case h_2=>cases h
   rename_i m hm;cases h;rw [bAE]at hb;obtain⟨h1,h2,h3⟩:=Y9 hm;have hev:s.den.ev x=cV t d y:=AZ hx
   have hown:AE (cV t d y)=false:=by
    have:=Cl.own_v (r:=s.r) (.c t d y);have e:(Cl.c t d y).own=false:=by simpa using hb.2
    rw [e]at this;exact this
   have hz:cV t d y=frz (cV t 0 y):=by
    rw [P6 hb.1];cases t<;>first|rfl|(cases d<;>first|rfl|(cases hown;done))|(cases y<;>cases d<;>first|rfl|(cases hown;done))
   refine⟨?_,?_,by simp [h3]⟩
   ·rw [List.map_cons,List.map_cons,List.map_cons,hev,h1,hz];rfl
   grind
theorem YF{caps:List Operand}{a:TR}(h:tMkG g s caps=some a): ∃y,a= .ok y/\(caps.map s.den.ev).all (λv=>!AE v)=true/\Sub (V.many (.cl g) (caps.map s.den.ev).length λk=>(caps.map s.den.ev).getD k .dead) (y.v s.r):=by
 unfold tMkG at h;split at h
 case h_2=>
  split at h
  case h_2=>grind
  rename_i l hl;cases h;obtain⟨h1,h2⟩:=Y8 hl;refine⟨_,rfl,h2,?_⟩;rw [h1];exact Sub.refl _
 rename_i l hl;split at h
 case h_2=>grind
 rename_i t x hd;cases h;obtain⟨h1,h2,h3⟩:=Y9 hl;have e:=Du _ _ hd;refine⟨_,rfl,h2,?_⟩;rw [h1,<-e,Aq];exact Sub.refl _
theorem QD{fn:Fn}{first caps:Array Operand}{a:TR}(h:tMkF s fn first.toList caps.toList=some a):QS P s (.makeFunc fn first caps) a.y:=by
 unfold tMkF at h;split at h
 case h_2=>grind
 rename_i g hf;cases hlt:Nat.blt g 1000000 with
 |false=>grind
 |true=>
 rw [hlt]at h;obtain⟨y,rfl,h1,h2⟩:=YF h
 show(match Fn.func g,first.toList with
  | .func g,[]=>qMkF g (caps.toList.map s.den.ev) (SK s _)
  |_,_=>False)
 rw [hf]
 trivial
theorem QC(hΘ:Θ.OK P){t:TypeId}{a:TR}(h:tMkI Θ s t x=some a):QS P s (.makeInterface t x) a.y:=by
 unfold tMkI at h;split at h
 case h_2=>grind
 rename_i i hi;split at h
 ·grind
 rename_i p l hm;obtain⟨y,rfl,h1,h2⟩:=YF h;have hu:=XT (hΘ.met hi (nm:=p.1) (f:=p.2) (by grind))
 have h1:=by simpa using h1
 refine⟨⟨h1,hu⟩,Sub.trans ⟨_,rfl,λk hk=>?_⟩ h2⟩
 obtain rfl:k=0:=by omega
 exact Sub.refl _
end Go.Ve


namespace Go.Ve
variable{b:Bool}{c:Cl}{r:List Aa}{l σ:List V}{d i k:Nat}{s:St}{t:Ty}
structure AaR where
 k:Nat
 ps:List (Bool×Ty)
 t:Ty
 d:Nat
 eat:Bool
 rs:List (Bool×Nat×Ty)
def X5(k:Nat)(l:List V):List V:=l.take k++ .dead::l.drop k
theorem X4:(X5 k l).length=l.length+1:=by
 unfold X5
 grind
theorem Aac(h:i<k)(hk:k<=l.length):(X5 k l).getD i .dead=l.getD i .dead:=by
 unfold X5
 grind
theorem Aad(h:k<=i)(hk:k<=l.length):(X5 k l).getD (i+1) .dead=l.getD i .dead:=by
 unfold X5;have e:(l.take k).length=k:=by grind
 simp;rw [gAR (by omega),e,show i+1-k=(i-k)+1 by omega,List.getElem?_cons_succ,List.getElem?_drop,show k+(i-k)=i by omega]
def isTr:Ty->Bool
 | .sl _=>true
 | .ptr _=>true
 |_=>false
def AaR.ok(S:AaR):Bool:=Nat.blt 0 S.d&&Nat.ble S.k S.ps.length&&isTr S.t
def FTU(P:Program)(f:FuncId)(S:AaR)(g:(PT S.ps).T->S.t.T->Option ((RT S.rs).T×S.t.T)):Prop:=
 ∀z x u,g z x=some u->FCU P f S.k (X5 S.k (Cf S.ps z)) (cV S.t S.d x) (VD S.rs u.1) (bif S.eat then .dead else cV S.t S.d u.2)
structure EnU where
 f:FuncId
 S:AaR
 g:(PT S.ps).T->S.t.T->Option ((RT S.rs).T×S.t.T)
def Jy:List EnU->FuncId->Option EnU
 | [],_=>none
 |e::l,f=>bif Nat.beq e.f f then some e else Jy l f
def EnU.OK(P:Program)(e:EnU):Prop:=Aj P e.f=true/\e.S.ok=true/\FTU P e.f e.S e.g
theorem PY{P:Program}{f:FuncId}{e:EnU}: ∀ {Γ:List EnU},(∀e∈Γ,e.OK P)->Jy Γ f=some e->e.OK P/\e.f=f
 | [],_,h=>by cases h
 |a::l,hΓ,h=>by
  unfold Jy at h;cases hb:Nat.beq a.f f with
  |true=>
   simp_all
  |false=>rw [hb]at h;exact PY (λe he=>hΓ e (mCM _ he)) h
theorem Cl.lend_id(h:c.lent=false):BE σ (c.v r)=c.v r:=by
 cases c with
 |c t d x=>
  have e0: ∀ {t:Ty} (x:t.T),t.one=true->BE σ (cV t 0 x)=cV t 0 x:=fun{t} x ht=>CT t x _ (by rw [Bv ht];simp)
  cases t with
  |int k=>rfl
  |bool=>rfl
  |str=>rfl
  |unit=>rfl
  |pair a b=>rfl
  |sl t=>cases d with
   |zero=>exact e0 x rfl
   |succ d=>cases h
  |ptr t=>cases d with
   |zero=>exact e0 x rfl
   |succ d=>cases h
  |clo g t=>exact e0 x rfl
  |osl t=>cases d with
   |zero=>exact e0 x rfl
   |succ d=>cases x with
    |none=>rfl
    |some y=>cases h
 |rf=>cases h
 |rs=>cases h
 |rp=>cases h
 |_=>rfl
theorem Cl.clean_v(h:c.lent=false):clean (c.v r):=by
 cases c with
 |c t d x=>
  cases t with
  |osl t=>cases x<;>exact trivial
  |clo g t=>
   have: ∀ (t:Ty) (x:t.T),∀v∈tyV t 0 x,clean v:=by
    intro t
    induction t with
    |int k=>intro x v hv;simp [tyV]at hv;subst hv;trivial
    |bool=>intro x v hv;simp [tyV]at hv;subst hv;trivial
    |str=>intro x v hv;simp [tyV]at hv;subst hv;trivial
    |sl t _=>intro x v hv;simp only [tyV,List.mem_singleton]at hv;subst hv;trivial
    |ptr t _=>intro x v hv;simp only [tyV,List.mem_singleton]at hv;subst hv;trivial
    |unit=>intro x v hv;simp [tyV]at hv
    |pair a b iha ihb=>
     intro x v hv;simp only [tyV,List.mem_append]at hv
     grind
    |osl t _=>
     intro x v hv;simp only [tyV,List.mem_singleton]at hv;subst hv;cases x<;>trivial
    |clo g t ih=>
     intro x v hv;simp only [tyV,List.mem_singleton]at hv;subst hv;intro k hk;refine ih x _ ?_;show(tyV t 0 x).getD k .dead∈_;rw [gDE,gEE (by rw [Aq];exact hk)]
     simp
   exact this (.clo g t) x _ (List.mem_singleton.2 rfl)
  |_=>trivial
 |rf=>cases h
 |rs=>cases h
 |rp=>cases h
 |_=>trivial
theorem Mj{l:List Cl}(h:l.any Cl.lent=false): ∀c∈l,c.lent=false:=by grind
theorem PU{l:List Cl}(h:l.any Cl.lent=false):(l.map (Cl.v r)).map (BE σ)=l.map (Cl.v r):=by
 rw [List.map_map];exact List.map_congr_left λc hc=>Cl.lend_id (Mj h c hc)
def Sl.notB:Sl->Bool
 | .one _=>true
 | .agg _=>true
 | .pk (.cl _) _=>true
 |_=>false
theorem uArg_v{y:Sl}{z:t.T}(hl:y.lent=false)(hb:y.notB=true)(h:IH s b t (some y)=some z):Sub (y.v s.r) (vOf b t 0 z)/\AE (y.v s.r)=false/\clean (y.v s.r):=by
 have many: ∀ (tg:Tg) (l:List Cl),l.any Cl.lent=false->AE (pkL tg (l.map (Cl.v s.r)))=false/\clean (pkL tg (l.map (Cl.v s.r))):=by
  intro tg l h;refine⟨?_,λk hk=>?_⟩
  ·have e:AE ((Sl.pk tg l).v s.r)=l.any Cl.own:=Sl.own_v (.pk tg l)
   refine e.trans ?_;rw [List.any_eq_false];intro c hc;have h1:=Mj h c hc;cases c with
   |c t d x=>rw [show(Cl.c t d x).own=false from h1];simp
   |_=>simp [Cl.own]
  ·have hk:k<l.length:=by simpa using hk
   show clean ((l.map (Cl.v s.r)).getD k .dead);rw [Ay (f:=Cl.v s.r) (a:=.dead) rfl];refine Cl.clean_v (Mj h _ ?_);simp [hk]
 cases y with
 |one c=>
  have hc:c.lent=false:=hl;refine⟨?_,?_,Cl.clean_v hc⟩
  ·unfold IH at h
   cases b with
   |true=>cases h
   |false=>
    cases ho:t.one with
    |false=>rw [ho]at h;cases h
    |true=>
     rw [ho]at h;simp only [cond_false,cond_true]at h;split at h
     case h_2=>cases h
     rename_i y' hy;obtain⟨_,h2,h3⟩:=L3 hy;have h3:=h3 λid p i k e=>by rw [e]at hc;cases hc
     rw [Cl.lend_id hc]at h3;obtain⟨g1,_⟩:=LM h s.r;have g1:Sub y'.v0 (vOf false t 0 z):=h2▸g1;exact h3.trans g1
  ·have e:AE (c.v s.r)=c.own:=Cl.own_v c
   refine e.trans ?_;cases c with
   |c t d x=>exact hc
   |_=>rfl
 |agg l=>
  have hc:l.any Cl.lent=false:=hl;refine⟨?_,many .ag l hc⟩;unfold IH at h;cases b with
  |false=>cases h
  |true=>
   simp only [cond_true]at h;split at h
   case h_2=>cases h
   rename_i l' hl';show Sub (Ac _) (Ac _);refine CO.mk ?_;have h1:=LY hl';rw [PU hc]at h1;exact CO.trans h1 (CS h s.r).1
 |pk tg l=>
  have hc:l.any Cl.lent=false:=hl;cases tg with
  |cl g=>
   refine⟨?_,many (.cl g) l hc⟩;unfold IH at h;cases b with
   |true=>cases h
   |false=>
    simp only [cond_false]at h;split at h
    case h_2=>cases h
    rename_i g' u;obtain⟨hb,h⟩:=A1 h;have hg:=bqE hb;subst hg;split at h
    case h_2=>cases h
    rename_i l' hl'
    have e:V.many (.cl g) u.w (λk=>(tyV u 0 z).getD k .dead)=pkL (.cl g) (tyV u 0 z):=by
     unfold pkL;rw [Aq]
    show Sub (pkL (.cl g) _) (V.many (.cl g) u.w λk=>(tyV u 0 z).getD k .dead)
    rw [e];have h1:=LZ hl';rw [PU hc]at h1;exact CO.pk (CO.trans h1 (CS h s.r).1)
  |ag=>cases hb
  |tu=>cases hb
  |bx=>cases hb
 |new l=>cases hb
 |tup l=>cases hb
def uok:Option Sl->Bool
 |some y=>!y.lent&&y.notB
 |none=>false
theorem uok_v{x:Operand}{z:t.T}(hu:uok (s.ev x)=true)(h:IH s b t (s.ev x)=some z):AE (s.den.ev x)=false/\clean (s.den.ev x)/\Sub (s.den.ev x) (vOf b t 0 z):=by
 cases hx:s.ev x with
 |none=>rw [hx]at hu;trivial
 |some y=>
  rw [hx]at hu h;simp [uok,Bool.not_eq_true']at hu;obtain⟨h1,h2,h3⟩:=uArg_v hu.1 hu.2 h;rw [AZ hx]
  grind
theorem US{s:St}: ∀ (ps:List (Bool×Ty)) (xs:List Operand) (z:(PT ps).T),DE s ps (xs.map s.ev)=some z->(xs.map s.ev).all uok=true->
  xs.length=(Cf ps z).length/\∀i x,xs[i]? =some x->AE (s.den.ev x)=false/\clean (s.den.ev x)/\Sub (s.den.ev x) ((Cf ps z).getD i .dead)
 | [],[],z,_,_=>⟨rfl,λi x h=>by simp at h⟩
 | [p],[x],z,h,hu=>by
  have hu:(uok (s.ev x)&&true)=true:=hu;rw [Bool.and_true]at hu;refine⟨rfl,λi x' hx=>?_⟩
  cases i with
  |zero=>
   cases hx;exact uok_v hu h
  |succ i=>simp at hx
 |p::q::l,x::xs,z,h,hu=>by
  have h:(match IH s p.1 p.2 (s.ev x)with
   |some z=>match DE s (q::l) (xs.map s.ev)with
    |some zs=>some (z,zs)
    |none=>none
   |none=>none:Option (PT (p::q::l)).T)=some z:=h
  have hu:(uok (s.ev x)&&(xs.map s.ev).all uok)=true:=hu;rw [bAE]at hu;split at h
  case h_2=>cases h
  rename_i z1 h1;split at h
  case h_2=>cases h
  rename_i zs h2;cases h;obtain⟨k1,k2⟩:=US (q::l) xs zs h2 hu.2;refine⟨by show xs.length+1=(Cf (q::l) zs).length+1;rw [k1],λi x' hx=>?_⟩
  cases i with
  |zero=>
   cases hx;exact uok_v hu.1 h1
  |succ i=>exact k2 i x' (by simpa using hx)
 | [],_::_,_,h,_=>by cases h
 | [_],[],_,h,_=>by cases h
 | [_],_::_::_,_,h,_=>by cases h
 |_::_::_,[],_,h,_=>by cases h
def Ct(k:Nat)(l:List Operand):List Operand:=l.take k++l.drop (k+1)
theorem Uw{l:List Operand}(h:k<l.length):(Ct k l).length+1=l.length:=by
 unfold Ct
 grind
theorem NN{l:List Operand}(h:i<k)(hk:k<l.length):(Ct k l)[i]? =l[i]?:=by
 unfold Ct
 grind
theorem NO{l:List Operand}(h:k<=i)(hk:k<l.length):(Ct k l)[i]? =l[i+1]?:=by
 unfold Ct
 grind
theorem Zk{ps:List (Bool×Ty)}{xs:List Operand}{z:(PT ps).T}(hk:k<xs.length)(h:DE s ps ((Ct k xs).map s.ev)=some z)(hu:((Ct k xs).map s.ev).all uok=true):
  xs.length=(X5 k (Cf ps z)).length/\∀i x,i≠k->xs[i]? =some x->AE (s.den.ev x)=false/\clean (s.den.ev x)/\Sub (s.den.ev x) ((X5 k (Cf ps z)).getD i .dead):=by
 obtain⟨h1,h2⟩:=US ps (Ct k xs) z h hu;have hl:=Uw hk;refine⟨by rw [X4];omega,λi x hik hx=>?_⟩
 rcases Nat.lt_or_ge i k with hlt|hge
 ·have:=h2 i x (by rw [NN hlt hk];exact hx)
  rw [Aac hlt (by omega)]
  grind
 ·obtain⟨j,rfl⟩: ∃j,i=j+1:=⟨i-1,by omega⟩
  have:=h2 j x (by rw [NO (by omega) hk];grind)
  rw [Aad (by omega) (by omega)]
  grind
def Aag:(t:Ty)->t.T->Bool
 | .sl _,xs=>ltI (Int.ofNat 0) (ofN (H5 xs))
 | .ptr _,_=>true
 |_,_=>false
theorem Aaf{x:t.T}(hd:0<d)(h:Aag t x=true):KK (cV t d x):=by
 have hd:=dT hd;cases t with
 |sl t=>
  refine⟨true,_,_,_,show arr (decide (0<d)) _ _ _ x=_ by rw [hd];rfl,.inr ?_⟩
  have h:decide (0<(x.length:Int))=true:=h
  grind
 |ptr t=>exact⟨false,_,_,_,show A7 (decide (0<d)) _=_ by rw [hd];rfl,.inl rfl⟩
 |_=>cases h
theorem treeND{x:t.T}(hd:0<d)(h:isTr t=true): ∃s sz n f,cV t d x= .nd s true sz n f:=by
 have hd:=dT hd;cases t with
 |sl t=>exact⟨true,_,_,_,show arr (decide (0<d)) _ _ _ x=_ by rw [hd];rfl⟩
 |ptr t=>exact⟨false,_,_,_,show A7 (decide (0<d)) _=_ by rw [hd];rfl⟩
 |_=>cases h
theorem Aas{P:Program}: ∀e∈([]:List EnU),e.OK P:=by simp
end Go.Ve


namespace Go.Ve
def Bf(m:Nat):List Cl->List Cl×List Aa
 | []=>([],[])
 | .c (.sl u) (d+1) xs::l=>(.rf m []::(Bf (m+1) l).1,.arr false u d xs::(Bf (m+1) l).2)
 |y::l=>(y::(Bf m l).1,(Bf m l).2)
abbrev WP:=Bool×Bool×Ty
def Qr(p:WP)(x:p.2.2.T)(m:Nat):Sl×List Aa:=
 bif p.1 then(bif p.2.1 then .agg (Bf m (Am p.2.2 p.2.2.dep x)).1 else .one ((Bf m (Am p.2.2 p.2.2.dep x)).1.getD 0 .dead),(Bf m (Am p.2.2 p.2.2.dep x)).2)
 else(bif p.2.1 then .agg (Am p.2.2 0 x)else .one (.c p.2.2 0 x),[])
def PTW:List WP->Ty
 | []=>.unit
 | [p]=>p.2.2
 |p::q::l=>.pair p.2.2 (PTW (q::l))
def BD:(ps:List WP)->(PTW ps).T->Nat->List Sl×List Aa
 | [],_,_=>([],[])
 | [p],x,m=>([(Qr p x m).1],(Qr p x m).2)
 |p::q::l,x,m=>((Qr p x.1 m).1::(BD (q::l) x.2 (m+(Qr p x.1 m).2.length)).1,(Qr p x.1 m).2++(BD (q::l) x.2 (m+(Qr p x.1 m).2.length)).2)
def ZE:Ty->List Ty
 | .sl t=>[.sl t]
 | .pair a b=>ZE a++ZE b
 |_=>[]
def Ii:List WP->List Ty
 | []=>[]
 |p::l=>(bif p.1 then ZE p.2.2 else [])++Ii l
structure SigW where
 ps:List WP
 rt:Ty
def Ty.sc:Ty->Bool
 | .int _=>true
 | .bool=>true
 | .str=>true
 |_=>false
def scV:(t:Ty)->t.T->Value
 | .int k,n=>.int k n
 | .bool,b=>.bool b
 | .str,s=>.string s
 |_,_=>undef
def wty:List Ty->Ty
 | []=>.unit
 | [t]=>t
 |t::u::l=>.pair t (wty (u::l))
def wOf:(tys:List Ty)->(wty tys).T->List (Σ t:Ty,t.T)
 | [],_=>[]
 | [t],x=>[⟨t,x⟩]
 |t::u::l,x=>⟨t,x.1⟩::wOf (u::l) x.2
def H3:Aa->(Σ t:Ty,t.T)->Aa
 | .arr ro u d _,⟨.sl u',xs⟩=>if h:u'=u then .arr ro u d (h▸xs)else .dead
 |_,_=>.dead
def B1:List Aa->List (Σ t:Ty,t.T)->List Aa
 |r::rs,y::ys=>H3 r y::B1 rs ys
 |_,_=>[]
def FTW(P:Program)(f:FuncId)(S:SigW)(g:(PTW S.ps).T->Option (S.rt.T×(wty (Ii S.ps)).T)):Prop:=
 ∀x u,g x=some u->S.rt.sc=true/\(wOf (Ii S.ps) u.2).length=(BD S.ps x 0).2.length/\(∀k,k<(BD S.ps x 0).2.length->(B1 (BD S.ps x 0).2 (wOf (Ii S.ps) u.2)).getD k .dead≠.dead)/\
  FCW P f ((BD S.ps x 0).1.map (Sl.v (BD S.ps x 0).2)) ((BD S.ps x 0).2.map Aa.v) (scV S.rt u.1) ((B1 (BD S.ps x 0).2 (wOf (Ii S.ps) u.2)).map Aa.v)
structure EnW where
 f:FuncId
 S:SigW
 g:(PTW S.ps).T->Option (S.rt.T×(wty (Ii S.ps)).T)
def Wb:List EnW->FuncId->Option EnW
 | [],_=>none
 |e::l,f=>bif Nat.beq e.f f then some e else Wb l f
def EnW.OK(P:Program)(e:EnW):Prop:=Aj P e.f=true/\FTW P e.f e.S e.g
theorem PX{P:Program}{f:FuncId}{e:EnW}: ∀ {Γ:List EnW},(∀e∈Γ,e.OK P)->Wb Γ f=some e->e.OK P/\e.f=f
 | [],_,h=>by cases h
 |a::l,hΓ,h=>by
  unfold Wb at h;cases hb:Nat.beq a.f f with
  |true=>
   simp_all
  |false=>rw [hb]at h;exact PX (λe he=>hΓ e (mCM _ he)) h
end Go.Ve


namespace Go.Ve
variable{r:List Aa}{l m:List V}{op:Op}{P:Program}{s:St}{a:TR}{w:World}
def NR(Θ:Tab)(t:TypeId):Option TI:=((Θ.look t).bind (·.elem)).bind Θ.look
def Pr(Θ:Tab)(s:St):Builtin->List Operand->List TypeId->Option TR
 | .len,[x],[t]=>tLen s (Θ.look t) (s.ev x)
 | .min,[x,y],_=>tMin (s.ev x) (s.ev y)
 | .max,[x,y],_=>tMax (s.ev x) (s.ev y)
 |_,_,_=>none
def Aaa:Operand->Bool
 | .const (.slice none 0 0)=>true
 |_=>false
def Pp(s:St)(i:Option TI)(x:Operand):Option TR:=bif Aaa x then(match i with
 |some j=>some (.ok (.one (.c (.sl j.ty) (j.sd+1) [])))
 |none=>none)else Zx (s.ev x)
theorem Ik{x:Operand}{i:Option TI}(ho:op= .move x\/op= .assign x)(h:Pp s i x=some a):QS P s op a.y:=by
 unfold Pp at h;cases hb:Aaa x with
 |false=>rw [hb]at h;exact Ol ho h
 |true=>
  rw [hb]at h;split at h
  case h_2=>grind
  rename_i j;cases h;unfold Aaa at hb;split at hb
  case h_2=>grind
  have:VP (s.den.ev (.const (.slice none 0 0))) (SK s (.one (.c (.sl j.ty) (j.sd+1) []))):=⟨rfl,.inr ⟨rfl,_,_,_,rfl⟩⟩;rcases ho with rfl|rfl<;>exact this
def tq(Θ:Tab)(s:St)(ty:TypeId):Op->Option TR
 | .move x=>Pp s (NR Θ ty) x
 | .assign x=>Pp s (NR Θ ty) x
 | .pick c x y=>Zv (s.ev c) (s.ev x) (s.ev y)
 | .load t x=>Vc s (Θ.look t) (s.ev x)
 | .fieldAddr t x k=>Vf s (Θ.look t) k (s.ev x)
 | .indexAddr t x i=>HJ s (NR Θ t) (s.ev x) (s.ev i)
 | .index t x i=>Vd (Θ.look t) (s.ev x) (s.ev i)
 | .nilCheck x=>tNil (s.ev x)
 | .binOp op t x y _=>tBin (Θ.look t) op (s.ev x) (s.ev y)
 | .unOp op _ x=>tUn op (s.ev x)
 | .convert u v x=>Zz s.r (Θ.look u) (Θ.look v) (NR Θ u) (NR Θ v) (s.ev x)
 | .extract x k=>Lt k (s.ev x)
 | .build t ps=>Vj (Θ.look t) (ps.toList.map λp=>(p.1,s.ev p.2))
 | .buildSlice t n ps=>DL n (ps.toList.map λp=>(p.1,s.ev p.2)) (NR Θ t)
 | .alloc t=>Vl (Θ.look t)
 | .box _ x=>tBox (s.ev x)
 | .makeSlice t l c=>Zy (NR Θ t) (s.ev l) (s.ev c)
 | .slice t x lo hi mx=>match mx with
  |none=>U5 s (Θ.look t) (NR Θ t) (s.ev x) (Km (lo.map s.ev)) (Km (hi.map s.ev))
  |some _=>none
 | .call c=>match c.callee with
  | .builtin b=>Pr Θ s b c.args.toList c.argTypes.toList
  |_=>none
 | .makeFunc fn first caps=>tMkF s fn first.toList caps.toList
 | .makeInterface t x=>tMkI Θ s t x
 |_=>none
theorem Pl{Θ:Tab}(hΘ:Θ.OK P){ty:TypeId}(h:tq Θ s ty op=some a)(hp:a.p):QS P s op a.y:=by
 unfold tq at h;split at h
 case h_1=>exact Ik (.inl rfl) h
 case h_2=>exact Ik (.inr rfl) h
 case h_3=>exact Ok h
 case h_4=>exact On hΘ h hp
 case h_5=>exact MK hΘ h
 case h_6=>exact Iz hΘ h hp
 case h_7=>exact MI hΘ h hp
 case h_8=>exact QB h
 case h_9=>exact QJ hΘ h hp
 case h_10=>exact U2 h
 case h_11=>exact Oo hΘ h hp
 case h_12=>exact J5 h
 case h_13=>exact MN hΘ h
 case h_14=>exact HK hΘ h
 case h_15=>exact MP hΘ h
 case h_16=>exact QI h
 case h_17=>exact Om hΘ h hp
 case h_18=>
  split at h
  ·exact MH hΘ h hp
  ·cases h
 case h_19 c=>
  obtain⟨callee,args,ats⟩:=c;split at h
  case h_2=>cases h
  rename_i b hb;have hb:callee= .builtin b:=hb;subst hb;unfold Pr at h;split at h
  case h_4=>cases h
  ·rename_i x t hx ht
   rw [XX (show args.toList= [x]from hx),XX (show ats.toList= [t]from ht)]
   exact QG hΘ h
  ·rename_i x y hx
   have e:args= #[x,y]:=by have hx:args.toList= [x,y]:=hx;cases args;simp at hx;simp [hx]
   subst e;exact QE h
  ·rename_i x y hx
   have e:args= #[x,y]:=by grind
   subst e;exact QF h
 case h_20=>exact QD h
 case h_21=>exact QC hΘ h
 case h_22=>cases h
def Ao:V->V->Prop
 | .many t n f,v'=>v'= .dead\/∃g,v'= .many t n g/\∀k,k<n->Ao (f k) (g k)
 |v,v'=>v'= .dead\/Sub v v'
theorem Ao.of: ∀ {v v':V},Sub v v'->Ao v v':=by
 intro v
 induction v with
 |many t n f ih=>intro v' h;obtain⟨g,rfl,h⟩:=h;exact .inr ⟨g,rfl,λk hk=>ih k (h k hk)⟩
 |_=>intro v' h;exact .inr h
theorem Ao.refl(v:V):Ao v v:=Ao.of (Sub.refl v)
theorem Ao.dead: ∀ (v:V),Ao v .dead:=by
 intro v;cases v<;>exact .inl rfl
theorem Ao.mk(hl:l.length=m.length)(h: ∀k,k<l.length->Ao (l.getD k .dead) (m.getD k .dead)):Ao (Ac l) (Ac m):=by
 unfold Ac;rw [<-hl];exact .inr ⟨_,rfl,h⟩
theorem Ao.tup(hl:l.length=m.length)(h: ∀k,k<l.length->Ao (l.getD k .dead) (m.getD k .dead)):Ao (C8 l) (C8 m):=by
 unfold C8;rw [<-hl];exact .inr ⟨_,rfl,h⟩
theorem Ao.pk{t:Tg}(hl:l.length=m.length)(h: ∀k,k<l.length->Ao (l.getD k .dead) (m.getD k .dead)):Ao (pkL t l) (pkL t m):=by
 unfold pkL;rw [<-hl];exact .inr ⟨_,rfl,h⟩
theorem Rel.subS{D:Nat->Prop}{R:V->Value->Prop}: ∀ {v v':V} {cv:Value},Ao v v'->Rel D w R v cv noF->Rel D w R v' cv noF:=by
 intro v
 induction v with
 |many t n f ih=>
  intro v' cv h hr;rcases h with rfl|⟨g,rfl,h⟩
  ·exact λ_ h=>h
  obtain⟨cs,F,hcv,hn,hr,hd,hf⟩:=hr;have hF:=λk hk=>AY λb hb=>(hf b).2 ⟨k,hk,hb⟩
  exact⟨cs,λ_=>noF,hcv,hn,λk hk=>ih k (h k hk) (by grind),λ_ _ _ _ _ _ h=>h.elim,λb=>⟨λh=>h.elim,fun⟨_,_,h⟩=>h⟩⟩
 |_=>
  intro v' cv h hr;rcases h with rfl|h
  ·exact λ_ h=>h
  ·exact Rel.sub h hr
theorem At.sub'{w:World}: ∀ {p:AR} {v v1:V} {cv:Value} {s:Bool} {sz n:Nat} {f:Nat->Nat->V} {c:Value},Sub v v1->At w p v cv (.nd s true sz n f) c->∃f',At w p v1 cv (.nd s true sz n f') c
 | [],v,v1,cv,s,sz,n,f,c,h,ha=>by
  obtain⟨rfl,rfl⟩:=ha;obtain⟨g,rfl,_⟩:=h;exact⟨g,rfl,rfl⟩
 |(i,k)::p,.nd s0 true sz0 n0 f0,v1,cv,s,sz,n,f,c,h,ha=>by
  obtain⟨g,rfl,h⟩:=h;obtain⟨h1,h2,b,o,cap,x,h3,h4,h5⟩:=ha;obtain⟨f',h'⟩:=At.sub' (h i k h1 h2) h5;exact⟨f',h1,h2,b,o,cap,x,h3,h4,h'⟩
 |_::_,.nd _ false _ _ _,_,_,_,_,_,_,_,_,ha=>ha.elim
 |_::_,.c _,_,_,_,_,_,_,_,_,ha=>ha.elim
 |_::_,.dead,_,_,_,_,_,_,_,_,ha=>ha.elim
 |_::_,.many ..,_,_,_,_,_,_,_,_,ha=>ha.elim
 |_::_,.rs ..,_,_,_,_,_,_,_,_,ha=>ha.elim
 |_::_,.rp ..,_,_,_,_,_,_,_,_,ha=>ha.elim
theorem Ag.sub{σ σ':List V}{ρ:Nat->Value}(hl:σ'.length=σ.length)(hs: ∀i,i<σ.length->Sub (σ.getD i .dead) (σ'.getD i .dead)): ∀v cv,Ag σ ρ w v cv->Ag σ' ρ w v cv
 | .rs id p off len,cv,⟨hid,sz,n,f,cn,ha,r⟩=>by
  obtain⟨f',ha'⟩:=At.sub' (hs id hid) ha;exact⟨by grind,sz,n,f',cn,ha',r⟩
 | .rp id p i k,cv,⟨hid,s,sz,n,f,b,o,cap,ha,r⟩=>by
  obtain⟨f',ha'⟩:=At.sub' (hs id hid) ha;exact⟨by omega,s,sz,n,f',b,o,cap,ha',r⟩
 | .c _,_,h=>h.elim
 | .dead,_,h=>h.elim
 | .many ..,_,h=>h.elim
 | .nd ..,_,h=>h.elim
theorem CR.sub{C:Ctx}{σ σ' ts ts':List V}{cts:Array Value}{w:World}{D:Nat->Prop}{ρ:Nat->Value}{F:Nat->Nat->Prop}(h:CR C σ ts cts w D ρ F)(hl:σ'.length=σ.length)(hs: ∀i,i<σ.length->Sub (σ.getD i .dead) (σ'.getD i .dead))
  (htl:ts'.length=ts.length) (ht: ∀i,i<ts.length->Ao (ts.getD i .dead) (ts'.getD i .dead)):CR C σ' ts' cts w D ρ F:=by
 refine⟨⟨λi hi=>Rel.sub (hs i (by omega)) (h.wr.rel i (by omega)),h.wr.disj,h.wr.dD,h.wr.Dlt,λi b hi=>h.wr.out i b (by omega)⟩,by rw [h.sz,htl],λt ht'=>?_,h.fr,h.Fn,h.D1,h.D2,h.rt,by rw [hl];exact h.ml⟩
 exact Rel.subS (ht t (by omega)) (Rel.mono (λ_ h=>h) (Ag.sub hl hs) _ _ _ (λ_ _=>rfl) (h.tm t (by omega)))
theorem AI.sub{C:Ctx}{N:Nat}{S S':Ms}{a:Act}{w:World}(h:AI C N S a w)(hl:S'.σ.length=S.σ.length)(hs: ∀i,i<S.σ.length->Sub (S.σ.getD i .dead) (S'.σ.getD i .dead))(ht: ∀i,Ao (S.t i) (S'.t i)):AI C N S' a w:=by
 obtain⟨hd,hdd,D,ρ,F,hcr⟩:=h;refine⟨hd,λx hx=>?_,D,ρ,F,hcr.sub hl hs (by simp) λi hi=>?_⟩
 ·have:=ht x
  rw [hdd x hx]at this;rcases this with h|h
  ·exact h
  trivial
 grind
def Cl.frz:Cl->Cl
 | .c t _ x=>.c t 0 x
 |y=>y
def Sl.frz:Sl->Option Sl
 | .one y=>some (.one y.frz)
 | .new l=>match DR l with
  |some ⟨t,x⟩=>some (.one (.c (.ptr t) 0 x))
  |none=>none
 | .agg l=>some (.agg (l.map Cl.frz))
 | .pk t l=>some (.pk t (l.map Cl.frz))
 | .tup l=>some (.tup (l.map λp=>(p.1,p.2.map Cl.frz)))
theorem Cl.frz_v(y:Cl):Go.Ve.frz (y.v r)=y.frz.v r:=by
 cases y with
 |c t d x=>
  cases ho:t.one with
  |true=>exact P6 ho d x
  |false=>cases t<;>first|rfl|trivial
 |_=>rfl
theorem Ql(l:List Cl):Go.Ve.frz (Ac (l.map (Cl.v r)))=Ac ((l.map Cl.frz).map (Cl.v r)):=by
 rw [frz_mk,List.map_map,List.map_map]
 congr 1
 exact List.map_congr_left λy _=>Cl.frz_v y
theorem Sl.frz_v{r:List Aa}{y y':Sl}(h:y.frz=some y'):Go.Ve.frz (y.v r)=y'.v r:=by
 cases y with
 |one c=>cases h;exact Cl.frz_v c
 |new l=>
  unfold Sl.frz at h;simp only at h;split at h
  ·rename_i t x hf
   cases h;show Go.Ve.frz (A7 true (l.map Cl.v0))=A7 false (tyV t 0 x);rw [L9,Du _ _ hf]
  ·cases h
 |agg l=>cases h;exact Ql l
 |pk t l=>
  cases h;show Go.Ve.frz (pkL t (l.map (Cl.v r)))=pkL t ((l.map Cl.frz).map (Cl.v r));rw [frz_pk,List.map_map,List.map_map]
  congr 1
  exact List.map_congr_left λy _=>Cl.frz_v y
 |tup l=>
  cases h;show Go.Ve.frz (C8 _)=C8 _;rw [Aak,List.map_map,List.map_map]
  congr 1
  refine List.map_congr_left λp _=>?_
  obtain⟨b,l⟩:=p;cases b with
  |true=>exact Ql l
  |false=>
   show Go.Ve.frz ((l.map (Cl.v r)).getD 0 .dead)=((l.map Cl.frz).map (Cl.v r)).getD 0 .dead;rw [Ay (a:=.dead) rfl,Cl.frz_v];simp only [gDE,List.getElem?_map];cases l[0]? <;>rfl
def Cl.chk(m:Nat):Cl->Cl
 | .rf id p=>bif Nat.blt id m then .rf id p else .dead
 | .rs id p off len=>bif Nat.blt id m then .rs id p off len else .dead
 | .rp id p i k=>bif Nat.blt id m then .rp id p i k else .dead
 |y=>y
def Sl.chk(m:Nat):Sl->Sl
 | .one y=>.one (y.chk m)
 | .new l=>.new l
 | .agg l=>.agg (l.map (Cl.chk m))
 | .pk t l=>.pk t (l.map (Cl.chk m))
 | .tup l=>.tup (l.map λp=>(p.1,p.2.map (Cl.chk m)))
theorem Cl.chk_v{r':List Aa}(hr: ∀id,id<r.length->r'.getD id .dead=r.getD id .dead)(y:Cl):Ao (y.v r) ((y.chk r.length).v r'):=by
 cases y with
 |rf id p=>
  show Ao _ ((bif Nat.blt id r.length then Cl.rf id p else .dead).v r');cases hb:Nat.blt id r.length with
  |false=>exact Ao.dead _
  |true=>
   have hb:=blE hb;show Ao (V.rs id p 0 (Ab r id p).len) (V.rs id p 0 (Ab r' id p).len);unfold Ab;rw [hr id hb];exact Ao.refl _
 |rs id p off len=>
  show Ao _ ((bif Nat.blt id r.length then Cl.rs id p off len else .dead).v r');cases hb:Nat.blt id r.length with
  |false=>exact Ao.dead _
  |true=>exact Ao.refl _
 |rp id p off len=>
  show Ao _ ((bif Nat.blt id r.length then Cl.rp id p off len else .dead).v r');cases hb:Nat.blt id r.length with
  |false=>exact Ao.dead _
  |true=>exact Ao.refl _
 |_=>exact Ao.refl _
theorem BM{l:List Cl}{f g:Cl->V}(hf:f .dead= .dead)(hg:g .dead= .dead)(h: ∀y,Ao (f y) (g y))(k:Nat):Ao ((l.map f).getD k .dead) ((l.map g).getD k .dead):=by grind
theorem Sl.chk_v{r r':List Aa}(hr: ∀id,id<r.length->r'.getD id .dead=r.getD id .dead)(y:Sl):Ao (y.v r) ((y.chk r.length).v r'):=by
 have agg: ∀l:List Cl,Ao (Ac (l.map (Cl.v r))) (Ac ((l.map (Cl.chk r.length)).map (Cl.v r'))):=by
  intro l;refine Ao.mk (by simp) λk _=>?_
  rw [List.map_map];exact BM rfl rfl (λy=>Cl.chk_v hr y) k
 cases y with
 |one c=>exact Cl.chk_v hr c
 |new l=>exact Ao.refl _
 |agg l=>exact agg l
 |pk t l=>
  refine Ao.pk (by simp) λk _=>?_
  rw [List.map_map];exact BM rfl rfl (λy=>Cl.chk_v hr y) k
 |tup l=>
  refine Ao.tup (by simp) λk hk=>?_
  have hk:k<l.length:=by simpa using hk
  simp only [gDE,List.getElem?_map,gEE hk,Option.map_some,Option.getD_some];generalize l[k]=p;obtain⟨b,m⟩:=p;cases b with
  |true=>exact agg m
  |false=>
   have:=BM (l:=m) (f:=Cl.v r) rfl rfl (λy=>Cl.chk_v hr y) 0
   have e:(m.map λy=>(y.chk r.length).v r')=(m.map (Cl.chk r.length)).map (Cl.v r'):=by rw [List.map_map];rfl
   grind
end Go.Ve

