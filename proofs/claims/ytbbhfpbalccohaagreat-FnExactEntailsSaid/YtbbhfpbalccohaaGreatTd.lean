/- The typed machine: structs that are built, new memory, slices of slices. -/
import Derived.Test.YtbbhfpbalccohaaGreatTc
namespace Go.Ve
def C5:List V->List V->Prop
 | [],[]=>True
 |a::l,b::m=>Sub a b/\C5 l m
 |_,_=>False
theorem C5.len: ∀ {l m:List V},C5 l m->l.length=m.length
 | [],[],_=>rfl
 |_::_,_::_,h=>by simp [C5.len h.2]
 | [],_::_,h=>h.elim
 |_::_,[],h=>h.elim
theorem C5.getD: ∀ {l m:List V} (_:C5 l m) (k:Nat),Sub (l.getD k .dead) (m.getD k .dead)
 | [],[],_,_=>Sub.refl _
 |_::_,_::_,h,0=>h.1
 |_::_,_::_,h,k+1=>C5.getD h.2 k
 | [],_::_,h,_=>h.elim
 |_::_,[],h,_=>h.elim
theorem C5.app: ∀ {l m l' m':List V},C5 l m->C5 l' m'->C5 (l++l') (m++m')
 | [],[],_,_,_,h=>h
 |_::_,_::_,_,_,h,h'=>⟨h.1,C5.app h.2 h'⟩
 | [],_::_,_,_,h,_=>h.elim
 |_::_,[],_,_,h,_=>h.elim
theorem C5.mk{l m:List V}(h:C5 l m):Sub (Ai l) (Ai m):=by
 unfold Ai;rw [h.len];exact⟨_,rfl,fun k _=>h.getD k⟩
theorem C5.obj{o:Bool}{l m:List V}(h:C5 l m):Sub (Bj o l) (Bj o m):=by
 unfold Bj;rw [h.len];refine⟨_,rfl,fun i k hi _=>?_⟩
 obtain rfl:i=0:=by omega
 exact h.getD k
theorem Eqv.symm: ∀ {v v':V},Eqv v v'->Eqv v' v:=by
 intro v
 induction v with
 |c v=>intro v' h;cases h;rfl
 |dead=>intro v' h;cases h;rfl
 |many t n f ih=>intro v' h;obtain⟨g,rfl,h⟩:=h;exact⟨f,rfl,fun k hk=>ih k (h k hk)⟩
 |nd s own sz n f ih=>intro v' h;obtain⟨g,rfl,h⟩:=h;exact⟨f,rfl,fun i k hi hk=>ih i k (h i k hi hk)⟩
 |rs id p off len=>intro v' h;cases h;rfl
 |rp id p i k=>intro v' h;cases h;rfl
def Us(a b:Nat):Nat:=bif Nat.ble a b then a else b
theorem LV(a b:Nat):Us a b=min a b:=by
 unfold Us;cases h:Nat.ble a b with
 |true=>have:=blE h;simp;omega
 |false=>
  have: ¬a<=b:=fun e=>by rw [Nat.ble_eq_true_of_le e]at h;cases h
  simp;omega
def dOK(t:Ty)(d d':Nat):Bool:=Nat.beq t.dep 0||Nat.beq d d'
theorem L9{t:Ty}{d d':Nat}(h:dOK t d d'=true):min d t.dep=min d' t.dep:=by
 unfold dOK at h;rw [Bool.or_eq_true]at h;rcases h with h|h
 ·rw [bqE h];simp
 ·rw [bqE h]
def fit(d':Nat):Cl->Cl
 | .c t d x=>bif Nat.beq (Us d t.dep) (Us d' t.dep)then .c t d' x else .c t d x
 |y=>y
def DT(t:Ty)(d:Nat):Cl->Option t.T
 | .c t' d' x=>if h:t'=t then(bif dOK t d' d then some (h▸x)else none)else none
 | .nil=>match t with
  | .sl _=>some []
  |_=>none
 |_=>none
def LC(t:Ty)(d:Nat):List Cl->Option (t.T×List Cl)
 |c::l=>match DT t d c with
  |some x=>some (x,l)
  |none=>none
 | []=>none
def AaX:(t:Ty)->Nat->List Cl->Option (t.T×List Cl)
 | .unit,_,l=>some ((),l)
 | .pair a b,d,l=>match AaX a d l with
  |some (x,l)=>match AaX b d l with
   |some (y,l)=>some ((x,y),l)
   |none=>none
  |none=>none
 | .int k,d,l=>LC (.int k) d l
 | .bool,d,l=>LC .bool d l
 | .str,d,l=>LC .str d l
 | .sl t,d,l=>LC (.sl t) d l
 | .ptr t,d,l=>LC (.ptr t) d l
 | .clo g t,d,l=>LC (.clo g t) d l
 | .osl t,d,l=>LC (.osl t) d l
def HT(t:Ty)(d:Nat)(l:List Cl):Option t.T:=match AaX t d l with
 |some (x,[])=>some x
 |_=>none
theorem Og{t:Ty}{d:Nat}{c:Cl}{x:t.T}(h:DT t d c=some x)(r:List Ae):Sub (c.v r) (cV t d x)/\c.v r=c.v0:=by
 unfold DT at h;split at h
 ·rename_i t' d' x'
  split at h
  case isFalse=>cases h
  rename_i ht;subst ht;cases hd:dOK t' d' d with
  |false=>rw [hd]at h;cases h
  |true=>
   rw [hd]at h;cases h;exact⟨Sub.of_eq (Jx (L9 hd)),rfl⟩
 ·split at h
  ·cases h
   exact⟨.inr ⟨rfl,_,_,_,rfl⟩,rfl⟩
  ·cases h
 ·cases h
theorem DS{t:Ty}{d:Nat}(ht:t.one=true){l l':List Cl}{x:t.T}(h:LC t d l=some (x,l'))(r:List Ae): ∃m,l=m++l'/\C5 (m.map (Cl.v r)) (tyV t d x)/\m.map (Cl.v r)=m.map Cl.v0:=by
 unfold LC at h;split at h
 ·rename_i c l0
  split at h
  ·rename_i y hy
   cases h;obtain⟨h1,h2⟩:=Og hy r;exact⟨[c],rfl,by rw [BU ht];exact⟨h1,trivial⟩,by simp [h2]⟩
  ·cases h
 ·cases h
theorem Pu(r:List Ae): ∀ (t:Ty) (d:Nat) (l l':List Cl) (x:t.T),AaX t d l=some (x,l')->∃m,l=m++l'/\C5 (m.map (Cl.v r)) (tyV t d x)/\m.map (Cl.v r)=m.map Cl.v0
 | .unit,d,l,l',x,h=>by cases h;exact⟨[],rfl,trivial,rfl⟩
 | .int k,d,l,l',x,h=>DS rfl h r
 | .bool,d,l,l',x,h=>DS rfl h r
 | .str,d,l,l',x,h=>DS rfl h r
 | .sl t,d,l,l',x,h=>DS rfl h r
 | .ptr t,d,l,l',x,h=>DS rfl h r
 | .clo g t,d,l,l',x,h=>DS rfl h r
 | .osl t,d,l,l',x,h=>DS rfl h r
 | .pair a b,d,l,l',x,h=>by
  unfold AaX at h;split at h
  ·rename_i y l1 h1
   split at h
   ·rename_i z l2 h2
    cases h;obtain⟨m1,e1,s1,t1⟩:=Pu r a d l l1 y h1;obtain⟨m2,e2,s2,t2⟩:=Pu r b d l1 l' z h2;subst e2;subst e1;exact⟨m1++m2,by simp,by rw [List.map_append];exact s1.app s2,by simp [t1,t2]⟩
   ·cases h
  ·cases h
theorem Hn{t:Ty}{d:Nat}{l:List Cl}{x:t.T}(h:HT t d l=some x)(r:List Ae):C5 (l.map (Cl.v r)) (tyV t d x)/\l.map (Cl.v r)=l.map Cl.v0:=by
 unfold HT at h;split at h
 ·rename_i y hy
  cases h;obtain⟨m,e,h1,h2⟩:=Pu r t d l [] x hy;simp at e;subst e;exact⟨h1,h2⟩
 ·cases h
theorem IM(r:List Ae): ∀t:Ty,(D6 t).map (Cl.v r)=(BP t).map .c
 | .int _=>rfl
 | .bool=>rfl
 | .str=>rfl
 | .sl _=>rfl
 | .ptr _=>rfl
 | .unit=>rfl
 | .clo _ _=>rfl
 | .osl _=>rfl
 | .pair a b=>by simp [D6,BP,IM r a,IM r b]
theorem NK: ∀t:Ty,C5 ((BP t).map .c) ((Uu t).map Cl.v0)
 | .int _=>⟨Sub.refl _,trivial⟩
 | .bool=>⟨Sub.refl _,trivial⟩
 | .str=>⟨Sub.refl _,trivial⟩
 | .sl _=>⟨.inr ⟨rfl,_,_,_,rfl⟩,trivial⟩
 | .ptr _=>⟨Sub.refl _,trivial⟩
 | .clo _ _=>⟨Sub.refl _,trivial⟩
 | .osl _=>⟨.inr ⟨rfl,_,_,_,rfl⟩,trivial⟩
 | .unit=>trivial
 | .pair a b=>by simp only [D6,BP,Uu,List.map_append];exact(NK a).app (NK b)
def Ty.noPtr:Ty->Bool
 | .ptr _=>false
 | .clo _ _=>false
 | .osl _=>false
 | .pair a b=>a.noPtr&&b.noPtr
 |_=>true
theorem NJ(d:Nat): ∀t:Ty,t.noPtr=true->C5 ((BP t).map .c) (tyV t d t.dflt)
 | .int _,_=>⟨Sub.refl _,trivial⟩
 | .bool,_=>⟨Sub.refl _,trivial⟩
 | .str,_=>⟨Sub.refl _,trivial⟩
 | .sl _,_=>⟨.inr ⟨rfl,_,_,_,rfl⟩,trivial⟩
 | .unit,_=>trivial
 | .pair a b,h=>by
  simp only [Ty.noPtr,bAE]at h;simp only [BP,List.map_append,tyV];exact(NJ d a h.1).app (NJ d b h.2)
theorem Dd: ∀t:Ty,(BP t).length=t.w
 | .int _=>rfl
 | .bool=>rfl
 | .str=>rfl
 | .sl _=>rfl
 | .ptr _=>rfl
 | .unit=>rfl
 | .clo _ _=>rfl
 | .osl _=>rfl
 | .pair a b=>by simp [BP,Ty.w,Dd a,Dd b]
def Cl.plain:Cl->Bool
 | .dead=>false
 | .c .unit _ _=>false
 | .c (.pair _ _) _ _=>false
 | .c (.clo _ _) _ _=>false
 | .c (.osl _) _ _=>false
 |y=>!y.own
def Sl.cells:Sl->Option (List Cl)
 | .one y=>bif y.plain then some [y]else none
 | .agg l=>bif l.all Cl.plain then some l else none
 |_=>none
theorem Vy{r:List Ae}{y:Cl}(h:y.plain=true):one1 (y.v r)=true/\AH (y.v r)=false/\Bp (y.v r)=true/\Go.Ve.cellsV (y.v r)= [y.v r]:=by
 cases y with
 |c t d x=>cases t<;>cases d<;>first|exact⟨rfl,rfl,rfl,rfl⟩|cases h
 |dead=>cases h
 |_=>exact⟨rfl,rfl,rfl,rfl⟩
theorem Cr{r:List Ae}{y:Sl}{l:List Cl}(h:y.cells=some l):Bp (y.v r)=true/\Go.Ve.cellsV (y.v r)=l.map (Cl.v r)/\l.all Cl.plain=true:=by
 unfold Sl.cells at h;split at h
 ·rename_i c
  cases hb:c.plain with
  |false=>rw [hb]at h;cases h
  |true=>
   rw [hb]at h;cases h;obtain⟨_,_,h1,h2⟩:=Vy (r:=r) hb;exact⟨h1,h2,by simp [hb]⟩
 ·rename_i l'
  cases hb:l'.all Cl.plain with
  |false=>rw [hb]at h;cases h
  |true=>
   rw [hb]at h;cases h;refine⟨?_,NC,hb⟩;show Bp (Ai _)=true;rw [Vz,List.all_map,aET];intro y hy;exact(Vy (aET.1 hb y hy)).1
 ·cases h
def Sl.cellsF:Sl->Option (List Cl)
 | .one (.c (.clo g t) d x)=>some [.c (.clo g t) d x]
 |y=>y.cells
theorem NE{r:List Ae}{y:Sl}{l:List Cl}(h:y.cellsF=some l):Bp (y.v r)=true/\Go.Ve.cellsV (y.v r)=l.map (Cl.v r):=by
 unfold Sl.cellsF at h;split at h
 ·rename_i g t d x
  cases h;refine⟨?_,rfl⟩;show(!AH (cV (.clo g t) d x))=true;have e:AH (cV (.clo g t) d x)=false:=D7 (.clo g t) x _ (List.mem_singleton.2 rfl);rw [e];rfl
 ·obtain⟨h1,h2,_⟩:=Cr (r:=r) h
  exact⟨h1,h2⟩
def AaV(cells:List Cl):Nat->List Cl->List Cl
 |_,[]=>cells
 |off,y::l=>AaV (cells.set off y) (off+1) l
theorem ZF: ∀ (l cells:List V) (off k:Nat),((l.zipIdx k).foldl (fun cs (c,j)=>cs.set (off+j) c) cells)=Xs cells (off+k) l:=by
 have gen: ∀ (l cells:List V) (off k:Nat),((l.zipIdx k).foldl (fun cs (c,j)=>cs.set (off+j) c) cells)=((l.zipIdx 0).foldl (fun cs (c,j)=>cs.set (off+k+j) c) cells):=by
  intro l
  induction l with
  |nil=>intro cells off k;rfl
  |cons v l ih=>
   intro cells off k;simp only [List.zipIdx_cons,List.foldl_cons,Nat.add_zero];rw [ih _ off (k+1),ih _ (off+k) (0+1)];rfl
 intro l cells off k;rw [gen];rfl
theorem U6{v:V}{l cells:List V}{off:Nat}:Xs cells off (v::l)=Xs (cells.set off v) (off+1) l:=by
 show((v::l).zipIdx 0).foldl _ cells=_;rw [List.zipIdx_cons,List.foldl_cons];exact ZF l _ off (0+1)
theorem U8{r:List Ae}: ∀ (l cells:List Cl) (off:Nat),(AaV cells off l).map (Cl.v r)=Xs (cells.map (Cl.v r)) off (l.map (Cl.v r))
 | [],cells,off=>rfl
 |y::l,cells,off=>by
  rw [List.map_cons,U6];show(AaV (cells.set off y) (off+1) l).map (Cl.v r)=_;rw [U8 l,List.map_set]
def Qq(place:Nat->Option (Nat×Nat))(cells:List Cl):List (Nat×Option Sl)->Option (List Cl)
 | []=>some cells
 |(i,y)::rest=>match place i,y with
  |some (off,size),some y=>match y.cellsF with
   |some l=>bif Nat.beq l.length size&&Nat.ble (off+size) cells.length then Qq place (AaV cells off l) rest else none
   |none=>none
  |_,_=>none
theorem Ld{s:St}{place:Nat->Option (Nat×Nat)}: ∀ (ps:List (Nat×Operand)) (cells l:List Cl),Qq place cells (ps.map fun p=>(p.1,s.ev p.2))=some l->
  (ps.map fun p=>(p.1,s.den.ev p.2)).all (fun p=>Bp p.2)=true/\BZ place (cells.map (Cl.v s.r)) (ps.map fun p=>(p.1,s.den.ev p.2))=some (l.map (Cl.v s.r))
 | [],cells,l,h=>by cases h;exact⟨rfl,rfl⟩
 |(i,x)::ps,cells,l,h=>by
  rw [List.map_cons]at h;unfold Qq at h;split at h
  case h_2=>cases h
  rename_i off size y hpl hy;split at h
  case h_2=>cases h
  rename_i m hm;cases hb:(Nat.beq m.length size&&Nat.ble (off+size) cells.length)with
  |false=>rw [hb]at h;cases h
  |true=>
   rw [hb]at h;simp only [bAE]at hb;have h1:=bqE hb.1;have h2:=blE hb.2;obtain⟨g1,g2⟩:=NE (r:=s.r) hm;obtain⟨k1,k2⟩:=Ld ps _ _ h;have hy:s.ev x=some y:=hy;rw [List.map_cons,List.all_cons];refine⟨by simp only [A3 hy,g1,Bool.true_and];exact k1,?_⟩
   unfold BZ;simp only [hpl,A3 hy,g2];rw [if_neg (by simp only [List.length_map];omega),<-U8]
   exact k2
def UV:Option TI->List (Nat×Option Sl)->Option TR
 |some i,ps=>bif i.agg then(match Qq (fun k=>i.flds[k]?) (D6 i.ty) ps with
   |some l=>some (.ok (.agg l))
   |none=>none)
  else none
 |none,_=>none
theorem MF{P:Program}{Θ:Tab}{s:St}(hΘ:Θ.OK P){t:TypeId}{ps:Array (Nat×Operand)}{a:TR}(h:UV (Θ.look t) (ps.toList.map fun p=>(p.1,s.ev p.2))=some a):QS P s (.build t ps) a.y:=by
 unfold UV at h;split at h
 case h_2=>cases h
 rename_i i hi;cases hb:i.agg with
 |false=>rw [hb]at h;cases h
 |true=>
  rw [hb]at h;simp only [cond_true]at h;split at h
  case h_2=>cases h
  rename_i l hl;cases h;obtain⟨h1,h2⟩:=Ld _ _ _ hl;show Kd (Ze P t) (ps.toList.map fun p=>(p.1,s.den.ev p.2)) (SK s _)
  rw [hΘ.bd hi,hb];unfold Kd;rw [IM]at h2;simp only [if_true];rw [h2];exact⟨h1,Sub.refl _⟩
def Nb(t:Ty)(d:Nat):Nat->List Cl->Option (List t.T)
 |0,[]=>some []
 |0,_::_=>none
 |n+1,l=>match AaX t d l with
  |some (x,l)=>match Nb t d n l with
   |some xs=>some (x::xs)
   |none=>none
  |none=>none
theorem Of{t:Ty}{d:Nat}(r:List Ae): ∀ (n:Nat) (l:List Cl) (xs:List t.T),Nb t d n l=some xs->xs.length=n/\l.map (Cl.v r)=l.map Cl.v0/\
  ∀i k,i<n->k<t.w->Sub ((l.map (Cl.v r)).getD (i*t.w+k) .dead) ((tyV t d (xs.getD i t.dflt)).getD k .dead):=by
 intro n
 induction n with
 |zero=>
  intro l xs h;cases l with
  |nil=>cases h;exact⟨rfl,rfl,fun i k hi=>by omega⟩
  |cons y l=>cases h
 |succ n ih=>
  intro l xs h;unfold Nb at h;split at h
  case h_2=>cases h
  rename_i x l1 h1;split at h
  case h_2=>cases h
  rename_i ys h2;cases h;obtain⟨m,e,s1,s2⟩:=Pu r t d l l1 x h1;obtain⟨g1,g2,g3⟩:=ih l1 ys h2;subst e;have hm:(m.map (Cl.v r)).length=t.w:=by rw [s1.len,Av]
  refine⟨by simp [g1],by simp [s2,g2],fun i k hi hk=>?_⟩
  rw [List.map_append];cases i with
  |zero=>
   simp only [Nat.zero_mul,Nat.zero_add,List.getD_cons_zero];have:=s1.getD k;rw [gDE,gAL (by omega),<-gDE]
   exact this
  |succ i=>
   have:=g3 i k (by omega) hk
   rw [List.getD_cons_succ];have e:(i+1)*t.w+k-(m.map (Cl.v r)).length=i*t.w+k:=by rw [hm,Nat.add_mul];omega
   rw [gDE,gAR (by rw [hm,Nat.add_mul];omega),e,<-gDE]
   exact this
def ZQ(n:Nat)(l:List Cl):List Cl:=match n with
 |0=>[]
 |n+1=>l++ZQ n l
theorem Wf: ∀ (n w:Nat) (l:List V),l.length=w->0<w->∀j,j<n*w->((List.replicate n l).flatten).getD j .dead=l.getD (j % w) .dead:=by
 intro n w l hl hw
 induction n with
 |zero=>intro j hj;omega
 |succ n ih=>
  intro j hj;rw [List.replicate_succ,List.flatten_cons];by_cases h:j<w
  ·rw [gDE,gAL (by omega),<-gDE,Nat.mod_eq_of_lt h]
  ·have:(n+1)*w=n*w+w:=Nat.add_one_mul n w
   rw [gDE,gAR (by omega),<-gDE,hl,ih (j-w) (by omega),<-Nat.mod_eq_sub_mod (by omega)]
theorem Vj(r:List Ae)(t:Ty)(n:Nat)(hw:0<t.w):(ZQ n (D6 t)).map (Cl.v r)=(List.range (n*t.w)).map fun j=>.c ((BP t).getD (j % t.w) undef):=by
 have e:(ZQ n (D6 t)).map (Cl.v r)=(List.replicate n ((BP t).map V.c)).flatten:=by
  induction n with
  |zero=>rfl
  |succ n ih=>
   show((D6 t)++ZQ n (D6 t)).map (Cl.v r)=_;rw [List.map_append,ih,IM,List.replicate_succ,List.flatten_cons]
 have hl:((BP t).map V.c).length=t.w:=by rw [List.length_map,Dd]
 rw [e];apply List.ext_getElem
 ·simp [Dd]
 ·intro j h1 h2
  have hj:j<n*t.w:=by simpa using h2
  have g:=Wf n t.w _ hl hw j hj;rw [gDE,gEE h1]at g;simp only [Option.getD_some]at g;rw [g];have hm:j % t.w<(BP t).length:=by rw [Dd];exact Nat.mod_lt _ hw
  simp [hm]
def Ty.noO:Ty->Bool
 | .osl _=>false
 | .clo _ t=>t.noO
 | .pair a b=>a.noO&&b.noO
 |_=>true
theorem IH: ∀ (t:Ty) (x:t.T),t.noO=true->∀v∈tyV t 0 x,BM v=true
 | .int _,_,_,v,h=>by simp [tyV]at h;subst h;rfl
 | .bool,_,_,v,h=>by simp [tyV]at h;subst h;rfl
 | .str,_,_,v,h=>by simp [tyV]at h;subst h;rfl
 | .sl _,_,_,v,h=>by simp only [tyV,List.mem_singleton]at h;subst h;rfl
 | .ptr _,_,_,v,h=>by simp only [tyV,List.mem_singleton]at h;subst h;rfl
 | .unit,_,_,v,h=>by simp [tyV]at h
 | .pair a b,x,ho,v,h=>by
  simp only [Ty.noO,bAE]at ho;simp only [tyV,List.mem_append]at h;exact h.elim (IH a x.1 ho.1 v) (IH b x.2 ho.2 v)
 | .osl _,_,ho,_,_=>by cases ho
 | .clo g t,x,ho,v,h=>by
  simp only [tyV,List.mem_singleton]at h;subst h;show((List.range t.w).all fun k=>BM ((tyV t 0 x).getD k .dead))=true
  rw [aET];intro k hk;have hk:k<(tyV t 0 x).length:=by rw [Av];exact List.mem_range.1 hk
  rw [gDE,gEE hk];exact IH t x ho _ (List.getElem_mem hk)
def Cl.imm:Cl->Bool
 | .c .unit _ _=>false
 | .c (.pair _ _) _ _=>false
 | .c (.clo _ _) _ _=>false
 | .c (.osl _) _ _=>false
 | .c t d x=>!(Cl.c t d x).own
 | .nil=>true
 | .nilp=>true
 | .nilf=>true
 |_=>false
theorem OB{r:List Ae}{y:Cl}(h:y.imm=true):BM (y.v r)=true/\y.v r=y.v0:=by
 cases y with
 |c t d x=>cases t<;>cases d<;>first|exact⟨rfl,rfl⟩|cases h
 |nil=>exact⟨rfl,rfl⟩
 |nilp=>exact⟨rfl,rfl⟩
 |nilf=>exact⟨rfl,rfl⟩
 |_=>cases h
def Cl.immF:Cl->Bool
 | .c (.clo _ t) _ _=>t.noO
 |y=>y.imm
theorem immF_v{r:List Ae}{y:Cl}(h:y.immF=true):BM (y.v r)=true:=by
 unfold Cl.immF at h;split at h
 ·rename_i g t d x
  exact IH (.clo g t) x h _ (List.mem_singleton.2 rfl)
 ·exact(OB h).1
theorem Aaw{r:List Ae}{l:List Cl}(h:l.all Cl.immF=true):(l.map (Cl.v r)).all BM=true:=by
 rw [List.all_map,aET];intro y hy;exact immF_v (aET.1 h y hy)
theorem imms_v{r:List Ae}{l:List Cl}(h:l.all Cl.imm=true):(l.map (Cl.v r)).all BM=true/\l.map (Cl.v r)=l.map Cl.v0:=by
 refine⟨?_,List.map_congr_left fun y hy=>(OB (aET.1 h y hy)).2⟩
 rw [List.all_map,aET];intro y hy;exact(OB (aET.1 h y hy)).1
def DN(n:Nat)(ps:List (Nat×Option Sl)):Option TI->Option TR
 |some j=>bif Nat.blt 0 j.ty.w&&Nat.ble (n*j.ty.w) 16777216 then(bif Nat.beq n 0 then(match ps with
  | []=>some (.ok (.one (.c (.sl j.ty) (j.sd+1) [])))
  |_::_=>none)else match Qq (fun i=>some (i*j.ty.w,j.ty.w)) (ZQ n (D6 j.ty)) ps with
   |some l=>bif l.all Cl.immF then(match Nb j.ty j.sd n l with
    |some xs=>some (.ok (.one (.c (.sl j.ty) (j.sd+1) xs)))
    |none=>match Nb j.ty 0 n l with
     |some xs=>some (.ok (.one (.c (.sl j.ty) 1 xs)))
     |none=>none)else none
   |none=>none)
  else none
 |none=>none
theorem HL{P:Program}{Θ:Tab}{s:St}(hΘ:Θ.OK P){t:TypeId}{n:Nat}{ps:Array (Nat×Operand)}{a:TR}(h:DN n (ps.toList.map fun p=>(p.1,s.ev p.2)) (((Θ.look t).bind (·.elem)).bind Θ.look)=some a):QS P s (.buildSlice t n ps) a.y:=by
 unfold DN at h;split at h
 case h_2=>cases h
 rename_i j hj;obtain⟨e,hsl,_⟩:=Dv hΘ hj;cases hb:(Nat.blt 0 j.ty.w&&Nat.ble (n*j.ty.w) 16777216)with
 |false=>rw [hb]at h;cases h
 |true=>
  rw [hb]at h;simp only [bAE]at hb;have hw:=P5 hb.1;have hn:=blE hb.2;simp only [cond_true]at h;cases h0:Nat.beq n 0 with
  |true=>
   rw [h0]at h;simp only [cond_true]at h;have h0:=bqE h0;subst h0;split at h
   case h_2=>cases h
   rename_i hps;cases h;have hps':ps.toList= []:=by simpa using hps
   show BW (slI P t) (ZN P t) 0 (ps.toList.map fun p=>(p.1,s.den.ev p.2)) (SK s _)
   rw [hsl,hps'];refine⟨rfl,⟨hw,hn⟩,?_⟩;simp only [Nat.zero_mul,List.range_zero,List.map_nil,BZ];refine⟨rfl,?_⟩;refine(Eqv.sub (Eqv.symm (Lk (ZN P t) j.ty.w 0 _))).trans ?_;show Sub _ (arr true j.ty.w (tyV j.ty j.sd) j.ty.dflt []);exact⟨_,rfl,fun i k hi hk=>by omega⟩
  |false=>
  rw [h0]at h;simp only [cond_false]at h;split at h
  case h_2=>cases h
  rename_i l hl;cases hi:l.all Cl.immF with
  |false=>rw [hi]at h;cases h
  |true=>
   rw [hi]at h;simp only [cond_true]at h
   have key: ∀ (d:Nat) (xs:List j.ty.T),Nb j.ty d n l=some xs->a= .ok (.one (.c (.sl j.ty) (d+1) xs))->QS P s (.buildSlice t n ps) a.y:=by
    intro d xs hxs ha;subst ha;obtain⟨h1,h2⟩:=Ld _ _ _ hl;rw [Vj s.r j.ty n hw]at h2;show BW (slI P t) (ZN P t) n (ps.toList.map fun p=>(p.1,s.den.ev p.2)) (SK s _)
    rw [hsl];refine⟨h1,⟨hw,hn⟩,?_⟩;rw [h2];refine⟨Aaw hi,?_⟩;obtain⟨g1,g2,g3⟩:=Of s.r n l xs hxs;refine(Eqv.sub (Eqv.symm (Lk (ZN P t) j.ty.w n _))).trans ?_;show Sub _ (arr true j.ty.w (tyV j.ty d) j.ty.dflt xs);unfold arr;rw [g1];exact⟨_,rfl,fun i k hi hk=>g3 i k hi hk⟩
   split at h
   ·rename_i xs hxs
    cases h;exact key _ xs hxs rfl
   ·split at h
    case h_2=>cases h
    rename_i xs hxs;cases h;exact key 0 xs hxs rfl
def UX:Option TI->Option TR
 |some i=>bif Nat.blt 0 i.ty.w then some (.ok (.new (Uu i.ty)))else none
 |none=>none
theorem MI{P:Program}{Θ:Tab}{s:St}(hΘ:Θ.OK P){t:TypeId}{a:TR}(h:UX (Θ.look t)=some a):QS P s (.alloc t) a.y:=by
 unfold UX at h;split at h
 case h_2=>cases h
 rename_i i hi;cases hb:Nat.blt 0 i.ty.w with
 |false=>rw [hb]at h;cases h
 |true=>
  rw [hb]at h;cases h;show M8 (tyI P t) (SK s _);rw [hΘ.ty hi];exact⟨P5 hb,(NK i.ty).obj⟩
def tBox:Option Sl->Option TR
 |some y=>match y.cells with
  |some l=>bif l.all Cl.imm then some (.ok (.new l))else some (.ok (.pk .bx l))
  |none=>none
 |none=>none
theorem Qr{P:Program}{s:St}{t:TypeId}{x:Operand}{a:TR}(h:tBox (s.ev x)=some a):QS P s (.box t x) a.y:=by
 unfold tBox at h;split at h
 case h_2=>cases h
 rename_i y hy;split at h
 case h_2=>cases h
 rename_i l hl;cases hb:l.all Cl.imm with
 |false=>
  rw [hb]at h;cases h;obtain⟨h1,h2,_⟩:=Cr (r:=s.r) hl;show qBox (s.den.ev x) (SK s _);rw [A3 hy];refine⟨h1,.inr ?_⟩;show Sub (Aa4 (Go.Ve.cellsV _)) (Aa4 (l.map (Cl.v s.r)));rw [h2];exact Sub.refl _
 |true=>
  rw [hb]at h;cases h;obtain⟨h1,h2,_⟩:=Cr (r:=s.r) hl;obtain⟨g1,g2⟩:=imms_v (r:=s.r) hb;show qBox (s.den.ev x) (SK s _);rw [A3 hy];refine⟨h1,.inl ⟨by rw [h2];exact g1,?_⟩⟩
  show Sub (Bj true (Go.Ve.cellsV _)) (Bj true (l.map Cl.v0));rw [h2,g2];exact Sub.refl _
def Zv:Option TI->Option Sl->Option Sl->Option TR
 |some j,some (.one (.c (.int _) _ l)),some (.one (.c (.int _) _ c))=>
  bif Nat.blt 0 j.ty.w&&j.ty.noPtr then some (.cnd (0<=l/\l<=c/\(j.bytes:Int)*c<=281474976710656/\c<=9223372036854775807) inferInstance (.one (.c (.sl j.ty) (j.sd+1) (YH (JK l) j.ty.dflt))))else none
 |_,_,_=>none
theorem QY(deep:Bool){t:Ty}(d n:Nat)(h:t.noPtr=true):Sub (VQ deep t.w n (BP t)) (cV (.sl t) (d+1) (List.replicate n t.dflt)):=by
 have gen:Sub (arr true t.w (fun x=>x) [] (List.replicate n ((BP t).map .c))) (cV (.sl t) (d+1) (List.replicate n t.dflt)):=by
  have e0:cV (.sl t) (d+1) (List.replicate n t.dflt)=arr true t.w (tyV t d) t.dflt (List.replicate n t.dflt):=by simp [cV]
  rw [e0];unfold arr;rw [List.length_replicate,List.length_replicate];refine⟨_,rfl,fun i k hi _=>?_⟩
  have e1:(List.replicate n ((BP t).map V.c)).getD i []=(BP t).map .c:=by simp [hi]
  have e2:(List.replicate n t.dflt).getD i t.dflt=t.dflt:=by simp [hi]
  show Sub (((List.replicate n ((BP t).map V.c)).getD i []).getD k .dead) ((tyV t d ((List.replicate n t.dflt).getD i t.dflt)).getD k .dead);rw [e1,e2];exact(NJ d t h).getD k
 exact gen
theorem NV{P:Program}{Θ:Tab}{s:St}(hΘ:Θ.OK P){t:TypeId}{l c:Operand}{a:TR}(h:Zv (((Θ.look t).bind (·.elem)).bind Θ.look) (s.ev l) (s.ev c)=some a)(hp:a.p):QS P s (.makeSlice t l c) a.y:=by
 unfold Zv at h;split at h
 case h_2=>cases h
 rename_i j _ _ li _ _ ci hj hl hc;obtain⟨e,hsl,_⟩:=Dv hΘ hj;cases hb:(Nat.blt 0 j.ty.w&&j.ty.noPtr)with
 |false=>rw [hb]at h;cases h
 |true=>
  rw [hb]at h;simp only [bAE]at hb;cases h;show Vu (slI P t) (ZN P t) (s.den.ev l) (s.den.ev c) (SK s _);rw [hsl,A3 hl,A3 hc];exact⟨P5 hb.1,hp,QY _ _ _ hb.2⟩
def J3:Option (Option Sl)->Option (Option Int)
 |none=>some none
 |some (some (.one (.c (.int _) _ n)))=>some (some n)
 |_=>none
def UM(s:St):Option TI->Option TI->Option Sl->Option (Option Int)->Option (Option Int)->Option TR
 |some i,_,some (.one (.c .str _ b)),some lo,some hi=>
  bif i.str then some (.cnd (0<=lo.getD 0/\lo.getD 0<=hi.getD (ofN (Ll b))/\hi.getD (ofN (Ll b))<=ofN (Ll b)) inferInstance (.one (.c .str 0 (cutS b (JK (lo.getD 0)) (JK (hi.getD (ofN (Ll b))))))))else none
 |some i,some j,some (.one (.c (.sl t) 0 xs)),some lo,some hi=>
  bif Nat.beq t.w j.ty.w&& !i.str then some (.cnd (0<=lo.getD 0/\lo.getD 0<=hi.getD (ofN (JL xs))/\hi.getD (ofN (JL xs))<=ofN (JL xs)) inferInstance
   (.one (.c (.sl t) 0 (match lo,hi with
    |none,none=>xs
    |some l,none=>OL (JK l) xs
    |none,some h=>NO (JK h) xs
    |some l,some h=>NO (JK h-JK l) (OL (JK l) xs)))))else none
 |some i,some j,some (.one (.rf id p)),some lo,some hi=>
  match Af s.r id p with
  | .arr _ t _ xs=>bif Nat.beq t.w j.ty.w&& !i.str then some (.cnd (0<=lo.getD 0/\lo.getD 0<=hi.getD (ofN (JL xs))/\hi.getD (ofN (JL xs))<=ofN (JL xs)) inferInstance
    (.one (.rs id p (JK (lo.getD 0)) (JK (hi.getD (ofN (JL xs)))-JK (lo.getD 0)))))else none
  |_=>none
 |some i,some j,some (.one (.rs id p off len)),some lo,some hi=>
  match Af s.r id p with
  | .arr _ t _ _=>bif Nat.beq t.w j.ty.w&& !i.str then some (.cnd (0<=lo.getD 0/\lo.getD 0<=hi.getD (ofN len)/\hi.getD (ofN len)<=ofN len) inferInstance
    (.one (.rs id p (off+JK (lo.getD 0)) (JK (hi.getD (ofN len))-JK (lo.getD 0)))))else none
  |_=>none
 |_,_,_,_,_=>none
theorem Ct{s:St}{lo:Option Operand}{l:Option Int}(h:J3 (lo.map s.ev)=some l)(d:Int):bnd d (lo.map s.den.ev)=some (l.getD d):=by
 cases lo with
 |none=>cases h;rfl
 |some x=>
  simp only [Option.map_some]at h⊢;unfold J3 at h;split at h
  ·rename_i hx;cases hx
  ·rename_i hx
   cases h;simp only [Option.some.injEq]at hx;rw [A3 hx];rfl
  ·cases h
theorem Mz{P:Program}{Θ:Tab}{s:St}(hΘ:Θ.OK P){t:TypeId}{x:Operand}{lo hi:Option Operand}{a:TR}
  (h:UM s (Θ.look t) (((Θ.look t).bind (·.elem)).bind Θ.look) (s.ev x) (J3 (lo.map s.ev)) (J3 (hi.map s.ev))=some a) (hp:a.p):QS P s (.slice t x lo hi none) a.y:=by
 unfold UM at h;have goal: ∀y,Kb (slK P t) (s.r.map Ae.v) (s.den.ev x) (lo.map s.den.ev) (hi.map s.den.ev) (SK s y)->QS P s (.slice t x lo hi none) y:=fun y h=>⟨rfl,h⟩
 have skS: ∀ {i j:TI},Θ.look t=some i->((Θ.look t).bind (·.elem)).bind Θ.look=some j->i.str=false->slK P t= .slice j.ty.w:=by
  intro i j hi hj hs;rw [hΘ.sk hi,hs];rw [hi]at hj;simp only [Option.bind_some]at hj;rw [hj];rfl
 split at h
 case h_5=>cases h
 ·rename_i i _ b l u hI hx hlo hhi
  cases hb:i.str with
  |false=>rw [hb]at h;cases h
  |true=>
   rw [hb]at h;cases h;refine goal _ ?_;rw [hΘ.sk hI,hb,A3 hx];unfold Kb
   show(match bnd 0 (lo.map s.den.ev),bnd b.size (hi.map s.den.ev)with
    |some l,some h=>_
    |_,_=>False)
   rw [Ct hlo,Ct hhi];exact⟨hp,Sub.refl _⟩
 ·rename_i i j t' xs l u hI hj hx hlo hhi
  cases hb:(Nat.beq t'.w j.ty.w&& !i.str)with
  |false=>rw [hb]at h;cases h
  |true=>
   rw [hb]at h;cases h;obtain⟨h1,h2⟩:=H6 hb;have h2:i.str=false:=by simpa using h2
   refine goal _ ?_;rw [skS hI hj h2,A3 hx]
   show(match bnd 0 (lo.map s.den.ev),bnd xs.length (hi.map s.den.ev)with
    |some l,some h=>_
    |_,_=>False)
   rw [Ct hlo,Ct hhi];refine⟨h1,hp,?_⟩;obtain⟨p1,p2,p3⟩:0<=l.getD 0/\l.getD 0<=u.getD xs.length/\u.getD xs.length<=xs.length:=hp;show Sub (V.nd true false t'.w ((u.getD xs.length).toNat-(l.getD 0).toNat) fun i k=>(tyV t' 0 (xs.getD (i+(l.getD 0).toNat) t'.dflt)).getD k .dead) (arr false t'.w (tyV t' 0) t'.dflt _)
   have key: ∀ys:List t'.T,ys.length=(u.getD xs.length).toNat-(l.getD 0).toNat->(∀i,i<ys.length->ys.getD i t'.dflt=xs.getD (i+(l.getD 0).toNat) t'.dflt)->
     Sub (V.nd true false t'.w ((u.getD xs.length).toNat-(l.getD 0).toNat) fun i k=>(tyV t' 0 (xs.getD (i+(l.getD 0).toNat) t'.dflt)).getD k .dead) (arr false t'.w (tyV t' 0) t'.dflt ys):=by
    intro ys hl hg;unfold arr;rw [hl];refine⟨_,rfl,fun i k hi _=>?_⟩
    rw [hg i (by omega)]
    exact Sub.refl _
   cases l with
   |none=>cases u with
    |none=>exact key xs (by simp) fun i hi=>by simp
    |some u=>
     simp only [Option.getD_none,Option.getD_some]at p1 p2 p3⊢;refine key _ ?_ fun i hi=>?_
     ·simp only [JK,List.length_take];simp;omega
     ·simp only [JK,List.length_take]at hi
      have:i<u.toNat:=by omega
      simp [List.getElem?_take,this]
   |some l=>cases u with
    |none=>
     simp only [Option.getD_none,Option.getD_some]at p1 p2 p3⊢;refine key _ ?_ fun i hi=>?_
     ·simp
     ·simp [Nat.add_comm]
    |some u=>
     simp only [Option.getD_some]at p1 p2 p3⊢;refine key _ ?_ fun i hi=>?_
     ·simp only [JK,Option.getD_some,List.length_take,List.length_drop];omega
     ·simp only [JK,List.length_take,List.length_drop]at hi
      have:i<u.toNat-l.toNat:=by omega
      simp [List.getElem?_take,this,Nat.add_comm]
 ·rename_i i j id p l u hI hj hx hlo hhi
  split at h
  case h_2=>cases h
  rename_i ro t' d xs hn;have hne:Af s.r id p≠.dead:=by rw [hn];simp
  cases hb:(Nat.beq t'.w j.ty.w&& !i.str)with
  |false=>rw [hb]at h;cases h
  |true=>
   rw [hb]at h;cases h;obtain⟨h1,h2⟩:=H6 hb;have h2:i.str=false:=by simpa using h2
   refine goal _ ?_;rw [skS hI hj h2,A3 hx];have hl:(Af s.r id p).len=xs.length:=by rw [hn];rfl
   show(match bnd 0 (lo.map s.den.ev),bnd (Af s.r id p).len (hi.map s.den.ev)with
    |some l,some h=>_
    |_,_=>False)
   rw [Ct hlo,Ct hhi,hl];refine⟨by rw [C1 (by rw [hn];rfl),hn];exact h1,hp,?_⟩
   show Sub (V.rs id p (0+(l.getD 0).toNat) _) (V.rs id p (l.getD 0).toNat _);rw [Nat.zero_add];exact Sub.refl _
 ·rename_i i j id p off len l u hI hj hx hlo hhi
  split at h
  case h_2=>cases h
  rename_i ro t' d xs hn;have hne:Af s.r id p≠.dead:=by rw [hn];simp
  cases hb:(Nat.beq t'.w j.ty.w&& !i.str)with
  |false=>rw [hb]at h;cases h
  |true=>
   rw [hb]at h;cases h;obtain⟨h1,h2⟩:=H6 hb;have h2:i.str=false:=by simpa using h2
   refine goal _ ?_;rw [skS hI hj h2,A3 hx]
   show(match bnd 0 (lo.map s.den.ev),bnd len (hi.map s.den.ev)with
    |some l,some h=>_
    |_,_=>False)
   rw [Ct hlo,Ct hhi];exact⟨by rw [C1 (by rw [hn];rfl),hn];exact h1,hp,Sub.refl _⟩
end Go.Ve

