/- The typed machine: structs that are built, new memory, slices of slices. -/
import Derived.Test.YtpaekmpjbalnfabTc
import Derived.Test.YtpaekmpjbalnfabVr
import Derived.Test.YtpaekmpjbalnfabVu
import Derived.Test.YtpaekmpjbalnfabXa
namespace Go.Ve
def CQ:List V->List V->Prop
 | [],[]=>True
 |a::l,b::m=>Sub a b/\CQ l m
 |_,_=>False
theorem CQ.len: ∀ {l m:List V},CQ l m->l.length=m.length
 | [],[],_=>rfl
 |_::_,_::_,h=>by simp [CQ.len h.2]
 | [],_::_,h=>h.elim
 |_::_,[],h=>h.elim
theorem CQ.getD: ∀ {l m:List V} (_:CQ l m) (k:Nat),Sub (l.getD k .dead) (m.getD k .dead)
 | [],[],_,_=>Sub.refl _
 |_::_,_::_,h,0=>h.1
 |_::_,_::_,h,k+1=>CQ.getD h.2 k
 | [],_::_,h,_=>h.elim
 |_::_,[],h,_=>h.elim
theorem CQ.refl: ∀ (l:List V),CQ l l
 | []=>trivial
 |v::l=>⟨Sub.refl v,CQ.refl l⟩
theorem CQ.app: ∀ {l m l' m':List V},CQ l m->CQ l' m'->CQ (l++l') (m++m')
 | [],[],_,_,_,h=>h
 |_::_,_::_,_,_,h,h'=>⟨h.1,CQ.app h.2 h'⟩
 | [],_::_,_,_,h,_=>h.elim
 |_::_,[],_,_,h,_=>h.elim
theorem CQ.mk{l m:List V}(h:CQ l m):Sub (Ai l) (Ai m):=by
 unfold Ai;rw [h.len];exact⟨_,rfl,fun k _=>h.getD k⟩
theorem CQ.obj{o:Bool}{l m:List V}(h:CQ l m):Sub (Bk o l) (Bk o m):=by
 unfold Bk;rw [h.len];refine⟨_,rfl,fun i k hi _=>?_⟩
 obtain rfl:i=0:=by omega
 exact h.getD k
theorem Eqv.symm: ∀ {v v':V},Eqv v v'->Eqv v' v:=by
 intro v
 induction v with
 |c v=>intro v' h;cases h;rfl
 |dead=>intro v' h;cases h;rfl
 |many t n f ih=>intro v' h;obtain⟨g,rfl,h⟩:=h;exact⟨f,rfl,fun k hk=>ih k (h k hk)⟩
 |nd s own sz n f ih=>intro v' h;obtain⟨g,rfl,h⟩:=h;exact⟨f,rfl,fun i k hi hk=>ih i k (h i k hi hk)⟩
 |rs id p off len=>intro v' h;cases h;rfl
 |rp id p i k=>intro v' h;cases h;rfl
def UT(a b:Nat):Nat:=bif Nat.ble a b then a else b
theorem LY(a b:Nat):UT a b=min a b:=by
 unfold UT;cases h:Nat.ble a b with
 |true=>have:=blE h;simp;omega
 |false=>
  have: ¬a<=b:=fun e=>by rw [Nat.ble_eq_true_of_le e]at h;cases h
  simp;omega
def dOK(t:Ty)(d d':Nat):Bool:=Nat.beq t.dep 0||Nat.beq d d'
theorem Mf{t:Ty}{d d':Nat}(h:dOK t d d'=true):min d t.dep=min d' t.dep:=by
 unfold dOK at h;rw [Bool.or_eq_true]at h;rcases h with h|h
 ·rw [bqE h];simp
 ·rw [bqE h]
def fit(d':Nat):Cl->Cl
 | .c t d x=>bif Nat.beq (UT d t.dep) (UT d' t.dep)then .c t d' x else .c t d x
 |y=>y
def Hi(t:Ty)(d:Nat):Cl->Option t.T
 | .c t' d' x=>if h:t'=t then(bif dOK t d' d then some (h▸x)else none)else none
 | .nil=>match t with
  | .sl _=>some []
  |_=>none
 |_=>none
def LS(t:Ty)(d:Nat):List Cl->Option (t.T×List Cl)
 |c::l=>match Hi t d c with
  |some x=>some (x,l)
  |none=>none
 | []=>none
def AaL:(t:Ty)->Nat->List Cl->Option (t.T×List Cl)
 | .unit,_,l=>some ((),l)
 | .pair a b,d,l=>match AaL a d l with
  |some (x,l)=>match AaL b d l with
   |some (y,l)=>some ((x,y),l)
   |none=>none
  |none=>none
 | .int k,d,l=>LS (.int k) d l
 | .bool,d,l=>LS .bool d l
 | .str,d,l=>LS .str d l
 | .sl t,d,l=>LS (.sl t) d l
 | .ptr t,d,l=>LS (.ptr t) d l
 | .clo g t,d,l=>LS (.clo g t) d l
 | .osl t,d,l=>LS (.osl t) d l
def Ir(t:Ty)(d:Nat)(l:List Cl):Option t.T:=match AaL t d l with
 |some (x,[])=>some x
 |_=>none
theorem LT{t:Ty}{d:Nat}{c:Cl}{x:t.T}(h:Hi t d c=some x)(r:List Ae):Sub (c.v r) (cV t d x)/\c.v r=c.v0:=by
 unfold Hi at h;split at h
 ·rename_i t' d' x'
  split at h
  case isFalse=>cases h
  rename_i ht;subst ht;cases hd:dOK t' d' d with
  |false=>rw [hd]at h;cases h
  |true=>
   rw [hd]at h;cases h;exact⟨Sub.of_eq (JW (Mf hd)),rfl⟩
 ·split at h
  ·cases h
   exact⟨.inr ⟨rfl,_,_,_,rfl⟩,rfl⟩
  ·cases h
 ·cases h
theorem Hh{t:Ty}{d:Nat}(ht:t.one=true){l l':List Cl}{x:t.T}(h:LS t d l=some (x,l'))(r:List Ae): ∃m,l=m++l'/\CQ (m.map (Cl.v r)) (tyV t d x)/\m.map (Cl.v r)=m.map Cl.v0:=by
 unfold LS at h;split at h
 ·rename_i c l0
  split at h
  ·rename_i y hy
   cases h;obtain⟨h1,h2⟩:=LT hy r;exact⟨[c],rfl,by rw [BR ht];exact⟨h1,trivial⟩,by simp [h2]⟩
  ·cases h
 ·cases h
theorem PW(r:List Ae): ∀ (t:Ty) (d:Nat) (l l':List Cl) (x:t.T),AaL t d l=some (x,l')->∃m,l=m++l'/\CQ (m.map (Cl.v r)) (tyV t d x)/\m.map (Cl.v r)=m.map Cl.v0
 | .unit,d,l,l',x,h=>by cases h;exact⟨[],rfl,trivial,rfl⟩
 | .int k,d,l,l',x,h=>Hh rfl h r
 | .bool,d,l,l',x,h=>Hh rfl h r
 | .str,d,l,l',x,h=>Hh rfl h r
 | .sl t,d,l,l',x,h=>Hh rfl h r
 | .ptr t,d,l,l',x,h=>Hh rfl h r
 | .clo g t,d,l,l',x,h=>Hh rfl h r
 | .osl t,d,l,l',x,h=>Hh rfl h r
 | .pair a b,d,l,l',x,h=>by
  unfold AaL at h;split at h
  ·rename_i y l1 h1
   split at h
   ·rename_i z l2 h2
    cases h;obtain⟨m1,e1,s1,t1⟩:=PW r a d l l1 y h1;obtain⟨m2,e2,s2,t2⟩:=PW r b d l1 l' z h2;subst e2;subst e1;exact⟨m1++m2,by simp,by rw [List.map_append];exact s1.app s2,by simp [t1,t2]⟩
   ·cases h
  ·cases h
theorem C7{t:Ty}{d:Nat}{l:List Cl}{x:t.T}(h:Ir t d l=some x)(r:List Ae):CQ (l.map (Cl.v r)) (tyV t d x)/\l.map (Cl.v r)=l.map Cl.v0:=by
 unfold Ir at h;split at h
 ·rename_i y hy
  cases h;obtain⟨m,e,h1,h2⟩:=PW r t d l [] x hy;simp at e;subst e;exact⟨h1,h2⟩
 ·cases h
theorem I9(r:List Ae): ∀t:Ty,(Hq t).map (Cl.v r)=(B1 t).map .c
 | .int _=>rfl
 | .bool=>rfl
 | .str=>rfl
 | .sl _=>rfl
 | .ptr _=>rfl
 | .unit=>rfl
 | .clo _ _=>rfl
 | .osl _=>rfl
 | .pair a b=>by simp [Hq,B1,I9 r a,I9 r b]
theorem Og: ∀t:Ty,CQ ((B1 t).map .c) ((UU t).map Cl.v0)
 | .int _=>⟨Sub.refl _,trivial⟩
 | .bool=>⟨Sub.refl _,trivial⟩
 | .str=>⟨Sub.refl _,trivial⟩
 | .sl _=>⟨.inr ⟨rfl,_,_,_,rfl⟩,trivial⟩
 | .ptr _=>⟨Sub.refl _,trivial⟩
 | .clo _ _=>⟨Sub.refl _,trivial⟩
 | .osl _=>⟨.inr ⟨rfl,_,_,_,rfl⟩,trivial⟩
 | .unit=>trivial
 | .pair a b=>by simp only [Hq,B1,UU,List.map_append];exact(Og a).app (Og b)
def Ty.noPtr:Ty->Bool
 | .ptr _=>false
 | .clo _ _=>false
 | .osl _=>false
 | .pair a b=>a.noPtr&&b.noPtr
 |_=>true
theorem Of(d:Nat): ∀t:Ty,t.noPtr=true->CQ ((B1 t).map .c) (tyV t d t.dflt)
 | .int _,_=>⟨Sub.refl _,trivial⟩
 | .bool,_=>⟨Sub.refl _,trivial⟩
 | .str,_=>⟨Sub.refl _,trivial⟩
 | .sl _,_=>⟨.inr ⟨rfl,_,_,_,rfl⟩,trivial⟩
 | .unit,_=>trivial
 | .pair a b,h=>by
  simp only [Ty.noPtr,bAE]at h;simp only [B1,List.map_append,tyV];exact(Of d a h.1).app (Of d b h.2)
theorem Dz: ∀t:Ty,(B1 t).length=t.w
 | .int _=>rfl
 | .bool=>rfl
 | .str=>rfl
 | .sl _=>rfl
 | .ptr _=>rfl
 | .unit=>rfl
 | .clo _ _=>rfl
 | .osl _=>rfl
 | .pair a b=>by simp [B1,Ty.w,Dz a,Dz b]
def Cl.plain:Cl->Bool
 | .dead=>false
 | .c .unit _ _=>false
 | .c (.pair _ _) _ _=>false
 | .c (.clo _ _) _ _=>false
 | .c (.osl _) _ _=>false
 |y=>!y.own
def Sl.cells:Sl->Option (List Cl)
 | .one y=>bif y.plain then some [y]else none
 | .agg l=>bif l.all Cl.plain then some l else none
 |_=>none
theorem VZ{r:List Ae}{y:Cl}(h:y.plain=true):one1 (y.v r)=true/\AS (y.v r)=false/\Bz (y.v r)=true/\Go.Ve.cellsV (y.v r)= [y.v r]:=by
 cases y with
 |c t d x=>cases t<;>cases d<;>first|exact⟨rfl,rfl,rfl,rfl⟩|cases h
 |dead=>cases h
 |_=>exact⟨rfl,rfl,rfl,rfl⟩
theorem CP{r:List Ae}{y:Sl}{l:List Cl}(h:y.cells=some l):Bz (y.v r)=true/\Go.Ve.cellsV (y.v r)=l.map (Cl.v r)/\l.all Cl.plain=true:=by
 unfold Sl.cells at h;split at h
 ·rename_i c
  cases hb:c.plain with
  |false=>rw [hb]at h;cases h
  |true=>
   rw [hb]at h;cases h;obtain⟨_,_,h1,h2⟩:=VZ (r:=r) hb;exact⟨h1,h2,by simp [hb]⟩
 ·rename_i l'
  cases hb:l'.all Cl.plain with
  |false=>rw [hb]at h;cases h
  |true=>
   rw [hb]at h;cases h;refine⟨?_,N5,hb⟩;show Bz (Ai _)=true;rw [V1,List.all_map,aET];intro y hy;exact(VZ (aET.1 hb y hy)).1
 ·cases h
def Sl.cellsF:Sl->Option (List Cl)
 | .one (.c (.clo g t) d x)=>some [.c (.clo g t) d x]
 |y=>y.cells
theorem N7{r:List Ae}{y:Sl}{l:List Cl}(h:y.cellsF=some l):Bz (y.v r)=true/\Go.Ve.cellsV (y.v r)=l.map (Cl.v r):=by
 unfold Sl.cellsF at h;split at h
 ·rename_i g t d x
  cases h;refine⟨?_,rfl⟩;show(!AS (cV (.clo g t) d x))=true;have e:AS (cV (.clo g t) d x)=false:=Hr (.clo g t) x _ (List.mem_singleton.2 rfl);rw [e];rfl
 ·obtain⟨h1,h2,_⟩:=CP (r:=r) h
  exact⟨h1,h2⟩
def AaI(cells:List Cl):Nat->List Cl->List Cl
 |_,[]=>cells
 |off,y::l=>AaI (cells.set off y) (off+1) l
theorem ZL: ∀ (l cells:List V) (off k:Nat),((l.zipIdx k).foldl (fun cs (c,j)=>cs.set (off+j) c) cells)=XN cells (off+k) l:=by
 have gen: ∀ (l cells:List V) (off k:Nat),((l.zipIdx k).foldl (fun cs (c,j)=>cs.set (off+j) c) cells)=((l.zipIdx 0).foldl (fun cs (c,j)=>cs.set (off+k+j) c) cells):=by
  intro l
  induction l with
  |nil=>intro cells off k;rfl
  |cons v l ih=>
   intro cells off k;simp only [List.zipIdx_cons,List.foldl_cons,Nat.add_zero];rw [ih _ off (k+1),ih _ (off+k) (0+1)];rfl
 intro l cells off k;rw [gen];rfl
theorem VA{v:V}{l cells:List V}{off:Nat}:XN cells off (v::l)=XN (cells.set off v) (off+1) l:=by
 show((v::l).zipIdx 0).foldl _ cells=_;rw [List.zipIdx_cons,List.foldl_cons];exact ZL l _ off (0+1)
theorem VC{r:List Ae}: ∀ (l cells:List Cl) (off:Nat),(AaI cells off l).map (Cl.v r)=XN (cells.map (Cl.v r)) off (l.map (Cl.v r))
 | [],cells,off=>rfl
 |y::l,cells,off=>by
  rw [List.map_cons,VA];show(AaI (cells.set off y) (off+1) l).map (Cl.v r)=_;rw [VC l,List.map_set]
def QR(place:Nat->Option (Nat×Nat))(cells:List Cl):List (Nat×Option Sl)->Option (List Cl)
 | []=>some cells
 |(i,y)::rest=>match place i,y with
  |some (off,size),some y=>match y.cellsF with
   |some l=>bif Nat.beq l.length size&&Nat.ble (off+size) cells.length then QR place (AaI cells off l) rest else none
   |none=>none
  |_,_=>none
theorem Ls{s:St}{place:Nat->Option (Nat×Nat)}: ∀ (ps:List (Nat×Operand)) (cells l:List Cl),QR place cells (ps.map fun p=>(p.1,s.ev p.2))=some l->
  (ps.map fun p=>(p.1,s.den.ev p.2)).all (fun p=>Bz p.2)=true/\Cf place (cells.map (Cl.v s.r)) (ps.map fun p=>(p.1,s.den.ev p.2))=some (l.map (Cl.v s.r))
 | [],cells,l,h=>by cases h;exact⟨rfl,rfl⟩
 |(i,x)::ps,cells,l,h=>by
  rw [List.map_cons]at h;unfold QR at h;split at h
  case h_2=>cases h
  rename_i off size y hpl hy;split at h
  case h_2=>cases h
  rename_i m hm;cases hb:(Nat.beq m.length size&&Nat.ble (off+size) cells.length)with
  |false=>rw [hb]at h;cases h
  |true=>
   rw [hb]at h;simp only [bAE]at hb;have h1:=bqE hb.1;have h2:=blE hb.2;obtain⟨g1,g2⟩:=N7 (r:=s.r) hm;obtain⟨k1,k2⟩:=Ls ps _ _ h;have hy:s.ev x=some y:=hy;rw [List.map_cons,List.all_cons];refine⟨by simp only [Bd hy,g1,Bool.true_and];exact k1,?_⟩
   unfold Cf;simp only [hpl,Bd hy,g2];rw [if_neg (by simp only [List.length_map];omega),<-VC]
   exact k2
def Vs:Option TI->List (Nat×Option Sl)->Option TR
 |some i,ps=>bif i.agg then(match QR (fun k=>i.flds[k]?) (Hq i.ty) ps with
   |some l=>some (.ok (.agg l))
   |none=>none)
  else none
 |none,_=>none
theorem MX{P:Program}{Θ:Tab}{s:St}(hΘ:Θ.OK P){t:TypeId}{ps:Array (Nat×Operand)}{a:TR}(h:Vs (Θ.look t) (ps.toList.map fun p=>(p.1,s.ev p.2))=some a):QS P s (.build t ps) a.y:=by
 unfold Vs at h;split at h
 case h_2=>cases h
 rename_i i hi;cases hb:i.agg with
 |false=>rw [hb]at h;cases h
 |true=>
  rw [hb]at h;simp only [cond_true]at h;split at h
  case h_2=>cases h
  rename_i l hl;cases h;obtain⟨h1,h2⟩:=Ls _ _ _ hl;show KC (Zg P t) (ps.toList.map fun p=>(p.1,s.den.ev p.2)) (SK s _)
  rw [hΘ.bd hi,hb];unfold KC;rw [I9]at h2;simp only [if_true];rw [h2];exact⟨h1,Sub.refl _⟩
def NA(t:Ty)(d:Nat):Nat->List Cl->Option (List t.T)
 |0,[]=>some []
 |0,_::_=>none
 |n+1,l=>match AaL t d l with
  |some (x,l)=>match NA t d n l with
   |some xs=>some (x::xs)
   |none=>none
  |none=>none
theorem OL{t:Ty}{d:Nat}(r:List Ae): ∀ (n:Nat) (l:List Cl) (xs:List t.T),NA t d n l=some xs->xs.length=n/\l.map (Cl.v r)=l.map Cl.v0/\
  ∀i k,i<n->k<t.w->Sub ((l.map (Cl.v r)).getD (i*t.w+k) .dead) ((tyV t d (xs.getD i t.dflt)).getD k .dead):=by
 intro n
 induction n with
 |zero=>
  intro l xs h;cases l with
  |nil=>cases h;exact⟨rfl,rfl,fun i k hi=>by omega⟩
  |cons y l=>cases h
 |succ n ih=>
  intro l xs h;unfold NA at h;split at h
  case h_2=>cases h
  rename_i x l1 h1;split at h
  case h_2=>cases h
  rename_i ys h2;cases h;obtain⟨m,e,s1,s2⟩:=PW r t d l l1 x h1;obtain⟨g1,g2,g3⟩:=ih l1 ys h2;subst e;have hm:(m.map (Cl.v r)).length=t.w:=by rw [s1.len,AA]
  refine⟨by simp [g1],by simp [s2,g2],fun i k hi hk=>?_⟩
  rw [List.map_append];cases i with
  |zero=>
   simp only [Nat.zero_mul,Nat.zero_add,List.getD_cons_zero];have:=s1.getD k;rw [gDE,gAL (by omega),<-gDE]
   exact this
  |succ i=>
   have:=g3 i k (by omega) hk
   rw [List.getD_cons_succ];have e:(i+1)*t.w+k-(m.map (Cl.v r)).length=i*t.w+k:=by rw [hm,Nat.add_mul];omega
   rw [gDE,gAR (by rw [hm,Nat.add_mul];omega),e,<-gDE]
   exact this
def ZS(n:Nat)(l:List Cl):List Cl:=match n with
 |0=>[]
 |n+1=>l++ZS n l
theorem WA: ∀ (n w:Nat) (l:List V),l.length=w->0<w->∀j,j<n*w->((List.replicate n l).flatten).getD j .dead=l.getD (j % w) .dead:=by
 intro n w l hl hw
 induction n with
 |zero=>intro j hj;omega
 |succ n ih=>
  intro j hj;rw [List.replicate_succ,List.flatten_cons];by_cases h:j<w
  ·rw [gDE,gAL (by omega),<-gDE,Nat.mod_eq_of_lt h]
  ·have:(n+1)*w=n*w+w:=Nat.add_one_mul n w
   rw [gDE,gAR (by omega),<-gDE,hl,ih (j-w) (by omega),<-Nat.mod_eq_sub_mod (by omega)]
theorem VM(r:List Ae)(t:Ty)(n:Nat)(hw:0<t.w):(ZS n (Hq t)).map (Cl.v r)=(List.range (n*t.w)).map fun j=>.c ((B1 t).getD (j % t.w) undef):=by
 have e:(ZS n (Hq t)).map (Cl.v r)=(List.replicate n ((B1 t).map V.c)).flatten:=by
  induction n with
  |zero=>rfl
  |succ n ih=>
   show((Hq t)++ZS n (Hq t)).map (Cl.v r)=_;rw [List.map_append,ih,I9,List.replicate_succ,List.flatten_cons]
 have hl:((B1 t).map V.c).length=t.w:=by rw [List.length_map,Dz]
 rw [e];apply List.ext_getElem
 ·simp [Dz]
 ·intro j h1 h2
  have hj:j<n*t.w:=by simpa using h2
  have g:=WA n t.w _ hl hw j hj;rw [gDE,gEE h1]at g;simp only [Option.getD_some]at g;rw [g];have hm:j % t.w<(B1 t).length:=by rw [Dz];exact Nat.mod_lt _ hw
  simp [hm]
def Ty.noO:Ty->Bool
 | .osl _=>false
 | .clo _ t=>t.noO
 | .pair a b=>a.noO&&b.noO
 |_=>true
theorem I4: ∀ (t:Ty) (x:t.T),t.noO=true->∀v∈tyV t 0 x,BX v=true
 | .int _,_,_,v,h=>by simp [tyV]at h;subst h;rfl
 | .bool,_,_,v,h=>by simp [tyV]at h;subst h;rfl
 | .str,_,_,v,h=>by simp [tyV]at h;subst h;rfl
 | .sl _,_,_,v,h=>by simp only [tyV,List.mem_singleton]at h;subst h;rfl
 | .ptr _,_,_,v,h=>by simp only [tyV,List.mem_singleton]at h;subst h;rfl
 | .unit,_,_,v,h=>by simp [tyV]at h
 | .pair a b,x,ho,v,h=>by
  simp only [Ty.noO,bAE]at ho;simp only [tyV,List.mem_append]at h;exact h.elim (I4 a x.1 ho.1 v) (I4 b x.2 ho.2 v)
 | .osl _,_,ho,_,_=>by cases ho
 | .clo g t,x,ho,v,h=>by
  simp only [tyV,List.mem_singleton]at h;subst h;show((List.range t.w).all fun k=>BX ((tyV t 0 x).getD k .dead))=true
  rw [aET];intro k hk;have hk:k<(tyV t 0 x).length:=by rw [AA];exact List.mem_range.1 hk
  rw [gDE,gEE hk];exact I4 t x ho _ (List.getElem_mem hk)
def Cl.imm:Cl->Bool
 | .c .unit _ _=>false
 | .c (.pair _ _) _ _=>false
 | .c (.clo _ _) _ _=>false
 | .c (.osl _) _ _=>false
 | .c t d x=>!(Cl.c t d x).own
 | .nil=>true
 | .nilp=>true
 | .nilf=>true
 |_=>false
theorem O4{r:List Ae}{y:Cl}(h:y.imm=true):BX (y.v r)=true/\y.v r=y.v0:=by
 cases y with
 |c t d x=>cases t<;>cases d<;>first|exact⟨rfl,rfl⟩|cases h
 |nil=>exact⟨rfl,rfl⟩
 |nilp=>exact⟨rfl,rfl⟩
 |nilf=>exact⟨rfl,rfl⟩
 |_=>cases h
def Cl.immF:Cl->Bool
 | .c (.clo _ t) _ _=>t.noO
 |y=>y.imm
theorem immF_v{r:List Ae}{y:Cl}(h:y.immF=true):BX (y.v r)=true:=by
 unfold Cl.immF at h;split at h
 ·rename_i g t d x
  exact I4 (.clo g t) x h _ (List.mem_singleton.2 rfl)
 ·exact(O4 h).1
theorem Aap{r:List Ae}{l:List Cl}(h:l.all Cl.immF=true):(l.map (Cl.v r)).all BX=true:=by
 rw [List.all_map,aET];intro y hy;exact immF_v (aET.1 h y hy)
theorem imms_v{r:List Ae}{l:List Cl}(h:l.all Cl.imm=true):(l.map (Cl.v r)).all BX=true/\l.map (Cl.v r)=l.map Cl.v0:=by
 refine⟨?_,List.map_congr_left fun y hy=>(O4 (aET.1 h y hy)).2⟩
 rw [List.all_map,aET];intro y hy;exact(O4 (aET.1 h y hy)).1
def Hd(n:Nat)(ps:List (Nat×Option Sl)):Option TI->Option TR
 |some j=>bif Nat.blt 0 j.ty.w&&Nat.ble (n*j.ty.w) 16777216 then(bif Nat.beq n 0 then(match ps with
  | []=>some (.ok (.one (.c (.sl j.ty) (j.sd+1) [])))
  |_::_=>none)else match QR (fun i=>some (i*j.ty.w,j.ty.w)) (ZS n (Hq j.ty)) ps with
   |some l=>bif l.all Cl.immF then(match NA j.ty j.sd n l with
    |some xs=>some (.ok (.one (.c (.sl j.ty) (j.sd+1) xs)))
    |none=>match NA j.ty 0 n l with
     |some xs=>some (.ok (.one (.c (.sl j.ty) 1 xs)))
     |none=>none)else none
   |none=>none)
  else none
 |none=>none
theorem Ig{P:Program}{Θ:Tab}{s:St}(hΘ:Θ.OK P){t:TypeId}{n:Nat}{ps:Array (Nat×Operand)}{a:TR}(h:Hd n (ps.toList.map fun p=>(p.1,s.ev p.2)) (((Θ.look t).bind (·.elem)).bind Θ.look)=some a):QS P s (.buildSlice t n ps) a.y:=by
 unfold Hd at h;split at h
 case h_2=>cases h
 rename_i j hj;obtain⟨e,hsl,_⟩:=DR hΘ hj;cases hb:(Nat.blt 0 j.ty.w&&Nat.ble (n*j.ty.w) 16777216)with
 |false=>rw [hb]at h;cases h
 |true=>
  rw [hb]at h;simp only [bAE]at hb;have hw:=Qv hb.1;have hn:=blE hb.2;simp only [cond_true]at h;cases h0:Nat.beq n 0 with
  |true=>
   rw [h0]at h;simp only [cond_true]at h;have h0:=bqE h0;subst h0;split at h
   case h_2=>cases h
   rename_i hps;cases h;have hps':ps.toList= []:=by simpa using hps
   show Cb (slI P t) (ZN P t) 0 (ps.toList.map fun p=>(p.1,s.den.ev p.2)) (SK s _)
   rw [hsl,hps'];refine⟨rfl,⟨hw,hn⟩,?_⟩;simp only [Nat.zero_mul,List.range_zero,List.map_nil,Cf];refine⟨rfl,?_⟩;refine(Eqv.sub (Eqv.symm (LA (ZN P t) j.ty.w 0 _))).trans ?_;show Sub _ (arr true j.ty.w (tyV j.ty j.sd) j.ty.dflt []);exact⟨_,rfl,fun i k hi hk=>by omega⟩
  |false=>
  rw [h0]at h;simp only [cond_false]at h;split at h
  case h_2=>cases h
  rename_i l hl;cases hi:l.all Cl.immF with
  |false=>rw [hi]at h;cases h
  |true=>
   rw [hi]at h;simp only [cond_true]at h
   have key: ∀ (d:Nat) (xs:List j.ty.T),NA j.ty d n l=some xs->a= .ok (.one (.c (.sl j.ty) (d+1) xs))->QS P s (.buildSlice t n ps) a.y:=by
    intro d xs hxs ha;subst ha;obtain⟨h1,h2⟩:=Ls _ _ _ hl;rw [VM s.r j.ty n hw]at h2;show Cb (slI P t) (ZN P t) n (ps.toList.map fun p=>(p.1,s.den.ev p.2)) (SK s _)
    rw [hsl];refine⟨h1,⟨hw,hn⟩,?_⟩;rw [h2];refine⟨Aap hi,?_⟩;obtain⟨g1,g2,g3⟩:=OL s.r n l xs hxs;refine(Eqv.sub (Eqv.symm (LA (ZN P t) j.ty.w n _))).trans ?_;show Sub _ (arr true j.ty.w (tyV j.ty d) j.ty.dflt xs);unfold arr;rw [g1];exact⟨_,rfl,fun i k hi hk=>g3 i k hi hk⟩
   split at h
   ·rename_i xs hxs
    cases h;exact key _ xs hxs rfl
   ·split at h
    case h_2=>cases h
    rename_i xs hxs;cases h;exact key 0 xs hxs rfl
def Vu:Option TI->Option TR
 |some i=>bif Nat.blt 0 i.ty.w then some (.ok (.new (UU i.ty)))else none
 |none=>none
theorem MY{P:Program}{Θ:Tab}{s:St}(hΘ:Θ.OK P){t:TypeId}{a:TR}(h:Vu (Θ.look t)=some a):QS P s (.alloc t) a.y:=by
 unfold Vu at h;split at h
 case h_2=>cases h
 rename_i i hi;cases hb:Nat.blt 0 i.ty.w with
 |false=>rw [hb]at h;cases h
 |true=>
  rw [hb]at h;cases h;show Nv (tyI P t) (SK s _);rw [hΘ.ty hi];exact⟨Qv hb,(Og i.ty).obj⟩
def tBox:Option Sl->Option TR
 |some y=>match y.cells with
  |some l=>bif l.all Cl.imm then some (.ok (.new l))else some (.ok (.pk .bx l))
  |none=>none
 |none=>none
theorem QT{P:Program}{s:St}{t:TypeId}{x:Operand}{a:TR}(h:tBox (s.ev x)=some a):QS P s (.box t x) a.y:=by
 unfold tBox at h;split at h
 case h_2=>cases h
 rename_i y hy;split at h
 case h_2=>cases h
 rename_i l hl;cases hb:l.all Cl.imm with
 |false=>
  rw [hb]at h;cases h;obtain⟨h1,h2,_⟩:=CP (r:=s.r) hl;show qBox (s.den.ev x) (SK s _);rw [Bd hy];refine⟨h1,.inr ?_⟩;show Sub (AaT (Go.Ve.cellsV _)) (AaT (l.map (Cl.v s.r)));rw [h2];exact Sub.refl _
 |true=>
  rw [hb]at h;cases h;obtain⟨h1,h2,_⟩:=CP (r:=s.r) hl;obtain⟨g1,g2⟩:=imms_v (r:=s.r) hb;show qBox (s.den.ev x) (SK s _);rw [Bd hy];refine⟨h1,.inl ⟨by rw [h2];exact g1,?_⟩⟩
  show Sub (Bk true (Go.Ve.cellsV _)) (Bk true (l.map Cl.v0));rw [h2,g2];exact Sub.refl _
def ZC:Option TI->Option Sl->Option Sl->Option TR
 |some j,some (.one (.c (.int _) _ l)),some (.one (.c (.int _) _ c))=>
  bif Nat.blt 0 j.ty.w&&j.ty.noPtr then some (.cnd (0<=l/\l<=c/\(j.bytes:Int)*c<=281474976710656/\c<=9223372036854775807) inferInstance (.one (.c (.sl j.ty) (j.sd+1) (YP (J8 l) j.ty.dflt))))else none
 |_,_,_=>none
theorem Ul(deep:Bool){t:Ty}(d n:Nat)(h:t.noPtr=true):Sub (V8 deep t.w n (B1 t)) (cV (.sl t) (d+1) (List.replicate n t.dflt)):=by
 have gen:Sub (arr true t.w (fun x=>x) [] (List.replicate n ((B1 t).map .c))) (cV (.sl t) (d+1) (List.replicate n t.dflt)):=by
  have e0:cV (.sl t) (d+1) (List.replicate n t.dflt)=arr true t.w (tyV t d) t.dflt (List.replicate n t.dflt):=by simp [cV]
  rw [e0];unfold arr;rw [List.length_replicate,List.length_replicate];refine⟨_,rfl,fun i k hi _=>?_⟩
  have e1:(List.replicate n ((B1 t).map V.c)).getD i []=(B1 t).map .c:=by simp [hi]
  have e2:(List.replicate n t.dflt).getD i t.dflt=t.dflt:=by simp [hi]
  show Sub (((List.replicate n ((B1 t).map V.c)).getD i []).getD k .dead) ((tyV t d ((List.replicate n t.dflt).getD i t.dflt)).getD k .dead);rw [e1,e2];exact(Of d t h).getD k
 exact gen
theorem Ot{P:Program}{Θ:Tab}{s:St}(hΘ:Θ.OK P){t:TypeId}{l c:Operand}{a:TR}(h:ZC (((Θ.look t).bind (·.elem)).bind Θ.look) (s.ev l) (s.ev c)=some a)(hp:a.p):QS P s (.makeSlice t l c) a.y:=by
 unfold ZC at h;split at h
 case h_2=>cases h
 rename_i j _ _ li _ _ ci hj hl hc;obtain⟨e,hsl,_⟩:=DR hΘ hj;cases hb:(Nat.blt 0 j.ty.w&&j.ty.noPtr)with
 |false=>rw [hb]at h;cases h
 |true=>
  rw [hb]at h;simp only [bAE]at hb;cases h;show VX (slI P t) (ZN P t) (s.den.ev l) (s.den.ev c) (SK s _);rw [hsl,Bd hl,Bd hc];exact⟨Qv hb.1,hp,Ul _ _ _ hb.2⟩
def Ko:Option (Option Sl)->Option (Option Int)
 |none=>some none
 |some (some (.one (.c (.int _) _ n)))=>some (some n)
 |_=>none
def Vi(s:St):Option TI->Option TI->Option Sl->Option (Option Int)->Option (Option Int)->Option TR
 |some i,_,some (.one (.c .str _ b)),some lo,some hi=>
  bif i.str then some (.cnd (0<=lo.getD 0/\lo.getD 0<=hi.getD (ofN (LB b))/\hi.getD (ofN (LB b))<=ofN (LB b)) inferInstance (.one (.c .str 0 (cutS b (J8 (lo.getD 0)) (J8 (hi.getD (ofN (LB b))))))))else none
 |some i,some j,some (.one (.c (.sl t) 0 xs)),some lo,some hi=>
  bif Nat.beq t.w j.ty.w&& !i.str then some (.cnd (0<=lo.getD 0/\lo.getD 0<=hi.getD (ofN (JF xs))/\hi.getD (ofN (JF xs))<=ofN (JF xs)) inferInstance
   (.one (.c (.sl t) 0 (match lo,hi with
    |none,none=>xs
    |some l,none=>Pd (J8 l) xs
    |none,some h=>Oj (J8 h) xs
    |some l,some h=>Oj (J8 h-J8 l) (Pd (J8 l) xs)))))else none
 |some i,some j,some (.one (.rf id p)),some lo,some hi=>
  match Ag s.r id p with
  | .arr _ t _ xs=>bif Nat.beq t.w j.ty.w&& !i.str then some (.cnd (0<=lo.getD 0/\lo.getD 0<=hi.getD (ofN (JF xs))/\hi.getD (ofN (JF xs))<=ofN (JF xs)) inferInstance
    (.one (.rs id p (J8 (lo.getD 0)) (J8 (hi.getD (ofN (JF xs)))-J8 (lo.getD 0)))))else none
  |_=>none
 |some i,some j,some (.one (.rs id p off len)),some lo,some hi=>
  match Ag s.r id p with
  | .arr _ t _ _=>bif Nat.beq t.w j.ty.w&& !i.str then some (.cnd (0<=lo.getD 0/\lo.getD 0<=hi.getD (ofN len)/\hi.getD (ofN len)<=ofN len) inferInstance
    (.one (.rs id p (off+J8 (lo.getD 0)) (J8 (hi.getD (ofN len))-J8 (lo.getD 0)))))else none
  |_=>none
 |_,_,_,_,_=>none
theorem CV{s:St}{lo:Option Operand}{l:Option Int}(h:Ko (lo.map s.ev)=some l)(d:Int):bnd d (lo.map s.den.ev)=some (l.getD d):=by
 cases lo with
 |none=>cases h;rfl
 |some x=>
  simp only [Option.map_some]at h⊢;unfold Ko at h;split at h
  ·rename_i hx;cases hx
  ·rename_i hx
   cases h;simp only [Option.some.injEq]at hx;rw [Bd hx];rfl
  ·cases h
theorem MR{P:Program}{Θ:Tab}{s:St}(hΘ:Θ.OK P){t:TypeId}{x:Operand}{lo hi:Option Operand}{a:TR}
  (h:Vi s (Θ.look t) (((Θ.look t).bind (·.elem)).bind Θ.look) (s.ev x) (Ko (lo.map s.ev)) (Ko (hi.map s.ev))=some a) (hp:a.p):QS P s (.slice t x lo hi none) a.y:=by
 unfold Vi at h;have goal: ∀y,KA (slK P t) (s.r.map Ae.v) (s.den.ev x) (lo.map s.den.ev) (hi.map s.den.ev) (SK s y)->QS P s (.slice t x lo hi none) y:=fun y h=>⟨rfl,h⟩
 have skS: ∀ {i j:TI},Θ.look t=some i->((Θ.look t).bind (·.elem)).bind Θ.look=some j->i.str=false->slK P t= .slice j.ty.w:=by
  intro i j hi hj hs;rw [hΘ.sk hi,hs];rw [hi]at hj;simp only [Option.bind_some]at hj;rw [hj];rfl
 split at h
 case h_5=>cases h
 ·rename_i i _ b l u hI hx hlo hhi
  cases hb:i.str with
  |false=>rw [hb]at h;cases h
  |true=>
   rw [hb]at h;cases h;refine goal _ ?_;rw [hΘ.sk hI,hb,Bd hx];unfold KA
   show(match bnd 0 (lo.map s.den.ev),bnd b.size (hi.map s.den.ev)with
    |some l,some h=>_
    |_,_=>False)
   rw [CV hlo,CV hhi];exact⟨hp,Sub.refl _⟩
 ·rename_i i j t' xs l u hI hj hx hlo hhi
  cases hb:(Nat.beq t'.w j.ty.w&& !i.str)with
  |false=>rw [hb]at h;cases h
  |true=>
   rw [hb]at h;cases h;obtain⟨h1,h2⟩:=IB hb;have h2:i.str=false:=by simpa using h2
   refine goal _ ?_;rw [skS hI hj h2,Bd hx]
   show(match bnd 0 (lo.map s.den.ev),bnd xs.length (hi.map s.den.ev)with
    |some l,some h=>_
    |_,_=>False)
   rw [CV hlo,CV hhi];refine⟨h1,hp,?_⟩;obtain⟨p1,p2,p3⟩:0<=l.getD 0/\l.getD 0<=u.getD xs.length/\u.getD xs.length<=xs.length:=hp;show Sub (V.nd true false t'.w ((u.getD xs.length).toNat-(l.getD 0).toNat) fun i k=>(tyV t' 0 (xs.getD (i+(l.getD 0).toNat) t'.dflt)).getD k .dead) (arr false t'.w (tyV t' 0) t'.dflt _)
   have key: ∀ys:List t'.T,ys.length=(u.getD xs.length).toNat-(l.getD 0).toNat->(∀i,i<ys.length->ys.getD i t'.dflt=xs.getD (i+(l.getD 0).toNat) t'.dflt)->
     Sub (V.nd true false t'.w ((u.getD xs.length).toNat-(l.getD 0).toNat) fun i k=>(tyV t' 0 (xs.getD (i+(l.getD 0).toNat) t'.dflt)).getD k .dead) (arr false t'.w (tyV t' 0) t'.dflt ys):=by
    intro ys hl hg;unfold arr;rw [hl];refine⟨_,rfl,fun i k hi _=>?_⟩
    rw [hg i (by omega)]
    exact Sub.refl _
   cases l with
   |none=>cases u with
    |none=>exact key xs (by simp) fun i hi=>by simp
    |some u=>
     simp only [Option.getD_none,Option.getD_some]at p1 p2 p3⊢;refine key _ ?_ fun i hi=>?_
     ·simp only [J8,List.length_take];simp;omega
     ·simp only [J8,List.length_take]at hi
      have:i<u.toNat:=by omega
      simp [List.getElem?_take,this]
   |some l=>cases u with
    |none=>
     simp only [Option.getD_none,Option.getD_some]at p1 p2 p3⊢;refine key _ ?_ fun i hi=>?_
     ·simp
     ·simp [Nat.add_comm]
    |some u=>
     simp only [Option.getD_some]at p1 p2 p3⊢;refine key _ ?_ fun i hi=>?_
     ·simp only [J8,Option.getD_some,List.length_take,List.length_drop];omega
     ·simp only [J8,List.length_take,List.length_drop]at hi
      have:i<u.toNat-l.toNat:=by omega
      simp [List.getElem?_take,this,Nat.add_comm]
 ·rename_i i j id p l u hI hj hx hlo hhi
  split at h
  case h_2=>cases h
  rename_i ro t' d xs hn;have hne:Ag s.r id p≠.dead:=by rw [hn];simp
  cases hb:(Nat.beq t'.w j.ty.w&& !i.str)with
  |false=>rw [hb]at h;cases h
  |true=>
   rw [hb]at h;cases h;obtain⟨h1,h2⟩:=IB hb;have h2:i.str=false:=by simpa using h2
   refine goal _ ?_;rw [skS hI hj h2,Bd hx];have hl:(Ag s.r id p).len=xs.length:=by rw [hn];rfl
   show(match bnd 0 (lo.map s.den.ev),bnd (Ag s.r id p).len (hi.map s.den.ev)with
    |some l,some h=>_
    |_,_=>False)
   rw [CV hlo,CV hhi,hl];refine⟨by rw [CZ (by rw [hn];rfl),hn];exact h1,hp,?_⟩
   show Sub (V.rs id p (0+(l.getD 0).toNat) _) (V.rs id p (l.getD 0).toNat _);rw [Nat.zero_add];exact Sub.refl _
 ·rename_i i j id p off len l u hI hj hx hlo hhi
  split at h
  case h_2=>cases h
  rename_i ro t' d xs hn;have hne:Ag s.r id p≠.dead:=by rw [hn];simp
  cases hb:(Nat.beq t'.w j.ty.w&& !i.str)with
  |false=>rw [hb]at h;cases h
  |true=>
   rw [hb]at h;cases h;obtain⟨h1,h2⟩:=IB hb;have h2:i.str=false:=by simpa using h2
   refine goal _ ?_;rw [skS hI hj h2,Bd hx]
   show(match bnd 0 (lo.map s.den.ev),bnd len (hi.map s.den.ev)with
    |some l,some h=>_
    |_,_=>False)
   rw [CV hlo,CV hhi];exact⟨by rw [CZ (by rw [hn];rfl),hn];exact h1,hp,Sub.refl _⟩
end Go.Ve


namespace Go.Ve
def PT:List (Bool×Ty)->Ty
 | []=>.unit
 | [p]=>p.2
 |p::q::l=>.pair p.2 (PT (q::l))
def vOf(b:Bool)(t:Ty)(d:Nat)(x:t.T):V:=if b then Ai (tyV t d x)else cV t d x
def CB:(l:List (Bool×Ty))->(PT l).T->List V
 | [],_=>[]
 | [p],x=>[vOf p.1 p.2 0 x]
 |p::q::l,x=>vOf p.1 p.2 0 x.1::CB (q::l) x.2
def RT:List (Bool×Nat×Ty)->Ty
 | []=>.unit
 | [p]=>p.2.2
 |p::q::l=>.pair p.2.2 (RT (q::l))
def ZQ:(l:List (Bool×Nat×Ty))->(RT l).T->List V
 | [],_=>[]
 | [p],x=>[vOf p.1 p.2.2 p.2.1 x]
 |p::q::l,x=>vOf p.1 p.2.2 p.2.1 x.1::ZQ (q::l) x.2
def VL(l:List (Bool×Nat×Ty))(x:(RT l).T):V:=LP (ZQ l x)
def isP(p:Bool×Nat×Ty):Bool:=!p.1&&match p.2.2 with
 | .ptr _=>true
 |_=>false
def Xi(b:Bool)(p:Bool×Nat×Ty)(x:p.2.2.T):V:=bif b|| !isP p then vOf p.1 p.2.2 p.2.1 x else .c (.pointer none)
def Q3(b:Bool):(l:List (Bool×Nat×Ty))->(RT l).T->List V
 | [],_=>[]
 | [p],x=>[Xi b p x]
 |p::q::l,x=>Xi b p x.1::Q3 b (q::l) x.2
theorem VK: ∀ (l:List (Bool×Nat×Ty)) (x:(RT l).T),Q3 true l x=ZQ l x
 | [],_=>rfl
 | [_],_=>rfl
 |p::q::l,x=>congrArg (vOf p.1 p.2.2 p.2.1 x.1:: ·) (VK (q::l) x.2)
def Js(b:Bool)(l:List (Bool×Nat×Ty))(x:(RT l).T):V:=LP (Q3 b l x)
theorem Hf(l:List (Bool×Nat×Ty))(x:(RT l).T):Js true l x=VL l x:=congrArg LP (VK l x)
structure Sig where
 ps:List (Bool×Ty)
 rs:List (Bool×Nat×Ty)
def FT(P:Program)(f:FuncId)(S:Sig)(g:(PT S.ps).T->Option (RT S.rs).T):Prop:=∀x y,g x=some y->FC P f (CB S.ps x) (VL S.rs y)
structure En where
 f:FuncId
 S:Sig
 g:(PT S.ps).T->Option (RT S.rs).T
def look:List En->FuncId->Option En
 | [],_=>none
 |e::l,f=>bif Nat.beq e.f f then some e else look l f
def En.OK(P:Program)(e:En):Prop:=Af P e.f=true/\FT P e.f e.S e.g
def Mw(P:Program)(Γ:List En):Prop:=∀e∈Γ,e.OK P
theorem FC.sub{P:Program}{f:FuncId}{args args':List V}{r:V}(h:FC P f args r)(hs:CQ args' args):FC P f args' r:=by
 intro w D cvs hk hD hsz hr;refine h w D cvs hk hD (by rw [hsz,hs.len]) fun i hi=>Rel.sub (hs.getD i) (hr i (by rw [hs.len];exact hi))
def FTN(P:Program)(f:FuncId)(S:Sig)(g:(PT S.ps).T->Option (Bool×(RT S.rs).T)):Prop:=∀x b y,g x=some (b,y)->FC P f (CB S.ps x) (Js b S.rs y)
structure EnN where
 f:FuncId
 S:Sig
 g:(PT S.ps).T->Option (Bool×(RT S.rs).T)
def Qc:List EnN->FuncId->Option EnN
 | [],_=>none
 |e::l,f=>bif Nat.beq e.f f then some e else Qc l f
def EnN.OK(P:Program)(e:EnN):Prop:=Af P e.f=true/\FTN P e.f e.S e.g
theorem Qb{P:Program}{f:FuncId}{e:EnN}: ∀ {Γ:List EnN},(∀e∈Γ,e.OK P)->Qc Γ f=some e->e.OK P/\e.f=f
 | [],_,h=>by cases h
 |e'::l,hΓ,h=>by
  unfold Qc at h;cases hb:Nat.beq e'.f f with
  |true=>
   rw [hb]at h;cases h;exact⟨hΓ _ (List.mem_cons_self ..),bqE hb⟩
  |false=>
   rw [hb]at h;exact Qb (fun e he=>hΓ e (mCM _ he)) h
def L6(s:St)(w:Nat):Cl->Option Cl
 | .c t _ x=>bif t.one then some (.c t 0 x)else none
 | .nil=>some .nil
 | .rf id p=>match Ag s.r id p with
  | .arr _ t _ xs=>some (.c (.sl t) 0 xs)
  |_=>none
 | .rs id p off len=>match Ag s.r id p with
  | .arr _ t _ xs=>some (.c (.sl t) 0 (Ly off len xs t.dflt))
  |_=>none
 | .rp id p j k=>match Ag s.r id p with
  | .obj _ l=>match j with
   |0=>bif Nat.ble (k+w) l.length then(match Iw ((l.drop k).take w)with
    |some ⟨t,x⟩=>some (.c (.ptr t) 0 x)
    |none=>none)else none
   |_+1=>none
  | .arr _ t _ xs=>bif Nat.ble (k+w) t.w then(match Iw (((Ax t 0 (AaR xs j t.dflt)).drop k).take w)with
   |some ⟨t',x⟩=>some (.c (.ptr t') 0 x)
   |none=>none)else none
  |_=>none
 |_=>none
theorem WC{t:Ty}(h:t.one=true)(d:Nat)(x:t.T):frz (cV t d x)=cV t 0 x:=by
 have:=Bo t d x;rw [BR h,BR h]at this;simpa using this
def YA(v v':V):Prop:=Sub v v'\/∃sz sz' n f,v= .nd false false sz n f/\sz'<=sz/\Sub (.nd false false sz' n f) v'
theorem Rel.trunc{D:Nat->Prop}{w:World}{R:V->Value->Prop}{sz sz' n:Nat}{f:Nat->Nat->V}{cv:Value}{fp:Nat->Prop}(h:Rel D w R (.nd false false sz n f) cv fp)(hs:sz'<=sz):Rel D w R (.nd false false sz' n f) cv fp:=by
 rcases h with h|⟨b,o,cap,F,hcv,hcap,hmax,hs1,hr,hi,ho⟩
 ·cases h.2.1
 have hn:=hs1 rfl;subst hn;refine .inr ⟨b,o,cap,F,hcv,hcap,hmax,hs1,fun i k hi hk=>?_,fun hh=>?_,fun h=>by cases h⟩
 ·obtain rfl:i=0:=by omega
  obtain⟨x,hx,hrx⟩:=hr 0 k (by omega) (by omega)
  exact⟨x,by simpa using hx,hrx⟩
 ·obtain⟨h1,h2,h3⟩:=hi hh
  exact⟨fun h0=>h1 (by omega),fun i k x hi hk=>h2 i k x hi (by omega),h3⟩
theorem Rel.sub1{D:Nat->Prop}{w:World}{R:V->Value->Prop}{v v':V}{cv:Value}{fp:Nat->Prop}(he:YA v v')(h:Rel D w R v cv fp):Rel D w R v' cv fp:=by
 rcases he with he|⟨sz,sz',n,f,rfl,hs,he⟩
 ·exact Rel.sub he h
 ·exact Rel.sub he (h.trunc hs)
def Kg:List V->List V->Prop
 | [],[]=>True
 |a::l,b::m=>YA a b/\Kg l m
 |_,_=>False
theorem Kg.len: ∀ {l m:List V},Kg l m->l.length=m.length
 | [],[],_=>rfl
 |_::_,_::_,h=>by simp [Kg.len h.2]
 | [],_::_,h=>h.elim
 |_::_,[],h=>h.elim
theorem Kg.getD: ∀ {l m:List V} (_:Kg l m) (k:Nat),YA (l.getD k .dead) (m.getD k .dead)
 | [],[],_,_=>.inl (Sub.refl _)
 |_::_,_::_,h,0=>h.1
 |_::_,_::_,h,k+1=>Kg.getD h.2 k
 | [],_::_,h,_=>h.elim
 |_::_,[],h,_=>h.elim
theorem FC.sub1{P:Program}{f:FuncId}{args args':List V}{r:V}(h:FC P f args r)(hs:Kg args' args):FC P f args' r:=by
 intro w D cvs hk hD hsz hr;refine h w D cvs hk hD (by rw [hsz,hs.len]) fun i hi=>Rel.sub1 (hs.getD i) (hr i (by rw [hs.len];exact hi))
theorem I8{t:Ty}{x:t.T}{v:V}(h:v∈tyV t 0 x):Go.Ve.frz v=v:=by
 obtain⟨i,hi,rfl⟩:=List.getElem_of_mem h;have e:=Bo t 0 x;have:((tyV t 0 x).map frz)[i]'(by simpa using hi)=(tyV t 0 x)[i]:=by simp only [e]
 simpa using this
theorem Da{σ:List V}: ∀ (t:Ty) (x:t.T),∀v∈tyV t 0 x,BQ σ v=v
 | .int _,_,v,h=>by simp [tyV]at h;subst h;rfl
 | .bool,_,v,h=>by simp [tyV]at h;subst h;rfl
 | .str,_,v,h=>by simp [tyV]at h;subst h;rfl
 | .sl t,x,v,h=>by
  have e:=I8 (t:=.sl t) (x:=x) h;simp only [tyV,List.mem_singleton]at h;subst h;exact e
 | .ptr t,x,v,h=>by
  have e:=I8 (t:=.ptr t) (x:=x) h;simp only [tyV,List.mem_singleton]at h;subst h;exact e
 | .unit,_,v,h=>by simp [tyV]at h
 | .pair a b,x,v,h=>by
  simp only [tyV,List.mem_append]at h;exact h.elim (Da a x.1 v) (Da b x.2 v)
 | .osl t,x,v,h=>by
  have e:=I8 (t:=.osl t) (x:=x) h;simp only [tyV,List.mem_singleton]at h;subst h;cases x with
  |none=>rfl
  |some xs=>exact e
 | .clo g t,x,v,h=>by
  simp only [tyV,List.mem_singleton]at h;subst h;show(if Tg.cl g= .bx then _ else V.many (.cl g) t.w fun k=>BQ σ ((tyV t 0 x).getD k .dead))=_
  rw [if_neg (by intro h;cases h)]
  congr 1
  funext k
  by_cases hk:k<(tyV t 0 x).length
  ·rw [gDE,gEE hk]
   exact Da t x _ (List.getElem_mem hk)
  ·rw [gDE,List.getElem?_eq_none (by omega)];rfl
theorem HN: ∀ (t:Ty) (x:t.T),∀v∈tyV t 0 x,AP v=false
 | .int _,_,v,h=>by simp [tyV]at h;subst h;rfl
 | .bool,_,v,h=>by simp [tyV]at h;subst h;rfl
 | .str,_,v,h=>by simp [tyV]at h;subst h;rfl
 | .sl _,_,v,h=>by simp only [tyV,List.mem_singleton]at h;subst h;rfl
 | .ptr _,_,v,h=>by simp only [tyV,List.mem_singleton]at h;subst h;rfl
 | .unit,_,v,h=>by simp [tyV]at h
 | .pair a b,x,v,h=>by
  simp only [tyV,List.mem_append]at h;exact h.elim (HN a x.1 v) (HN b x.2 v)
 | .osl t,x,v,h=>by
  simp only [tyV,List.mem_singleton]at h;subst h;cases x<;>rfl
 | .clo g t,x,v,h=>by
  simp only [tyV,List.mem_singleton]at h;subst h;show((List.range t.w).any fun k=>AP ((tyV t 0 x).getD k .dead))=false
  rw [List.any_eq_false];intro k hk;have hk:k<(tyV t 0 x).length:=by rw [AA];exact List.mem_range.1 hk
  rw [gDE,gEE hk];simp [HN t x _ (List.getElem_mem hk)]
theorem Yd{σ:List V}{g:Nat}{u:Ty}{d:Nat}{x:u.T}:BQ σ (cV (.clo g u) d x)=Go.Ve.frz (cV (.clo g u) d x):=by
 have hm:cV (.clo g u) d x∈tyV (.clo g u) 0 x:=List.mem_singleton.2 rfl;rw [Da _ _ _ hm,I8 hm]
theorem L5{s:St}{w:Nat}{y y':Cl}(h:L6 s w y=some y'):YA (BQ (s.r.map Ae.v) (y.v s.r)) y'.v0/\y'.v0=y'.v s.r/\((∀id p i k,y≠.rp id p i k)->Sub (BQ (s.r.map Ae.v) (y.v s.r)) y'.v0):=by
 have both: ∀ {v v':V},Sub v v'->YA v v'/\((∀id p i k,y≠.rp id p i k)->Sub v v'):=fun h=>⟨.inl h,fun _=>h⟩
 unfold L6 at h;split at h
 ·rename_i t d x
  cases ho:t.one with
  |false=>rw [ho]at h;cases h
  |true=>
   rw [ho]at h;cases h
   have:Sub (BQ (s.r.map Ae.v) (cV t d x)) (cV t 0 x):=by
    rw [<-WC ho d x];cases t<;>first|exact Sub.refl _|(cases ho;done)|(cases x<;>exact Sub.refl _)|exact Sub.of_eq Yd
   exact⟨(both this).1,rfl,(both this).2⟩
 ·cases h;exact⟨(both (Sub.refl _)).1,rfl,(both (Sub.refl _)).2⟩
 ·rename_i id p
  split at h
  case h_2=>cases h
  rename_i ro t d xs hn;cases h;have hne:Ag s.r id p≠.dead:=by rw [hn];simp
  have:Sub (BQ (s.r.map Ae.v) (V.rs id p 0 (Ag s.r id p).len)) (cV (.sl t) 0 xs):=by
   rw [OZ,AZ hne,hn];show Sub (Wh (arr true t.w (tyV t d) t.dflt xs) 0 xs.length) _;rw [NJ rfl];have e:(fun a=>(tyV t d a).map frz)=tyV t 0:=funext fun x=>Bo t d x
   rw [e];exact Sub.refl _
  exact⟨(both this).1,rfl,(both this).2⟩
 ·rename_i id p off len
  split at h
  case h_2=>cases h
  rename_i ro t d xs hn;cases h;have hne:Ag s.r id p≠.dead:=by rw [hn];simp
  have:Sub (BQ (s.r.map Ae.v) (V.rs id p off len)) (cV (.sl t) 0 (Ly off len xs t.dflt)):=by
   rw [OZ,AZ hne,hn];show Sub (Wh (arr true t.w (tyV t d) t.dflt xs) off len) (arr false t.w (tyV t 0) t.dflt (Ly off len xs t.dflt));unfold arr;have hl:(Ly off len xs t.dflt).length=len:=by simp [Ly]
   rw [hl];refine⟨_,rfl,fun i k hi hk=>Sub.of_eq ?_⟩
   have hg:(Ly off len xs t.dflt).getD i t.dflt=xs.getD (off+i) t.dflt:=by simp [Ly,hi]
   rw [hg,<-Bo t d];exact(AB (f:=frz) (a:=.dead) rfl (tyV t d (xs.getD (off+i) t.dflt)) k).symm
  exact⟨(both this).1,rfl,(both this).2⟩
 ·rename_i id p j k
  split at h
  ·rename_i ro l hn
   have hne:Ag s.r id p≠.dead:=by rw [hn];simp
   split at h
   case h_2=>cases h
   cases hb:Nat.ble (k+w) l.length with
   |false=>rw [hb]at h;cases h
   |true=>
    rw [hb]at h;have hb:=blE hb;simp only [cond_true]at h;split at h
    case h_2=>cases h
    rename_i t x hf;cases h;refine⟨.inr ⟨l.length-k,w,1,fun i' k'=>([((l.drop k).map Cl.v0).map frz].getD i' []).getD k' .dead,?_,by omega,?_⟩,rfl,fun h=>absurd rfl (h _ _ _ _)⟩
    ·show BQ (s.r.map Ae.v) (V.rp id p 0 k)=_
     rw [O0,AZ hne,hn];show Yf (Bk true (l.map Cl.v0)) 0 k=_;rw [KN];unfold Bk;simp only [List.map_drop,List.length_drop,List.length_map]
    ·show Sub _ (Bk false (tyV t 0 x))
     have e:=Ds _ _ hf;unfold Bk;have hl:(tyV t 0 x).length=w:=by rw [e];simp;omega
     rw [hl];refine⟨_,rfl,fun i' k' hi hk=>?_⟩
     obtain rfl:i'=0:=by omega
     refine Sub.of_eq ?_;show(((l.drop k).map Cl.v0).map frz).getD k' .dead=(tyV t 0 x).getD k' .dead;rw [e];simp [List.getElem?_take,hk]
  ·rename_i ro t d xs hn
   have hne:Ag s.r id p≠.dead:=by rw [hn];simp
   cases hb:Nat.ble (k+w) t.w with
   |false=>rw [hb]at h;cases h
   |true=>
    rw [hb]at h;have hb:=blE hb;simp only [cond_true]at h;split at h
    case h_2=>cases h
    rename_i t' x hd;cases h;refine⟨.inr ⟨t.w-k,w,1,fun i' j'=>if i'=0 then frz ((tyV t d (xs.getD j t.dflt)).getD (k+j') .dead)else .dead,?_,by omega,?_⟩,rfl,fun h=>absurd rfl (h _ _ _ _)⟩
    ·show BQ (s.r.map Ae.v) (V.rp id p j k)=_
     rw [O0,AZ hne,hn];rfl
    ·show Sub _ (Bk false (tyV t' 0 x))
     have e:=Ds _ _ hd;rw [List.map_take,List.map_drop,BZ,List.map_take,List.map_drop,Bo]at e;unfold Bk;have hl:(tyV t' 0 x).length=w:=by rw [e];simp [AA];omega
     rw [hl];refine⟨_,rfl,fun i' k' hi hk=>?_⟩
     obtain rfl:i'=0:=by omega
     refine Sub.of_eq ?_;simp only [if_true];show _=(tyV t' 0 x).getD k' .dead;rw [e,<-Bo t d];have:=AB (f:=frz) (a:=.dead) rfl (tyV t d (xs.getD j t.dflt)) (k+k');rw [<-this];simp only [gDE,List.getElem?_take,hk,if_true,List.getElem?_drop]
  ·cases h
 ·cases h
def NK(s:St):List Cl->Option (List Cl)
 | []=>some []
 |y::l=>match(match y with
   | .rp _ _ _ _=>none
   |y=>L6 s 0 y)with
  |some y'=>match NK s l with
   |some l'=>some (y'::l')
   |none=>none
  |none=>none
theorem L3{s:St}: ∀ {l l':List Cl},NK s l=some l'->CQ ((l.map (Cl.v s.r)).map (BQ (s.r.map Ae.v))) (l'.map (Cl.v s.r))
 | [],l',h=>by cases h;trivial
 |y::l,l',h=>by
  unfold NK at h;split at h
  case h_2=>cases h
  rename_i y' hy;split at h
  case h_2=>cases h
  rename_i m hm;cases h;have hne: ∀id p i k,y≠.rp id p i k:=by rintro id p i k rfl;cases hy
  have hy:L6 s 0 y=some y':=by
   cases y with
   |rp id p i k=>exact absurd rfl (hne _ _ _ _)
   |_=>exact hy
  obtain⟨_,h2,h1⟩:=L5 hy;exact⟨by rw [<-h2];exact h1 hne,L3 hm⟩
def Wi(s:St):Cl->Option Cl
 | .rp id p i k=>match i,k with
  |0,0=>match Ag s.r id p with
   | .obj _ l=>match Iw l with
    |some ⟨t,x⟩=>some (.c (.ptr t) 0 x)
    |none=>none
   |_=>none
  |_,_=>none
 |y=>L6 s 0 y
theorem Aac{s:St}{y y':Cl}(h:Wi s y=some y'):Sub (BQ (s.r.map Ae.v) (y.v s.r)) y'.v0/\y'.v0=y'.v s.r:=by
 by_cases hc: ∃id p i k,y= .rp id p i k
 ·obtain⟨id,p,i,k,rfl⟩:=hc
  unfold Wi at h;simp only at h;split at h
  case h_2=>cases h
  split at h
  case h_2=>cases h
  rename_i ro l hn;split at h
  case h_2=>cases h
  rename_i t x hf;cases h;have hne:Ag s.r id p≠.dead:=by rw [hn];simp
  refine⟨?_,rfl⟩;show Sub (BQ (s.r.map Ae.v) (V.rp id p 0 0)) (Bk false (tyV t 0 x));rw [O0,AZ hne,hn];show Sub (Yf (Bk true (l.map Cl.v0)) 0 0) _;rw [KN,Ds _ _ hf];exact Sub.refl _
 ·have hne: ∀id p i k,y≠.rp id p i k:=fun id p i k e=>hc ⟨id,p,i,k,e⟩
  have h:L6 s 0 y=some y':=by
   cases y with
   |rp id p i k=>exact absurd rfl (hne _ _ _ _)
   |_=>exact h
  obtain⟨_,h2,h1⟩:=L5 h;exact⟨h1 hne,h2⟩
def JE(s:St):List Cl->Option (List Cl)
 | []=>some []
 |y::l=>match Wi s y with
  |some y'=>match JE s l with
   |some l'=>some (y'::l')
   |none=>none
  |none=>none
theorem L4{s:St}: ∀ {l l':List Cl},JE s l=some l'->CQ ((l.map (Cl.v s.r)).map (BQ (s.r.map Ae.v))) (l'.map (Cl.v s.r))
 | [],l',h=>by cases h;trivial
 |y::l,l',h=>by
  unfold JE at h;split at h
  case h_2=>cases h
  rename_i y' hy;split at h
  case h_2=>cases h
  rename_i m hm;cases h;obtain⟨h1,h2⟩:=Aac hy;exact⟨by rw [<-h2];exact h1,L4 hm⟩
theorem CQ.pk{t:Tg}{l m:List V}(h:CQ l m):Sub (pkL t l) (pkL t m):=by
 unfold pkL;rw [h.len];exact⟨_,rfl,fun k _=>h.getD k⟩
def Jf(s:St)(b:Bool)(t:Ty):Option Sl->Option t.T
 |some (.one y)=>bif b then none else bif t.one then(match L6 s (match t with
   | .ptr u=>u.w
   |_=>0) y with
  |some y'=>Hi t 0 y'
  |none=>none)else none
 |some (.agg l)=>bif b then(match NK s l with
  |some l'=>Ir t 0 l'
  |none=>none)else none
 |some (.pk .bx l)=>bif b then none else(match t with
  | .ptr u=>(match NK s l with
   |some l'=>Ir u 0 l'
   |none=>none)
  |_=>none)
 |some (.pk (.cl g) l)=>bif b then none else(match t with
  | .clo g' u=>bif Nat.beq g g' then(match JE s l with
   |some l'=>Ir u 0 l'
   |none=>none)else none
  |_=>none)
 |_=>none
theorem CQ.trans: ∀ {a b c:List V},CQ a b->CQ b c->CQ a c:=by
 intro a
 induction a with
 |nil=>intro b c h1 h2;cases b<;>first|exact h2|exact h1.elim
 |cons v a ih=>intro b c h1 h2;cases b with
  |nil=>exact h1.elim
  |cons w b=>cases c with
   |nil=>exact h2.elim
   |cons u c=>exact⟨h1.1.trans h2.1,ih h1.2 h2.2⟩
theorem Vt{s:St}{b:Bool}{t:Ty}{x:Operand}{z:t.T}(h:Jf s b t (s.ev x)=some z):YA (BQ (s.r.map Ae.v) (s.den.ev x)) (vOf b t 0 z):=by
 unfold Jf at h;split at h
 case h_5=>cases h
 ·rename_i y hy
  cases b with
  |true=>cases h
  |false=>
   cases ho:t.one with
   |false=>rw [ho]at h;cases h
   |true=>
    rw [ho]at h;simp only [cond_false,cond_true]at h;split at h
    case h_2=>cases h
    rename_i y' hl;obtain⟨h1,h2,_⟩:=L5 hl;obtain⟨g1,g2⟩:=LT h s.r;rw [Bd hy];have g1:Sub y'.v0 (vOf false t 0 z):=h2▸g1;rcases h1 with h1|⟨sz,sz',n,f,e1,e2,e3⟩
    ·exact .inl (h1.trans g1)
    ·exact .inr ⟨sz,sz',n,f,e1,e2,e3.trans g1⟩
 ·rename_i l hy
  cases b with
  |false=>cases h
  |true=>
   simp only [cond_true]at h;split at h
   case h_2=>cases h
   rename_i l' hl;rw [Bd hy];left;show Sub (BQ _ (Ai _)) (Ai _);rw [Aaa];refine CQ.mk ?_;have h1:=L3 hl;have h2:=(C7 h s.r).1;exact CQ.trans h1 h2
 ·rename_i l hy
  cases b with
  |true=>cases h
  |false=>
   simp only [cond_false]at h;split at h
   case h_2=>cases h
   rename_i u;split at h
   case h_2=>cases h
   rename_i l' hl;rw [Bd hy];left;show Sub (BQ _ (AaT _)) (Bk false (tyV u 0 z));rw [Ye];exact CQ.obj (CQ.trans (L3 hl) (C7 h s.r).1)
 ·rename_i g l hy
  cases b with
  |true=>cases h
  |false=>
   simp only [cond_false]at h;split at h
   case h_2=>cases h
   rename_i g' u;cases hb:Nat.beq g g' with
   |false=>rw [hb]at h;cases h
   |true=>
    rw [hb]at h;simp only [cond_true]at h;have hg:=bqE hb;subst hg;split at h
    case h_2=>cases h
    rename_i l' hl;rw [Bd hy];left
    have e:V.many (.cl g) u.w (fun k=>(tyV u 0 z).getD k .dead)=pkL (.cl g) (tyV u 0 z):=by
     unfold pkL;rw [AA]
    show Sub (BQ _ (pkL (.cl g) _)) (V.many (.cl g) u.w fun k=>(tyV u 0 z).getD k .dead)
    rw [e,Aab];exact CQ.pk (CQ.trans (L4 hl) (C7 h s.r).1)
def IS(s:St):(l:List (Bool×Ty))->List (Option Sl)->Option (PT l).T
 | [],[]=>some ()
 | [p],[y]=>Jf s p.1 p.2 y
 |p::q::l,y::ys=>match Jf s p.1 p.2 y with
  |some z=>match IS s (q::l) ys with
   |some zs=>some (z,zs)
   |none=>none
  |none=>none
 |_,_=>none
def resC(b:Bool)(d:Nat)(t:Ty)(x:t.T):Bool×List Cl:=(b,Ax t d x)
def Q5(b:Bool)(p:Bool×Nat×Ty)(x:p.2.2.T):Bool×List Cl:=bif b|| !isP p then resC p.1 p.2.1 p.2.2 x else(false,[.nilp])
def resL(b:Bool):(l:List (Bool×Nat×Ty))->(RT l).T->List (Bool×List Cl)
 | [],_=>[]
 | [p],x=>[Q5 b p x]
 |p::q::l,x=>Q5 b p x.1::resL b (q::l) x.2
def Mx(b:Bool)(l:List (Bool×Nat×Ty))(x:(RT l).T):Sl:=match resL b l x with
 | [(true,cs)]=>.agg cs
 | [(false,cs)]=>.one (cs.getD 0 .dead)
 |m=>.tup m
theorem ZR{r:List Ae}(b:Bool)(d:Nat)(t:Ty)(x:t.T)(h:b=true\/t.one=true):(if b then Ai ((Ax t d x).map (Cl.v r))else((Ax t d x).map (Cl.v r)).getD 0 .dead)=vOf b t d x:=by
 rw [Cl.v_c];cases b with
 |true=>rfl
 |false=>
  rcases h with h|h
  ·cases h
  ·show(tyV t d x).getD 0 .dead=cV t d x
   rw [BR h];rfl
def Dm:List (Bool×Nat×Ty)->Bool
 | []=>true
 |p::l=>(p.1||p.2.2.one)&&Dm l
theorem PI{r:List Ae}(b:Bool)(p:Bool×Nat×Ty)(x:p.2.2.T)(h:p.1=true\/p.2.2.one=true):(if(Q5 b p x).1 then Ai ((Q5 b p x).2.map (Cl.v r))else((Q5 b p x).2.map (Cl.v r)).getD 0 .dead)=Xi b p x:=by
 unfold Q5 Xi;cases b|| !isP p with
 |true=>exact ZR (r:=r) p.1 p.2.1 p.2.2 x h
 |false=>rfl
theorem YO{r:List Ae}(b:Bool): ∀ (l:List (Bool×Nat×Ty)) (x:(RT l).T),Dm l=true->(resL b l x).map (fun p=>if p.1 then Ai (p.2.map (Cl.v r))else(p.2.map (Cl.v r)).getD 0 .dead)=Q3 b l x
 | [],x,_=>rfl
 | [p],x,h=>by
  simp only [Dm,bAE,Bool.or_eq_true]at h;show [_]= [Xi _ _ _];rw [<-PI (r:=r) b p x h.1]
  first|done|rfl
 |p::q::l,x,h=>by
  have h':((p.1||p.2.2.one)&&Dm (q::l))=true:=h;simp only [bAE,Bool.or_eq_true]at h';show _::(resL b (q::l) x.2).map _=Xi _ _ _::_;rw [YO b (q::l) x.2 h'.2,<-PI (r:=r) b p x.1 h'.1]
  first|done|rfl
theorem PH{r:List Ae}(b:Bool)(l:List (Bool×Nat×Ty))(x:(RT l).T)(h:Dm l=true):(Mx b l x).v r=Js b l x:=by
 have e:=YO (r:=r) b l x h;unfold Js;rw [<-e];unfold Mx;split
 ·rename_i cs hc
  rw [hc];rfl
 ·rename_i cs hc
  rw [hc];show(cs.getD 0 .dead).v r=(cs.map (Cl.v r)).getD 0 .dead;rw [AB (f:=Cl.v r) (a:=.dead) rfl]
 ·rename_i m h1 h2
  generalize resL b l x=m at*;show Df _=LP _
  match m,h1,h2 with
  | [],_,_=>rfl
  | [(true,cs)],h1,_=>exact absurd rfl (h1 cs)
  | [(false,cs)],_,h2=>exact absurd rfl (h2 cs)
  |a::b::m,_,_=>rfl
def Ty.noFn:Ty->Bool
 | .clo _ _=>false
 | .osl _=>false
 | .sl t=>t.noFn
 | .ptr t=>t.noFn
 | .pair a b=>a.noFn&&b.noFn
 |_=>true
theorem Cd: ∀ (t:Ty) (d:Nat) (x:t.T),t.dep<=d->t.noFn=true->∀v∈tyV t d x,BD v
 | .int _,_,_,_,_,v,h=>by simp only [tyV,List.mem_singleton]at h;subst h;trivial
 | .bool,_,_,_,_,v,h=>by simp only [tyV,List.mem_singleton]at h;subst h;trivial
 | .str,_,_,_,_,v,h=>by simp only [tyV,List.mem_singleton]at h;subst h;trivial
 | .unit,_,_,_,_,v,h=>by cases h
 | .clo _ _,_,_,_,hf,_,_=>by cases hf
 | .osl _,_,_,_,hf,_,_=>by cases hf
 | .sl t,d,xs,hd,hf,v,h=>by
  simp only [Ty.dep]at hd;simp only [tyV,List.mem_singleton]at h;subst h;refine⟨dT (by omega),fun i k _ hk=>?_⟩
  exact Cd t (d-1) _ (by omega) hf _ (HV (by rw [AA];exact hk))
 | .ptr t,d,x,hd,hf,v,h=>by
  simp only [Ty.dep]at hd;simp only [tyV,List.mem_singleton]at h;subst h;refine⟨dT (by omega),fun i k hi hk=>?_⟩
  obtain rfl:i=0:=by omega
  exact Cd t (d-1) _ (by omega) hf _ (HV hk)
 | .pair a b,d,x,hd,hf,v,h=>by
  simp only [Ty.noFn,bAE]at hf;simp only [Ty.dep]at hd;rcases List.mem_append.1 h with h|h
  ·exact Cd a d _ (by omega) hf.1 v h
  ·exact Cd b d _ (by omega) hf.2 v h
def CX:List (Bool×Nat×Ty)->Bool
 | []=>true
 |p::l=>Nat.ble p.2.2.dep p.2.1&&p.2.2.noFn&&(p.1||p.2.2.one)&&CX l
theorem ON(b:Bool)(d:Nat)(t:Ty)(x:t.T)(h:t.dep<=d)(hf:t.noFn=true)(h2:b=true\/t.one=true):BD (vOf b t d x):=by
 cases b with
 |true=>
  show BD (Ai _);rw [Ui];exact Cd t d x h hf
 |false=>
  rcases h2 with h2|h2
  ·cases h2
  ·exact Cd t d x h hf _ (by rw [BR h2];exact List.mem_singleton.2 rfl)
theorem IL(b:Bool)(p:Bool×Nat×Ty)(x:p.2.2.T)(h:p.2.2.dep<=p.2.1)(hf:p.2.2.noFn=true)(h2:p.1=true\/p.2.2.one=true):BD (Xi b p x):=by
 unfold Xi;cases b|| !isP p with
 |true=>exact ON _ _ _ _ h hf h2
 |false=>trivial
theorem IM(b:Bool): ∀ (l:List (Bool×Nat×Ty)) (x:(RT l).T),CX l=true->∀v∈Q3 b l x,BD v
 | [],_,_,v,h=>by cases h
 | [p],x,hr,v,h=>by
  simp only [CX,bAE,Bool.or_eq_true]at hr;rw [List.mem_singleton.1 h];exact IL b p x (blE hr.1.1.1) hr.1.1.2 hr.1.2
 |p::q::l,x,hr,v,h=>by
  have hr':(Nat.ble p.2.2.dep p.2.1&&p.2.2.noFn&&(p.1||p.2.2.one)&&CX (q::l))=true:=hr;simp only [bAE,Bool.or_eq_true]at hr';rcases List.mem_cons.1 h with rfl|h
  ·exact IL b p x.1 (blE hr'.1.1.1) hr'.1.1.2 hr'.1.2
  ·exact IM b (q::l) x.2 hr'.2 v h
theorem Dp(b:Bool)(l:List (Bool×Nat×Ty))(x:(RT l).T)(h:CX l=true):BD (Js b l x):=by
 have:=IM b l x h;unfold Js LP;split
 ·rename_i v hv
  exact this v (by rw [hv];exact List.mem_singleton.2 rfl)
 ·have h2:=this
  rw [<-OO]at h2;exact h2
def Cl.lent:Cl->Bool
 | .rf _ _=>true
 | .rs _ _ _ _=>true
 | .rp _ _ _ _=>true
 |y=>y.own
def Sl.lent:Sl->Bool
 | .one c=>c.lent
 | .agg l=>l.any Cl.lent
 | .pk _ l=>l.any Cl.lent
 |_=>true
def HG(xs:List (Option Sl)):Bool:=xs.all fun x=>match x with
 |some y=>!y.lent
 |none=>false
theorem Cl.lent_v{r:List Ae}(c:Cl):c.lent=false->AP (c.v r)=false:=by
 intro h;cases c with
 |c t d x=>
  have h:(Cl.c t d x).own=false:=h;cases t<;>cases d<;>first|rfl|(cases h;done)|(cases x<;>first|rfl|(cases h;done))|exact HN (.clo _ _) x _ (List.mem_singleton.2 rfl)
 |rf=>cases h
 |rs=>cases h
 |rp=>cases h
 |_=>rfl
theorem NE{r:List Ae}(tg:Tg)(l:List Cl)(h:l.any Cl.lent=false):AP (.many tg (l.map (Cl.v r)).length fun k=>(l.map (Cl.v r)).getD k .dead)=false:=by
 show((List.range _).any fun k=>AP ((l.map (Cl.v r)).getD k .dead))=false
 rw [List.any_eq_false];intro k hk;have hk:k<l.length:=by simpa using hk
 rw [AB (f:=Cl.v r) (a:=.dead) rfl]
 have:(l.getD k .dead).lent=false:=by
  have:=List.any_eq_false.1 h (l.getD k .dead) (by simp [gDE,hk])
  simpa using this
 rw [Cl.lent_v _ this];simp
theorem P1{s:St}{xs:List Operand}(h:HG (xs.map s.ev)=true):(xs.map s.den.ev).any AP=false:=by
 rw [List.any_eq_false];intro v hv;obtain⟨x,hx,rfl⟩:=List.mem_map.1 hv;have h1:=aET.1 h (s.ev x) (List.mem_map.2 ⟨x,hx,rfl⟩);cases hy:s.ev x with
 |none=>rw [hy]at h1;cases h1
 |some y=>
  rw [hy]at h1;have h1:y.lent=false:=by simpa using h1
  rw [Bd hy]
  have:AP (y.v s.r)=false:=by
   cases y with
   |one c=>exact Cl.lent_v c h1
   |agg l=>exact NE .ag l h1
   |pk t l=>exact NE t l h1
   |new l=>cases h1
   |tup l=>cases h1
  rw [this];simp
def DG(s:St):Option Sl->Option Sl
 |some (.one (.rf id p))=>match Ag s.r id p with
  | .opt _ u _ x=>some (.one (.c (.sl u) 0 (getO x)))
  |_=>some (.one (.rf id p))
 |y=>y
def Pf(s:St):Option Sl->List Bool
 |some (.one (.rf id p))=>match Ag s.r id p with
  | .opt _ _ _ x=>[isO x]
  |_=>[]
 |_=>[]
def K6(s:St):List (Option Sl)->List Bool
 | []=>[]
 |y::l=>Pf s y++K6 s l
def gate{α:Type}:List Bool->Option α->Option α
 | [],o=>o
 |b::l,o=>N9 b (gate l o) none
structure UP where
 α:Type
 o:Option α
 y:α->Sl
structure CallN where
 α:Type
 o:Option (Bool×α)
 y:Bool->α->Sl
def Kn(e:En)(s:St)(xs:List (Option Sl)):Option UP:=
 bif CX e.S.rs||(Dm e.S.rs&&HG xs)then(match IS s e.S.ps (xs.map (DG s))with
  |some z=>some ⟨(RT e.S.rs).T,gate (K6 s xs) (e.g z),fun y=>Mx true e.S.rs y⟩
  |none=>none)else none
def Je:List En->St->FuncId->List (Option Sl)->Option UP
 | [],_,_,_=>none
 |e::Γ,s,f,xs=>bif Nat.beq e.f f then(match Kn e s xs with
  |some a=>some a
  |none=>Je Γ s f xs)else Je Γ s f xs
theorem IX{s:St}{f:FuncId}{xs:List (Option Sl)}{a:UP}: ∀ {Γ:List En},Je Γ s f xs=some a->∃e∈Γ,e.f=f/\Kn e s xs=some a
 | [],h=>by cases h
 |e::Γ,h=>by
  have back:Je Γ s f xs=some a->∃e'∈e::Γ,e'.f=f/\Kn e' s xs=some a:=fun h=>by
   obtain⟨e',h1,h2⟩:=IX h;exact⟨e',mCM _ h1,h2⟩
  unfold Je at h;cases hb:Nat.beq e.f f with
  |false=>rw [hb]at h;exact back h
  |true=>
   rw [hb]at h;simp only [cond_true]at h;split at h
   ·rename_i a' ha
    cases h;exact⟨e,List.mem_cons_self ..,bqE hb,ha⟩
   ·exact back h
def Vr(Γ:List EnN)(s:St)(f:FuncId)(xs:List (Option Sl)):Option CallN:=
 match Qc Γ f with
 |some e=>bif CX e.S.rs||(Dm e.S.rs&&HG xs)then(match IS s e.S.ps (xs.map (DG s))with
  |some z=>some ⟨(RT e.S.rs).T,gate (K6 s xs) (e.g z),fun b y=>Mx b e.S.rs y⟩
  |none=>none)else none
 |none=>none
theorem Hy: ∀ {l:List (Bool×Nat×Ty)},CX l=true->Dm l=true
 | [],_=>rfl
 |p::l,h=>by
  simp only [CX,bAE]at h;simp only [Dm,bAE];exact⟨h.1.2,Hy h.2⟩
theorem Aae{t1 t2:Nat->Sl}{r:List Ae}{w:Nat}{y:Cl}:L6 ⟨t1,r⟩ w y=L6 ⟨t2,r⟩ w y:=by cases y<;>rfl
theorem O1{t1 t2:Nat->Sl}{r:List Ae}: ∀l:List Cl,NK ⟨t1,r⟩ l=NK ⟨t2,r⟩ l
 | []=>rfl
 |y::l=>by
  unfold NK;rw [O1 (t1:=t1) (t2:=t2) l];cases y<;>rfl
theorem Aad{t1 t2:Nat->Sl}{r:List Ae}{y:Cl}:Wi ⟨t1,r⟩ y=Wi ⟨t2,r⟩ y:=by
 cases y with
 |rp id p i k=>cases i<;>cases k<;>rfl
 |_=>rfl
theorem Qd{t1 t2:Nat->Sl}{r:List Ae}: ∀l:List Cl,JE ⟨t1,r⟩ l=JE ⟨t2,r⟩ l
 | []=>rfl
 |y::l=>by
  unfold JE;rw [Qd (t1:=t1) (t2:=t2) l,Aad (t1:=t1) (t2:=t2)]
theorem YK{t1 t2:Nat->Sl}{r:List Ae}{b:Bool}{t:Ty}{o:Option Sl}:Jf ⟨t1,r⟩ b t o=Jf ⟨t2,r⟩ b t o:=by
 cases o with
 |none=>rfl
 |some y=>
  cases y with
  |one y=>unfold Jf;simp only [Aae (t1:=t1) (t2:=t2)]
  |agg l=>unfold Jf;simp only [O1 (t1:=t1) (t2:=t2)]
  |pk t l=>cases t<;>first|rfl|(unfold Jf;simp only [Qd (t1:=t1) (t2:=t2)];done)|(unfold Jf;simp only [O1 (t1:=t1) (t2:=t2)];done)
  |_=>rfl
theorem tArg_y{s:St}{b:Bool}{t:Ty}{y:Sl}{z:t.T}(h:Jf s b t (some y)=some z):YA (BQ (s.r.map Ae.v) (y.v s.r)) (vOf b t 0 z):=
 Vt (s:=⟨fun _=>y,s.r⟩) (x:=.tmp 0) (by
  have:Jf ⟨fun _=>y,s.r⟩ b t (some y)=some z:=by rw [<-h];exact YK
  exact this)
theorem DQ{α:Type}{u:α}: ∀ {l:List Bool} {o:Option α},gate l o=some u->o=some u/\∀b∈l,b=true
 | [],_,h=>⟨h,fun _ h=>by cases h⟩
 |b::l,o,h=>by
  unfold gate at h;cases b with
  |false=>cases h
  |true=>
   obtain⟨h1,h2⟩:=DQ (l:=l) (o:=o) h;exact⟨h1,fun c hc=>(List.mem_cons.1 hc).elim id (h2 c)⟩
theorem OP{s:St}{b:Bool}{t:Ty}{x:Operand}{z:t.T}(h:Jf s b t (DG s (s.ev x))=some z)(hc: ∀c∈Pf s (s.ev x),c=true):YA (BQ (s.r.map Ae.v) (s.den.ev x)) (vOf b t 0 z):=by
 cases hx:s.ev x with
 |none=>rw [hx]at h;exact Vt (by rw [hx];exact h)
 |some y=>
  by_cases hy: ∃id p ro u d v,y= .one (.rf id p)/\Ag s.r id p= .opt ro u d v
  ·obtain⟨id,p,ro,u,d,v,rfl,hn⟩:=hy
   rw [hx]at h hc;simp only [DG,Pf,hn]at h hc;have hv:isO v=true:=hc _ (List.mem_singleton.2 rfl);cases v with
   |none=>cases hv
   |some ys=>
    have h2:=tArg_y h;have e1:BQ (s.r.map Ae.v) ((Sl.one (.c (.sl u) 0 ys)).v s.r)=cV (.sl u) 0 ys:=Da (.sl u) ys _ (List.mem_singleton.2 rfl);have e1':BQ (s.r.map Ae.v) ((Sl.one (.c (.sl u) 0 (getO (some ys)))).v s.r)=cV (.sl u) 0 ys:=e1;rw [e1']at h2
    have e2:BQ (s.r.map Ae.v) (s.den.ev x)=cV (.sl u) 0 ys:=by
     rw [Bd hx];show BQ (s.r.map Ae.v) (V.rs id p 0 (Ag s.r id p).len)=_;rw [OZ,AZ (by rw [hn];simp),hn]
     show Wh (arr true u.w (tyV u d) u.dflt ys) 0 ys.length=_;rw [NJ rfl];have e:(fun a=>(tyV u d a).map frz)=tyV u 0:=funext fun x=>Bo u d x
     rw [e];rfl
    rw [e2];exact h2
  ·have e:DG s (some y)=some y:=by
    cases y with
    |one c=>
     cases c with
     |rf id p=>
      cases hn:Ag s.r id p with
      |opt ro u d v=>exact absurd ⟨id,p,ro,u,d,v,rfl,hn⟩ hy
      |_=>simp only [DG,hn]
     |_=>rfl
    |_=>rfl
   rw [hx,e,<-hx]at h;exact Vt h
theorem V5{s:St}{b:Bool}{t:Ty}{y:Sl}{z:t.T}(h:Jf s b t (DG s (some y))=some z)(hc: ∀c∈Pf s (some y),c=true):YA (BQ (s.r.map Ae.v) (y.v s.r)) (vOf b t 0 z):=by
 have e1:DG ⟨fun _=>y,s.r⟩ (some y)=DG s (some y):=by
  cases y with
  |one c=>cases c<;>rfl
  |_=>rfl
 have e2:Pf ⟨fun _=>y,s.r⟩ (some y)=Pf s (some y):=by
  cases y with
  |one c=>cases c<;>rfl
  |_=>rfl
 refine OP (s:=⟨fun _=>y,s.r⟩) (x:=.tmp 0) ?_ ?_
 ·show Jf ⟨fun _=>y,s.r⟩ b t (DG ⟨fun _=>y,s.r⟩ (some y))=some z
  rw [e1,<-h];exact YK
 ·show ∀c∈Pf ⟨fun _=>y,s.r⟩ (some y),c=true
  rw [e2];exact hc
theorem Lv{s:St}: ∀ (l:List (Bool×Ty)) (ys:List Sl) (z:(PT l).T),IS s l ((ys.map some).map (DG s))=some z->(∀c∈K6 s (ys.map some),c=true)->Kg ((ys.map (Sl.v s.r)).map (BQ (s.r.map Ae.v))) (CB l z)
 | [],[],z,h,_=>trivial
 | [p],[y],z,h,hc=>⟨V5 h fun c h=>hc c (List.mem_append_left _ h),trivial⟩
 |p::q::l,y::ys,z,h,hc=>by
  have h:(match Jf s p.1 p.2 (DG s (some y))with
   |some z=>match IS s (q::l) ((ys.map some).map (DG s))with
    |some zs=>some (z,zs)
    |none=>none
   |none=>none:Option (PT (p::q::l)).T)=some z:=h
  split at h
  case h_2=>cases h
  rename_i z1 h1;split at h
  case h_2=>cases h
  rename_i zs h2;cases h;exact⟨V5 h1 fun c h=>hc c (List.mem_append_left _ h),Lv (q::l) ys zs h2 fun c h=>hc c (List.mem_append_right _ h)⟩
 | [],_::_,_,h,_=>by cases h
 | [_],[],_,h,_=>by cases h
 | [_],_::_::_,_,h,_=>by cases h
 |_::_::_,[],_,h,_=>by cases h
theorem PC{s:St}: ∀ (l:List (Bool×Ty)) (xs:List Operand) (z:(PT l).T),IS s l ((xs.map s.ev).map (DG s))=some z->(∀c∈K6 s (xs.map s.ev),c=true)->Kg ((xs.map s.den.ev).map (BQ (s.r.map Ae.v))) (CB l z)
 | [],[],z,h,_=>trivial
 | [p],[x],z,h,hc=>⟨OP h fun c h=>hc c (List.mem_append_left _ h),trivial⟩
 |p::q::l,x::xs,z,h,hc=>by
  have h:(match Jf s p.1 p.2 (DG s (s.ev x))with
   |some z=>match IS s (q::l) ((xs.map s.ev).map (DG s))with
    |some zs=>some (z,zs)
    |none=>none
   |none=>none:Option (PT (p::q::l)).T)=some z:=h
  split at h
  case h_2=>cases h
  rename_i z1 h1;split at h
  case h_2=>cases h
  rename_i zs h2;cases h;exact⟨OP h1 fun c h=>hc c (List.mem_append_left _ h),PC (q::l) xs zs h2 fun c h=>hc c (List.mem_append_right _ h)⟩
 | [],_::_,_,h,_=>by cases h
 | [_],[],_,h,_=>by cases h
 | [_],_::_::_,_,h,_=>by cases h
 |_::_::_,[],_,h,_=>by cases h
theorem Ld{P:Program}{s:St}{f:FuncId}{xs:Array Operand}{ats}{ps:List (Bool×Ty)}{rs:List (Bool×Nat×Ty)}{z:(PT ps).T}{b:Bool}{u:(RT rs).T}(hc:Af P f=true)(hft:FC P f (CB ps z) (Js b rs u))(hz:IS s ps ((xs.toList.map s.ev).map (DG s))=some z)(hcd: ∀c∈K6 s (xs.toList.map s.ev),c=true)
  (ho:(CX rs||(Dm rs&&HG (xs.toList.map s.ev)))=true):QS P s (.call ⟨.value (.func f),xs,ats⟩) (Mx b rs u):=by
 show Call P f ((xs.toList.map s.den.ev).any AP) ((xs.toList.map s.den.ev).map (BQ (s.r.map Ae.v))) (SK s _);rw [Bool.or_eq_true,bAE]at ho;have hok:Dm rs=true:=ho.elim Hy (·.1)
 refine⟨Js b rs u,⟨hc,hft.sub1 (PC _ _ _ hz hcd)⟩,fun hl=>?_,?_⟩
 ·rcases ho with ho|⟨_,ho⟩
  ·exact Dp _ _ _ ho
  ·rw [P1 ho]at hl;cases hl
 ·show Sub _ ((Mx b rs u).v s.r)
  rw [PH _ _ _ hok];exact Sub.refl _
theorem Ow{P:Program}{Γ:List En}(hΓ:Mw P Γ){s:St}{f:FuncId}{xs ats}{a:UP}(h:Je Γ s f (xs.toList.map s.ev)=some a){u:a.α}(hu:a.o=some u):QS P s (.call ⟨.value (.func f),xs,ats⟩) (a.y u):=by
 obtain⟨e,he,hef,hx⟩:=IX h;subst hef;clear h;unfold Kn at hx;have h:=hx;clear hx;cases ho:(CX e.S.rs||(Dm e.S.rs&&HG (xs.toList.map s.ev)))with
 |false=>rw [ho]at h;cases h
 |true=>
  rw [ho]at h;simp only [cond_true]at h;split at h
  case h_2=>cases h
  rename_i z hz;cases h;obtain⟨hc,hft⟩:=hΓ e he;obtain⟨hu,hcd⟩:=DQ hu;exact Ld hc (by rw [Hf];exact hft z u hu) hz hcd ho
theorem MW{P:Program}{Γ:List EnN}(hΓ: ∀e∈Γ,e.OK P){s:St}{f:FuncId}{xs ats}{a:CallN}(h:Vr Γ s f (xs.toList.map s.ev)=some a){b:Bool}{u:a.α}(hu:a.o=some (b,u)):QS P s (.call ⟨.value (.func f),xs,ats⟩) (a.y b u):=by
 unfold Vr at h;split at h
 case h_2=>cases h
 rename_i e he;cases ho:(CX e.S.rs||(Dm e.S.rs&&HG (xs.toList.map s.ev)))with
 |false=>rw [ho]at h;cases h
 |true=>
  rw [ho]at h;simp only [cond_true]at h;split at h
  case h_2=>cases h
  rename_i z hz;cases h;obtain⟨⟨hc,hft⟩,rfl⟩:=Qb hΓ he;obtain⟨hu,hcd⟩:=DQ hu;exact Ld hc (hft z b u hu) hz hcd ho
theorem P0{s:St}{ys:List Sl}(h:HG (ys.map some)=true):(ys.map (Sl.v s.r)).any AP=false:=by
 have:=P1 (s:=⟨fun i=>ys.getD i (.one .dead),s.r⟩) (xs:=(List.range ys.length).map Operand.tmp) (by
  have e:((List.range ys.length).map Operand.tmp).map (St.ev ⟨fun i=>ys.getD i (.one .dead),s.r⟩)=ys.map some:=by
   rw [List.map_map];apply List.ext_getElem (by simp)
   intro i h1 h2;have hi:i<ys.length:=by simpa using h1
   have:(St.ev ⟨fun i=>ys.getD i (.one .dead),s.r⟩ (.tmp i))=some (ys.getD i (.one .dead)):=rfl
   simp only [List.getElem_map,List.getElem_range,Function.comp];show some (ys.getD i (.one .dead))=_;simp [hi]
  rw [e];exact h)
 have e2:((List.range ys.length).map Operand.tmp).map (St.den ⟨fun i=>ys.getD i (.one .dead),s.r⟩).ev=ys.map (Sl.v s.r):=by
  rw [List.map_map];apply List.ext_getElem (by simp)
  intro i h1 h2;have hi:i<ys.length:=by simpa using h1
  have:(St.den ⟨fun i=>ys.getD i (.one .dead),s.r⟩).ev (.tmp i)=(ys.getD i (.one .dead)).v s.r:=rfl
  simp only [List.getElem_map,List.getElem_range,Function.comp];show(ys.getD i (.one .dead)).v s.r=_;simp [hi]
 rw [e2]at this;exact this
def allS:List (Option Sl)->Option (List Sl)
 | []=>some []
 |some y::l=>match allS l with
  |some m=>some (y::m)
  |none=>none
 |none::_=>none
theorem W7{s:St}: ∀ {xs:List Operand} {ys:List Sl},allS (xs.map s.ev)=some ys->xs.map s.den.ev=ys.map (Sl.v s.r)
 | [],ys,h=>by cases h;rfl
 |x::xs,ys,h=>by
  rw [List.map_cons]at h;cases hx:s.ev x with
  |none=>rw [hx]at h;cases h
  |some y=>
   rw [hx]at h;unfold allS at h;split at h
   case h_2=>cases h
   rename_i m hm;cases h;rw [List.map_cons,List.map_cons,Bd hx,W7 hm]
def cloS(s:St)(y:Nat):Option (FuncId×List Sl):=match s.t y with
 | .one (.c (.clo g t) _ x)=>bif Nat.blt g 1000000 then some (g,(Ax t 0 x).map .one)else none
 |_=>none
def cloF(s:St):Op->Option (FuncId×List Sl)
 | .call c=>match c.callee with
  | .value (.tmp y)=>match cloS s y,allS (c.args.toList.map s.ev)with
   |some (g,cs),some ys=>some (g,ys++cs)
   |_,_=>none
  |_=>none
 |_=>none
theorem UG{P:Program}{Γ:List En}(hΓ:Mw P Γ){s:St}{op:Op}{g:FuncId}{ys:List Sl}{a:UP}(hf:cloF s op=some (g,ys))(h:Je Γ s g (ys.map some)=some a){u:a.α}(hu:a.o=some u):QS P s op (a.y u):=by
 unfold cloF at hf;split at hf
 case h_2=>cases hf
 rename_i c;obtain⟨callee,xs,ats⟩:=c;split at hf
 case h_2=>cases hf
 rename_i y hcal;have hcal:callee= .value (.tmp y):=hcal;subst hcal;split at hf
 case h_2=>cases hf
 rename_i g' cs zs hcs hzs;cases hf;unfold cloS at hcs;split at hcs
 case h_2=>cases hcs
 rename_i g2 t d x hy;cases hlt:Nat.blt g2 1000000 with
 |false=>rw [hlt]at hcs;cases hcs
 |true=>
 rw [hlt]at hcs;cases hcs;obtain⟨e,he,hef,hx⟩:=IX h;subst hef;clear h;unfold Kn at hx;have h:=hx;clear hx;cases ho:(CX e.S.rs||(Dm e.S.rs&&HG ((zs++(Ax t 0 x).map Sl.one).map some)))with
 |false=>rw [ho]at h;cases h
 |true=>
  rw [ho]at h;simp only [cond_true]at h;split at h
  case h_2=>cases h
  rename_i z hz;cases h;obtain⟨hc,hft⟩:=hΓ e he;obtain⟨hu,hcd⟩:=DQ hu
  have hev:s.den.ev (.tmp y)= .many (.cl e.f) t.w fun k=>(tyV t 0 x).getD k .dead:=by
   show(s.t y).v s.r=_;rw [hy];rfl
  have htab:(xs.toList.map s.den.ev)++tab t.w (fun k=>(tyV t 0 x).getD k .dead)=(zs++(Ax t 0 x).map Sl.one).map (Sl.v s.r):=by
   rw [W7 hzs,List.map_append]
   congr 1
   have h1:tab t.w (fun k=>(tyV t 0 x).getD k .dead)=tyV t 0 x:=by
    have:=IW (l:=tyV t 0 x) t.w (by rw [AA];exact Nat.le_refl _)
    rw [this];exact List.take_of_length_le (by rw [AA];exact Nat.le_refl _)
   rw [h1,List.map_map];exact(Cl.v_c (r:=s.r) t 0 x).symm
  rw [Bool.or_eq_true,bAE]at ho;have hok:Dm e.S.rs=true:=ho.elim Hy (·.1)
  show Nq P (s.r.map Ae.v) (s.den.ev (.tmp y)) (xs.toList.map s.den.ev) (SK s _);rw [hev];show Nat.blt e.f 1000000=true/\Call P e.f (((xs.toList.map s.den.ev)++tab t.w (fun k=>(tyV t 0 x).getD k .dead)).any AP) (((xs.toList.map s.den.ev)++tab t.w (fun k=>(tyV t 0 x).getD k .dead)).map (BQ (s.r.map Ae.v))) (SK s _)
  rw [htab];refine⟨hlt,Js true e.S.rs u,⟨hc,FC.sub1 (by rw [Hf];exact hft z u hu) (Lv _ _ _ hz hcd)⟩,fun hl=>?_,?_⟩
  ·rcases ho with ho|⟨_,ho⟩
   ·exact Dp _ _ _ ho
   ·rw [P0 ho]at hl;cases hl
  ·show Sub _ ((Mx true e.S.rs u).v s.r)
   rw [PH _ _ _ hok];exact Sub.refl _
def strB(a b:String):Bool:=a==b
def X9:List (String×Nat)->String->Option Nat
 | [],_=>none
 |(a,f)::l,s=>bif strB a s then some f else X9 l s
theorem NF{s:String}{f:Nat}: ∀ {l:List (String×Nat)},X9 l s=some f->(s,f)∈l
 | [],h=>by cases h
 |(a,f')::l,h=>by
  unfold X9 at h;cases hb:strB a s with
  |false=>rw [hb]at h;exact mCM _ (NF h)
  |true=>
   rw [hb]at h;cases h;have:a=s:=by unfold strB at hb;simpa using hb
   rw [this];exact List.mem_cons_self ..
def cloI(Θ:Tab)(s:St):Op->Option (FuncId×List Sl)
 | .call c=>match c.callee with
  | .invoke (.tmp y) nm=>match s.t y with
   | .one (.c (.clo g t) _ x)=>bif Nat.ble 1000000 g&&Nat.beq t.w 1 then(match Θ.look (g-1000000)with
    |some i=>match X9 i.met nm,allS (c.args.toList.map s.ev)with
     |some f,some ys=>some (f,(Ax t 0 x).map .one++ys)
     |_,_=>none
    |none=>none)else none
   |_=>none
  |_=>none
 |_=>none
theorem UF{P:Program}{Θ:Tab}(hΘ:Θ.OK P){Γ:List En}(hΓ:Mw P Γ){s:St}{op:Op}{g:FuncId}{ys:List Sl}{a:UP}(hf:cloI Θ s op=some (g,ys))(h:Je Γ s g (ys.map some)=some a){u:a.α}(hu:a.o=some u):QS P s op (a.y u):=by
 unfold cloI at hf;split at hf
 case h_2=>cases hf
 rename_i c;obtain⟨callee,xs,ats⟩:=c;split at hf
 case h_2=>cases hf
 rename_i y nm hcal;have hcal:callee= .invoke (.tmp y) nm:=hcal;subst hcal;split at hf
 case h_2=>cases hf
 rename_i g2 t d x hy;cases hgt:(Nat.ble 1000000 g2&&Nat.beq t.w 1)with
 |false=>rw [hgt]at hf;cases hf
 |true=>
 rw [hgt]at hf;simp only [cond_true]at hf;rw [bAE]at hgt;obtain⟨hg1,hg2⟩:=hgt;have hg1:=blE hg1;have hg2:t.w=1:=bqE hg2;split at hf
 case h_2=>cases hf
 rename_i i hi;split at hf
 case h_2=>cases hf
 rename_i f zs hfm hzs;cases hf;have hmet:=hΘ.met hi (NF hfm);obtain⟨e,he,hef,hx⟩:=IX h;subst hef;clear h;unfold Kn at hx;have h:=hx;clear hx;cases ho:(CX e.S.rs||(Dm e.S.rs&&HG (((Ax t 0 x).map Sl.one++zs).map some)))with
 |false=>rw [ho]at h;cases h
 |true=>
  rw [ho]at h;simp only [cond_true]at h;split at h
  case h_2=>cases h
  rename_i z hz;cases h;obtain⟨hc,hft⟩:=hΓ e he;obtain⟨hu,hcd⟩:=DQ hu
  have hev:s.den.ev (.tmp y)= .many (.cl g2) t.w fun k=>(tyV t 0 x).getD k .dead:=by
   show(s.t y).v s.r=_;rw [hy];rfl
  have htab:tab t.w (fun k=>(tyV t 0 x).getD k .dead)++(xs.toList.map s.den.ev)=((Ax t 0 x).map Sl.one++zs).map (Sl.v s.r):=by
   rw [W7 hzs,List.map_append]
   congr 1
   have h1:tab t.w (fun k=>(tyV t 0 x).getD k .dead)=tyV t 0 x:=by
    have:=IW (l:=tyV t 0 x) t.w (by rw [AA];exact Nat.le_refl _)
    rw [this];exact List.take_of_length_le (by rw [AA];exact Nat.le_refl _)
   rw [h1,List.map_map];exact(Cl.v_c (r:=s.r) t 0 x).symm
  rw [Bool.or_eq_true,bAE]at ho;have hok:Dm e.S.rs=true:=ho.elim Hy (·.1)
  show Ns P (s.r.map Ae.v) (s.den.ev (.tmp y)) nm (xs.toList.map s.den.ev) (SK s _);rw [hev];show ∃t' fn,(g2=1000000+t'/\t.w=1/\X8 P t' nm=some fn)/\Call P fn ((tab t.w (fun k=>(tyV t 0 x).getD k .dead)++(xs.toList.map s.den.ev)).any AP) ((tab t.w (fun k=>(tyV t 0 x).getD k .dead)++(xs.toList.map s.den.ev)).map (BQ (s.r.map Ae.v))) (SK s _)
  rw [htab];refine⟨g2-1000000,e.f,⟨by omega,hg2,hmet⟩,Js true e.S.rs u,⟨hc,FC.sub1 (by rw [Hf];exact hft z u hu) (Lv _ _ _ hz hcd)⟩,fun hl=>?_,?_⟩
  ·rcases ho with ho|⟨_,ho⟩
   ·exact Dp _ _ _ ho
   ·rw [P0 ho]at hl;cases hl
  ·show Sub _ ((Mx true e.S.rs u).v s.r)
   rw [PH _ _ _ hok];exact Sub.refl _
def capL(s:St):List Operand->Option (List Cl)
 | []=>some []
 |x::xs=>match s.ev x with
  |some (.one (.c t d y))=>bif t.one&& !(Cl.c t d y).own then(match capL s xs with
   |some l=>some (.c t 0 y::l)
   |none=>none)else none
  |_=>none
def capR(s:St):List Operand->Option (List Cl)
 | []=>some []
 |x::xs=>match s.ev x with
  |some (.one y)=>bif y.own then none else(match capR s xs with
   |some l=>some (y::l)
   |none=>none)
  |_=>none
theorem Zc{s:St}: ∀ {xs:List Operand} {l:List Cl},capR s xs=some l->xs.map s.den.ev=l.map (Cl.v s.r)/\(xs.map s.den.ev).all (fun v=>!AS v)=true
 | [],l,h=>by cases h;exact⟨rfl,rfl⟩
 |x::xs,l,h=>by
  unfold capR at h;split at h
  case h_2=>cases h
  rename_i y hx;cases hb:y.own with
  |true=>rw [hb]at h;cases h
  |false=>
   rw [hb]at h;simp only [cond_false]at h;split at h
   case h_2=>cases h
   rename_i m hm;cases h;obtain⟨h1,h2⟩:=Zc hm;have hev:s.den.ev x=y.v s.r:=Bd hx;refine⟨by rw [List.map_cons,List.map_cons,hev,h1],?_⟩
   rw [List.map_cons,List.all_cons,hev,Cl.own_v,hb,h2];rfl
def tMkG(g:Nat)(s:St)(caps:List Operand):Option TR:=match capL s caps with
  |some l=>match Iw l with
   |some ⟨t,x⟩=>some (.ok (.one (.c (.clo g t) 0 x)))
   |none=>none
  |none=>match capR s caps with
   |some l=>some (.ok (.pk (.cl g) l))
   |none=>none
def tMkF(s:St)(fn:Fn)(first:List Operand)(caps:List Operand):Option TR:=match fn,first with
 | .func g,[]=>bif Nat.blt g 1000000 then tMkG g s caps else none
 |_,_=>none
def tMkI(Θ:Tab)(s:St)(t:TypeId)(x:Operand):Option TR:=match Θ.look t with
 |some i=>match i.met with
  | []=>none
  |_::_=>tMkG (1000000+t) s [x]
 |none=>none
theorem Zd{s:St}: ∀ {xs:List Operand} {l:List Cl},capL s xs=some l->xs.map s.den.ev=(l.map Cl.v0).map frz/\(xs.map s.den.ev).all (fun v=>!AS v)=true/\l.length=xs.length
 | [],l,h=>by cases h;exact⟨rfl,rfl,rfl⟩
 |x::xs,l,h=>by
  unfold capL at h;split at h
  case h_2=>cases h
  rename_i t d y hx;cases hb:(t.one&& !(Cl.c t d y).own)with
  |false=>rw [hb]at h;cases h
  |true=>
   rw [hb]at h;simp only [cond_true]at h;split at h
   case h_2=>cases h
   rename_i m hm;cases h;rw [bAE]at hb;obtain⟨h1,h2,h3⟩:=Zd hm;have hev:s.den.ev x=cV t d y:=Bd hx
   have hown:AS (cV t d y)=false:=by
    have:=Cl.own_v (r:=s.r) (.c t d y);have e:(Cl.c t d y).own=false:=by simpa using hb.2
    rw [e]at this;exact this
   have hz:cV t d y=frz (cV t 0 y):=by
    rw [WC hb.1];cases t<;>first|rfl|(cases d<;>first|rfl|(cases hown;done))|(cases y<;>cases d<;>first|rfl|(cases hown;done))
   refine⟨?_,?_,by simp [h3]⟩
   ·rw [List.map_cons,List.map_cons,List.map_cons,hev,h1,hz];rfl
   ·rw [List.map_cons,List.all_cons,hev,hown,h2];rfl
theorem YJ{g:Nat}{s:St}{caps:List Operand}{a:TR}(h:tMkG g s caps=some a): ∃y,a= .ok y/\(caps.map s.den.ev).all (fun v=>!AS v)=true/\Sub (V.many (.cl g) (caps.map s.den.ev).length fun k=>(caps.map s.den.ev).getD k .dead) (y.v s.r):=by
 unfold tMkG at h;split at h
 case h_2=>
  split at h
  case h_2=>cases h
  rename_i l hl;cases h;obtain⟨h1,h2⟩:=Zc hl;refine⟨_,rfl,h2,?_⟩;show Sub _ (pkL (.cl g) (l.map (Cl.v s.r)));rw [h1];exact Sub.refl _
 rename_i l hl;split at h
 case h_2=>cases h
 rename_i t x hd;cases h;obtain⟨h1,h2,h3⟩:=Zd hl;have e:=Ds _ _ hd;refine⟨_,rfl,h2,?_⟩;show Sub _ (V.many (.cl g) t.w fun k=>(tyV t 0 x).getD k .dead)
 rw [h1,<-e,AA];exact Sub.refl _
theorem QM{P:Program}{s:St}{fn:Fn}{first caps:Array Operand}{a:TR}(h:tMkF s fn first.toList caps.toList=some a):QS P s (.makeFunc fn first caps) a.y:=by
 unfold tMkF at h;split at h
 case h_2=>cases h
 rename_i g hf;cases hlt:Nat.blt g 1000000 with
 |false=>rw [hlt]at h;cases h
 |true=>
 rw [hlt]at h;obtain⟨y,rfl,h1,h2⟩:=YJ h
 show(match Fn.func g,first.toList with
  | .func g,[]=>qMkF g (caps.toList.map s.den.ev) (SK s _)
  |_,_=>False)
 rw [hf];exact⟨⟨hlt,h1⟩,h2⟩
theorem QL{P:Program}{Θ:Tab}(hΘ:Θ.OK P){s:St}{t:TypeId}{x:Operand}{a:TR}(h:tMkI Θ s t x=some a):QS P s (.makeInterface t x) a.y:=by
 unfold tMkI at h;split at h
 case h_2=>cases h
 rename_i i hi;split at h
 ·cases h
 rename_i p l hm;obtain⟨y,rfl,h1,h2⟩:=YJ h;have hu:=X7 (hΘ.met hi (nm:=p.1) (f:=p.2) (by rw [hm];exact List.mem_cons_self ..))
 have h1:AS (s.den.ev x)=false:=by simpa using h1
 refine⟨⟨h1,hu⟩,Sub.trans (v':=V.many (.cl (1000000+t)) 1 fun k=>[s.den.ev x].getD k .dead) ⟨_,rfl,fun k hk=>?_⟩ h2⟩
 obtain rfl:k=0:=by omega
 exact Sub.refl _
end Go.Ve


namespace Go.Ve
structure Mr where
 k:Nat
 ps:List (Bool×Ty)
 t:Ty
 d:Nat
 eat:Bool
 rs:List (Bool×Nat×Ty)
def Uu(k:Nat)(l:List V):List V:=l.take k++ .dead::l.drop k
theorem I3{k:Nat}{l:List V}:(Uu k l).length=l.length+1:=by
 unfold Uu;simp;omega
theorem Aan{k i:Nat}{l:List V}(h:i<k)(hk:k<=l.length):(Uu k l).getD i .dead=l.getD i .dead:=by
 unfold Uu;simp only [gDE];rw [gAL (by simp;omega),List.getElem?_take,if_pos h]
theorem Aao{k i:Nat}{l:List V}(h:k<=i)(hk:k<=l.length):(Uu k l).getD (i+1) .dead=l.getD i .dead:=by
 unfold Uu;have e:(l.take k).length=k:=by simp;omega
 simp only [gDE];rw [gAR (by omega),e,show i+1-k=(i-k)+1 by omega,List.getElem?_cons_succ,List.getElem?_drop,show k+(i-k)=i by omega]
def isTr:Ty->Bool
 | .sl _=>true
 | .ptr _=>true
 |_=>false
def Mr.ok(S:Mr):Bool:=Nat.blt 0 S.d&&Nat.ble S.k S.ps.length&&isTr S.t
def FTU(P:Program)(f:FuncId)(S:Mr)(g:(PT S.ps).T->S.t.T->Option ((RT S.rs).T×S.t.T)):Prop:=
 ∀z x u,g z x=some u->FCU P f S.k (Uu S.k (CB S.ps z)) (cV S.t S.d x) (VL S.rs u.1) (bif S.eat then .dead else cV S.t S.d u.2)
structure EnU where
 f:FuncId
 S:Mr
 g:(PT S.ps).T->S.t.T->Option ((RT S.rs).T×S.t.T)
def JD:List EnU->FuncId->Option EnU
 | [],_=>none
 |e::l,f=>bif Nat.beq e.f f then some e else JD l f
def EnU.OK(P:Program)(e:EnU):Prop:=Af P e.f=true/\e.S.ok=true/\FTU P e.f e.S e.g
theorem Qa{P:Program}{f:FuncId}{e:EnU}: ∀ {Γ:List EnU},(∀e∈Γ,e.OK P)->JD Γ f=some e->e.OK P/\e.f=f
 | [],_,h=>by cases h
 |a::l,hΓ,h=>by
  unfold JD at h;cases hb:Nat.beq a.f f with
  |true=>
   rw [hb]at h;cases h;exact⟨hΓ _ (List.mem_cons_self ..),bqE hb⟩
  |false=>rw [hb]at h;exact Qa (fun e he=>hΓ e (mCM _ he)) h
theorem Cl.lend_id{σ:List V}{r:List Ae}{c:Cl}(h:c.lent=false):BQ σ (c.v r)=c.v r:=by
 cases c with
 |c t d x=>
  have h:(Cl.c t d x).own=false:=h;have e0: ∀ {t:Ty} (x:t.T),t.one=true->BQ σ (cV t 0 x)=cV t 0 x:=fun{t} x ht=>Da t x _ (by rw [BR ht];exact List.mem_singleton.2 rfl)
  cases t with
  |int k=>rfl
  |bool=>rfl
  |str=>rfl
  |unit=>rfl
  |pair a b=>rfl
  |sl t=>cases d with
   |zero=>exact e0 (t:=.sl t) x rfl
   |succ d=>cases h
  |ptr t=>cases d with
   |zero=>exact e0 (t:=.ptr t) x rfl
   |succ d=>cases h
  |clo g t=>exact e0 (t:=.clo g t) x rfl
  |osl t=>cases d with
   |zero=>exact e0 (t:=.osl t) x rfl
   |succ d=>cases x with
    |none=>rfl
    |some y=>cases h
 |rf=>cases h
 |rs=>cases h
 |rp=>cases h
 |_=>rfl
theorem Cl.clean_v{r:List Ae}{c:Cl}(h:c.lent=false):clean (c.v r):=by
 cases c with
 |c t d x=>
  cases t with
  |osl t=>cases x<;>exact trivial
  |clo g t=>
   have: ∀ (t:Ty) (x:t.T),∀v∈tyV t 0 x,clean v:=by
    intro t
    induction t with
    |int k=>intro x v hv;simp [tyV]at hv;subst hv;trivial
    |bool=>intro x v hv;simp [tyV]at hv;subst hv;trivial
    |str=>intro x v hv;simp [tyV]at hv;subst hv;trivial
    |sl t _=>intro x v hv;simp only [tyV,List.mem_singleton]at hv;subst hv;trivial
    |ptr t _=>intro x v hv;simp only [tyV,List.mem_singleton]at hv;subst hv;trivial
    |unit=>intro x v hv;simp [tyV]at hv
    |pair a b iha ihb=>
     intro x v hv;simp only [tyV,List.mem_append]at hv;exact hv.elim (iha x.1 v) (ihb x.2 v)
    |osl t _=>
     intro x v hv;simp only [tyV,List.mem_singleton]at hv;subst hv;cases x<;>trivial
    |clo g t ih=>
     intro x v hv;simp only [tyV,List.mem_singleton]at hv;subst hv;intro k hk;refine ih x _ ?_;show(tyV t 0 x).getD k .dead∈_;rw [gDE,gEE (by rw [AA];exact hk)]
     exact List.getElem_mem _
   exact this (.clo g t) x _ (List.mem_singleton.2 rfl)
  |_=>trivial
 |rf=>cases h
 |rs=>cases h
 |rp=>cases h
 |_=>trivial
theorem Mn{l:List Cl}(h:l.any Cl.lent=false): ∀c∈l,c.lent=false:=fun c hc=>by
 have:=List.any_eq_false.1 h c hc;simpa using this
theorem P6{σ:List V}{r:List Ae}{l:List Cl}(h:l.any Cl.lent=false):(l.map (Cl.v r)).map (BQ σ)=l.map (Cl.v r):=by
 rw [List.map_map];exact List.map_congr_left fun c hc=>Cl.lend_id (Mn h c hc)
def Sl.notB:Sl->Bool
 | .one _=>true
 | .agg _=>true
 | .pk (.cl _) _=>true
 |_=>false
theorem uArg_v{s:St}{b:Bool}{t:Ty}{y:Sl}{z:t.T}(hl:y.lent=false)(hb:y.notB=true)(h:Jf s b t (some y)=some z):Sub (y.v s.r) (vOf b t 0 z)/\AS (y.v s.r)=false/\clean (y.v s.r):=by
 have many: ∀ (tg:Tg) (l:List Cl),l.any Cl.lent=false->AS (pkL tg (l.map (Cl.v s.r)))=false/\clean (pkL tg (l.map (Cl.v s.r))):=by
  intro tg l h;refine⟨?_,fun k hk=>?_⟩
  ·have e:AS ((Sl.pk tg l).v s.r)=l.any Cl.own:=Sl.own_v (.pk tg l)
   refine e.trans ?_;rw [List.any_eq_false];intro c hc;have h1:=Mn h c hc;cases c with
   |c t d x=>rw [show(Cl.c t d x).own=false from h1];simp
   |_=>simp [Cl.own]
  ·have hk:k<l.length:=by simpa using hk
   show clean ((l.map (Cl.v s.r)).getD k .dead);rw [AB (f:=Cl.v s.r) (a:=.dead) rfl];refine Cl.clean_v (Mn h _ ?_);simp [hk]
 cases y with
 |one c=>
  have hc:c.lent=false:=hl;refine⟨?_,?_,Cl.clean_v hc⟩
  ·unfold Jf at h
   cases b with
   |true=>cases h
   |false=>
    cases ho:t.one with
    |false=>rw [ho]at h;cases h
    |true=>
     rw [ho]at h;simp only [cond_false,cond_true]at h;split at h
     case h_2=>cases h
     rename_i y' hy;obtain⟨_,h2,h3⟩:=L5 hy;have h3:=h3 fun id p i k e=>by rw [e]at hc;cases hc
     rw [Cl.lend_id hc]at h3;obtain⟨g1,_⟩:=LT h s.r;have g1:Sub y'.v0 (vOf false t 0 z):=h2▸g1;exact h3.trans g1
  ·have e:AS (c.v s.r)=c.own:=Cl.own_v c
   refine e.trans ?_;cases c with
   |c t d x=>exact hc
   |_=>rfl
 |agg l=>
  have hc:l.any Cl.lent=false:=hl;refine⟨?_,many .ag l hc⟩;unfold Jf at h;cases b with
  |false=>cases h
  |true=>
   simp only [cond_true]at h;split at h
   case h_2=>cases h
   rename_i l' hl';show Sub (Ai _) (Ai _);refine CQ.mk ?_;have h1:=L3 hl';rw [P6 hc]at h1;exact CQ.trans h1 (C7 h s.r).1
 |pk tg l=>
  have hc:l.any Cl.lent=false:=hl;cases tg with
  |cl g=>
   refine⟨?_,many (.cl g) l hc⟩;unfold Jf at h;cases b with
   |true=>cases h
   |false=>
    simp only [cond_false]at h;split at h
    case h_2=>cases h
    rename_i g' u;cases hb:Nat.beq g g' with
    |false=>rw [hb]at h;cases h
    |true=>
     rw [hb]at h;simp only [cond_true]at h;have hg:=bqE hb;subst hg;split at h
     case h_2=>cases h
     rename_i l' hl'
     have e:V.many (.cl g) u.w (fun k=>(tyV u 0 z).getD k .dead)=pkL (.cl g) (tyV u 0 z):=by
      unfold pkL;rw [AA]
     show Sub (pkL (.cl g) _) (V.many (.cl g) u.w fun k=>(tyV u 0 z).getD k .dead)
     rw [e];have h1:=L4 hl';rw [P6 hc]at h1;exact CQ.pk (CQ.trans h1 (C7 h s.r).1)
  |ag=>cases hb
  |tu=>cases hb
  |bx=>cases hb
 |new l=>cases hb
 |tup l=>cases hb
def uok:Option Sl->Bool
 |some y=>!y.lent&&y.notB
 |none=>false
theorem uok_v{s:St}{b:Bool}{t:Ty}{x:Operand}{z:t.T}(hu:uok (s.ev x)=true)(h:Jf s b t (s.ev x)=some z):AS (s.den.ev x)=false/\clean (s.den.ev x)/\Sub (s.den.ev x) (vOf b t 0 z):=by
 cases hx:s.ev x with
 |none=>rw [hx]at hu;cases hu
 |some y=>
  rw [hx]at hu h;simp only [uok,bAE,Bool.not_eq_true']at hu;obtain⟨h1,h2,h3⟩:=uArg_v hu.1 hu.2 h;rw [Bd hx];exact⟨h2,h3,h1⟩
theorem U3{s:St}: ∀ (ps:List (Bool×Ty)) (xs:List Operand) (z:(PT ps).T),IS s ps (xs.map s.ev)=some z->(xs.map s.ev).all uok=true->
  xs.length=(CB ps z).length/\∀i x,xs[i]? =some x->AS (s.den.ev x)=false/\clean (s.den.ev x)/\Sub (s.den.ev x) ((CB ps z).getD i .dead)
 | [],[],z,_,_=>⟨rfl,fun i x h=>by simp at h⟩
 | [p],[x],z,h,hu=>by
  have hu:(uok (s.ev x)&&true)=true:=hu;rw [Bool.and_true]at hu;refine⟨rfl,fun i x' hx=>?_⟩
  cases i with
  |zero=>
   cases hx;exact uok_v hu h
  |succ i=>simp at hx
 |p::q::l,x::xs,z,h,hu=>by
  have h:(match Jf s p.1 p.2 (s.ev x)with
   |some z=>match IS s (q::l) (xs.map s.ev)with
    |some zs=>some (z,zs)
    |none=>none
   |none=>none:Option (PT (p::q::l)).T)=some z:=h
  have hu:(uok (s.ev x)&&(xs.map s.ev).all uok)=true:=hu;rw [bAE]at hu;split at h
  case h_2=>cases h
  rename_i z1 h1;split at h
  case h_2=>cases h
  rename_i zs h2;cases h;obtain⟨k1,k2⟩:=U3 (q::l) xs zs h2 hu.2;refine⟨by show xs.length+1=(CB (q::l) zs).length+1;rw [k1],fun i x' hx=>?_⟩
  cases i with
  |zero=>
   cases hx;exact uok_v hu.1 h1
  |succ i=>exact k2 i x' (by simpa using hx)
 | [],_::_,_,h,_=>by cases h
 | [_],[],_,h,_=>by cases h
 | [_],_::_::_,_,h,_=>by cases h
 |_::_::_,[],_,h,_=>by cases h
def CM(k:Nat)(l:List Operand):List Operand:=l.take k++l.drop (k+1)
theorem UC{k:Nat}{l:List Operand}(h:k<l.length):(CM k l).length+1=l.length:=by
 unfold CM;simp;omega
theorem NU{k i:Nat}{l:List Operand}(h:i<k)(hk:k<l.length):(CM k l)[i]? =l[i]?:=by
 unfold CM;rw [gAL (by simp;omega),List.getElem?_take,if_pos h]
theorem NV{k i:Nat}{l:List Operand}(h:k<=i)(hk:k<l.length):(CM k l)[i]? =l[i+1]?:=by
 unfold CM;have e:(l.take k).length=k:=by simp;omega
 rw [gAR (by omega),e,List.getElem?_drop]
 congr 1
 omega
theorem Zo{s:St}{k:Nat}{ps:List (Bool×Ty)}{xs:List Operand}{z:(PT ps).T}(hk:k<xs.length)(h:IS s ps ((CM k xs).map s.ev)=some z)(hu:((CM k xs).map s.ev).all uok=true):
  xs.length=(Uu k (CB ps z)).length/\∀i x,i≠k->xs[i]? =some x->AS (s.den.ev x)=false/\clean (s.den.ev x)/\Sub (s.den.ev x) ((Uu k (CB ps z)).getD i .dead):=by
 obtain⟨h1,h2⟩:=U3 ps (CM k xs) z h hu;have hl:=UC hk;refine⟨by rw [I3];omega,fun i x hik hx=>?_⟩
 rcases Nat.lt_or_ge i k with hlt|hge
 ·have:=h2 i x (by rw [NU hlt hk];exact hx)
  rw [Aan hlt (by omega)]
  exact this
 ·obtain⟨j,rfl⟩: ∃j,i=j+1:=⟨i-1,by omega⟩
  have:=h2 j x (by rw [NV (by omega) hk];exact hx)
  rw [Aao (by omega) (by omega)]
  exact this
def Yi:(t:Ty)->t.T->Bool
 | .sl _,xs=>ltI (Int.ofNat 0) (ofN (JF xs))
 | .ptr _,_=>true
 |_,_=>false
theorem Aaq{t:Ty}{d:Nat}{x:t.T}(hd:0<d)(h:Yi t x=true):KQ (cV t d x):=by
 have hd:decide (0<d)=true:=dT hd;cases t with
 |sl t=>
  refine⟨true,_,_,_,show arr (decide (0<d)) _ _ _ x=_ by rw [hd];rfl,.inr ?_⟩
  have h:decide ((0:Int)<((x.length:Nat):Int))=true:=h;have:=of_decide_eq_true h;omega
 |ptr t=>exact⟨false,_,_,_,show Bk (decide (0<d)) _=_ by rw [hd];rfl,.inl rfl⟩
 |_=>cases h
theorem treeND{t:Ty}{d:Nat}{x:t.T}(hd:0<d)(h:isTr t=true): ∃s sz n f,cV t d x= .nd s true sz n f:=by
 have hd:decide (0<d)=true:=dT hd;cases t with
 |sl t=>exact⟨true,_,_,_,show arr (decide (0<d)) _ _ _ x=_ by rw [hd];rfl⟩
 |ptr t=>exact⟨false,_,_,_,show Bk (decide (0<d)) _=_ by rw [hd];rfl⟩
 |_=>cases h
theorem Dt{P:Program}: ∀e∈([]:List EnU),e.OK P:=fun _ h=>by cases h
theorem BK{P:Program}{e:EnU}{l:List EnU}(h1:Af P e.f=true)(h0:e.S.ok=true)(h2:FTU P e.f e.S e.g)(hl: ∀e∈l,e.OK P): ∀x∈e::l,x.OK P:=by
 intro x hx;rcases List.mem_cons.1 hx with rfl|hx
 ·exact⟨h1,h0,h2⟩
 ·exact hl x hx
end Go.Ve


namespace Go.Ve
def Bm(m:Nat):List Cl->List Cl×List Ae
 | []=>([],[])
 | .c (.sl u) (d+1) xs::l=>(.rf m []::(Bm (m+1) l).1,.arr false u d xs::(Bm (m+1) l).2)
 |y::l=>(y::(Bm m l).1,(Bm m l).2)
abbrev WP:=Bool×Bool×Ty
def QA(p:WP)(x:p.2.2.T)(m:Nat):Sl×List Ae:=
 bif p.1 then(bif p.2.1 then .agg (Bm m (Ax p.2.2 p.2.2.dep x)).1 else .one ((Bm m (Ax p.2.2 p.2.2.dep x)).1.getD 0 .dead),(Bm m (Ax p.2.2 p.2.2.dep x)).2)
 else(bif p.2.1 then .agg (Ax p.2.2 0 x)else .one (.c p.2.2 0 x),[])
def PTW:List WP->Ty
 | []=>.unit
 | [p]=>p.2.2
 |p::q::l=>.pair p.2.2 (PTW (q::l))
def BP:(ps:List WP)->(PTW ps).T->Nat->List Sl×List Ae
 | [],_,_=>([],[])
 | [p],x,m=>([(QA p x m).1],(QA p x m).2)
 |p::q::l,x,m=>((QA p x.1 m).1::(BP (q::l) x.2 (m+(QA p x.1 m).2.length)).1,(QA p x.1 m).2++(BP (q::l) x.2 (m+(QA p x.1 m).2.length)).2)
def ZI:Ty->List Ty
 | .sl t=>[.sl t]
 | .pair a b=>ZI a++ZI b
 |_=>[]
def IF:List WP->List Ty
 | []=>[]
 |p::l=>(bif p.1 then ZI p.2.2 else [])++IF l
structure SigW where
 ps:List WP
 rt:Ty
def Ty.sc:Ty->Bool
 | .int _=>true
 | .bool=>true
 | .str=>true
 |_=>false
def scV:(t:Ty)->t.T->Value
 | .int k,n=>.int k n
 | .bool,b=>.bool b
 | .str,s=>.string s
 |_,_=>undef
def wty:List Ty->Ty
 | []=>.unit
 | [t]=>t
 |t::u::l=>.pair t (wty (u::l))
def wOf:(tys:List Ty)->(wty tys).T->List (Σ t:Ty,t.T)
 | [],_=>[]
 | [t],x=>[⟨t,x⟩]
 |t::u::l,x=>⟨t,x.1⟩::wOf (u::l) x.2
def Iv:Ae->(Σ t:Ty,t.T)->Ae
 | .arr ro u d _,⟨.sl u',xs⟩=>if h:u'=u then .arr ro u d (h▸xs)else .dead
 |_,_=>.dead
def Ci:List Ae->List (Σ t:Ty,t.T)->List Ae
 |r::rs,y::ys=>Iv r y::Ci rs ys
 |_,_=>[]
def FTW(P:Program)(f:FuncId)(S:SigW)(g:(PTW S.ps).T->Option (S.rt.T×(wty (IF S.ps)).T)):Prop:=
 ∀x u,g x=some u->S.rt.sc=true/\(wOf (IF S.ps) u.2).length=(BP S.ps x 0).2.length/\(∀k,k<(BP S.ps x 0).2.length->(Ci (BP S.ps x 0).2 (wOf (IF S.ps) u.2)).getD k .dead≠.dead)/\
  FCW P f ((BP S.ps x 0).1.map (Sl.v (BP S.ps x 0).2)) ((BP S.ps x 0).2.map Ae.v) (scV S.rt u.1) ((Ci (BP S.ps x 0).2 (wOf (IF S.ps) u.2)).map Ae.v)
structure EnW where
 f:FuncId
 S:SigW
 g:(PTW S.ps).T->Option (S.rt.T×(wty (IF S.ps)).T)
def Wc:List EnW->FuncId->Option EnW
 | [],_=>none
 |e::l,f=>bif Nat.beq e.f f then some e else Wc l f
def EnW.OK(P:Program)(e:EnW):Prop:=Af P e.f=true/\FTW P e.f e.S e.g
theorem P9{P:Program}{f:FuncId}{e:EnW}: ∀ {Γ:List EnW},(∀e∈Γ,e.OK P)->Wc Γ f=some e->e.OK P/\e.f=f
 | [],_,h=>by cases h
 |a::l,hΓ,h=>by
  unfold Wc at h;cases hb:Nat.beq a.f f with
  |true=>
   rw [hb]at h;cases h;exact⟨hΓ _ (List.mem_cons_self ..),bqE hb⟩
  |false=>rw [hb]at h;exact P9 (fun e he=>hΓ e (mCM _ he)) h
end Go.Ve


namespace Go.Ve
def NZ(Θ:Tab)(t:TypeId):Option TI:=((Θ.look t).bind (·.elem)).bind Θ.look
def PB(Θ:Tab)(s:St):Builtin->List Operand->List TypeId->Option TR
 | .len,[x],[t]=>tLen s (Θ.look t) (s.ev x)
 | .min,[x,y],_=>tMin (s.ev x) (s.ev y)
 | .max,[x,y],_=>tMax (s.ev x) (s.ev y)
 |_,_,_=>none
def Aak:Operand->Bool
 | .const (.slice none 0 0)=>true
 |_=>false
def Pz(s:St)(i:Option TI)(x:Operand):Option TR:=bif Aak x then(match i with
 |some j=>some (.ok (.one (.c (.sl j.ty) (j.sd+1) [])))
 |none=>none)else ZB (s.ev x)
theorem IH{P:Program}{s:St}{x:Operand}{i:Option TI}{op:Op}{a:TR}(ho:op= .move x\/op= .assign x)(h:Pz s i x=some a):QS P s op a.y:=by
 unfold Pz at h;cases hb:Aak x with
 |false=>rw [hb]at h;exact Oq ho h
 |true=>
  rw [hb]at h;simp only [cond_true]at h;split at h
  case h_2=>cases h
  rename_i j;cases h;unfold Aak at hb;split at hb
  case h_2=>cases hb
  have:VW (s.den.ev (.const (.slice none 0 0))) (SK s (.one (.c (.sl j.ty) (j.sd+1) []))):=⟨rfl,.inr ⟨rfl,_,_,_,rfl⟩⟩;rcases ho with rfl|rfl<;>exact this
def tq(Θ:Tab)(s:St)(ty:TypeId):Op->Option TR
 | .move x=>Pz s (NZ Θ ty) x
 | .assign x=>Pz s (NZ Θ ty) x
 | .pick c x y=>Zz (s.ev c) (s.ev x) (s.ev y)
 | .load t x=>Vm s (Θ.look t) (s.ev x)
 | .fieldAddr t x k=>Vo s (Θ.look t) k (s.ev x)
 | .indexAddr t x i=>Ie s (NZ Θ t) (s.ev x) (s.ev i)
 | .index t x i=>Vn (Θ.look t) (s.ev x) (s.ev i)
 | .nilCheck x=>tNil (s.ev x)
 | .binOp op t x y _=>tBin (Θ.look t) op (s.ev x) (s.ev y)
 | .unOp op _ x=>tUn op (s.ev x)
 | .convert u v x=>ZD s.r (Θ.look u) (Θ.look v) (NZ Θ u) (NZ Θ v) (s.ev x)
 | .extract x k=>Lu k (s.ev x)
 | .build t ps=>Vs (Θ.look t) (ps.toList.map fun p=>(p.1,s.ev p.2))
 | .buildSlice t n ps=>Hd n (ps.toList.map fun p=>(p.1,s.ev p.2)) (NZ Θ t)
 | .alloc t=>Vu (Θ.look t)
 | .box _ x=>tBox (s.ev x)
 | .makeSlice t l c=>ZC (NZ Θ t) (s.ev l) (s.ev c)
 | .slice t x lo hi mx=>match mx with
  |none=>Vi s (Θ.look t) (NZ Θ t) (s.ev x) (Ko (lo.map s.ev)) (Ko (hi.map s.ev))
  |some _=>none
 | .call c=>match c.callee with
  | .builtin b=>PB Θ s b c.args.toList c.argTypes.toList
  |_=>none
 | .makeFunc fn first caps=>tMkF s fn first.toList caps.toList
 | .makeInterface t x=>tMkI Θ s t x
 |_=>none
theorem Pv{P:Program}{Θ:Tab}{s:St}(hΘ:Θ.OK P){ty:TypeId}{op:Op}{a:TR}(h:tq Θ s ty op=some a)(hp:a.p):QS P s op a.y:=by
 unfold tq at h;split at h
 case h_1=>exact IH (.inl rfl) h
 case h_2=>exact IH (.inr rfl) h
 case h_3=>exact Oo h
 case h_4=>exact Ou hΘ h hp
 case h_5=>exact MU hΘ h
 case h_6=>exact IR hΘ h hp
 case h_7=>exact MS hΘ h hp
 case h_8=>exact QJ h
 case h_9=>exact QU hΘ h hp
 case h_10=>exact Vf h
 case h_11=>exact Ov hΘ h hp
 case h_12=>exact J9 h
 case h_13=>exact MX hΘ h
 case h_14=>exact Ig hΘ h
 case h_15=>exact MY hΘ h
 case h_16=>exact QT h
 case h_17=>exact Ot hΘ h hp
 case h_18=>
  split at h
  ·exact MR hΘ h hp
  ·cases h
 case h_19 c=>
  obtain⟨callee,args,ats⟩:=c;split at h
  case h_2=>cases h
  rename_i b hb;have hb:callee= .builtin b:=hb;subst hb;unfold PB at h;split at h
  case h_4=>cases h
  ·rename_i x t hx ht
   rw [Yb (show args.toList= [x]from hx),Yb (show ats.toList= [t]from ht)]
   exact QQ hΘ h
  ·rename_i x y hx
   have e:args= #[x,y]:=by have hx:args.toList= [x,y]:=hx;cases args;simp at hx;simp [hx]
   subst e;exact QO h
  ·rename_i x y hx
   have e:args= #[x,y]:=by have hx:args.toList= [x,y]:=hx;cases args;simp at hx;simp [hx]
   subst e;exact QP h
 case h_20=>exact QM h
 case h_21=>exact QL hΘ h
 case h_22=>cases h
def Ay:V->V->Prop
 | .many t n f,v'=>v'= .dead\/∃g,v'= .many t n g/\∀k,k<n->Ay (f k) (g k)
 |v,v'=>v'= .dead\/Sub v v'
theorem Ay.of: ∀ {v v':V},Sub v v'->Ay v v':=by
 intro v
 induction v with
 |many t n f ih=>intro v' h;obtain⟨g,rfl,h⟩:=h;exact .inr ⟨g,rfl,fun k hk=>ih k (h k hk)⟩
 |_=>intro v' h;exact .inr h
theorem Ay.refl(v:V):Ay v v:=Ay.of (Sub.refl v)
theorem Ay.dead: ∀ (v:V),Ay v .dead:=by
 intro v;cases v<;>exact .inl rfl
theorem Ay.mk{l m:List V}(hl:l.length=m.length)(h: ∀k,k<l.length->Ay (l.getD k .dead) (m.getD k .dead)):Ay (Ai l) (Ai m):=by
 unfold Ai;rw [<-hl];exact .inr ⟨_,rfl,h⟩
theorem Ay.tup{l m:List V}(hl:l.length=m.length)(h: ∀k,k<l.length->Ay (l.getD k .dead) (m.getD k .dead)):Ay (Df l) (Df m):=by
 unfold Df;rw [<-hl];exact .inr ⟨_,rfl,h⟩
theorem Ay.pk{t:Tg}{l m:List V}(hl:l.length=m.length)(h: ∀k,k<l.length->Ay (l.getD k .dead) (m.getD k .dead)):Ay (pkL t l) (pkL t m):=by
 unfold pkL;rw [<-hl];exact .inr ⟨_,rfl,h⟩
theorem Rel.subS{D:Nat->Prop}{w:World}{R:V->Value->Prop}: ∀ {v v':V} {cv:Value},Ay v v'->Rel D w R v cv noF->Rel D w R v' cv noF:=by
 intro v
 induction v with
 |many t n f ih=>
  intro v' cv h hr;rcases h with rfl|⟨g,rfl,h⟩
  ·exact fun _ h=>h
  obtain⟨cs,F,hcv,hn,hr,hd,hf⟩:=hr;have hF: ∀k,k<n->F k=noF:=fun k hk=>Bb fun b hb=>(hf b).2 ⟨k,hk,hb⟩
  exact⟨cs,fun _=>noF,hcv,hn,fun k hk=>ih k (h k hk) (by have:=hr k hk;rw [hF k hk]at this;exact this),fun _ _ _ _ _ _ h=>h.elim,fun b=>⟨fun h=>h.elim,fun⟨_,_,h⟩=>h⟩⟩
 |_=>
  intro v' cv h hr;rcases h with rfl|h
  ·exact fun _ h=>h
  ·exact Rel.sub h hr
theorem At.sub'{w:World}: ∀ {p:A1} {v v1:V} {cv:Value} {s:Bool} {sz n:Nat} {f:Nat->Nat->V} {c:Value},Sub v v1->At w p v cv (.nd s true sz n f) c->∃f',At w p v1 cv (.nd s true sz n f') c
 | [],v,v1,cv,s,sz,n,f,c,h,ha=>by
  obtain⟨rfl,rfl⟩:=ha;obtain⟨g,rfl,_⟩:=h;exact⟨g,rfl,rfl⟩
 |(i,k)::p,.nd s0 true sz0 n0 f0,v1,cv,s,sz,n,f,c,h,ha=>by
  obtain⟨g,rfl,h⟩:=h;obtain⟨h1,h2,b,o,cap,x,h3,h4,h5⟩:=ha;obtain⟨f',h'⟩:=At.sub' (h i k h1 h2) h5;exact⟨f',h1,h2,b,o,cap,x,h3,h4,h'⟩
 |_::_,.nd _ false _ _ _,_,_,_,_,_,_,_,_,ha=>ha.elim
 |_::_,.c _,_,_,_,_,_,_,_,_,ha=>ha.elim
 |_::_,.dead,_,_,_,_,_,_,_,_,ha=>ha.elim
 |_::_,.many ..,_,_,_,_,_,_,_,_,ha=>ha.elim
 |_::_,.rs ..,_,_,_,_,_,_,_,_,ha=>ha.elim
 |_::_,.rp ..,_,_,_,_,_,_,_,_,ha=>ha.elim
theorem An.sub{σ σ':List V}{ρ:Nat->Value}{w:World}(hl:σ'.length=σ.length)(hs: ∀i,i<σ.length->Sub (σ.getD i .dead) (σ'.getD i .dead)): ∀v cv,An σ ρ w v cv->An σ' ρ w v cv
 | .rs id p off len,cv,⟨hid,sz,n,f,cn,ha,r⟩=>by
  obtain⟨f',ha'⟩:=At.sub' (hs id hid) ha;exact⟨by rw [hl];exact hid,sz,n,f',cn,ha',r⟩
 | .rp id p i k,cv,⟨hid,s,sz,n,f,b,o,cap,ha,r⟩=>by
  obtain⟨f',ha'⟩:=At.sub' (hs id hid) ha;exact⟨by rw [hl];exact hid,s,sz,n,f',b,o,cap,ha',r⟩
 | .c _,_,h=>h.elim
 | .dead,_,h=>h.elim
 | .many ..,_,h=>h.elim
 | .nd ..,_,h=>h.elim
theorem CR.sub{C:Ctx}{σ σ' ts ts':List V}{cts:Array Value}{w:World}{D:Nat->Prop}{ρ:Nat->Value}{F:Nat->Nat->Prop}(h:CR C σ ts cts w D ρ F)(hl:σ'.length=σ.length)(hs: ∀i,i<σ.length->Sub (σ.getD i .dead) (σ'.getD i .dead))
  (htl:ts'.length=ts.length) (ht: ∀i,i<ts.length->Ay (ts.getD i .dead) (ts'.getD i .dead)):CR C σ' ts' cts w D ρ F:=by
 refine⟨⟨fun i hi=>Rel.sub (hs i (by omega)) (h.wr.rel i (by omega)),h.wr.disj,h.wr.dD,h.wr.Dlt,fun i b hi=>h.wr.out i b (by omega)⟩,by rw [h.sz,htl],fun t ht'=>?_,h.fr,h.Fn,h.D1,h.D2,h.rt,by rw [hl];exact h.ml⟩
 exact Rel.subS (ht t (by omega)) (Rel.mono (fun _ h=>h) (An.sub hl hs) _ _ _ (fun _ _=>rfl) (h.tm t (by omega)))
theorem A0.sub{C:Ctx}{N:Nat}{S S':Ms}{a:Act}{w:World}(h:A0 C N S a w)(hl:S'.σ.length=S.σ.length)(hs: ∀i,i<S.σ.length->Sub (S.σ.getD i .dead) (S'.σ.getD i .dead))(ht: ∀i,Ay (S.t i) (S'.t i)):A0 C N S' a w:=by
 obtain⟨hd,hdd,D,ρ,F,hcr⟩:=h;refine⟨hd,fun x hx=>?_,D,ρ,F,hcr.sub hl hs (by simp) fun i hi=>?_⟩
 ·have:=ht x
  rw [hdd x hx]at this;rcases this with h|h
  ·exact h
  ·exact h
 ·have hi:i<N:=by simpa using hi
  rw [AY hi,AY hi];exact ht i
def Cl.frz:Cl->Cl
 | .c t _ x=>.c t 0 x
 |y=>y
def Sl.frz:Sl->Option Sl
 | .one y=>some (.one y.frz)
 | .new l=>match Iw l with
  |some ⟨t,x⟩=>some (.one (.c (.ptr t) 0 x))
  |none=>none
 | .agg l=>some (.agg (l.map Cl.frz))
 | .pk t l=>some (.pk t (l.map Cl.frz))
 | .tup l=>some (.tup (l.map fun p=>(p.1,p.2.map Cl.frz)))
theorem Cl.frz_v{r:List Ae}(y:Cl):Go.Ve.frz (y.v r)=y.frz.v r:=by
 cases y with
 |c t d x=>
  cases ho:t.one with
  |true=>exact WC ho d x
  |false=>cases t<;>first|rfl|cases ho
 |_=>rfl
theorem Qw{r:List Ae}(l:List Cl):Go.Ve.frz (Ai (l.map (Cl.v r)))=Ai ((l.map Cl.frz).map (Cl.v r)):=by
 rw [frz_mk,List.map_map,List.map_map]
 congr 1
 exact List.map_congr_left fun y _=>Cl.frz_v y
theorem Sl.frz_v{r:List Ae}{y y':Sl}(h:y.frz=some y'):Go.Ve.frz (y.v r)=y'.v r:=by
 cases y with
 |one c=>cases h;exact Cl.frz_v c
 |new l=>
  unfold Sl.frz at h;simp only at h;split at h
  ·rename_i t x hf
   cases h;show Go.Ve.frz (Bk true (l.map Cl.v0))=Bk false (tyV t 0 x);rw [Me,Ds _ _ hf]
  ·cases h
 |agg l=>cases h;exact Qw l
 |pk t l=>
  cases h;show Go.Ve.frz (pkL t (l.map (Cl.v r)))=pkL t ((l.map Cl.frz).map (Cl.v r));rw [frz_pk,List.map_map,List.map_map]
  congr 1
  exact List.map_congr_left fun y _=>Cl.frz_v y
 |tup l=>
  cases h;show Go.Ve.frz (Df _)=Df _;rw [Aat,List.map_map,List.map_map]
  congr 1
  refine List.map_congr_left fun p _=>?_
  obtain⟨b,l⟩:=p;cases b with
  |true=>exact Qw l
  |false=>
   show Go.Ve.frz ((l.map (Cl.v r)).getD 0 .dead)=((l.map Cl.frz).map (Cl.v r)).getD 0 .dead;rw [AB (f:=Cl.v r) (a:=.dead) rfl,AB (f:=Cl.v r) (a:=.dead) rfl,Cl.frz_v]
   congr 1
   simp only [gDE,List.getElem?_map];cases l[0]? <;>rfl
def Cl.chk(m:Nat):Cl->Cl
 | .rf id p=>bif Nat.blt id m then .rf id p else .dead
 | .rs id p off len=>bif Nat.blt id m then .rs id p off len else .dead
 | .rp id p i k=>bif Nat.blt id m then .rp id p i k else .dead
 |y=>y
def Sl.chk(m:Nat):Sl->Sl
 | .one y=>.one (y.chk m)
 | .new l=>.new l
 | .agg l=>.agg (l.map (Cl.chk m))
 | .pk t l=>.pk t (l.map (Cl.chk m))
 | .tup l=>.tup (l.map fun p=>(p.1,p.2.map (Cl.chk m)))
theorem Cl.chk_v{r r':List Ae}(hr: ∀id,id<r.length->r'.getD id .dead=r.getD id .dead)(y:Cl):Ay (y.v r) ((y.chk r.length).v r'):=by
 cases y with
 |rf id p=>
  show Ay _ ((bif Nat.blt id r.length then Cl.rf id p else .dead).v r');cases hb:Nat.blt id r.length with
  |false=>exact Ay.dead _
  |true=>
   have hb:id<r.length:=blE hb;show Ay (V.rs id p 0 (Ag r id p).len) (V.rs id p 0 (Ag r' id p).len);unfold Ag;rw [hr id hb];exact Ay.refl _
 |rs id p off len=>
  show Ay _ ((bif Nat.blt id r.length then Cl.rs id p off len else .dead).v r');cases hb:Nat.blt id r.length with
  |false=>exact Ay.dead _
  |true=>exact Ay.refl _
 |rp id p off len=>
  show Ay _ ((bif Nat.blt id r.length then Cl.rp id p off len else .dead).v r');cases hb:Nat.blt id r.length with
  |false=>exact Ay.dead _
  |true=>exact Ay.refl _
 |_=>exact Ay.refl _
theorem Bw{l:List Cl}{f g:Cl->V}(hf:f .dead= .dead)(hg:g .dead= .dead)(h: ∀y,Ay (f y) (g y))(k:Nat):Ay ((l.map f).getD k .dead) ((l.map g).getD k .dead):=by
 rw [AB (f:=f) (a:=.dead) hf,AB (f:=g) (a:=.dead) hg];exact h _
theorem Sl.chk_v{r r':List Ae}(hr: ∀id,id<r.length->r'.getD id .dead=r.getD id .dead)(y:Sl):Ay (y.v r) ((y.chk r.length).v r'):=by
 have agg: ∀l:List Cl,Ay (Ai (l.map (Cl.v r))) (Ai ((l.map (Cl.chk r.length)).map (Cl.v r'))):=by
  intro l;refine Ay.mk (by simp) fun k _=>?_
  rw [List.map_map];exact Bw rfl rfl (fun y=>Cl.chk_v hr y) k
 cases y with
 |one c=>exact Cl.chk_v hr c
 |new l=>exact Ay.refl _
 |agg l=>exact agg l
 |pk t l=>
  show Ay (pkL t (l.map (Cl.v r))) (pkL t ((l.map (Cl.chk r.length)).map (Cl.v r')));refine Ay.pk (by simp) fun k _=>?_
  rw [List.map_map];exact Bw rfl rfl (fun y=>Cl.chk_v hr y) k
 |tup l=>
  refine Ay.tup (by simp) fun k hk=>?_
  have hk:k<l.length:=by simpa using hk
  simp only [gDE,List.getElem?_map,gEE hk,Option.map_some,Option.getD_some];generalize l[k]=p;obtain⟨b,m⟩:=p;cases b with
  |true=>exact agg m
  |false=>
   have:=Bw (l:=m) (f:=Cl.v r) (g:=fun y=>(y.chk r.length).v r') rfl rfl (fun y=>Cl.chk_v hr y) 0
   have e:(m.map fun y=>(y.chk r.length).v r')=(m.map (Cl.chk r.length)).map (Cl.v r'):=by rw [List.map_map];rfl
   rw [e]at this;simpa using this
end Go.Ve

