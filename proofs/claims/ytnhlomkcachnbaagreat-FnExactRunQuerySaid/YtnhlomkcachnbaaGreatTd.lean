/- The typed machine: structs that are built, new memory, slices of slices. -/
import Derived.Test.YtnhlomkcachnbaaGreatTc
import Derived.Test.YtnhlomkcachnbaaGreatVr
import Derived.Test.YtnhlomkcachnbaaGreatVu
import Derived.Test.YtnhlomkcachnbaaGreatXa
namespace Go.Ve
def CJ:List V->List V->Prop
 | [],[]=>True
 |a::l,b::m=>Sub a b/\CJ l m
 |_,_=>False
theorem CJ.len: ∀ {l m:List V},CJ l m->l.length=m.length
 | [],[],_=>rfl
 |_::_,_::_,h=>by simp [CJ.len h.2]
 | [],_::_,h=>h.elim
 |_::_,[],h=>h.elim
theorem CJ.getD: ∀ {l m:List V} (_:CJ l m) (k:Nat),Sub (l.getD k .dead) (m.getD k .dead)
 | [],[],_,_=>Sub.refl _
 |_::_,_::_,h,0=>h.1
 |_::_,_::_,h,k+1=>CJ.getD h.2 k
 | [],_::_,h,_=>h.elim
 |_::_,[],h,_=>h.elim
theorem CJ.app: ∀ {l m l' m':List V},CJ l m->CJ l' m'->CJ (l++l') (m++m')
 | [],[],_,_,_,h=>h
 |_::_,_::_,_,_,h,h'=>⟨h.1,CJ.app h.2 h'⟩
 | [],_::_,_,_,h,_=>h.elim
 |_::_,[],_,_,h,_=>h.elim
theorem CJ.mk{l m:List V}(h:CJ l m):Sub (Af l) (Af m):=by
 unfold Af;rw [h.len];exact⟨_,rfl,fun k _=>h.getD k⟩
theorem CJ.obj{o:Bool}{l m:List V}(h:CJ l m):Sub (Be o l) (Be o m):=by
 unfold Be;rw [h.len];refine⟨_,rfl,fun i k hi _=>?_⟩
 obtain rfl:i=0:=by omega
 exact h.getD k
theorem Eqv.symm: ∀ {v v':V},Eqv v v'->Eqv v' v:=by
 intro v
 induction v with
 |c v=>intro v' h;cases h;rfl
 |dead=>intro v' h;cases h;rfl
 |many t n f ih=>intro v' h;obtain⟨g,rfl,h⟩:=h;exact⟨f,rfl,fun k hk=>ih k (h k hk)⟩
 |nd s own sz n f ih=>intro v' h;obtain⟨g,rfl,h⟩:=h;exact⟨f,rfl,fun i k hi hk=>ih i k (h i k hi hk)⟩
 |rs id p off len=>intro v' h;cases h;rfl
 |rp id p i k=>intro v' h;cases h;rfl
def UO(a b:Nat):Nat:=bif Nat.ble a b then a else b
theorem LX(a b:Nat):UO a b=min a b:=by
 unfold UO;cases h:Nat.ble a b with
 |true=>have:=blE h;simp;omega
 |false=>
  have: ¬a<=b:=fun e=>by rw [Nat.ble_eq_true_of_le e]at h;cases h
  simp;omega
def dOK(t:Ty)(d d':Nat):Bool:=Nat.beq t.dep 0||Nat.beq d d'
theorem Mf{t:Ty}{d d':Nat}(h:dOK t d d'=true):min d t.dep=min d' t.dep:=by
 unfold dOK at h;rw [Bool.or_eq_true]at h;rcases h with h|h
 ·rw [bqE h];simp
 ·rw [bqE h]
def fit(d':Nat):Cl->Cl
 | .c t d x=>bif Nat.beq (UO d t.dep) (UO d' t.dep)then .c t d' x else .c t d x
 |y=>y
def D8(t:Ty)(d:Nat):Cl->Option t.T
 | .c t' d' x=>if h:t'=t then(bif dOK t d' d then some (h▸x)else none)else none
 | .nil=>match t with
  | .sl _=>some []
  |_=>none
 |_=>none
def LN(t:Ty)(d:Nat):List Cl->Option (t.T×List Cl)
 |c::l=>match D8 t d c with
  |some x=>some (x,l)
  |none=>none
 | []=>none
def AaN:(t:Ty)->Nat->List Cl->Option (t.T×List Cl)
 | .unit,_,l=>some ((),l)
 | .pair a b,d,l=>match AaN a d l with
  |some (x,l)=>match AaN b d l with
   |some (y,l)=>some ((x,y),l)
   |none=>none
  |none=>none
 | .int k,d,l=>LN (.int k) d l
 | .bool,d,l=>LN .bool d l
 | .str,d,l=>LN .str d l
 | .sl t,d,l=>LN (.sl t) d l
 | .ptr t,d,l=>LN (.ptr t) d l
 | .clo g t,d,l=>LN (.clo g t) d l
 | .osl t,d,l=>LN (.osl t) d l
def H6(t:Ty)(d:Nat)(l:List Cl):Option t.T:=match AaN t d l with
 |some (x,[])=>some x
 |_=>none
theorem LP{t:Ty}{d:Nat}{c:Cl}{x:t.T}(h:D8 t d c=some x)(r:List Ac):Sub (c.v r) (cV t d x)/\c.v r=c.v0:=by
 unfold D8 at h;split at h
 ·rename_i t' d' x'
  split at h
  case isFalse=>cases h
  rename_i ht;subst ht;cases hd:dOK t' d' d with
  |false=>rw [hd]at h;cases h
  |true=>
   rw [hd]at h;cases h;exact⟨Sub.of_eq (JO (Mf hd)),rfl⟩
 ·split at h
  ·cases h
   exact⟨.inr ⟨rfl,_,_,_,rfl⟩,rfl⟩
  ·cases h
 ·cases h
theorem D7{t:Ty}{d:Nat}(ht:t.one=true){l l':List Cl}{x:t.T}(h:LN t d l=some (x,l'))(r:List Ac): ∃m,l=m++l'/\CJ (m.map (Cl.v r)) (tyV t d x)/\m.map (Cl.v r)=m.map Cl.v0:=by
 unfold LN at h;split at h
 ·rename_i c l0
  split at h
  ·rename_i y hy
   cases h;obtain⟨h1,h2⟩:=LP hy r;exact⟨[c],rfl,by rw [A2 ht];exact⟨h1,trivial⟩,by simp [h2]⟩
  ·cases h
 ·cases h
theorem PM(r:List Ac): ∀ (t:Ty) (d:Nat) (l l':List Cl) (x:t.T),AaN t d l=some (x,l')->∃m,l=m++l'/\CJ (m.map (Cl.v r)) (tyV t d x)/\m.map (Cl.v r)=m.map Cl.v0
 | .unit,d,l,l',x,h=>by cases h;exact⟨[],rfl,trivial,rfl⟩
 | .int k,d,l,l',x,h=>D7 rfl h r
 | .bool,d,l,l',x,h=>D7 rfl h r
 | .str,d,l,l',x,h=>D7 rfl h r
 | .sl t,d,l,l',x,h=>D7 rfl h r
 | .ptr t,d,l,l',x,h=>D7 rfl h r
 | .clo g t,d,l,l',x,h=>D7 rfl h r
 | .osl t,d,l,l',x,h=>D7 rfl h r
 | .pair a b,d,l,l',x,h=>by
  unfold AaN at h;split at h
  ·rename_i y l1 h1
   split at h
   ·rename_i z l2 h2
    cases h;obtain⟨m1,e1,s1,t1⟩:=PM r a d l l1 y h1;obtain⟨m2,e2,s2,t2⟩:=PM r b d l1 l' z h2;subst e2;subst e1;exact⟨m1++m2,by simp,by rw [List.map_append];exact s1.app s2,by simp [t1,t2]⟩
   ·cases h
  ·cases h
theorem CQ{t:Ty}{d:Nat}{l:List Cl}{x:t.T}(h:H6 t d l=some x)(r:List Ac):CJ (l.map (Cl.v r)) (tyV t d x)/\l.map (Cl.v r)=l.map Cl.v0:=by
 unfold H6 at h;split at h
 ·rename_i y hy
  cases h;obtain⟨m,e,h1,h2⟩:=PM r t d l [] x hy;simp at e;subst e;exact⟨h1,h2⟩
 ·cases h
theorem IQ(r:List Ac): ∀t:Ty,(Hg t).map (Cl.v r)=(BQ t).map .c
 | .int _=>rfl
 | .bool=>rfl
 | .str=>rfl
 | .sl _=>rfl
 | .ptr _=>rfl
 | .unit=>rfl
 | .clo _ _=>rfl
 | .osl _=>rfl
 | .pair a b=>by simp [Hg,BQ,IQ r a,IQ r b]
theorem N9: ∀t:Ty,CJ ((BQ t).map .c) ((UQ t).map Cl.v0)
 | .int _=>⟨Sub.refl _,trivial⟩
 | .bool=>⟨Sub.refl _,trivial⟩
 | .str=>⟨Sub.refl _,trivial⟩
 | .sl _=>⟨.inr ⟨rfl,_,_,_,rfl⟩,trivial⟩
 | .ptr _=>⟨Sub.refl _,trivial⟩
 | .clo _ _=>⟨Sub.refl _,trivial⟩
 | .osl _=>⟨.inr ⟨rfl,_,_,_,rfl⟩,trivial⟩
 | .unit=>trivial
 | .pair a b=>by simp only [Hg,BQ,UQ,List.map_append];exact(N9 a).app (N9 b)
def Ty.noPtr:Ty->Bool
 | .ptr _=>false
 | .clo _ _=>false
 | .osl _=>false
 | .pair a b=>a.noPtr&&b.noPtr
 |_=>true
theorem N8(d:Nat): ∀t:Ty,t.noPtr=true->CJ ((BQ t).map .c) (tyV t d t.dflt)
 | .int _,_=>⟨Sub.refl _,trivial⟩
 | .bool,_=>⟨Sub.refl _,trivial⟩
 | .str,_=>⟨Sub.refl _,trivial⟩
 | .sl _,_=>⟨.inr ⟨rfl,_,_,_,rfl⟩,trivial⟩
 | .unit,_=>trivial
 | .pair a b,h=>by
  simp only [Ty.noPtr,bAE]at h;simp only [BQ,List.map_append,tyV];exact(N8 d a h.1).app (N8 d b h.2)
theorem Dl: ∀t:Ty,(BQ t).length=t.w
 | .int _=>rfl
 | .bool=>rfl
 | .str=>rfl
 | .sl _=>rfl
 | .ptr _=>rfl
 | .unit=>rfl
 | .clo _ _=>rfl
 | .osl _=>rfl
 | .pair a b=>by simp [BQ,Ty.w,Dl a,Dl b]
def Cl.plain:Cl->Bool
 | .dead=>false
 | .c .unit _ _=>false
 | .c (.pair _ _) _ _=>false
 | .c (.clo _ _) _ _=>false
 | .c (.osl _) _ _=>false
 |y=>!y.own
def Sl.cells:Sl->Option (List Cl)
 | .one y=>bif y.plain then some [y]else none
 | .agg l=>bif l.all Cl.plain then some l else none
 |_=>none
theorem VR{r:List Ac}{y:Cl}(h:y.plain=true):one1 (y.v r)=true/\AJ (y.v r)=false/\Br (y.v r)=true/\Go.Ve.cellsV (y.v r)= [y.v r]:=by
 cases y with
 |c t d x=>cases t<;>cases d<;>first|exact⟨rfl,rfl,rfl,rfl⟩|cases h
 |dead=>cases h
 |_=>exact⟨rfl,rfl,rfl,rfl⟩
theorem Cz{r:List Ac}{y:Sl}{l:List Cl}(h:y.cells=some l):Br (y.v r)=true/\Go.Ve.cellsV (y.v r)=l.map (Cl.v r)/\l.all Cl.plain=true:=by
 unfold Sl.cells at h;split at h
 ·rename_i c
  cases hb:c.plain with
  |false=>rw [hb]at h;cases h
  |true=>
   rw [hb]at h;cases h;obtain⟨_,_,h1,h2⟩:=VR (r:=r) hb;exact⟨h1,h2,by simp [hb]⟩
 ·rename_i l'
  cases hb:l'.all Cl.plain with
  |false=>rw [hb]at h;cases h
  |true=>
   rw [hb]at h;cases h;refine⟨?_,N1,hb⟩;show Br (Af _)=true;rw [VS,List.all_map,aET];intro y hy;exact(VR (aET.1 hb y hy)).1
 ·cases h
def Sl.cellsF:Sl->Option (List Cl)
 | .one (.c (.clo g t) d x)=>some [.c (.clo g t) d x]
 |y=>y.cells
theorem N3{r:List Ac}{y:Sl}{l:List Cl}(h:y.cellsF=some l):Br (y.v r)=true/\Go.Ve.cellsV (y.v r)=l.map (Cl.v r):=by
 unfold Sl.cellsF at h;split at h
 ·rename_i g t d x
  cases h;refine⟨?_,rfl⟩;show(!AJ (cV (.clo g t) d x))=true;have e:AJ (cV (.clo g t) d x)=false:=Hh (.clo g t) x _ (List.mem_singleton.2 rfl);rw [e];rfl
 ·obtain⟨h1,h2,_⟩:=Cz (r:=r) h
  exact⟨h1,h2⟩
def AaL(cells:List Cl):Nat->List Cl->List Cl
 |_,[]=>cells
 |off,y::l=>AaL (cells.set off y) (off+1) l
theorem ZR: ∀ (l cells:List V) (off k:Nat),((l.zipIdx k).foldl (fun cs (c,j)=>cs.set (off+j) c) cells)=XO cells (off+k) l:=by
 have gen: ∀ (l cells:List V) (off k:Nat),((l.zipIdx k).foldl (fun cs (c,j)=>cs.set (off+j) c) cells)=((l.zipIdx 0).foldl (fun cs (c,j)=>cs.set (off+k+j) c) cells):=by
  intro l
  induction l with
  |nil=>intro cells off k;rfl
  |cons v l ih=>
   intro cells off k;simp only [List.zipIdx_cons,List.foldl_cons,Nat.add_zero];rw [ih _ off (k+1),ih _ (off+k) (0+1)];rfl
 intro l cells off k;rw [gen];rfl
theorem Vr{v:V}{l cells:List V}{off:Nat}:XO cells off (v::l)=XO (cells.set off v) (off+1) l:=by
 show((v::l).zipIdx 0).foldl _ cells=_;rw [List.zipIdx_cons,List.foldl_cons];exact ZR l _ off (0+1)
theorem Vt{r:List Ac}: ∀ (l cells:List Cl) (off:Nat),(AaL cells off l).map (Cl.v r)=XO (cells.map (Cl.v r)) off (l.map (Cl.v r))
 | [],cells,off=>rfl
 |y::l,cells,off=>by
  rw [List.map_cons,Vr];show(AaL (cells.set off y) (off+1) l).map (Cl.v r)=_;rw [Vt l,List.map_set]
def QJ(place:Nat->Option (Nat×Nat))(cells:List Cl):List (Nat×Option Sl)->Option (List Cl)
 | []=>some cells
 |(i,y)::rest=>match place i,y with
  |some (off,size),some y=>match y.cellsF with
   |some l=>bif Nat.beq l.length size&&Nat.ble (off+size) cells.length then QJ place (AaL cells off l) rest else none
   |none=>none
  |_,_=>none
theorem Lq{s:St}{place:Nat->Option (Nat×Nat)}: ∀ (ps:List (Nat×Operand)) (cells l:List Cl),QJ place cells (ps.map fun p=>(p.1,s.ev p.2))=some l->
  (ps.map fun p=>(p.1,s.den.ev p.2)).all (fun p=>Br p.2)=true/\B0 place (cells.map (Cl.v s.r)) (ps.map fun p=>(p.1,s.den.ev p.2))=some (l.map (Cl.v s.r))
 | [],cells,l,h=>by cases h;exact⟨rfl,rfl⟩
 |(i,x)::ps,cells,l,h=>by
  rw [List.map_cons]at h;unfold QJ at h;split at h
  case h_2=>cases h
  rename_i off size y hpl hy;split at h
  case h_2=>cases h
  rename_i m hm;cases hb:(Nat.beq m.length size&&Nat.ble (off+size) cells.length)with
  |false=>rw [hb]at h;cases h
  |true=>
   rw [hb]at h;simp only [bAE]at hb;have h1:=bqE hb.1;have h2:=blE hb.2;obtain⟨g1,g2⟩:=N3 (r:=s.r) hm;obtain⟨k1,k2⟩:=Lq ps _ _ h;have hy:s.ev x=some y:=hy;rw [List.map_cons,List.all_cons];refine⟨by simp only [A5 hy,g1,Bool.true_and];exact k1,?_⟩
   unfold B0;simp only [hpl,A5 hy,g2];rw [if_neg (by simp only [List.length_map];omega),<-Vt]
   exact k2
def Vj:Option TI->List (Nat×Option Sl)->Option TR
 |some i,ps=>bif i.agg then(match QJ (fun k=>i.flds[k]?) (Hg i.ty) ps with
   |some l=>some (.ok (.agg l))
   |none=>none)
  else none
 |none,_=>none
theorem MU{P:Program}{Θ:Tab}{s:St}(hΘ:Θ.OK P){t:TypeId}{ps:Array (Nat×Operand)}{a:TR}(h:Vj (Θ.look t) (ps.toList.map fun p=>(p.1,s.ev p.2))=some a):QS P s (.build t ps) a.y:=by
 unfold Vj at h;split at h
 case h_2=>cases h
 rename_i i hi;cases hb:i.agg with
 |false=>rw [hb]at h;cases h
 |true=>
  rw [hb]at h;simp only [cond_true]at h;split at h
  case h_2=>cases h
  rename_i l hl;cases h;obtain⟨h1,h2⟩:=Lq _ _ _ hl;show Kw (Zp P t) (ps.toList.map fun p=>(p.1,s.den.ev p.2)) (SK s _)
  rw [hΘ.bd hi,hb];unfold Kw;rw [IQ]at h2;simp only [if_true];rw [h2];exact⟨h1,Sub.refl _⟩
def Ny(t:Ty)(d:Nat):Nat->List Cl->Option (List t.T)
 |0,[]=>some []
 |0,_::_=>none
 |n+1,l=>match AaN t d l with
  |some (x,l)=>match Ny t d n l with
   |some xs=>some (x::xs)
   |none=>none
  |none=>none
theorem OF{t:Ty}{d:Nat}(r:List Ac): ∀ (n:Nat) (l:List Cl) (xs:List t.T),Ny t d n l=some xs->xs.length=n/\l.map (Cl.v r)=l.map Cl.v0/\
  ∀i k,i<n->k<t.w->Sub ((l.map (Cl.v r)).getD (i*t.w+k) .dead) ((tyV t d (xs.getD i t.dflt)).getD k .dead):=by
 intro n
 induction n with
 |zero=>
  intro l xs h;cases l with
  |nil=>cases h;exact⟨rfl,rfl,fun i k hi=>by omega⟩
  |cons y l=>cases h
 |succ n ih=>
  intro l xs h;unfold Ny at h;split at h
  case h_2=>cases h
  rename_i x l1 h1;split at h
  case h_2=>cases h
  rename_i ys h2;cases h;obtain⟨m,e,s1,s2⟩:=PM r t d l l1 x h1;obtain⟨g1,g2,g3⟩:=ih l1 ys h2;subst e;have hm:(m.map (Cl.v r)).length=t.w:=by rw [s1.len,Aw]
  refine⟨by simp [g1],by simp [s2,g2],fun i k hi hk=>?_⟩
  rw [List.map_append];cases i with
  |zero=>
   simp only [Nat.zero_mul,Nat.zero_add,List.getD_cons_zero];have:=s1.getD k;rw [gDE,gAL (by omega),<-gDE]
   exact this
  |succ i=>
   have:=g3 i k (by omega) hk
   rw [List.getD_cons_succ];have e:(i+1)*t.w+k-(m.map (Cl.v r)).length=i*t.w+k:=by rw [hm,Nat.add_mul];omega
   rw [gDE,gAR (by rw [hm,Nat.add_mul];omega),e,<-gDE]
   exact this
def ZZ(n:Nat)(l:List Cl):List Cl:=match n with
 |0=>[]
 |n+1=>l++ZZ n l
theorem Wu: ∀ (n w:Nat) (l:List V),l.length=w->0<w->∀j,j<n*w->((List.replicate n l).flatten).getD j .dead=l.getD (j % w) .dead:=by
 intro n w l hl hw
 induction n with
 |zero=>intro j hj;omega
 |succ n ih=>
  intro j hj;rw [List.replicate_succ,List.flatten_cons];by_cases h:j<w
  ·rw [gDE,gAL (by omega),<-gDE,Nat.mod_eq_of_lt h]
  ·have:(n+1)*w=n*w+w:=Nat.add_one_mul n w
   rw [gDE,gAR (by omega),<-gDE,hl,ih (j-w) (by omega),<-Nat.mod_eq_sub_mod (by omega)]
theorem VD(r:List Ac)(t:Ty)(n:Nat)(hw:0<t.w):(ZZ n (Hg t)).map (Cl.v r)=(List.range (n*t.w)).map fun j=>.c ((BQ t).getD (j % t.w) undef):=by
 have e:(ZZ n (Hg t)).map (Cl.v r)=(List.replicate n ((BQ t).map V.c)).flatten:=by
  induction n with
  |zero=>rfl
  |succ n ih=>
   show((Hg t)++ZZ n (Hg t)).map (Cl.v r)=_;rw [List.map_append,ih,IQ,List.replicate_succ,List.flatten_cons]
 have hl:((BQ t).map V.c).length=t.w:=by rw [List.length_map,Dl]
 rw [e];apply List.ext_getElem
 ·simp [Dl]
 ·intro j h1 h2
  have hj:j<n*t.w:=by simpa using h2
  have g:=Wu n t.w _ hl hw j hj;rw [gDE,gEE h1]at g;simp only [Option.getD_some]at g;rw [g];have hm:j % t.w<(BQ t).length:=by rw [Dl];exact Nat.mod_lt _ hw
  simp [hm]
def Ty.noO:Ty->Bool
 | .osl _=>false
 | .clo _ t=>t.noO
 | .pair a b=>a.noO&&b.noO
 |_=>true
theorem IL: ∀ (t:Ty) (x:t.T),t.noO=true->∀v∈tyV t 0 x,BM v=true
 | .int _,_,_,v,h=>by simp [tyV]at h;subst h;rfl
 | .bool,_,_,v,h=>by simp [tyV]at h;subst h;rfl
 | .str,_,_,v,h=>by simp [tyV]at h;subst h;rfl
 | .sl _,_,_,v,h=>by simp only [tyV,List.mem_singleton]at h;subst h;rfl
 | .ptr _,_,_,v,h=>by simp only [tyV,List.mem_singleton]at h;subst h;rfl
 | .unit,_,_,v,h=>by simp [tyV]at h
 | .pair a b,x,ho,v,h=>by
  simp only [Ty.noO,bAE]at ho;simp only [tyV,List.mem_append]at h;exact h.elim (IL a x.1 ho.1 v) (IL b x.2 ho.2 v)
 | .osl _,_,ho,_,_=>by cases ho
 | .clo g t,x,ho,v,h=>by
  simp only [tyV,List.mem_singleton]at h;subst h;show((List.range t.w).all fun k=>BM ((tyV t 0 x).getD k .dead))=true
  rw [aET];intro k hk;have hk:k<(tyV t 0 x).length:=by rw [Aw];exact List.mem_range.1 hk
  rw [gDE,gEE hk];exact IL t x ho _ (List.getElem_mem hk)
def Cl.imm:Cl->Bool
 | .c .unit _ _=>false
 | .c (.pair _ _) _ _=>false
 | .c (.clo _ _) _ _=>false
 | .c (.osl _) _ _=>false
 | .c t d x=>!(Cl.c t d x).own
 | .nil=>true
 | .nilp=>true
 | .nilf=>true
 |_=>false
theorem OT{r:List Ac}{y:Cl}(h:y.imm=true):BM (y.v r)=true/\y.v r=y.v0:=by
 cases y with
 |c t d x=>cases t<;>cases d<;>first|exact⟨rfl,rfl⟩|cases h
 |nil=>exact⟨rfl,rfl⟩
 |nilp=>exact⟨rfl,rfl⟩
 |nilf=>exact⟨rfl,rfl⟩
 |_=>cases h
def Cl.immF:Cl->Bool
 | .c (.clo _ t) _ _=>t.noO
 |y=>y.imm
theorem immF_v{r:List Ac}{y:Cl}(h:y.immF=true):BM (y.v r)=true:=by
 unfold Cl.immF at h;split at h
 ·rename_i g t d x
  exact IL (.clo g t) x h _ (List.mem_singleton.2 rfl)
 ·exact(OT h).1
theorem Aar{r:List Ac}{l:List Cl}(h:l.all Cl.immF=true):(l.map (Cl.v r)).all BM=true:=by
 rw [List.all_map,aET];intro y hy;exact immF_v (aET.1 h y hy)
theorem imms_v{r:List Ac}{l:List Cl}(h:l.all Cl.imm=true):(l.map (Cl.v r)).all BM=true/\l.map (Cl.v r)=l.map Cl.v0:=by
 refine⟨?_,List.map_congr_left fun y hy=>(OT (aET.1 h y hy)).2⟩
 rw [List.all_map,aET];intro y hy;exact(OT (aET.1 h y hy)).1
def DY(n:Nat)(ps:List (Nat×Option Sl)):Option TI->Option TR
 |some j=>bif Nat.blt 0 j.ty.w&&Nat.ble (n*j.ty.w) 16777216 then(bif Nat.beq n 0 then(match ps with
  | []=>some (.ok (.one (.c (.sl j.ty) (j.sd+1) [])))
  |_::_=>none)else match QJ (fun i=>some (i*j.ty.w,j.ty.w)) (ZZ n (Hg j.ty)) ps with
   |some l=>bif l.all Cl.immF then(match Ny j.ty j.sd n l with
    |some xs=>some (.ok (.one (.c (.sl j.ty) (j.sd+1) xs)))
    |none=>match Ny j.ty 0 n l with
     |some xs=>some (.ok (.one (.c (.sl j.ty) 1 xs)))
     |none=>none)else none
   |none=>none)
  else none
 |none=>none
theorem HZ{P:Program}{Θ:Tab}{s:St}(hΘ:Θ.OK P){t:TypeId}{n:Nat}{ps:Array (Nat×Operand)}{a:TR}(h:DY n (ps.toList.map fun p=>(p.1,s.ev p.2)) (((Θ.look t).bind (·.elem)).bind Θ.look)=some a):QS P s (.buildSlice t n ps) a.y:=by
 unfold DY at h;split at h
 case h_2=>cases h
 rename_i j hj;obtain⟨e,hsl,_⟩:=DE hΘ hj;cases hb:(Nat.blt 0 j.ty.w&&Nat.ble (n*j.ty.w) 16777216)with
 |false=>rw [hb]at h;cases h
 |true=>
  rw [hb]at h;simp only [bAE]at hb;have hw:=Qo hb.1;have hn:=blE hb.2;simp only [cond_true]at h;cases h0:Nat.beq n 0 with
  |true=>
   rw [h0]at h;simp only [cond_true]at h;have h0:=bqE h0;subst h0;split at h
   case h_2=>cases h
   rename_i hps;cases h;have hps':ps.toList= []:=by simpa using hps
   show BW (slI P t) (ZU P t) 0 (ps.toList.map fun p=>(p.1,s.den.ev p.2)) (SK s _)
   rw [hsl,hps'];refine⟨rfl,⟨hw,hn⟩,?_⟩;simp only [Nat.zero_mul,List.range_zero,List.map_nil,B0];refine⟨rfl,?_⟩;refine(Eqv.sub (Eqv.symm (Lx (ZU P t) j.ty.w 0 _))).trans ?_;show Sub _ (arr true j.ty.w (tyV j.ty j.sd) j.ty.dflt []);exact⟨_,rfl,fun i k hi hk=>by omega⟩
  |false=>
  rw [h0]at h;simp only [cond_false]at h;split at h
  case h_2=>cases h
  rename_i l hl;cases hi:l.all Cl.immF with
  |false=>rw [hi]at h;cases h
  |true=>
   rw [hi]at h;simp only [cond_true]at h
   have key: ∀ (d:Nat) (xs:List j.ty.T),Ny j.ty d n l=some xs->a= .ok (.one (.c (.sl j.ty) (d+1) xs))->QS P s (.buildSlice t n ps) a.y:=by
    intro d xs hxs ha;subst ha;obtain⟨h1,h2⟩:=Lq _ _ _ hl;rw [VD s.r j.ty n hw]at h2;show BW (slI P t) (ZU P t) n (ps.toList.map fun p=>(p.1,s.den.ev p.2)) (SK s _)
    rw [hsl];refine⟨h1,⟨hw,hn⟩,?_⟩;rw [h2];refine⟨Aar hi,?_⟩;obtain⟨g1,g2,g3⟩:=OF s.r n l xs hxs;refine(Eqv.sub (Eqv.symm (Lx (ZU P t) j.ty.w n _))).trans ?_;show Sub _ (arr true j.ty.w (tyV j.ty d) j.ty.dflt xs);unfold arr;rw [g1];exact⟨_,rfl,fun i k hi hk=>g3 i k hi hk⟩
   split at h
   ·rename_i xs hxs
    cases h;exact key _ xs hxs rfl
   ·split at h
    case h_2=>cases h
    rename_i xs hxs;cases h;exact key 0 xs hxs rfl
def Vl:Option TI->Option TR
 |some i=>bif Nat.blt 0 i.ty.w then some (.ok (.new (UQ i.ty)))else none
 |none=>none
theorem MV{P:Program}{Θ:Tab}{s:St}(hΘ:Θ.OK P){t:TypeId}{a:TR}(h:Vl (Θ.look t)=some a):QS P s (.alloc t) a.y:=by
 unfold Vl at h;split at h
 case h_2=>cases h
 rename_i i hi;cases hb:Nat.blt 0 i.ty.w with
 |false=>rw [hb]at h;cases h
 |true=>
  rw [hb]at h;cases h;show Nu (tyI P t) (SK s _);rw [hΘ.ty hi];exact⟨Qo hb,(N9 i.ty).obj⟩
def tBox:Option Sl->Option TR
 |some y=>match y.cells with
  |some l=>bif l.all Cl.imm then some (.ok (.new l))else some (.ok (.pk .bx l))
  |none=>none
 |none=>none
theorem QL{P:Program}{s:St}{t:TypeId}{x:Operand}{a:TR}(h:tBox (s.ev x)=some a):QS P s (.box t x) a.y:=by
 unfold tBox at h;split at h
 case h_2=>cases h
 rename_i y hy;split at h
 case h_2=>cases h
 rename_i l hl;cases hb:l.all Cl.imm with
 |false=>
  rw [hb]at h;cases h;obtain⟨h1,h2,_⟩:=Cz (r:=s.r) hl;show qBox (s.den.ev x) (SK s _);rw [A5 hy];refine⟨h1,.inr ?_⟩;show Sub (AaW (Go.Ve.cellsV _)) (AaW (l.map (Cl.v s.r)));rw [h2];exact Sub.refl _
 |true=>
  rw [hb]at h;cases h;obtain⟨h1,h2,_⟩:=Cz (r:=s.r) hl;obtain⟨g1,g2⟩:=imms_v (r:=s.r) hb;show qBox (s.den.ev x) (SK s _);rw [A5 hy];refine⟨h1,.inl ⟨by rw [h2];exact g1,?_⟩⟩
  show Sub (Be true (Go.Ve.cellsV _)) (Be true (l.map Cl.v0));rw [h2,g2];exact Sub.refl _
def ZJ:Option TI->Option Sl->Option Sl->Option TR
 |some j,some (.one (.c (.int _) _ l)),some (.one (.c (.int _) _ c))=>
  bif Nat.blt 0 j.ty.w&&j.ty.noPtr then some (.cnd (0<=l/\l<=c/\(j.bytes:Int)*c<=281474976710656/\c<=9223372036854775807) inferInstance (.one (.c (.sl j.ty) (j.sd+1) (YW (JZ l) j.ty.dflt))))else none
 |_,_,_=>none
theorem Ui(deep:Bool){t:Ty}(d n:Nat)(h:t.noPtr=true):Sub (V3 deep t.w n (BQ t)) (cV (.sl t) (d+1) (List.replicate n t.dflt)):=by
 have gen:Sub (arr true t.w (fun x=>x) [] (List.replicate n ((BQ t).map .c))) (cV (.sl t) (d+1) (List.replicate n t.dflt)):=by
  have e0:cV (.sl t) (d+1) (List.replicate n t.dflt)=arr true t.w (tyV t d) t.dflt (List.replicate n t.dflt):=by simp [cV]
  rw [e0];unfold arr;rw [List.length_replicate,List.length_replicate];refine⟨_,rfl,fun i k hi _=>?_⟩
  have e1:(List.replicate n ((BQ t).map V.c)).getD i []=(BQ t).map .c:=by simp [hi]
  have e2:(List.replicate n t.dflt).getD i t.dflt=t.dflt:=by simp [hi]
  show Sub (((List.replicate n ((BQ t).map V.c)).getD i []).getD k .dead) ((tyV t d ((List.replicate n t.dflt).getD i t.dflt)).getD k .dead);rw [e1,e2];exact(N8 d t h).getD k
 exact gen
theorem Oj{P:Program}{Θ:Tab}{s:St}(hΘ:Θ.OK P){t:TypeId}{l c:Operand}{a:TR}(h:ZJ (((Θ.look t).bind (·.elem)).bind Θ.look) (s.ev l) (s.ev c)=some a)(hp:a.p):QS P s (.makeSlice t l c) a.y:=by
 unfold ZJ at h;split at h
 case h_2=>cases h
 rename_i j _ _ li _ _ ci hj hl hc;obtain⟨e,hsl,_⟩:=DE hΘ hj;cases hb:(Nat.blt 0 j.ty.w&&j.ty.noPtr)with
 |false=>rw [hb]at h;cases h
 |true=>
  rw [hb]at h;simp only [bAE]at hb;cases h;show VO (slI P t) (ZU P t) (s.den.ev l) (s.den.ev c) (SK s _);rw [hsl,A5 hl,A5 hc];exact⟨Qo hb.1,hp,Ui _ _ _ hb.2⟩
def Kg:Option (Option Sl)->Option (Option Int)
 |none=>some none
 |some (some (.one (.c (.int _) _ n)))=>some (some n)
 |_=>none
def U9(s:St):Option TI->Option TI->Option Sl->Option (Option Int)->Option (Option Int)->Option TR
 |some i,_,some (.one (.c .str _ b)),some lo,some hi=>
  bif i.str then some (.cnd (0<=lo.getD 0/\lo.getD 0<=hi.getD (ofN (Ly b))/\hi.getD (ofN (Ly b))<=ofN (Ly b)) inferInstance (.one (.c .str 0 (cutS b (JZ (lo.getD 0)) (JZ (hi.getD (ofN (Ly b))))))))else none
 |some i,some j,some (.one (.c (.sl t) 0 xs)),some lo,some hi=>
  bif Nat.beq t.w j.ty.w&& !i.str then some (.cnd (0<=lo.getD 0/\lo.getD 0<=hi.getD (ofN (Jw xs))/\hi.getD (ofN (Jw xs))<=ofN (Jw xs)) inferInstance
   (.one (.c (.sl t) 0 (match lo,hi with
    |none,none=>xs
    |some l,none=>O3 (JZ l) xs
    |none,some h=>Oc (JZ h) xs
    |some l,some h=>Oc (JZ h-JZ l) (O3 (JZ l) xs)))))else none
 |some i,some j,some (.one (.rf id p)),some lo,some hi=>
  match Ae s.r id p with
  | .arr _ t _ xs=>bif Nat.beq t.w j.ty.w&& !i.str then some (.cnd (0<=lo.getD 0/\lo.getD 0<=hi.getD (ofN (Jw xs))/\hi.getD (ofN (Jw xs))<=ofN (Jw xs)) inferInstance
    (.one (.rs id p (JZ (lo.getD 0)) (JZ (hi.getD (ofN (Jw xs)))-JZ (lo.getD 0)))))else none
  |_=>none
 |some i,some j,some (.one (.rs id p off len)),some lo,some hi=>
  match Ae s.r id p with
  | .arr _ t _ _=>bif Nat.beq t.w j.ty.w&& !i.str then some (.cnd (0<=lo.getD 0/\lo.getD 0<=hi.getD (ofN len)/\hi.getD (ofN len)<=ofN len) inferInstance
    (.one (.rs id p (off+JZ (lo.getD 0)) (JZ (hi.getD (ofN len))-JZ (lo.getD 0)))))else none
  |_=>none
 |_,_,_,_,_=>none
theorem CD{s:St}{lo:Option Operand}{l:Option Int}(h:Kg (lo.map s.ev)=some l)(d:Int):bnd d (lo.map s.den.ev)=some (l.getD d):=by
 cases lo with
 |none=>cases h;rfl
 |some x=>
  simp only [Option.map_some]at h⊢;unfold Kg at h;split at h
  ·rename_i hx;cases hx
  ·rename_i hx
   cases h;simp only [Option.some.injEq]at hx;rw [A5 hx];rfl
  ·cases h
theorem MO{P:Program}{Θ:Tab}{s:St}(hΘ:Θ.OK P){t:TypeId}{x:Operand}{lo hi:Option Operand}{a:TR}
  (h:U9 s (Θ.look t) (((Θ.look t).bind (·.elem)).bind Θ.look) (s.ev x) (Kg (lo.map s.ev)) (Kg (hi.map s.ev))=some a) (hp:a.p):QS P s (.slice t x lo hi none) a.y:=by
 unfold U9 at h;have goal: ∀y,Ku (slK P t) (s.r.map Ac.v) (s.den.ev x) (lo.map s.den.ev) (hi.map s.den.ev) (SK s y)->QS P s (.slice t x lo hi none) y:=fun y h=>⟨rfl,h⟩
 have skS: ∀ {i j:TI},Θ.look t=some i->((Θ.look t).bind (·.elem)).bind Θ.look=some j->i.str=false->slK P t= .slice j.ty.w:=by
  intro i j hi hj hs;rw [hΘ.sk hi,hs];rw [hi]at hj;simp only [Option.bind_some]at hj;rw [hj];rfl
 split at h
 case h_5=>cases h
 ·rename_i i _ b l u hI hx hlo hhi
  cases hb:i.str with
  |false=>rw [hb]at h;cases h
  |true=>
   rw [hb]at h;cases h;refine goal _ ?_;rw [hΘ.sk hI,hb,A5 hx];unfold Ku
   show(match bnd 0 (lo.map s.den.ev),bnd b.size (hi.map s.den.ev)with
    |some l,some h=>_
    |_,_=>False)
   rw [CD hlo,CD hhi];exact⟨hp,Sub.refl _⟩
 ·rename_i i j t' xs l u hI hj hx hlo hhi
  cases hb:(Nat.beq t'.w j.ty.w&& !i.str)with
  |false=>rw [hb]at h;cases h
  |true=>
   rw [hb]at h;cases h;obtain⟨h1,h2⟩:=Ij hb;have h2:i.str=false:=by simpa using h2
   refine goal _ ?_;rw [skS hI hj h2,A5 hx]
   show(match bnd 0 (lo.map s.den.ev),bnd xs.length (hi.map s.den.ev)with
    |some l,some h=>_
    |_,_=>False)
   rw [CD hlo,CD hhi];refine⟨h1,hp,?_⟩;obtain⟨p1,p2,p3⟩:0<=l.getD 0/\l.getD 0<=u.getD xs.length/\u.getD xs.length<=xs.length:=hp;show Sub (V.nd true false t'.w ((u.getD xs.length).toNat-(l.getD 0).toNat) fun i k=>(tyV t' 0 (xs.getD (i+(l.getD 0).toNat) t'.dflt)).getD k .dead) (arr false t'.w (tyV t' 0) t'.dflt _)
   have key: ∀ys:List t'.T,ys.length=(u.getD xs.length).toNat-(l.getD 0).toNat->(∀i,i<ys.length->ys.getD i t'.dflt=xs.getD (i+(l.getD 0).toNat) t'.dflt)->
     Sub (V.nd true false t'.w ((u.getD xs.length).toNat-(l.getD 0).toNat) fun i k=>(tyV t' 0 (xs.getD (i+(l.getD 0).toNat) t'.dflt)).getD k .dead) (arr false t'.w (tyV t' 0) t'.dflt ys):=by
    intro ys hl hg;unfold arr;rw [hl];refine⟨_,rfl,fun i k hi _=>?_⟩
    rw [hg i (by omega)]
    exact Sub.refl _
   cases l with
   |none=>cases u with
    |none=>exact key xs (by simp) fun i hi=>by simp
    |some u=>
     simp only [Option.getD_none,Option.getD_some]at p1 p2 p3⊢;refine key _ ?_ fun i hi=>?_
     ·simp only [JZ,List.length_take];simp;omega
     ·simp only [JZ,List.length_take]at hi
      have:i<u.toNat:=by omega
      simp [List.getElem?_take,this]
   |some l=>cases u with
    |none=>
     simp only [Option.getD_none,Option.getD_some]at p1 p2 p3⊢;refine key _ ?_ fun i hi=>?_
     ·simp
     ·simp [Nat.add_comm]
    |some u=>
     simp only [Option.getD_some]at p1 p2 p3⊢;refine key _ ?_ fun i hi=>?_
     ·simp only [JZ,Option.getD_some,List.length_take,List.length_drop];omega
     ·simp only [JZ,List.length_take,List.length_drop]at hi
      have:i<u.toNat-l.toNat:=by omega
      simp [List.getElem?_take,this,Nat.add_comm]
 ·rename_i i j id p l u hI hj hx hlo hhi
  split at h
  case h_2=>cases h
  rename_i ro t' d xs hn;have hne:Ae s.r id p≠.dead:=by rw [hn];simp
  cases hb:(Nat.beq t'.w j.ty.w&& !i.str)with
  |false=>rw [hb]at h;cases h
  |true=>
   rw [hb]at h;cases h;obtain⟨h1,h2⟩:=Ij hb;have h2:i.str=false:=by simpa using h2
   refine goal _ ?_;rw [skS hI hj h2,A5 hx];have hl:(Ae s.r id p).len=xs.length:=by rw [hn];rfl
   show(match bnd 0 (lo.map s.den.ev),bnd (Ae s.r id p).len (hi.map s.den.ev)with
    |some l,some h=>_
    |_,_=>False)
   rw [CD hlo,CD hhi,hl];refine⟨by rw [Dc (by rw [hn];rfl),hn];exact h1,hp,?_⟩
   show Sub (V.rs id p (0+(l.getD 0).toNat) _) (V.rs id p (l.getD 0).toNat _);rw [Nat.zero_add];exact Sub.refl _
 ·rename_i i j id p off len l u hI hj hx hlo hhi
  split at h
  case h_2=>cases h
  rename_i ro t' d xs hn;have hne:Ae s.r id p≠.dead:=by rw [hn];simp
  cases hb:(Nat.beq t'.w j.ty.w&& !i.str)with
  |false=>rw [hb]at h;cases h
  |true=>
   rw [hb]at h;cases h;obtain⟨h1,h2⟩:=Ij hb;have h2:i.str=false:=by simpa using h2
   refine goal _ ?_;rw [skS hI hj h2,A5 hx]
   show(match bnd 0 (lo.map s.den.ev),bnd len (hi.map s.den.ev)with
    |some l,some h=>_
    |_,_=>False)
   rw [CD hlo,CD hhi];exact⟨by rw [Dc (by rw [hn];rfl),hn];exact h1,hp,Sub.refl _⟩
end Go.Ve


namespace Go.Ve
def PT:List (Bool×Ty)->Ty
 | []=>.unit
 | [p]=>p.2
 |p::q::l=>.pair p.2 (PT (q::l))
def vOf(b:Bool)(t:Ty)(d:Nat)(x:t.T):V:=if b then Af (tyV t d x)else cV t d x
def Ci:(l:List (Bool×Ty))->(PT l).T->List V
 | [],_=>[]
 | [p],x=>[vOf p.1 p.2 0 x]
 |p::q::l,x=>vOf p.1 p.2 0 x.1::Ci (q::l) x.2
def RT:List (Bool×Nat×Ty)->Ty
 | []=>.unit
 | [p]=>p.2.2
 |p::q::l=>.pair p.2.2 (RT (q::l))
def ZX:(l:List (Bool×Nat×Ty))->(RT l).T->List V
 | [],_=>[]
 | [p],x=>[vOf p.1 p.2.2 p.2.1 x]
 |p::q::l,x=>vOf p.1 p.2.2 p.2.1 x.1::ZX (q::l) x.2
def VC(l:List (Bool×Nat×Ty))(x:(RT l).T):V:=LM (ZX l x)
def isP(p:Bool×Nat×Ty):Bool:=!p.1&&match p.2.2 with
 | .ptr _=>true
 |_=>false
def Xf(b:Bool)(p:Bool×Nat×Ty)(x:p.2.2.T):V:=bif b|| !isP p then vOf p.1 p.2.2 p.2.1 x else .c (.pointer none)
def QW(b:Bool):(l:List (Bool×Nat×Ty))->(RT l).T->List V
 | [],_=>[]
 | [p],x=>[Xf b p x]
 |p::q::l,x=>Xf b p x.1::QW b (q::l) x.2
theorem VB: ∀ (l:List (Bool×Nat×Ty)) (x:(RT l).T),QW true l x=ZX l x
 | [],_=>rfl
 | [_],_=>rfl
 |p::q::l,x=>congrArg (vOf p.1 p.2.2 p.2.1 x.1:: ·) (VB (q::l) x.2)
def Jf(b:Bool)(l:List (Bool×Nat×Ty))(x:(RT l).T):V:=LM (QW b l x)
theorem D5(l:List (Bool×Nat×Ty))(x:(RT l).T):Jf true l x=VC l x:=congrArg LM (VB l x)
structure Sig where
 ps:List (Bool×Ty)
 rs:List (Bool×Nat×Ty)
def FT(P:Program)(f:FuncId)(S:Sig)(g:(PT S.ps).T->Option (RT S.rs).T):Prop:=∀x y,g x=some y->FC P f (Ci S.ps x) (VC S.rs y)
structure En where
 f:FuncId
 S:Sig
 g:(PT S.ps).T->Option (RT S.rs).T
def look:List En->FuncId->Option En
 | [],_=>none
 |e::l,f=>bif Nat.beq e.f f then some e else look l f
def En.OK(P:Program)(e:En):Prop:=Ab P e.f=true/\FT P e.f e.S e.g
def Ka(P:Program)(Γ:List En):Prop:=∀e∈Γ,e.OK P
theorem FC.sub{P:Program}{f:FuncId}{args args':List V}{r:V}(h:FC P f args r)(hs:CJ args' args):FC P f args' r:=by
 intro w D cvs hk hD hsz hr;refine h w D cvs hk hD (by rw [hsz,hs.len]) fun i hi=>Rel.sub (hs.getD i) (hr i (by rw [hs.len];exact hi))
def FTN(P:Program)(f:FuncId)(S:Sig)(g:(PT S.ps).T->Option (Bool×(RT S.rs).T)):Prop:=∀x b y,g x=some (b,y)->FC P f (Ci S.ps x) (Jf b S.rs y)
structure EnN where
 f:FuncId
 S:Sig
 g:(PT S.ps).T->Option (Bool×(RT S.rs).T)
def P4:List EnN->FuncId->Option EnN
 | [],_=>none
 |e::l,f=>bif Nat.beq e.f f then some e else P4 l f
def EnN.OK(P:Program)(e:EnN):Prop:=Ab P e.f=true/\FTN P e.f e.S e.g
theorem P3{P:Program}{f:FuncId}{e:EnN}: ∀ {Γ:List EnN},(∀e∈Γ,e.OK P)->P4 Γ f=some e->e.OK P/\e.f=f
 | [],_,h=>by cases h
 |e'::l,hΓ,h=>by
  unfold P4 at h;cases hb:Nat.beq e'.f f with
  |true=>
   rw [hb]at h;cases h;exact⟨hΓ _ (List.mem_cons_self ..),bqE hb⟩
  |false=>
   rw [hb]at h;exact P3 (fun e he=>hΓ e (mCM _ he)) h
def L6(s:St)(w:Nat):Cl->Option Cl
 | .c t _ x=>bif t.one then some (.c t 0 x)else none
 | .nil=>some .nil
 | .rf id p=>match Ae s.r id p with
  | .arr _ t _ xs=>some (.c (.sl t) 0 xs)
  |_=>none
 | .rs id p off len=>match Ae s.r id p with
  | .arr _ t _ xs=>some (.c (.sl t) 0 (ZO off len xs t.dflt))
  |_=>none
 | .rp id p j k=>match Ae s.r id p with
  | .obj _ l=>match j with
   |0=>bif Nat.ble (k+w) l.length then(match Iz ((l.drop k).take w)with
    |some ⟨t,x⟩=>some (.c (.ptr t) 0 x)
    |none=>none)else none
   |_+1=>none
  | .arr _ t _ xs=>bif Nat.ble (k+w) t.w then(match Iz (((As t 0 (AaR xs j t.dflt)).drop k).take w)with
   |some ⟨t',x⟩=>some (.c (.ptr t') 0 x)
   |none=>none)else none
  |_=>none
 |_=>none
theorem Ww{t:Ty}(h:t.one=true)(d:Nat)(x:t.T):frz (cV t d x)=cV t 0 x:=by
 have:=A4 t d x;rw [A2 h,A2 h]at this;simpa using this
def YD(v v':V):Prop:=Sub v v'\/∃sz sz' n f,v= .nd false false sz n f/\sz'<=sz/\Sub (.nd false false sz' n f) v'
theorem Rel.trunc{D:Nat->Prop}{w:World}{R:V->Value->Prop}{sz sz' n:Nat}{f:Nat->Nat->V}{cv:Value}{fp:Nat->Prop}(h:Rel D w R (.nd false false sz n f) cv fp)(hs:sz'<=sz):Rel D w R (.nd false false sz' n f) cv fp:=by
 rcases h with h|⟨b,o,cap,F,hcv,hcap,hmax,hs1,hr,hi,ho⟩
 ·cases h.2.1
 have hn:=hs1 rfl;subst hn;refine .inr ⟨b,o,cap,F,hcv,hcap,hmax,hs1,fun i k hi hk=>?_,fun hh=>?_,fun h=>by cases h⟩
 ·obtain rfl:i=0:=by omega
  obtain⟨x,hx,hrx⟩:=hr 0 k (by omega) (by omega)
  exact⟨x,by simpa using hx,hrx⟩
 ·obtain⟨h1,h2,h3⟩:=hi hh
  exact⟨fun h0=>h1 (by omega),fun i k x hi hk=>h2 i k x hi (by omega),h3⟩
theorem Rel.sub1{D:Nat->Prop}{w:World}{R:V->Value->Prop}{v v':V}{cv:Value}{fp:Nat->Prop}(he:YD v v')(h:Rel D w R v cv fp):Rel D w R v' cv fp:=by
 rcases he with he|⟨sz,sz',n,f,rfl,hs,he⟩
 ·exact Rel.sub he h
 ·exact Rel.sub he (h.trunc hs)
def J8:List V->List V->Prop
 | [],[]=>True
 |a::l,b::m=>YD a b/\J8 l m
 |_,_=>False
theorem J8.len: ∀ {l m:List V},J8 l m->l.length=m.length
 | [],[],_=>rfl
 |_::_,_::_,h=>by simp [J8.len h.2]
 | [],_::_,h=>h.elim
 |_::_,[],h=>h.elim
theorem J8.getD: ∀ {l m:List V} (_:J8 l m) (k:Nat),YD (l.getD k .dead) (m.getD k .dead)
 | [],[],_,_=>.inl (Sub.refl _)
 |_::_,_::_,h,0=>h.1
 |_::_,_::_,h,k+1=>J8.getD h.2 k
 | [],_::_,h,_=>h.elim
 |_::_,[],h,_=>h.elim
theorem FC.sub1{P:Program}{f:FuncId}{args args':List V}{r:V}(h:FC P f args r)(hs:J8 args' args):FC P f args' r:=by
 intro w D cvs hk hD hsz hr;refine h w D cvs hk hD (by rw [hsz,hs.len]) fun i hi=>Rel.sub1 (hs.getD i) (hr i (by rw [hs.len];exact hi))
theorem IP{t:Ty}{x:t.T}{v:V}(h:v∈tyV t 0 x):Go.Ve.frz v=v:=by
 obtain⟨i,hi,rfl⟩:=List.getElem_of_mem h;have e:=A4 t 0 x;have:((tyV t 0 x).map frz)[i]'(by simpa using hi)=(tyV t 0 x)[i]:=by simp only [e]
 simpa using this
theorem CU{σ:List V}: ∀ (t:Ty) (x:t.T),∀v∈tyV t 0 x,BE σ v=v
 | .int _,_,v,h=>by simp [tyV]at h;subst h;rfl
 | .bool,_,v,h=>by simp [tyV]at h;subst h;rfl
 | .str,_,v,h=>by simp [tyV]at h;subst h;rfl
 | .sl t,x,v,h=>by
  have e:=IP (t:=.sl t) (x:=x) h;simp only [tyV,List.mem_singleton]at h;subst h;exact e
 | .ptr t,x,v,h=>by
  have e:=IP (t:=.ptr t) (x:=x) h;simp only [tyV,List.mem_singleton]at h;subst h;exact e
 | .unit,_,v,h=>by simp [tyV]at h
 | .pair a b,x,v,h=>by
  simp only [tyV,List.mem_append]at h;exact h.elim (CU a x.1 v) (CU b x.2 v)
 | .osl t,x,v,h=>by
  have e:=IP (t:=.osl t) (x:=x) h;simp only [tyV,List.mem_singleton]at h;subst h;cases x with
  |none=>rfl
  |some xs=>exact e
 | .clo g t,x,v,h=>by
  simp only [tyV,List.mem_singleton]at h;subst h;show(if Tg.cl g= .bx then _ else V.many (.cl g) t.w fun k=>BE σ ((tyV t 0 x).getD k .dead))=_
  rw [if_neg (by intro h;cases h)]
  congr 1
  funext k
  by_cases hk:k<(tyV t 0 x).length
  ·rw [gDE,gEE hk]
   exact CU t x _ (List.getElem_mem hk)
  ·rw [gDE,List.getElem?_eq_none (by omega)];rfl
theorem HE: ∀ (t:Ty) (x:t.T),∀v∈tyV t 0 x,AH v=false
 | .int _,_,v,h=>by simp [tyV]at h;subst h;rfl
 | .bool,_,v,h=>by simp [tyV]at h;subst h;rfl
 | .str,_,v,h=>by simp [tyV]at h;subst h;rfl
 | .sl _,_,v,h=>by simp only [tyV,List.mem_singleton]at h;subst h;rfl
 | .ptr _,_,v,h=>by simp only [tyV,List.mem_singleton]at h;subst h;rfl
 | .unit,_,v,h=>by simp [tyV]at h
 | .pair a b,x,v,h=>by
  simp only [tyV,List.mem_append]at h;exact h.elim (HE a x.1 v) (HE b x.2 v)
 | .osl t,x,v,h=>by
  simp only [tyV,List.mem_singleton]at h;subst h;cases x<;>rfl
 | .clo g t,x,v,h=>by
  simp only [tyV,List.mem_singleton]at h;subst h;show((List.range t.w).any fun k=>AH ((tyV t 0 x).getD k .dead))=false
  rw [List.any_eq_false];intro k hk;have hk:k<(tyV t 0 x).length:=by rw [Aw];exact List.mem_range.1 hk
  rw [gDE,gEE hk];simp [HE t x _ (List.getElem_mem hk)]
theorem Ye{σ:List V}{g:Nat}{u:Ty}{d:Nat}{x:u.T}:BE σ (cV (.clo g u) d x)=Go.Ve.frz (cV (.clo g u) d x):=by
 have hm:cV (.clo g u) d x∈tyV (.clo g u) 0 x:=List.mem_singleton.2 rfl;rw [CU _ _ _ hm,IP hm]
theorem L5{s:St}{w:Nat}{y y':Cl}(h:L6 s w y=some y'):YD (BE (s.r.map Ac.v) (y.v s.r)) y'.v0/\y'.v0=y'.v s.r/\((∀id p i k,y≠.rp id p i k)->Sub (BE (s.r.map Ac.v) (y.v s.r)) y'.v0):=by
 have both: ∀ {v v':V},Sub v v'->YD v v'/\((∀id p i k,y≠.rp id p i k)->Sub v v'):=fun h=>⟨.inl h,fun _=>h⟩
 unfold L6 at h;split at h
 ·rename_i t d x
  cases ho:t.one with
  |false=>rw [ho]at h;cases h
  |true=>
   rw [ho]at h;cases h
   have:Sub (BE (s.r.map Ac.v) (cV t d x)) (cV t 0 x):=by
    rw [<-Ww ho d x];cases t<;>first|exact Sub.refl _|(cases ho;done)|(cases x<;>exact Sub.refl _)|exact Sub.of_eq Ye
   exact⟨(both this).1,rfl,(both this).2⟩
 ·cases h;exact⟨(both (Sub.refl _)).1,rfl,(both (Sub.refl _)).2⟩
 ·rename_i id p
  split at h
  case h_2=>cases h
  rename_i ro t d xs hn;cases h;have hne:Ae s.r id p≠.dead:=by rw [hn];simp
  have:Sub (BE (s.r.map Ac.v) (V.rs id p 0 (Ae s.r id p).len)) (cV (.sl t) 0 xs):=by
   rw [OO,AS hne,hn];show Sub (Wa (arr true t.w (tyV t d) t.dflt xs) 0 xs.length) _;rw [NG rfl];have e:(fun a=>(tyV t d a).map frz)=tyV t 0:=funext fun x=>A4 t d x
   rw [e];exact Sub.refl _
  exact⟨(both this).1,rfl,(both this).2⟩
 ·rename_i id p off len
  split at h
  case h_2=>cases h
  rename_i ro t d xs hn;cases h;have hne:Ae s.r id p≠.dead:=by rw [hn];simp
  have:Sub (BE (s.r.map Ac.v) (V.rs id p off len)) (cV (.sl t) 0 (ZO off len xs t.dflt)):=by
   rw [OO,AS hne,hn];show Sub (Wa (arr true t.w (tyV t d) t.dflt xs) off len) (arr false t.w (tyV t 0) t.dflt (ZO off len xs t.dflt));unfold arr;have hl:(ZO off len xs t.dflt).length=len:=by simp [ZO]
   rw [hl];refine⟨_,rfl,fun i k hi hk=>Sub.of_eq ?_⟩
   have hg:(ZO off len xs t.dflt).getD i t.dflt=xs.getD (off+i) t.dflt:=by simp [ZO,hi]
   rw [hg,<-A4 t d];exact(Ax (f:=frz) (a:=.dead) rfl (tyV t d (xs.getD (off+i) t.dflt)) k).symm
  exact⟨(both this).1,rfl,(both this).2⟩
 ·rename_i id p j k
  split at h
  ·rename_i ro l hn
   have hne:Ae s.r id p≠.dead:=by rw [hn];simp
   split at h
   case h_2=>cases h
   cases hb:Nat.ble (k+w) l.length with
   |false=>rw [hb]at h;cases h
   |true=>
    rw [hb]at h;have hb:=blE hb;simp only [cond_true]at h;split at h
    case h_2=>cases h
    rename_i t x hf;cases h;refine⟨.inr ⟨l.length-k,w,1,fun i' k'=>([((l.drop k).map Cl.v0).map frz].getD i' []).getD k' .dead,?_,by omega,?_⟩,rfl,fun h=>absurd rfl (h _ _ _ _)⟩
    ·show BE (s.r.map Ac.v) (V.rp id p 0 k)=_
     rw [OP,AS hne,hn];show Yg (Be true (l.map Cl.v0)) 0 k=_;rw [KG];unfold Be;simp only [List.map_drop,List.length_drop,List.length_map]
    ·show Sub _ (Be false (tyV t 0 x))
     have e:=DD _ _ hf;unfold Be;have hl:(tyV t 0 x).length=w:=by rw [e];simp;omega
     rw [hl];refine⟨_,rfl,fun i' k' hi hk=>?_⟩
     obtain rfl:i'=0:=by omega
     refine Sub.of_eq ?_;show(((l.drop k).map Cl.v0).map frz).getD k' .dead=(tyV t 0 x).getD k' .dead;rw [e];simp [List.getElem?_take,hk]
  ·rename_i ro t d xs hn
   have hne:Ae s.r id p≠.dead:=by rw [hn];simp
   cases hb:Nat.ble (k+w) t.w with
   |false=>rw [hb]at h;cases h
   |true=>
    rw [hb]at h;have hb:=blE hb;simp only [cond_true]at h;split at h
    case h_2=>cases h
    rename_i t' x hd;cases h;refine⟨.inr ⟨t.w-k,w,1,fun i' j'=>if i'=0 then frz ((tyV t d (xs.getD j t.dflt)).getD (k+j') .dead)else .dead,?_,by omega,?_⟩,rfl,fun h=>absurd rfl (h _ _ _ _)⟩
    ·show BE (s.r.map Ac.v) (V.rp id p j k)=_
     rw [OP,AS hne,hn];rfl
    ·show Sub _ (Be false (tyV t' 0 x))
     have e:=DD _ _ hd;rw [List.map_take,List.map_drop,BO,List.map_take,List.map_drop,A4]at e;unfold Be;have hl:(tyV t' 0 x).length=w:=by rw [e];simp [Aw];omega
     rw [hl];refine⟨_,rfl,fun i' k' hi hk=>?_⟩
     obtain rfl:i'=0:=by omega
     refine Sub.of_eq ?_;simp only [if_true];show _=(tyV t' 0 x).getD k' .dead;rw [e,<-A4 t d];have:=Ax (f:=frz) (a:=.dead) rfl (tyV t d (xs.getD j t.dflt)) (k+k');rw [<-this];simp only [gDE,List.getElem?_take,hk,if_true,List.getElem?_drop]
  ·cases h
 ·cases h
def NH(s:St):List Cl->Option (List Cl)
 | []=>some []
 |y::l=>match(match y with
   | .rp _ _ _ _=>none
   |y=>L6 s 0 y)with
  |some y'=>match NH s l with
   |some l'=>some (y'::l')
   |none=>none
  |none=>none
theorem L3{s:St}: ∀ {l l':List Cl},NH s l=some l'->CJ ((l.map (Cl.v s.r)).map (BE (s.r.map Ac.v))) (l'.map (Cl.v s.r))
 | [],l',h=>by cases h;trivial
 |y::l,l',h=>by
  unfold NH at h;split at h
  case h_2=>cases h
  rename_i y' hy;split at h
  case h_2=>cases h
  rename_i m hm;cases h;have hne: ∀id p i k,y≠.rp id p i k:=by rintro id p i k rfl;cases hy
  have hy:L6 s 0 y=some y':=by
   cases y with
   |rp id p i k=>exact absurd rfl (hne _ _ _ _)
   |_=>exact hy
  obtain⟨_,h2,h1⟩:=L5 hy;exact⟨by rw [<-h2];exact h1 hne,L3 hm⟩
def Wb(s:St):Cl->Option Cl
 | .rp id p i k=>match i,k with
  |0,0=>match Ae s.r id p with
   | .obj _ l=>match Iz l with
    |some ⟨t,x⟩=>some (.c (.ptr t) 0 x)
    |none=>none
   |_=>none
  |_,_=>none
 |y=>L6 s 0 y
theorem Aai{s:St}{y y':Cl}(h:Wb s y=some y'):Sub (BE (s.r.map Ac.v) (y.v s.r)) y'.v0/\y'.v0=y'.v s.r:=by
 by_cases hc: ∃id p i k,y= .rp id p i k
 ·obtain⟨id,p,i,k,rfl⟩:=hc
  unfold Wb at h;simp only at h;split at h
  case h_2=>cases h
  split at h
  case h_2=>cases h
  rename_i ro l hn;split at h
  case h_2=>cases h
  rename_i t x hf;cases h;have hne:Ae s.r id p≠.dead:=by rw [hn];simp
  refine⟨?_,rfl⟩;show Sub (BE (s.r.map Ac.v) (V.rp id p 0 0)) (Be false (tyV t 0 x));rw [OP,AS hne,hn];show Sub (Yg (Be true (l.map Cl.v0)) 0 0) _;rw [KG,DD _ _ hf];exact Sub.refl _
 ·have hne: ∀id p i k,y≠.rp id p i k:=fun id p i k e=>hc ⟨id,p,i,k,e⟩
  have h:L6 s 0 y=some y':=by
   cases y with
   |rp id p i k=>exact absurd rfl (hne _ _ _ _)
   |_=>exact h
  obtain⟨_,h2,h1⟩:=L5 h;exact⟨h1 hne,h2⟩
def Jv(s:St):List Cl->Option (List Cl)
 | []=>some []
 |y::l=>match Wb s y with
  |some y'=>match Jv s l with
   |some l'=>some (y'::l')
   |none=>none
  |none=>none
theorem L4{s:St}: ∀ {l l':List Cl},Jv s l=some l'->CJ ((l.map (Cl.v s.r)).map (BE (s.r.map Ac.v))) (l'.map (Cl.v s.r))
 | [],l',h=>by cases h;trivial
 |y::l,l',h=>by
  unfold Jv at h;split at h
  case h_2=>cases h
  rename_i y' hy;split at h
  case h_2=>cases h
  rename_i m hm;cases h;obtain⟨h1,h2⟩:=Aai hy;exact⟨by rw [<-h2];exact h1,L4 hm⟩
theorem CJ.pk{t:Tg}{l m:List V}(h:CJ l m):Sub (pkL t l) (pkL t m):=by
 unfold pkL;rw [h.len];exact⟨_,rfl,fun k _=>h.getD k⟩
def IZ(s:St)(b:Bool)(t:Ty):Option Sl->Option t.T
 |some (.one y)=>bif b then none else bif t.one then(match L6 s (match t with
   | .ptr u=>u.w
   |_=>0) y with
  |some y'=>D8 t 0 y'
  |none=>none)else none
 |some (.agg l)=>bif b then(match NH s l with
  |some l'=>H6 t 0 l'
  |none=>none)else none
 |some (.pk .bx l)=>bif b then none else(match t with
  | .ptr u=>(match NH s l with
   |some l'=>H6 u 0 l'
   |none=>none)
  |_=>none)
 |some (.pk (.cl g) l)=>bif b then none else(match t with
  | .clo g' u=>bif Nat.beq g g' then(match Jv s l with
   |some l'=>H6 u 0 l'
   |none=>none)else none
  |_=>none)
 |_=>none
theorem CJ.trans: ∀ {a b c:List V},CJ a b->CJ b c->CJ a c:=by
 intro a
 induction a with
 |nil=>intro b c h1 h2;cases b<;>first|exact h2|exact h1.elim
 |cons v a ih=>intro b c h1 h2;cases b with
  |nil=>exact h1.elim
  |cons w b=>cases c with
   |nil=>exact h2.elim
   |cons u c=>exact⟨h1.1.trans h2.1,ih h1.2 h2.2⟩
theorem Vk{s:St}{b:Bool}{t:Ty}{x:Operand}{z:t.T}(h:IZ s b t (s.ev x)=some z):YD (BE (s.r.map Ac.v) (s.den.ev x)) (vOf b t 0 z):=by
 unfold IZ at h;split at h
 case h_5=>cases h
 ·rename_i y hy
  cases b with
  |true=>cases h
  |false=>
   cases ho:t.one with
   |false=>rw [ho]at h;cases h
   |true=>
    rw [ho]at h;simp only [cond_false,cond_true]at h;split at h
    case h_2=>cases h
    rename_i y' hl;obtain⟨h1,h2,_⟩:=L5 hl;obtain⟨g1,g2⟩:=LP h s.r;rw [A5 hy];have g1:Sub y'.v0 (vOf false t 0 z):=h2▸g1;rcases h1 with h1|⟨sz,sz',n,f,e1,e2,e3⟩
    ·exact .inl (h1.trans g1)
    ·exact .inr ⟨sz,sz',n,f,e1,e2,e3.trans g1⟩
 ·rename_i l hy
  cases b with
  |false=>cases h
  |true=>
   simp only [cond_true]at h;split at h
   case h_2=>cases h
   rename_i l' hl;rw [A5 hy];left;show Sub (BE _ (Af _)) (Af _);rw [Aag];refine CJ.mk ?_;have h1:=L3 hl;have h2:=(CQ h s.r).1;exact CJ.trans h1 h2
 ·rename_i l hy
  cases b with
  |true=>cases h
  |false=>
   simp only [cond_false]at h;split at h
   case h_2=>cases h
   rename_i u;split at h
   case h_2=>cases h
   rename_i l' hl;rw [A5 hy];left;show Sub (BE _ (AaW _)) (Be false (tyV u 0 z));rw [Yf];exact CJ.obj (CJ.trans (L3 hl) (CQ h s.r).1)
 ·rename_i g l hy
  cases b with
  |true=>cases h
  |false=>
   simp only [cond_false]at h;split at h
   case h_2=>cases h
   rename_i g' u;cases hb:Nat.beq g g' with
   |false=>rw [hb]at h;cases h
   |true=>
    rw [hb]at h;simp only [cond_true]at h;have hg:=bqE hb;subst hg;split at h
    case h_2=>cases h
    rename_i l' hl;rw [A5 hy];left
    have e:V.many (.cl g) u.w (fun k=>(tyV u 0 z).getD k .dead)=pkL (.cl g) (tyV u 0 z):=by
     unfold pkL;rw [Aw]
    show Sub (BE _ (pkL (.cl g) _)) (V.many (.cl g) u.w fun k=>(tyV u 0 z).getD k .dead)
    rw [e,Aah];exact CJ.pk (CJ.trans (L4 hl) (CQ h s.r).1)
def Iw(s:St):(l:List (Bool×Ty))->List (Option Sl)->Option (PT l).T
 | [],[]=>some ()
 | [p],[y]=>IZ s p.1 p.2 y
 |p::q::l,y::ys=>match IZ s p.1 p.2 y with
  |some z=>match Iw s (q::l) ys with
   |some zs=>some (z,zs)
   |none=>none
  |none=>none
 |_,_=>none
def resC(b:Bool)(d:Nat)(t:Ty)(x:t.T):Bool×List Cl:=(b,As t d x)
def QY(b:Bool)(p:Bool×Nat×Ty)(x:p.2.2.T):Bool×List Cl:=bif b|| !isP p then resC p.1 p.2.1 p.2.2 x else(false,[.nilp])
def resL(b:Bool):(l:List (Bool×Nat×Ty))->(RT l).T->List (Bool×List Cl)
 | [],_=>[]
 | [p],x=>[QY b p x]
 |p::q::l,x=>QY b p x.1::resL b (q::l) x.2
def Mx(b:Bool)(l:List (Bool×Nat×Ty))(x:(RT l).T):Sl:=match resL b l x with
 | [(true,cs)]=>.agg cs
 | [(false,cs)]=>.one (cs.getD 0 .dead)
 |m=>.tup m
theorem ZY{r:List Ac}(b:Bool)(d:Nat)(t:Ty)(x:t.T)(h:b=true\/t.one=true):(if b then Af ((As t d x).map (Cl.v r))else((As t d x).map (Cl.v r)).getD 0 .dead)=vOf b t d x:=by
 rw [Cl.v_c];cases b with
 |true=>rfl
 |false=>
  rcases h with h|h
  ·cases h
  ·show(tyV t d x).getD 0 .dead=cV t d x
   rw [A2 h];rfl
def C7:List (Bool×Nat×Ty)->Bool
 | []=>true
 |p::l=>(p.1||p.2.2.one)&&C7 l
theorem PB{r:List Ac}(b:Bool)(p:Bool×Nat×Ty)(x:p.2.2.T)(h:p.1=true\/p.2.2.one=true):(if(QY b p x).1 then Af ((QY b p x).2.map (Cl.v r))else((QY b p x).2.map (Cl.v r)).getD 0 .dead)=Xf b p x:=by
 unfold QY Xf;cases b|| !isP p with
 |true=>exact ZY (r:=r) p.1 p.2.1 p.2.2 x h
 |false=>rfl
theorem YV{r:List Ac}(b:Bool): ∀ (l:List (Bool×Nat×Ty)) (x:(RT l).T),C7 l=true->(resL b l x).map (fun p=>if p.1 then Af (p.2.map (Cl.v r))else(p.2.map (Cl.v r)).getD 0 .dead)=QW b l x
 | [],x,_=>rfl
 | [p],x,h=>by
  simp only [C7,bAE,Bool.or_eq_true]at h;show [_]= [Xf _ _ _];rw [<-PB (r:=r) b p x h.1]
  first|done|rfl
 |p::q::l,x,h=>by
  have h':((p.1||p.2.2.one)&&C7 (q::l))=true:=h;simp only [bAE,Bool.or_eq_true]at h';show _::(resL b (q::l) x.2).map _=Xf _ _ _::_;rw [YV b (q::l) x.2 h'.2,<-PB (r:=r) b p x.1 h'.1]
  first|done|rfl
theorem PA{r:List Ac}(b:Bool)(l:List (Bool×Nat×Ty))(x:(RT l).T)(h:C7 l=true):(Mx b l x).v r=Jf b l x:=by
 have e:=YV (r:=r) b l x h;unfold Jf;rw [<-e];unfold Mx;split
 ·rename_i cs hc
  rw [hc];rfl
 ·rename_i cs hc
  rw [hc];show(cs.getD 0 .dead).v r=(cs.map (Cl.v r)).getD 0 .dead;rw [Ax (f:=Cl.v r) (a:=.dead) rfl]
 ·rename_i m h1 h2
  generalize resL b l x=m at*;show C1 _=LM _
  match m,h1,h2 with
  | [],_,_=>rfl
  | [(true,cs)],h1,_=>exact absurd rfl (h1 cs)
  | [(false,cs)],_,h2=>exact absurd rfl (h2 cs)
  |a::b::m,_,_=>rfl
def Ty.noFn:Ty->Bool
 | .clo _ _=>false
 | .osl _=>false
 | .sl t=>t.noFn
 | .ptr t=>t.noFn
 | .pair a b=>a.noFn&&b.noFn
 |_=>true
theorem BY: ∀ (t:Ty) (d:Nat) (x:t.T),t.dep<=d->t.noFn=true->∀v∈tyV t d x,Bv v
 | .int _,_,_,_,_,v,h=>by simp only [tyV,List.mem_singleton]at h;subst h;trivial
 | .bool,_,_,_,_,v,h=>by simp only [tyV,List.mem_singleton]at h;subst h;trivial
 | .str,_,_,_,_,v,h=>by simp only [tyV,List.mem_singleton]at h;subst h;trivial
 | .unit,_,_,_,_,v,h=>by cases h
 | .clo _ _,_,_,_,hf,_,_=>by cases hf
 | .osl _,_,_,_,hf,_,_=>by cases hf
 | .sl t,d,xs,hd,hf,v,h=>by
  simp only [Ty.dep]at hd;simp only [tyV,List.mem_singleton]at h;subst h;refine⟨dT (by omega),fun i k _ hk=>?_⟩
  exact BY t (d-1) _ (by omega) hf _ (HI (by rw [Aw];exact hk))
 | .ptr t,d,x,hd,hf,v,h=>by
  simp only [Ty.dep]at hd;simp only [tyV,List.mem_singleton]at h;subst h;refine⟨dT (by omega),fun i k hi hk=>?_⟩
  obtain rfl:i=0:=by omega
  exact BY t (d-1) _ (by omega) hf _ (HI hk)
 | .pair a b,d,x,hd,hf,v,h=>by
  simp only [Ty.noFn,bAE]at hf;simp only [Ty.dep]at hd;rcases List.mem_append.1 h with h|h
  ·exact BY a d _ (by omega) hf.1 v h
  ·exact BY b d _ (by omega) hf.2 v h
def CG:List (Bool×Nat×Ty)->Bool
 | []=>true
 |p::l=>Nat.ble p.2.2.dep p.2.1&&p.2.2.noFn&&(p.1||p.2.2.one)&&CG l
theorem OH(b:Bool)(d:Nat)(t:Ty)(x:t.T)(h:t.dep<=d)(hf:t.noFn=true)(h2:b=true\/t.one=true):Bv (vOf b t d x):=by
 cases b with
 |true=>
  show Bv (Af _);rw [Ue];exact BY t d x h hf
 |false=>
  rcases h2 with h2|h2
  ·cases h2
  ·exact BY t d x h hf _ (by rw [A2 h2];exact List.mem_singleton.2 rfl)
theorem Ir(b:Bool)(p:Bool×Nat×Ty)(x:p.2.2.T)(h:p.2.2.dep<=p.2.1)(hf:p.2.2.noFn=true)(h2:p.1=true\/p.2.2.one=true):Bv (Xf b p x):=by
 unfold Xf;cases b|| !isP p with
 |true=>exact OH _ _ _ _ h hf h2
 |false=>trivial
theorem Is(b:Bool): ∀ (l:List (Bool×Nat×Ty)) (x:(RT l).T),CG l=true->∀v∈QW b l x,Bv v
 | [],_,_,v,h=>by cases h
 | [p],x,hr,v,h=>by
  simp only [CG,bAE,Bool.or_eq_true]at hr;rw [List.mem_singleton.1 h];exact Ir b p x (blE hr.1.1.1) hr.1.1.2 hr.1.2
 |p::q::l,x,hr,v,h=>by
  have hr':(Nat.ble p.2.2.dep p.2.1&&p.2.2.noFn&&(p.1||p.2.2.one)&&CG (q::l))=true:=hr;simp only [bAE,Bool.or_eq_true]at hr';rcases List.mem_cons.1 h with rfl|h
  ·exact Ir b p x.1 (blE hr'.1.1.1) hr'.1.1.2 hr'.1.2
  ·exact Is b (q::l) x.2 hr'.2 v h
theorem Da(b:Bool)(l:List (Bool×Nat×Ty))(x:(RT l).T)(h:CG l=true):Bv (Jf b l x):=by
 have:=Is b l x h;unfold Jf LM;split
 ·rename_i v hv
  exact this v (by rw [hv];exact List.mem_singleton.2 rfl)
 ·have h2:=this
  rw [<-OI]at h2;exact h2
def Cl.lent:Cl->Bool
 | .rf _ _=>true
 | .rs _ _ _ _=>true
 | .rp _ _ _ _=>true
 |y=>y.own
def Sl.lent:Sl->Bool
 | .one c=>c.lent
 | .agg l=>l.any Cl.lent
 | .pk _ l=>l.any Cl.lent
 |_=>true
def Hx(xs:List (Option Sl)):Bool:=xs.all fun x=>match x with
 |some y=>!y.lent
 |none=>false
theorem Cl.lent_v{r:List Ac}(c:Cl):c.lent=false->AH (c.v r)=false:=by
 intro h;cases c with
 |c t d x=>
  have h:(Cl.c t d x).own=false:=h;cases t<;>cases d<;>first|rfl|(cases h;done)|(cases x<;>first|rfl|(cases h;done))|exact HE (.clo _ _) x _ (List.mem_singleton.2 rfl)
 |rf=>cases h
 |rs=>cases h
 |rp=>cases h
 |_=>rfl
theorem NB{r:List Ac}(tg:Tg)(l:List Cl)(h:l.any Cl.lent=false):AH (.many tg (l.map (Cl.v r)).length fun k=>(l.map (Cl.v r)).getD k .dead)=false:=by
 show((List.range _).any fun k=>AH ((l.map (Cl.v r)).getD k .dead))=false
 rw [List.any_eq_false];intro k hk;have hk:k<l.length:=by simpa using hk
 rw [Ax (f:=Cl.v r) (a:=.dead) rfl]
 have:(l.getD k .dead).lent=false:=by
  have:=List.any_eq_false.1 h (l.getD k .dead) (by simp [gDE,hk])
  simpa using this
 rw [Cl.lent_v _ this];simp
theorem PU{s:St}{xs:List Operand}(h:Hx (xs.map s.ev)=true):(xs.map s.den.ev).any AH=false:=by
 rw [List.any_eq_false];intro v hv;obtain⟨x,hx,rfl⟩:=List.mem_map.1 hv;have h1:=aET.1 h (s.ev x) (List.mem_map.2 ⟨x,hx,rfl⟩);cases hy:s.ev x with
 |none=>rw [hy]at h1;cases h1
 |some y=>
  rw [hy]at h1;have h1:y.lent=false:=by simpa using h1
  rw [A5 hy]
  have:AH (y.v s.r)=false:=by
   cases y with
   |one c=>exact Cl.lent_v c h1
   |agg l=>exact NB .ag l h1
   |pk t l=>exact NB t l h1
   |new l=>cases h1
   |tup l=>cases h1
  rw [this];simp
def Ds(s:St):Option Sl->Option Sl
 |some (.one (.rf id p))=>match Ae s.r id p with
  | .opt _ u _ x=>some (.one (.c (.sl u) 0 (getO x)))
  |_=>some (.one (.rf id p))
 |y=>y
def O6(s:St):Option Sl->List Bool
 |some (.one (.rf id p))=>match Ae s.r id p with
  | .opt _ _ _ x=>[isO x]
  |_=>[]
 |_=>[]
def KX(s:St):List (Option Sl)->List Bool
 | []=>[]
 |y::l=>O6 s y++KX s l
def gate{α:Type}:List Bool->Option α->Option α
 | [],o=>o
 |b::l,o=>Pb b (gate l o) none
structure UK where
 α:Type
 o:Option α
 y:α->Sl
structure CallN where
 α:Type
 o:Option (Bool×α)
 y:Bool->α->Sl
def Kf(e:En)(s:St)(xs:List (Option Sl)):Option UK:=
 bif CG e.S.rs||(C7 e.S.rs&&Hx xs)then(match Iw s e.S.ps (xs.map (Ds s))with
  |some z=>some ⟨(RT e.S.rs).T,gate (KX s xs) (e.g z),fun y=>Mx true e.S.rs y⟩
  |none=>none)else none
def IY:List En->St->FuncId->List (Option Sl)->Option UK
 | [],_,_,_=>none
 |e::Γ,s,f,xs=>bif Nat.beq e.f f then(match Kf e s xs with
  |some a=>some a
  |none=>IY Γ s f xs)else IY Γ s f xs
theorem IE{s:St}{f:FuncId}{xs:List (Option Sl)}{a:UK}: ∀ {Γ:List En},IY Γ s f xs=some a->∃e∈Γ,e.f=f/\Kf e s xs=some a
 | [],h=>by cases h
 |e::Γ,h=>by
  have back:IY Γ s f xs=some a->∃e'∈e::Γ,e'.f=f/\Kf e' s xs=some a:=fun h=>by
   obtain⟨e',h1,h2⟩:=IE h;exact⟨e',mCM _ h1,h2⟩
  unfold IY at h;cases hb:Nat.beq e.f f with
  |false=>rw [hb]at h;exact back h
  |true=>
   rw [hb]at h;simp only [cond_true]at h;split at h
   ·rename_i a' ha
    cases h;exact⟨e,List.mem_cons_self ..,bqE hb,ha⟩
   ·exact back h
def Vi(Γ:List EnN)(s:St)(f:FuncId)(xs:List (Option Sl)):Option CallN:=
 match P4 Γ f with
 |some e=>bif CG e.S.rs||(C7 e.S.rs&&Hx xs)then(match Iw s e.S.ps (xs.map (Ds s))with
  |some z=>some ⟨(RT e.S.rs).T,gate (KX s xs) (e.g z),fun b y=>Mx b e.S.rs y⟩
  |none=>none)else none
 |none=>none
theorem Ho: ∀ {l:List (Bool×Nat×Ty)},CG l=true->C7 l=true
 | [],_=>rfl
 |p::l,h=>by
  simp only [CG,bAE]at h;simp only [C7,bAE];exact⟨h.1.2,Ho h.2⟩
theorem Aak{t1 t2:Nat->Sl}{r:List Ac}{w:Nat}{y:Cl}:L6 ⟨t1,r⟩ w y=L6 ⟨t2,r⟩ w y:=by cases y<;>rfl
theorem OQ{t1 t2:Nat->Sl}{r:List Ac}: ∀l:List Cl,NH ⟨t1,r⟩ l=NH ⟨t2,r⟩ l
 | []=>rfl
 |y::l=>by
  unfold NH;rw [OQ (t1:=t1) (t2:=t2) l];cases y<;>rfl
theorem Aaj{t1 t2:Nat->Sl}{r:List Ac}{y:Cl}:Wb ⟨t1,r⟩ y=Wb ⟨t2,r⟩ y:=by
 cases y with
 |rp id p i k=>cases i<;>cases k<;>rfl
 |_=>rfl
theorem P5{t1 t2:Nat->Sl}{r:List Ac}: ∀l:List Cl,Jv ⟨t1,r⟩ l=Jv ⟨t2,r⟩ l
 | []=>rfl
 |y::l=>by
  unfold Jv;rw [P5 (t1:=t1) (t2:=t2) l,Aaj (t1:=t1) (t2:=t2)]
theorem YQ{t1 t2:Nat->Sl}{r:List Ac}{b:Bool}{t:Ty}{o:Option Sl}:IZ ⟨t1,r⟩ b t o=IZ ⟨t2,r⟩ b t o:=by
 cases o with
 |none=>rfl
 |some y=>
  cases y with
  |one y=>unfold IZ;simp only [Aak (t1:=t1) (t2:=t2)]
  |agg l=>unfold IZ;simp only [OQ (t1:=t1) (t2:=t2)]
  |pk t l=>cases t<;>first|rfl|(unfold IZ;simp only [P5 (t1:=t1) (t2:=t2)];done)|(unfold IZ;simp only [OQ (t1:=t1) (t2:=t2)];done)
  |_=>rfl
theorem tArg_y{s:St}{b:Bool}{t:Ty}{y:Sl}{z:t.T}(h:IZ s b t (some y)=some z):YD (BE (s.r.map Ac.v) (y.v s.r)) (vOf b t 0 z):=
 Vk (s:=⟨fun _=>y,s.r⟩) (x:=.tmp 0) (by
  have:IZ ⟨fun _=>y,s.r⟩ b t (some y)=some z:=by rw [<-h];exact YQ
  exact this)
theorem DC{α:Type}{u:α}: ∀ {l:List Bool} {o:Option α},gate l o=some u->o=some u/\∀b∈l,b=true
 | [],_,h=>⟨h,fun _ h=>by cases h⟩
 |b::l,o,h=>by
  unfold gate at h;cases b with
  |false=>cases h
  |true=>
   obtain⟨h1,h2⟩:=DC (l:=l) (o:=o) h;exact⟨h1,fun c hc=>(List.mem_cons.1 hc).elim id (h2 c)⟩
theorem OJ{s:St}{b:Bool}{t:Ty}{x:Operand}{z:t.T}(h:IZ s b t (Ds s (s.ev x))=some z)(hc: ∀c∈O6 s (s.ev x),c=true):YD (BE (s.r.map Ac.v) (s.den.ev x)) (vOf b t 0 z):=by
 cases hx:s.ev x with
 |none=>rw [hx]at h;exact Vk (by rw [hx];exact h)
 |some y=>
  by_cases hy: ∃id p ro u d v,y= .one (.rf id p)/\Ae s.r id p= .opt ro u d v
  ·obtain⟨id,p,ro,u,d,v,rfl,hn⟩:=hy
   rw [hx]at h hc;simp only [Ds,O6,hn]at h hc;have hv:isO v=true:=hc _ (List.mem_singleton.2 rfl);cases v with
   |none=>cases hv
   |some ys=>
    have h2:=tArg_y h;have e1:BE (s.r.map Ac.v) ((Sl.one (.c (.sl u) 0 ys)).v s.r)=cV (.sl u) 0 ys:=CU (.sl u) ys _ (List.mem_singleton.2 rfl);have e1':BE (s.r.map Ac.v) ((Sl.one (.c (.sl u) 0 (getO (some ys)))).v s.r)=cV (.sl u) 0 ys:=e1;rw [e1']at h2
    have e2:BE (s.r.map Ac.v) (s.den.ev x)=cV (.sl u) 0 ys:=by
     rw [A5 hx];show BE (s.r.map Ac.v) (V.rs id p 0 (Ae s.r id p).len)=_;rw [OO,AS (by rw [hn];simp),hn]
     show Wa (arr true u.w (tyV u d) u.dflt ys) 0 ys.length=_;rw [NG rfl];have e:(fun a=>(tyV u d a).map frz)=tyV u 0:=funext fun x=>A4 u d x
     rw [e];rfl
    rw [e2];exact h2
  ·have e:Ds s (some y)=some y:=by
    cases y with
    |one c=>
     cases c with
     |rf id p=>
      cases hn:Ae s.r id p with
      |opt ro u d v=>exact absurd ⟨id,p,ro,u,d,v,rfl,hn⟩ hy
      |_=>simp only [Ds,hn]
     |_=>rfl
    |_=>rfl
   rw [hx,e,<-hx]at h;exact Vk h
theorem VW{s:St}{b:Bool}{t:Ty}{y:Sl}{z:t.T}(h:IZ s b t (Ds s (some y))=some z)(hc: ∀c∈O6 s (some y),c=true):YD (BE (s.r.map Ac.v) (y.v s.r)) (vOf b t 0 z):=by
 have e1:Ds ⟨fun _=>y,s.r⟩ (some y)=Ds s (some y):=by
  cases y with
  |one c=>cases c<;>rfl
  |_=>rfl
 have e2:O6 ⟨fun _=>y,s.r⟩ (some y)=O6 s (some y):=by
  cases y with
  |one c=>cases c<;>rfl
  |_=>rfl
 refine OJ (s:=⟨fun _=>y,s.r⟩) (x:=.tmp 0) ?_ ?_
 ·show IZ ⟨fun _=>y,s.r⟩ b t (Ds ⟨fun _=>y,s.r⟩ (some y))=some z
  rw [e1,<-h];exact YQ
 ·show ∀c∈O6 ⟨fun _=>y,s.r⟩ (some y),c=true
  rw [e2];exact hc
theorem Lt{s:St}: ∀ (l:List (Bool×Ty)) (ys:List Sl) (z:(PT l).T),Iw s l ((ys.map some).map (Ds s))=some z->(∀c∈KX s (ys.map some),c=true)->J8 ((ys.map (Sl.v s.r)).map (BE (s.r.map Ac.v))) (Ci l z)
 | [],[],z,h,_=>trivial
 | [p],[y],z,h,hc=>⟨VW h fun c h=>hc c (List.mem_append_left _ h),trivial⟩
 |p::q::l,y::ys,z,h,hc=>by
  have h:(match IZ s p.1 p.2 (Ds s (some y))with
   |some z=>match Iw s (q::l) ((ys.map some).map (Ds s))with
    |some zs=>some (z,zs)
    |none=>none
   |none=>none:Option (PT (p::q::l)).T)=some z:=h
  split at h
  case h_2=>cases h
  rename_i z1 h1;split at h
  case h_2=>cases h
  rename_i zs h2;cases h;exact⟨VW h1 fun c h=>hc c (List.mem_append_left _ h),Lt (q::l) ys zs h2 fun c h=>hc c (List.mem_append_right _ h)⟩
 | [],_::_,_,h,_=>by cases h
 | [_],[],_,h,_=>by cases h
 | [_],_::_::_,_,h,_=>by cases h
 |_::_::_,[],_,h,_=>by cases h
theorem Pv{s:St}: ∀ (l:List (Bool×Ty)) (xs:List Operand) (z:(PT l).T),Iw s l ((xs.map s.ev).map (Ds s))=some z->(∀c∈KX s (xs.map s.ev),c=true)->J8 ((xs.map s.den.ev).map (BE (s.r.map Ac.v))) (Ci l z)
 | [],[],z,h,_=>trivial
 | [p],[x],z,h,hc=>⟨OJ h fun c h=>hc c (List.mem_append_left _ h),trivial⟩
 |p::q::l,x::xs,z,h,hc=>by
  have h:(match IZ s p.1 p.2 (Ds s (s.ev x))with
   |some z=>match Iw s (q::l) ((xs.map s.ev).map (Ds s))with
    |some zs=>some (z,zs)
    |none=>none
   |none=>none:Option (PT (p::q::l)).T)=some z:=h
  split at h
  case h_2=>cases h
  rename_i z1 h1;split at h
  case h_2=>cases h
  rename_i zs h2;cases h;exact⟨OJ h1 fun c h=>hc c (List.mem_append_left _ h),Pv (q::l) xs zs h2 fun c h=>hc c (List.mem_append_right _ h)⟩
 | [],_::_,_,h,_=>by cases h
 | [_],[],_,h,_=>by cases h
 | [_],_::_::_,_,h,_=>by cases h
 |_::_::_,[],_,h,_=>by cases h
theorem K7{P:Program}{s:St}{f:FuncId}{xs:Array Operand}{ats}{ps:List (Bool×Ty)}{rs:List (Bool×Nat×Ty)}{z:(PT ps).T}{b:Bool}{u:(RT rs).T}(hc:Ab P f=true)(hft:FC P f (Ci ps z) (Jf b rs u))(hz:Iw s ps ((xs.toList.map s.ev).map (Ds s))=some z)(hcd: ∀c∈KX s (xs.toList.map s.ev),c=true)
  (ho:(CG rs||(C7 rs&&Hx (xs.toList.map s.ev)))=true):QS P s (.call ⟨.value (.func f),xs,ats⟩) (Mx b rs u):=by
 show Call P f ((xs.toList.map s.den.ev).any AH) ((xs.toList.map s.den.ev).map (BE (s.r.map Ac.v))) (SK s _);rw [Bool.or_eq_true,bAE]at ho;have hok:C7 rs=true:=ho.elim Ho (·.1)
 refine⟨Jf b rs u,⟨hc,hft.sub1 (Pv _ _ _ hz hcd)⟩,fun hl=>?_,?_⟩
 ·rcases ho with ho|⟨_,ho⟩
  ·exact Da _ _ _ ho
  ·rw [PU ho]at hl;cases hl
 ·show Sub _ ((Mx b rs u).v s.r)
  rw [PA _ _ _ hok];exact Sub.refl _
theorem Om{P:Program}{Γ:List En}(hΓ:Ka P Γ){s:St}{f:FuncId}{xs ats}{a:UK}(h:IY Γ s f (xs.toList.map s.ev)=some a){u:a.α}(hu:a.o=some u):QS P s (.call ⟨.value (.func f),xs,ats⟩) (a.y u):=by
 obtain⟨e,he,hef,hx⟩:=IE h;subst hef;clear h;unfold Kf at hx;have h:=hx;clear hx;cases ho:(CG e.S.rs||(C7 e.S.rs&&Hx (xs.toList.map s.ev)))with
 |false=>rw [ho]at h;cases h
 |true=>
  rw [ho]at h;simp only [cond_true]at h;split at h
  case h_2=>cases h
  rename_i z hz;cases h;obtain⟨hc,hft⟩:=hΓ e he;obtain⟨hu,hcd⟩:=DC hu;exact K7 hc (by rw [D5];exact hft z u hu) hz hcd ho
theorem MT{P:Program}{Γ:List EnN}(hΓ: ∀e∈Γ,e.OK P){s:St}{f:FuncId}{xs ats}{a:CallN}(h:Vi Γ s f (xs.toList.map s.ev)=some a){b:Bool}{u:a.α}(hu:a.o=some (b,u)):QS P s (.call ⟨.value (.func f),xs,ats⟩) (a.y b u):=by
 unfold Vi at h;split at h
 case h_2=>cases h
 rename_i e he;cases ho:(CG e.S.rs||(C7 e.S.rs&&Hx (xs.toList.map s.ev)))with
 |false=>rw [ho]at h;cases h
 |true=>
  rw [ho]at h;simp only [cond_true]at h;split at h
  case h_2=>cases h
  rename_i z hz;cases h;obtain⟨⟨hc,hft⟩,rfl⟩:=P3 hΓ he;obtain⟨hu,hcd⟩:=DC hu;exact K7 hc (hft z b u hu) hz hcd ho
theorem PS{s:St}{ys:List Sl}(h:Hx (ys.map some)=true):(ys.map (Sl.v s.r)).any AH=false:=by
 have:=PU (s:=⟨fun i=>ys.getD i (.one .dead),s.r⟩) (xs:=(List.range ys.length).map Operand.tmp) (by
  have e:((List.range ys.length).map Operand.tmp).map (St.ev ⟨fun i=>ys.getD i (.one .dead),s.r⟩)=ys.map some:=by
   rw [List.map_map];apply List.ext_getElem (by simp)
   intro i h1 h2;have hi:i<ys.length:=by simpa using h1
   have:(St.ev ⟨fun i=>ys.getD i (.one .dead),s.r⟩ (.tmp i))=some (ys.getD i (.one .dead)):=rfl
   simp only [List.getElem_map,List.getElem_range,Function.comp];show some (ys.getD i (.one .dead))=_;simp [hi]
  rw [e];exact h)
 have e2:((List.range ys.length).map Operand.tmp).map (St.den ⟨fun i=>ys.getD i (.one .dead),s.r⟩).ev=ys.map (Sl.v s.r):=by
  rw [List.map_map];apply List.ext_getElem (by simp)
  intro i h1 h2;have hi:i<ys.length:=by simpa using h1
  have:(St.den ⟨fun i=>ys.getD i (.one .dead),s.r⟩).ev (.tmp i)=(ys.getD i (.one .dead)).v s.r:=rfl
  simp only [List.getElem_map,List.getElem_range,Function.comp];show(ys.getD i (.one .dead)).v s.r=_;simp [hi]
 rw [e2]at this;exact this
def allS:List (Option Sl)->Option (List Sl)
 | []=>some []
 |some y::l=>match allS l with
  |some m=>some (y::m)
  |none=>none
 |none::_=>none
theorem W4{s:St}: ∀ {xs:List Operand} {ys:List Sl},allS (xs.map s.ev)=some ys->xs.map s.den.ev=ys.map (Sl.v s.r)
 | [],ys,h=>by cases h;rfl
 |x::xs,ys,h=>by
  rw [List.map_cons]at h;cases hx:s.ev x with
  |none=>rw [hx]at h;cases h
  |some y=>
   rw [hx]at h;unfold allS at h;split at h
   case h_2=>cases h
   rename_i m hm;cases h;rw [List.map_cons,List.map_cons,A5 hx,W4 hm]
def cloS(s:St)(y:Nat):Option (FuncId×List Sl):=match s.t y with
 | .one (.c (.clo g t) _ x)=>bif Nat.blt g 1000000 then some (g,(As t 0 x).map .one)else none
 |_=>none
def cloF(s:St):Op->Option (FuncId×List Sl)
 | .call c=>match c.callee with
  | .value (.tmp y)=>match cloS s y,allS (c.args.toList.map s.ev)with
   |some (g,cs),some ys=>some (g,ys++cs)
   |_,_=>none
  |_=>none
 |_=>none
theorem UD{P:Program}{Γ:List En}(hΓ:Ka P Γ){s:St}{op:Op}{g:FuncId}{ys:List Sl}{a:UK}(hf:cloF s op=some (g,ys))(h:IY Γ s g (ys.map some)=some a){u:a.α}(hu:a.o=some u):QS P s op (a.y u):=by
 unfold cloF at hf;split at hf
 case h_2=>cases hf
 rename_i c;obtain⟨callee,xs,ats⟩:=c;split at hf
 case h_2=>cases hf
 rename_i y hcal;have hcal:callee= .value (.tmp y):=hcal;subst hcal;split at hf
 case h_2=>cases hf
 rename_i g' cs zs hcs hzs;cases hf;unfold cloS at hcs;split at hcs
 case h_2=>cases hcs
 rename_i g2 t d x hy;cases hlt:Nat.blt g2 1000000 with
 |false=>rw [hlt]at hcs;cases hcs
 |true=>
 rw [hlt]at hcs;cases hcs;obtain⟨e,he,hef,hx⟩:=IE h;subst hef;clear h;unfold Kf at hx;have h:=hx;clear hx;cases ho:(CG e.S.rs||(C7 e.S.rs&&Hx ((zs++(As t 0 x).map Sl.one).map some)))with
 |false=>rw [ho]at h;cases h
 |true=>
  rw [ho]at h;simp only [cond_true]at h;split at h
  case h_2=>cases h
  rename_i z hz;cases h;obtain⟨hc,hft⟩:=hΓ e he;obtain⟨hu,hcd⟩:=DC hu
  have hev:s.den.ev (.tmp y)= .many (.cl e.f) t.w fun k=>(tyV t 0 x).getD k .dead:=by
   show(s.t y).v s.r=_;rw [hy];rfl
  have htab:(xs.toList.map s.den.ev)++tab t.w (fun k=>(tyV t 0 x).getD k .dead)=(zs++(As t 0 x).map Sl.one).map (Sl.v s.r):=by
   rw [W4 hzs,List.map_append]
   congr 1
   have h1:tab t.w (fun k=>(tyV t 0 x).getD k .dead)=tyV t 0 x:=by
    have:=ID (l:=tyV t 0 x) t.w (by rw [Aw];exact Nat.le_refl _)
    rw [this];exact List.take_of_length_le (by rw [Aw];exact Nat.le_refl _)
   rw [h1,List.map_map];exact(Cl.v_c (r:=s.r) t 0 x).symm
  rw [Bool.or_eq_true,bAE]at ho;have hok:C7 e.S.rs=true:=ho.elim Ho (·.1)
  show Np P (s.r.map Ac.v) (s.den.ev (.tmp y)) (xs.toList.map s.den.ev) (SK s _);rw [hev];show Nat.blt e.f 1000000=true/\Call P e.f (((xs.toList.map s.den.ev)++tab t.w (fun k=>(tyV t 0 x).getD k .dead)).any AH) (((xs.toList.map s.den.ev)++tab t.w (fun k=>(tyV t 0 x).getD k .dead)).map (BE (s.r.map Ac.v))) (SK s _)
  rw [htab];refine⟨hlt,Jf true e.S.rs u,⟨hc,FC.sub1 (by rw [D5];exact hft z u hu) (Lt _ _ _ hz hcd)⟩,fun hl=>?_,?_⟩
  ·rcases ho with ho|⟨_,ho⟩
   ·exact Da _ _ _ ho
   ·rw [PS ho]at hl;cases hl
  ·show Sub _ ((Mx true e.S.rs u).v s.r)
   rw [PA _ _ _ hok];exact Sub.refl _
def strB(a b:String):Bool:=a==b
def X9:List (String×Nat)->String->Option Nat
 | [],_=>none
 |(a,f)::l,s=>bif strB a s then some f else X9 l s
theorem NC{s:String}{f:Nat}: ∀ {l:List (String×Nat)},X9 l s=some f->(s,f)∈l
 | [],h=>by cases h
 |(a,f')::l,h=>by
  unfold X9 at h;cases hb:strB a s with
  |false=>rw [hb]at h;exact mCM _ (NC h)
  |true=>
   rw [hb]at h;cases h;have:a=s:=by unfold strB at hb;simpa using hb
   rw [this];exact List.mem_cons_self ..
def cloI(Θ:Tab)(s:St):Op->Option (FuncId×List Sl)
 | .call c=>match c.callee with
  | .invoke (.tmp y) nm=>match s.t y with
   | .one (.c (.clo g t) _ x)=>bif Nat.ble 1000000 g&&Nat.beq t.w 1 then(match Θ.look (g-1000000)with
    |some i=>match X9 i.met nm,allS (c.args.toList.map s.ev)with
     |some f,some ys=>some (f,(As t 0 x).map .one++ys)
     |_,_=>none
    |none=>none)else none
   |_=>none
  |_=>none
 |_=>none
theorem UC{P:Program}{Θ:Tab}(hΘ:Θ.OK P){Γ:List En}(hΓ:Ka P Γ){s:St}{op:Op}{g:FuncId}{ys:List Sl}{a:UK}(hf:cloI Θ s op=some (g,ys))(h:IY Γ s g (ys.map some)=some a){u:a.α}(hu:a.o=some u):QS P s op (a.y u):=by
 unfold cloI at hf;split at hf
 case h_2=>cases hf
 rename_i c;obtain⟨callee,xs,ats⟩:=c;split at hf
 case h_2=>cases hf
 rename_i y nm hcal;have hcal:callee= .invoke (.tmp y) nm:=hcal;subst hcal;split at hf
 case h_2=>cases hf
 rename_i g2 t d x hy;cases hgt:(Nat.ble 1000000 g2&&Nat.beq t.w 1)with
 |false=>rw [hgt]at hf;cases hf
 |true=>
 rw [hgt]at hf;simp only [cond_true]at hf;rw [bAE]at hgt;obtain⟨hg1,hg2⟩:=hgt;have hg1:=blE hg1;have hg2:t.w=1:=bqE hg2;split at hf
 case h_2=>cases hf
 rename_i i hi;split at hf
 case h_2=>cases hf
 rename_i f zs hfm hzs;cases hf;have hmet:=hΘ.met hi (NC hfm);obtain⟨e,he,hef,hx⟩:=IE h;subst hef;clear h;unfold Kf at hx;have h:=hx;clear hx;cases ho:(CG e.S.rs||(C7 e.S.rs&&Hx (((As t 0 x).map Sl.one++zs).map some)))with
 |false=>rw [ho]at h;cases h
 |true=>
  rw [ho]at h;simp only [cond_true]at h;split at h
  case h_2=>cases h
  rename_i z hz;cases h;obtain⟨hc,hft⟩:=hΓ e he;obtain⟨hu,hcd⟩:=DC hu
  have hev:s.den.ev (.tmp y)= .many (.cl g2) t.w fun k=>(tyV t 0 x).getD k .dead:=by
   show(s.t y).v s.r=_;rw [hy];rfl
  have htab:tab t.w (fun k=>(tyV t 0 x).getD k .dead)++(xs.toList.map s.den.ev)=((As t 0 x).map Sl.one++zs).map (Sl.v s.r):=by
   rw [W4 hzs,List.map_append]
   congr 1
   have h1:tab t.w (fun k=>(tyV t 0 x).getD k .dead)=tyV t 0 x:=by
    have:=ID (l:=tyV t 0 x) t.w (by rw [Aw];exact Nat.le_refl _)
    rw [this];exact List.take_of_length_le (by rw [Aw];exact Nat.le_refl _)
   rw [h1,List.map_map];exact(Cl.v_c (r:=s.r) t 0 x).symm
  rw [Bool.or_eq_true,bAE]at ho;have hok:C7 e.S.rs=true:=ho.elim Ho (·.1)
  show Nr P (s.r.map Ac.v) (s.den.ev (.tmp y)) nm (xs.toList.map s.den.ev) (SK s _);rw [hev];show ∃t' fn,(g2=1000000+t'/\t.w=1/\X7 P t' nm=some fn)/\Call P fn ((tab t.w (fun k=>(tyV t 0 x).getD k .dead)++(xs.toList.map s.den.ev)).any AH) ((tab t.w (fun k=>(tyV t 0 x).getD k .dead)++(xs.toList.map s.den.ev)).map (BE (s.r.map Ac.v))) (SK s _)
  rw [htab];refine⟨g2-1000000,e.f,⟨by omega,hg2,hmet⟩,Jf true e.S.rs u,⟨hc,FC.sub1 (by rw [D5];exact hft z u hu) (Lt _ _ _ hz hcd)⟩,fun hl=>?_,?_⟩
  ·rcases ho with ho|⟨_,ho⟩
   ·exact Da _ _ _ ho
   ·rw [PS ho]at hl;cases hl
  ·show Sub _ ((Mx true e.S.rs u).v s.r)
   rw [PA _ _ _ hok];exact Sub.refl _
def capL(s:St):List Operand->Option (List Cl)
 | []=>some []
 |x::xs=>match s.ev x with
  |some (.one (.c t d y))=>bif t.one&& !(Cl.c t d y).own then(match capL s xs with
   |some l=>some (.c t 0 y::l)
   |none=>none)else none
  |_=>none
def capR(s:St):List Operand->Option (List Cl)
 | []=>some []
 |x::xs=>match s.ev x with
  |some (.one y)=>bif y.own then none else(match capR s xs with
   |some l=>some (y::l)
   |none=>none)
  |_=>none
theorem Zl{s:St}: ∀ {xs:List Operand} {l:List Cl},capR s xs=some l->xs.map s.den.ev=l.map (Cl.v s.r)/\(xs.map s.den.ev).all (fun v=>!AJ v)=true
 | [],l,h=>by cases h;exact⟨rfl,rfl⟩
 |x::xs,l,h=>by
  unfold capR at h;split at h
  case h_2=>cases h
  rename_i y hx;cases hb:y.own with
  |true=>rw [hb]at h;cases h
  |false=>
   rw [hb]at h;simp only [cond_false]at h;split at h
   case h_2=>cases h
   rename_i m hm;cases h;obtain⟨h1,h2⟩:=Zl hm;have hev:s.den.ev x=y.v s.r:=A5 hx;refine⟨by rw [List.map_cons,List.map_cons,hev,h1],?_⟩
   rw [List.map_cons,List.all_cons,hev,Cl.own_v,hb,h2];rfl
def tMkG(g:Nat)(s:St)(caps:List Operand):Option TR:=match capL s caps with
  |some l=>match Iz l with
   |some ⟨t,x⟩=>some (.ok (.one (.c (.clo g t) 0 x)))
   |none=>none
  |none=>match capR s caps with
   |some l=>some (.ok (.pk (.cl g) l))
   |none=>none
def tMkF(s:St)(fn:Fn)(first:List Operand)(caps:List Operand):Option TR:=match fn,first with
 | .func g,[]=>bif Nat.blt g 1000000 then tMkG g s caps else none
 |_,_=>none
def tMkI(Θ:Tab)(s:St)(t:TypeId)(x:Operand):Option TR:=match Θ.look t with
 |some i=>match i.met with
  | []=>none
  |_::_=>tMkG (1000000+t) s [x]
 |none=>none
theorem Zm{s:St}: ∀ {xs:List Operand} {l:List Cl},capL s xs=some l->xs.map s.den.ev=(l.map Cl.v0).map frz/\(xs.map s.den.ev).all (fun v=>!AJ v)=true/\l.length=xs.length
 | [],l,h=>by cases h;exact⟨rfl,rfl,rfl⟩
 |x::xs,l,h=>by
  unfold capL at h;split at h
  case h_2=>cases h
  rename_i t d y hx;cases hb:(t.one&& !(Cl.c t d y).own)with
  |false=>rw [hb]at h;cases h
  |true=>
   rw [hb]at h;simp only [cond_true]at h;split at h
   case h_2=>cases h
   rename_i m hm;cases h;rw [bAE]at hb;obtain⟨h1,h2,h3⟩:=Zm hm;have hev:s.den.ev x=cV t d y:=A5 hx
   have hown:AJ (cV t d y)=false:=by
    have:=Cl.own_v (r:=s.r) (.c t d y);have e:(Cl.c t d y).own=false:=by simpa using hb.2
    rw [e]at this;exact this
   have hz:cV t d y=frz (cV t 0 y):=by
    rw [Ww hb.1];cases t<;>first|rfl|(cases d<;>first|rfl|(cases hown;done))|(cases y<;>cases d<;>first|rfl|(cases hown;done))
   refine⟨?_,?_,by simp [h3]⟩
   ·rw [List.map_cons,List.map_cons,List.map_cons,hev,h1,hz];rfl
   ·rw [List.map_cons,List.all_cons,hev,hown,h2];rfl
theorem YP{g:Nat}{s:St}{caps:List Operand}{a:TR}(h:tMkG g s caps=some a): ∃y,a= .ok y/\(caps.map s.den.ev).all (fun v=>!AJ v)=true/\Sub (V.many (.cl g) (caps.map s.den.ev).length fun k=>(caps.map s.den.ev).getD k .dead) (y.v s.r):=by
 unfold tMkG at h;split at h
 case h_2=>
  split at h
  case h_2=>cases h
  rename_i l hl;cases h;obtain⟨h1,h2⟩:=Zl hl;refine⟨_,rfl,h2,?_⟩;show Sub _ (pkL (.cl g) (l.map (Cl.v s.r)));rw [h1];exact Sub.refl _
 rename_i l hl;split at h
 case h_2=>cases h
 rename_i t x hd;cases h;obtain⟨h1,h2,h3⟩:=Zm hl;have e:=DD _ _ hd;refine⟨_,rfl,h2,?_⟩;show Sub _ (V.many (.cl g) t.w fun k=>(tyV t 0 x).getD k .dead)
 rw [h1,<-e,Aw];exact Sub.refl _
theorem QF{P:Program}{s:St}{fn:Fn}{first caps:Array Operand}{a:TR}(h:tMkF s fn first.toList caps.toList=some a):QS P s (.makeFunc fn first caps) a.y:=by
 unfold tMkF at h;split at h
 case h_2=>cases h
 rename_i g hf;cases hlt:Nat.blt g 1000000 with
 |false=>rw [hlt]at h;cases h
 |true=>
 rw [hlt]at h;obtain⟨y,rfl,h1,h2⟩:=YP h
 show(match Fn.func g,first.toList with
  | .func g,[]=>qMkF g (caps.toList.map s.den.ev) (SK s _)
  |_,_=>False)
 rw [hf];exact⟨⟨hlt,h1⟩,h2⟩
theorem QE{P:Program}{Θ:Tab}(hΘ:Θ.OK P){s:St}{t:TypeId}{x:Operand}{a:TR}(h:tMkI Θ s t x=some a):QS P s (.makeInterface t x) a.y:=by
 unfold tMkI at h;split at h
 case h_2=>cases h
 rename_i i hi;split at h
 ·cases h
 rename_i p l hm;obtain⟨y,rfl,h1,h2⟩:=YP h;have hu:=X6 (hΘ.met hi (nm:=p.1) (f:=p.2) (by rw [hm];exact List.mem_cons_self ..))
 have h1:AJ (s.den.ev x)=false:=by simpa using h1
 refine⟨⟨h1,hu⟩,Sub.trans (v':=V.many (.cl (1000000+t)) 1 fun k=>[s.den.ev x].getD k .dead) ⟨_,rfl,fun k hk=>?_⟩ h2⟩
 obtain rfl:k=0:=by omega
 exact Sub.refl _
end Go.Ve


namespace Go.Ve
structure Pd where
 k:Nat
 ps:List (Bool×Ty)
 t:Ty
 d:Nat
 eat:Bool
 rs:List (Bool×Nat×Ty)
def Up(k:Nat)(l:List V):List V:=l.take k++ .dead::l.drop k
theorem IK{k:Nat}{l:List V}:(Up k l).length=l.length+1:=by
 unfold Up;simp;omega
theorem Aap{k i:Nat}{l:List V}(h:i<k)(hk:k<=l.length):(Up k l).getD i .dead=l.getD i .dead:=by
 unfold Up;simp only [gDE];rw [gAL (by simp;omega),List.getElem?_take,if_pos h]
theorem Aaq{k i:Nat}{l:List V}(h:k<=i)(hk:k<=l.length):(Up k l).getD (i+1) .dead=l.getD i .dead:=by
 unfold Up;have e:(l.take k).length=k:=by simp;omega
 simp only [gDE];rw [gAR (by omega),e,show i+1-k=(i-k)+1 by omega,List.getElem?_cons_succ,List.getElem?_drop,show k+(i-k)=i by omega]
def isTr:Ty->Bool
 | .sl _=>true
 | .ptr _=>true
 |_=>false
def Pd.ok(S:Pd):Bool:=Nat.blt 0 S.d&&Nat.ble S.k S.ps.length&&isTr S.t
def FTU(P:Program)(f:FuncId)(S:Pd)(g:(PT S.ps).T->S.t.T->Option ((RT S.rs).T×S.t.T)):Prop:=
 ∀z x u,g z x=some u->FCU P f S.k (Up S.k (Ci S.ps z)) (cV S.t S.d x) (VC S.rs u.1) (bif S.eat then .dead else cV S.t S.d u.2)
structure EnU where
 f:FuncId
 S:Pd
 g:(PT S.ps).T->S.t.T->Option ((RT S.rs).T×S.t.T)
def J4:List EnU->FuncId->Option EnU
 | [],_=>none
 |e::l,f=>bif Nat.beq e.f f then some e else J4 l f
def EnU.OK(P:Program)(e:EnU):Prop:=Ab P e.f=true/\e.S.ok=true/\FTU P e.f e.S e.g
theorem P2{P:Program}{f:FuncId}{e:EnU}: ∀ {Γ:List EnU},(∀e∈Γ,e.OK P)->J4 Γ f=some e->e.OK P/\e.f=f
 | [],_,h=>by cases h
 |a::l,hΓ,h=>by
  unfold J4 at h;cases hb:Nat.beq a.f f with
  |true=>
   rw [hb]at h;cases h;exact⟨hΓ _ (List.mem_cons_self ..),bqE hb⟩
  |false=>rw [hb]at h;exact P2 (fun e he=>hΓ e (mCM _ he)) h
theorem Cl.lend_id{σ:List V}{r:List Ac}{c:Cl}(h:c.lent=false):BE σ (c.v r)=c.v r:=by
 cases c with
 |c t d x=>
  have h:(Cl.c t d x).own=false:=h;have e0: ∀ {t:Ty} (x:t.T),t.one=true->BE σ (cV t 0 x)=cV t 0 x:=fun{t} x ht=>CU t x _ (by rw [A2 ht];exact List.mem_singleton.2 rfl)
  cases t with
  |int k=>rfl
  |bool=>rfl
  |str=>rfl
  |unit=>rfl
  |pair a b=>rfl
  |sl t=>cases d with
   |zero=>exact e0 (t:=.sl t) x rfl
   |succ d=>cases h
  |ptr t=>cases d with
   |zero=>exact e0 (t:=.ptr t) x rfl
   |succ d=>cases h
  |clo g t=>exact e0 (t:=.clo g t) x rfl
  |osl t=>cases d with
   |zero=>exact e0 (t:=.osl t) x rfl
   |succ d=>cases x with
    |none=>rfl
    |some y=>cases h
 |rf=>cases h
 |rs=>cases h
 |rp=>cases h
 |_=>rfl
theorem Cl.clean_v{r:List Ac}{c:Cl}(h:c.lent=false):clean (c.v r):=by
 cases c with
 |c t d x=>
  cases t with
  |osl t=>cases x<;>exact trivial
  |clo g t=>
   have: ∀ (t:Ty) (x:t.T),∀v∈tyV t 0 x,clean v:=by
    intro t
    induction t with
    |int k=>intro x v hv;simp [tyV]at hv;subst hv;trivial
    |bool=>intro x v hv;simp [tyV]at hv;subst hv;trivial
    |str=>intro x v hv;simp [tyV]at hv;subst hv;trivial
    |sl t _=>intro x v hv;simp only [tyV,List.mem_singleton]at hv;subst hv;trivial
    |ptr t _=>intro x v hv;simp only [tyV,List.mem_singleton]at hv;subst hv;trivial
    |unit=>intro x v hv;simp [tyV]at hv
    |pair a b iha ihb=>
     intro x v hv;simp only [tyV,List.mem_append]at hv;exact hv.elim (iha x.1 v) (ihb x.2 v)
    |osl t _=>
     intro x v hv;simp only [tyV,List.mem_singleton]at hv;subst hv;cases x<;>trivial
    |clo g t ih=>
     intro x v hv;simp only [tyV,List.mem_singleton]at hv;subst hv;intro k hk;refine ih x _ ?_;show(tyV t 0 x).getD k .dead∈_;rw [gDE,gEE (by rw [Aw];exact hk)]
     exact List.getElem_mem _
   exact this (.clo g t) x _ (List.mem_singleton.2 rfl)
  |_=>trivial
 |rf=>cases h
 |rs=>cases h
 |rp=>cases h
 |_=>trivial
theorem Mn{l:List Cl}(h:l.any Cl.lent=false): ∀c∈l,c.lent=false:=fun c hc=>by
 have:=List.any_eq_false.1 h c hc;simpa using this
theorem PY{σ:List V}{r:List Ac}{l:List Cl}(h:l.any Cl.lent=false):(l.map (Cl.v r)).map (BE σ)=l.map (Cl.v r):=by
 rw [List.map_map];exact List.map_congr_left fun c hc=>Cl.lend_id (Mn h c hc)
def Sl.notB:Sl->Bool
 | .one _=>true
 | .agg _=>true
 | .pk (.cl _) _=>true
 |_=>false
theorem uArg_v{s:St}{b:Bool}{t:Ty}{y:Sl}{z:t.T}(hl:y.lent=false)(hb:y.notB=true)(h:IZ s b t (some y)=some z):Sub (y.v s.r) (vOf b t 0 z)/\AJ (y.v s.r)=false/\clean (y.v s.r):=by
 have many: ∀ (tg:Tg) (l:List Cl),l.any Cl.lent=false->AJ (pkL tg (l.map (Cl.v s.r)))=false/\clean (pkL tg (l.map (Cl.v s.r))):=by
  intro tg l h;refine⟨?_,fun k hk=>?_⟩
  ·have e:AJ ((Sl.pk tg l).v s.r)=l.any Cl.own:=Sl.own_v (.pk tg l)
   refine e.trans ?_;rw [List.any_eq_false];intro c hc;have h1:=Mn h c hc;cases c with
   |c t d x=>rw [show(Cl.c t d x).own=false from h1];simp
   |_=>simp [Cl.own]
  ·have hk:k<l.length:=by simpa using hk
   show clean ((l.map (Cl.v s.r)).getD k .dead);rw [Ax (f:=Cl.v s.r) (a:=.dead) rfl];refine Cl.clean_v (Mn h _ ?_);simp [hk]
 cases y with
 |one c=>
  have hc:c.lent=false:=hl;refine⟨?_,?_,Cl.clean_v hc⟩
  ·unfold IZ at h
   cases b with
   |true=>cases h
   |false=>
    cases ho:t.one with
    |false=>rw [ho]at h;cases h
    |true=>
     rw [ho]at h;simp only [cond_false,cond_true]at h;split at h
     case h_2=>cases h
     rename_i y' hy;obtain⟨_,h2,h3⟩:=L5 hy;have h3:=h3 fun id p i k e=>by rw [e]at hc;cases hc
     rw [Cl.lend_id hc]at h3;obtain⟨g1,_⟩:=LP h s.r;have g1:Sub y'.v0 (vOf false t 0 z):=h2▸g1;exact h3.trans g1
  ·have e:AJ (c.v s.r)=c.own:=Cl.own_v c
   refine e.trans ?_;cases c with
   |c t d x=>exact hc
   |_=>rfl
 |agg l=>
  have hc:l.any Cl.lent=false:=hl;refine⟨?_,many .ag l hc⟩;unfold IZ at h;cases b with
  |false=>cases h
  |true=>
   simp only [cond_true]at h;split at h
   case h_2=>cases h
   rename_i l' hl';show Sub (Af _) (Af _);refine CJ.mk ?_;have h1:=L3 hl';rw [PY hc]at h1;exact CJ.trans h1 (CQ h s.r).1
 |pk tg l=>
  have hc:l.any Cl.lent=false:=hl;cases tg with
  |cl g=>
   refine⟨?_,many (.cl g) l hc⟩;unfold IZ at h;cases b with
   |true=>cases h
   |false=>
    simp only [cond_false]at h;split at h
    case h_2=>cases h
    rename_i g' u;cases hb:Nat.beq g g' with
    |false=>rw [hb]at h;cases h
    |true=>
     rw [hb]at h;simp only [cond_true]at h;have hg:=bqE hb;subst hg;split at h
     case h_2=>cases h
     rename_i l' hl'
     have e:V.many (.cl g) u.w (fun k=>(tyV u 0 z).getD k .dead)=pkL (.cl g) (tyV u 0 z):=by
      unfold pkL;rw [Aw]
     show Sub (pkL (.cl g) _) (V.many (.cl g) u.w fun k=>(tyV u 0 z).getD k .dead)
     rw [e];have h1:=L4 hl';rw [PY hc]at h1;exact CJ.pk (CJ.trans h1 (CQ h s.r).1)
  |ag=>cases hb
  |tu=>cases hb
  |bx=>cases hb
 |new l=>cases hb
 |tup l=>cases hb
def uok:Option Sl->Bool
 |some y=>!y.lent&&y.notB
 |none=>false
theorem uok_v{s:St}{b:Bool}{t:Ty}{x:Operand}{z:t.T}(hu:uok (s.ev x)=true)(h:IZ s b t (s.ev x)=some z):AJ (s.den.ev x)=false/\clean (s.den.ev x)/\Sub (s.den.ev x) (vOf b t 0 z):=by
 cases hx:s.ev x with
 |none=>rw [hx]at hu;cases hu
 |some y=>
  rw [hx]at hu h;simp only [uok,bAE,Bool.not_eq_true']at hu;obtain⟨h1,h2,h3⟩:=uArg_v hu.1 hu.2 h;rw [A5 hx];exact⟨h2,h3,h1⟩
theorem UY{s:St}: ∀ (ps:List (Bool×Ty)) (xs:List Operand) (z:(PT ps).T),Iw s ps (xs.map s.ev)=some z->(xs.map s.ev).all uok=true->
  xs.length=(Ci ps z).length/\∀i x,xs[i]? =some x->AJ (s.den.ev x)=false/\clean (s.den.ev x)/\Sub (s.den.ev x) ((Ci ps z).getD i .dead)
 | [],[],z,_,_=>⟨rfl,fun i x h=>by simp at h⟩
 | [p],[x],z,h,hu=>by
  have hu:(uok (s.ev x)&&true)=true:=hu;rw [Bool.and_true]at hu;refine⟨rfl,fun i x' hx=>?_⟩
  cases i with
  |zero=>
   cases hx;exact uok_v hu h
  |succ i=>simp at hx
 |p::q::l,x::xs,z,h,hu=>by
  have h:(match IZ s p.1 p.2 (s.ev x)with
   |some z=>match Iw s (q::l) (xs.map s.ev)with
    |some zs=>some (z,zs)
    |none=>none
   |none=>none:Option (PT (p::q::l)).T)=some z:=h
  have hu:(uok (s.ev x)&&(xs.map s.ev).all uok)=true:=hu;rw [bAE]at hu;split at h
  case h_2=>cases h
  rename_i z1 h1;split at h
  case h_2=>cases h
  rename_i zs h2;cases h;obtain⟨k1,k2⟩:=UY (q::l) xs zs h2 hu.2;refine⟨by show xs.length+1=(Ci (q::l) zs).length+1;rw [k1],fun i x' hx=>?_⟩
  cases i with
  |zero=>
   cases hx;exact uok_v hu.1 h1
  |succ i=>exact k2 i x' (by simpa using hx)
 | [],_::_,_,h,_=>by cases h
 | [_],[],_,h,_=>by cases h
 | [_],_::_::_,_,h,_=>by cases h
 |_::_::_,[],_,h,_=>by cases h
def Cw(k:Nat)(l:List Operand):List Operand:=l.take k++l.drop (k+1)
theorem Uy{k:Nat}{l:List Operand}(h:k<l.length):(Cw k l).length+1=l.length:=by
 unfold Cw;simp;omega
theorem NP{k i:Nat}{l:List Operand}(h:i<k)(hk:k<l.length):(Cw k l)[i]? =l[i]?:=by
 unfold Cw;rw [gAL (by simp;omega),List.getElem?_take,if_pos h]
theorem NQ{k i:Nat}{l:List Operand}(h:k<=i)(hk:k<l.length):(Cw k l)[i]? =l[i+1]?:=by
 unfold Cw;have e:(l.take k).length=k:=by simp;omega
 rw [gAR (by omega),e,List.getElem?_drop]
 congr 1
 omega
theorem Zx{s:St}{k:Nat}{ps:List (Bool×Ty)}{xs:List Operand}{z:(PT ps).T}(hk:k<xs.length)(h:Iw s ps ((Cw k xs).map s.ev)=some z)(hu:((Cw k xs).map s.ev).all uok=true):
  xs.length=(Up k (Ci ps z)).length/\∀i x,i≠k->xs[i]? =some x->AJ (s.den.ev x)=false/\clean (s.den.ev x)/\Sub (s.den.ev x) ((Up k (Ci ps z)).getD i .dead):=by
 obtain⟨h1,h2⟩:=UY ps (Cw k xs) z h hu;have hl:=Uy hk;refine⟨by rw [IK];omega,fun i x hik hx=>?_⟩
 rcases Nat.lt_or_ge i k with hlt|hge
 ·have:=h2 i x (by rw [NP hlt hk];exact hx)
  rw [Aap hlt (by omega)]
  exact this
 ·obtain⟨j,rfl⟩: ∃j,i=j+1:=⟨i-1,by omega⟩
  have:=h2 j x (by rw [NQ (by omega) hk];exact hx)
  rw [Aaq (by omega) (by omega)]
  exact this
def Yi:(t:Ty)->t.T->Bool
 | .sl _,xs=>ltI (Int.ofNat 0) (ofN (Jw xs))
 | .ptr _,_=>true
 |_,_=>false
theorem Aas{t:Ty}{d:Nat}{x:t.T}(hd:0<d)(h:Yi t x=true):KJ (cV t d x):=by
 have hd:decide (0<d)=true:=dT hd;cases t with
 |sl t=>
  refine⟨true,_,_,_,show arr (decide (0<d)) _ _ _ x=_ by rw [hd];rfl,.inr ?_⟩
  have h:decide ((0:Int)<((x.length:Nat):Int))=true:=h;have:=of_decide_eq_true h;omega
 |ptr t=>exact⟨false,_,_,_,show Be (decide (0<d)) _=_ by rw [hd];rfl,.inl rfl⟩
 |_=>cases h
theorem treeND{t:Ty}{d:Nat}{x:t.T}(hd:0<d)(h:isTr t=true): ∃s sz n f,cV t d x= .nd s true sz n f:=by
 have hd:decide (0<d)=true:=dT hd;cases t with
 |sl t=>exact⟨true,_,_,_,show arr (decide (0<d)) _ _ _ x=_ by rw [hd];rfl⟩
 |ptr t=>exact⟨false,_,_,_,show Be (decide (0<d)) _=_ by rw [hd];rfl⟩
 |_=>cases h
theorem JF{P:Program}: ∀e∈([]:List EnU),e.OK P:=fun _ h=>by cases h
theorem Me{P:Program}{e:EnU}{l:List EnU}(h1:Ab P e.f=true)(h0:e.S.ok=true)(h2:FTU P e.f e.S e.g)(hl: ∀e∈l,e.OK P): ∀x∈e::l,x.OK P:=by
 intro x hx;rcases List.mem_cons.1 hx with rfl|hx
 ·exact⟨h1,h0,h2⟩
 ·exact hl x hx
end Go.Ve


namespace Go.Ve
def Bd(m:Nat):List Cl->List Cl×List Ac
 | []=>([],[])
 | .c (.sl u) (d+1) xs::l=>(.rf m []::(Bd (m+1) l).1,.arr false u d xs::(Bd (m+1) l).2)
 |y::l=>(y::(Bd m l).1,(Bd m l).2)
abbrev WP:=Bool×Bool×Ty
def Qv(p:WP)(x:p.2.2.T)(m:Nat):Sl×List Ac:=
 bif p.1 then(bif p.2.1 then .agg (Bd m (As p.2.2 p.2.2.dep x)).1 else .one ((Bd m (As p.2.2 p.2.2.dep x)).1.getD 0 .dead),(Bd m (As p.2.2 p.2.2.dep x)).2)
 else(bif p.2.1 then .agg (As p.2.2 0 x)else .one (.c p.2.2 0 x),[])
def PTW:List WP->Ty
 | []=>.unit
 | [p]=>p.2.2
 |p::q::l=>.pair p.2.2 (PTW (q::l))
def AR:(ps:List WP)->(PTW ps).T->Nat->List Sl×List Ac
 | [],_,_=>([],[])
 | [p],x,m=>([(Qv p x m).1],(Qv p x m).2)
 |p::q::l,x,m=>((Qv p x.1 m).1::(AR (q::l) x.2 (m+(Qv p x.1 m).2.length)).1,(Qv p x.1 m).2++(AR (q::l) x.2 (m+(Qv p x.1 m).2.length)).2)
def ZQ:Ty->List Ty
 | .sl t=>[.sl t]
 | .pair a b=>ZQ a++ZQ b
 |_=>[]
def C0:List WP->List Ty
 | []=>[]
 |p::l=>(bif p.1 then ZQ p.2.2 else [])++C0 l
structure Xp where
 ps:List WP
 rt:Ty
def Ty.sc:Ty->Bool
 | .int _=>true
 | .bool=>true
 | .str=>true
 |_=>false
def scV:(t:Ty)->t.T->Value
 | .int k,n=>.int k n
 | .bool,b=>.bool b
 | .str,s=>.string s
 |_,_=>undef
def wty:List Ty->Ty
 | []=>.unit
 | [t]=>t
 |t::u::l=>.pair t (wty (u::l))
def wOf:(tys:List Ty)->(wty tys).T->List (Σ t:Ty,t.T)
 | [],_=>[]
 | [t],x=>[⟨t,x⟩]
 |t::u::l,x=>⟨t,x.1⟩::wOf (u::l) x.2
def Cs:Ac->(Σ t:Ty,t.T)->Ac
 | .arr ro u d _,⟨.sl u',xs⟩=>if h:u'=u then .arr ro u d (h▸xs)else .dead
 |_,_=>.dead
def Bk:List Ac->List (Σ t:Ty,t.T)->List Ac
 |r::rs,y::ys=>Cs r y::Bk rs ys
 |_,_=>[]
def FTW(P:Program)(f:FuncId)(S:Xp)(g:(PTW S.ps).T->Option (S.rt.T×(wty (C0 S.ps)).T)):Prop:=
 ∀x u,g x=some u->S.rt.sc=true/\(wOf (C0 S.ps) u.2).length=(AR S.ps x 0).2.length/\(∀k,k<(AR S.ps x 0).2.length->(Bk (AR S.ps x 0).2 (wOf (C0 S.ps) u.2)).getD k .dead≠.dead)/\
  FCW P f ((AR S.ps x 0).1.map (Sl.v (AR S.ps x 0).2)) ((AR S.ps x 0).2.map Ac.v) (scV S.rt u.1) ((Bk (AR S.ps x 0).2 (wOf (C0 S.ps) u.2)).map Ac.v)
structure EnW where
 f:FuncId
 S:Xp
 g:(PTW S.ps).T->Option (S.rt.T×(wty (C0 S.ps)).T)
def V6:List EnW->FuncId->Option EnW
 | [],_=>none
 |e::l,f=>bif Nat.beq e.f f then some e else V6 l f
def EnW.OK(P:Program)(e:EnW):Prop:=Ab P e.f=true/\FTW P e.f e.S e.g
theorem P1{P:Program}{f:FuncId}{e:EnW}: ∀ {Γ:List EnW},(∀e∈Γ,e.OK P)->V6 Γ f=some e->e.OK P/\e.f=f
 | [],_,h=>by cases h
 |a::l,hΓ,h=>by
  unfold V6 at h;cases hb:Nat.beq a.f f with
  |true=>
   rw [hb]at h;cases h;exact⟨hΓ _ (List.mem_cons_self ..),bqE hb⟩
  |false=>rw [hb]at h;exact P1 (fun e he=>hΓ e (mCM _ he)) h
end Go.Ve


namespace Go.Ve
def NT(Θ:Tab)(t:TypeId):Option TI:=((Θ.look t).bind (·.elem)).bind Θ.look
def Pu(Θ:Tab)(s:St):Builtin->List Operand->List TypeId->Option TR
 | .len,[x],[t]=>tLen s (Θ.look t) (s.ev x)
 | .min,[x,y],_=>tMin (s.ev x) (s.ev y)
 | .max,[x,y],_=>tMax (s.ev x) (s.ev y)
 |_,_,_=>none
def Aan:Operand->Bool
 | .const (.slice none 0 0)=>true
 |_=>false
def Ps(s:St)(i:Option TI)(x:Operand):Option TR:=bif Aan x then(match i with
 |some j=>some (.ok (.one (.c (.sl j.ty) (j.sd+1) [])))
 |none=>none)else ZI (s.ev x)
theorem Im{P:Program}{s:St}{x:Operand}{i:Option TI}{op:Op}{a:TR}(ho:op= .move x\/op= .assign x)(h:Ps s i x=some a):QS P s op a.y:=by
 unfold Ps at h;cases hb:Aan x with
 |false=>rw [hb]at h;exact Oi ho h
 |true=>
  rw [hb]at h;simp only [cond_true]at h;split at h
  case h_2=>cases h
  rename_i j;cases h;unfold Aan at hb;split at hb
  case h_2=>cases hb
  have:VN (s.den.ev (.const (.slice none 0 0))) (SK s (.one (.c (.sl j.ty) (j.sd+1) []))):=⟨rfl,.inr ⟨rfl,_,_,_,rfl⟩⟩;rcases ho with rfl|rfl<;>exact this
def tq(Θ:Tab)(s:St)(ty:TypeId):Op->Option TR
 | .move x=>Ps s (NT Θ ty) x
 | .assign x=>Ps s (NT Θ ty) x
 | .pick c x y=>ZG (s.ev c) (s.ev x) (s.ev y)
 | .load t x=>Vc s (Θ.look t) (s.ev x)
 | .fieldAddr t x k=>Vf s (Θ.look t) k (s.ev x)
 | .indexAddr t x i=>HY s (NT Θ t) (s.ev x) (s.ev i)
 | .index t x i=>Vd (Θ.look t) (s.ev x) (s.ev i)
 | .nilCheck x=>tNil (s.ev x)
 | .binOp op t x y _=>tBin (Θ.look t) op (s.ev x) (s.ev y)
 | .unOp op _ x=>tUn op (s.ev x)
 | .convert u v x=>ZK s.r (Θ.look u) (Θ.look v) (NT Θ u) (NT Θ v) (s.ev x)
 | .extract x k=>Ls k (s.ev x)
 | .build t ps=>Vj (Θ.look t) (ps.toList.map fun p=>(p.1,s.ev p.2))
 | .buildSlice t n ps=>DY n (ps.toList.map fun p=>(p.1,s.ev p.2)) (NT Θ t)
 | .alloc t=>Vl (Θ.look t)
 | .box _ x=>tBox (s.ev x)
 | .makeSlice t l c=>ZJ (NT Θ t) (s.ev l) (s.ev c)
 | .slice t x lo hi mx=>match mx with
  |none=>U9 s (Θ.look t) (NT Θ t) (s.ev x) (Kg (lo.map s.ev)) (Kg (hi.map s.ev))
  |some _=>none
 | .call c=>match c.callee with
  | .builtin b=>Pu Θ s b c.args.toList c.argTypes.toList
  |_=>none
 | .makeFunc fn first caps=>tMkF s fn first.toList caps.toList
 | .makeInterface t x=>tMkI Θ s t x
 |_=>none
theorem Pp{P:Program}{Θ:Tab}{s:St}(hΘ:Θ.OK P){ty:TypeId}{op:Op}{a:TR}(h:tq Θ s ty op=some a)(hp:a.p):QS P s op a.y:=by
 unfold tq at h;split at h
 case h_1=>exact Im (.inl rfl) h
 case h_2=>exact Im (.inr rfl) h
 case h_3=>exact Oh h
 case h_4=>exact Ok hΘ h hp
 case h_5=>exact MR hΘ h
 case h_6=>exact Iv hΘ h hp
 case h_7=>exact MP hΘ h hp
 case h_8=>exact QD h
 case h_9=>exact QM hΘ h hp
 case h_10=>exact U6 h
 case h_11=>exact Ol hΘ h hp
 case h_12=>exact J0 h
 case h_13=>exact MU hΘ h
 case h_14=>exact HZ hΘ h
 case h_15=>exact MV hΘ h
 case h_16=>exact QL h
 case h_17=>exact Oj hΘ h hp
 case h_18=>
  split at h
  ·exact MO hΘ h hp
  ·cases h
 case h_19 c=>
  obtain⟨callee,args,ats⟩:=c;split at h
  case h_2=>cases h
  rename_i b hb;have hb:callee= .builtin b:=hb;subst hb;unfold Pu at h;split at h
  case h_4=>cases h
  ·rename_i x t hx ht
   rw [Yc (show args.toList= [x]from hx),Yc (show ats.toList= [t]from ht)]
   exact QI hΘ h
  ·rename_i x y hx
   have e:args= #[x,y]:=by have hx:args.toList= [x,y]:=hx;cases args;simp at hx;simp [hx]
   subst e;exact QG h
  ·rename_i x y hx
   have e:args= #[x,y]:=by have hx:args.toList= [x,y]:=hx;cases args;simp at hx;simp [hx]
   subst e;exact QH h
 case h_20=>exact QF h
 case h_21=>exact QE hΘ h
 case h_22=>cases h
def Av:V->V->Prop
 | .many t n f,v'=>v'= .dead\/∃g,v'= .many t n g/\∀k,k<n->Av (f k) (g k)
 |v,v'=>v'= .dead\/Sub v v'
theorem Av.of: ∀ {v v':V},Sub v v'->Av v v':=by
 intro v
 induction v with
 |many t n f ih=>intro v' h;obtain⟨g,rfl,h⟩:=h;exact .inr ⟨g,rfl,fun k hk=>ih k (h k hk)⟩
 |_=>intro v' h;exact .inr h
theorem Av.refl(v:V):Av v v:=Av.of (Sub.refl v)
theorem Av.dead: ∀ (v:V),Av v .dead:=by
 intro v;cases v<;>exact .inl rfl
theorem Av.mk{l m:List V}(hl:l.length=m.length)(h: ∀k,k<l.length->Av (l.getD k .dead) (m.getD k .dead)):Av (Af l) (Af m):=by
 unfold Af;rw [<-hl];exact .inr ⟨_,rfl,h⟩
theorem Av.tup{l m:List V}(hl:l.length=m.length)(h: ∀k,k<l.length->Av (l.getD k .dead) (m.getD k .dead)):Av (C1 l) (C1 m):=by
 unfold C1;rw [<-hl];exact .inr ⟨_,rfl,h⟩
theorem Av.pk{t:Tg}{l m:List V}(hl:l.length=m.length)(h: ∀k,k<l.length->Av (l.getD k .dead) (m.getD k .dead)):Av (pkL t l) (pkL t m):=by
 unfold pkL;rw [<-hl];exact .inr ⟨_,rfl,h⟩
theorem Rel.subS{D:Nat->Prop}{w:World}{R:V->Value->Prop}: ∀ {v v':V} {cv:Value},Av v v'->Rel D w R v cv noF->Rel D w R v' cv noF:=by
 intro v
 induction v with
 |many t n f ih=>
  intro v' cv h hr;rcases h with rfl|⟨g,rfl,h⟩
  ·exact fun _ h=>h
  obtain⟨cs,F,hcv,hn,hr,hd,hf⟩:=hr;have hF: ∀k,k<n->F k=noF:=fun k hk=>A0 fun b hb=>(hf b).2 ⟨k,hk,hb⟩
  exact⟨cs,fun _=>noF,hcv,hn,fun k hk=>ih k (h k hk) (by have:=hr k hk;rw [hF k hk]at this;exact this),fun _ _ _ _ _ _ h=>h.elim,fun b=>⟨fun h=>h.elim,fun⟨_,_,h⟩=>h⟩⟩
 |_=>
  intro v' cv h hr;rcases h with rfl|h
  ·exact fun _ h=>h
  ·exact Rel.sub h hr
theorem At.sub'{w:World}: ∀ {p:AU} {v v1:V} {cv:Value} {s:Bool} {sz n:Nat} {f:Nat->Nat->V} {c:Value},Sub v v1->At w p v cv (.nd s true sz n f) c->∃f',At w p v1 cv (.nd s true sz n f') c
 | [],v,v1,cv,s,sz,n,f,c,h,ha=>by
  obtain⟨rfl,rfl⟩:=ha;obtain⟨g,rfl,_⟩:=h;exact⟨g,rfl,rfl⟩
 |(i,k)::p,.nd s0 true sz0 n0 f0,v1,cv,s,sz,n,f,c,h,ha=>by
  obtain⟨g,rfl,h⟩:=h;obtain⟨h1,h2,b,o,cap,x,h3,h4,h5⟩:=ha;obtain⟨f',h'⟩:=At.sub' (h i k h1 h2) h5;exact⟨f',h1,h2,b,o,cap,x,h3,h4,h'⟩
 |_::_,.nd _ false _ _ _,_,_,_,_,_,_,_,_,ha=>ha.elim
 |_::_,.c _,_,_,_,_,_,_,_,_,ha=>ha.elim
 |_::_,.dead,_,_,_,_,_,_,_,_,ha=>ha.elim
 |_::_,.many ..,_,_,_,_,_,_,_,_,ha=>ha.elim
 |_::_,.rs ..,_,_,_,_,_,_,_,_,ha=>ha.elim
 |_::_,.rp ..,_,_,_,_,_,_,_,_,ha=>ha.elim
theorem Ak.sub{σ σ':List V}{ρ:Nat->Value}{w:World}(hl:σ'.length=σ.length)(hs: ∀i,i<σ.length->Sub (σ.getD i .dead) (σ'.getD i .dead)): ∀v cv,Ak σ ρ w v cv->Ak σ' ρ w v cv
 | .rs id p off len,cv,⟨hid,sz,n,f,cn,ha,r⟩=>by
  obtain⟨f',ha'⟩:=At.sub' (hs id hid) ha;exact⟨by rw [hl];exact hid,sz,n,f',cn,ha',r⟩
 | .rp id p i k,cv,⟨hid,s,sz,n,f,b,o,cap,ha,r⟩=>by
  obtain⟨f',ha'⟩:=At.sub' (hs id hid) ha;exact⟨by rw [hl];exact hid,s,sz,n,f',b,o,cap,ha',r⟩
 | .c _,_,h=>h.elim
 | .dead,_,h=>h.elim
 | .many ..,_,h=>h.elim
 | .nd ..,_,h=>h.elim
theorem CR.sub{C:Ctx}{σ σ' ts ts':List V}{cts:Array Value}{w:World}{D:Nat->Prop}{ρ:Nat->Value}{F:Nat->Nat->Prop}(h:CR C σ ts cts w D ρ F)(hl:σ'.length=σ.length)(hs: ∀i,i<σ.length->Sub (σ.getD i .dead) (σ'.getD i .dead))
  (htl:ts'.length=ts.length) (ht: ∀i,i<ts.length->Av (ts.getD i .dead) (ts'.getD i .dead)):CR C σ' ts' cts w D ρ F:=by
 refine⟨⟨fun i hi=>Rel.sub (hs i (by omega)) (h.wr.rel i (by omega)),h.wr.disj,h.wr.dD,h.wr.Dlt,fun i b hi=>h.wr.out i b (by omega)⟩,by rw [h.sz,htl],fun t ht'=>?_,h.fr,h.Fn,h.D1,h.D2,h.rt,by rw [hl];exact h.ml⟩
 exact Rel.subS (ht t (by omega)) (Rel.mono (fun _ h=>h) (Ak.sub hl hs) _ _ _ (fun _ _=>rfl) (h.tm t (by omega)))
theorem AV.sub{C:Ctx}{N:Nat}{S S':Ms}{a:Act}{w:World}(h:AV C N S a w)(hl:S'.σ.length=S.σ.length)(hs: ∀i,i<S.σ.length->Sub (S.σ.getD i .dead) (S'.σ.getD i .dead))(ht: ∀i,Av (S.t i) (S'.t i)):AV C N S' a w:=by
 obtain⟨hd,hdd,D,ρ,F,hcr⟩:=h;refine⟨hd,fun x hx=>?_,D,ρ,F,hcr.sub hl hs (by simp) fun i hi=>?_⟩
 ·have:=ht x
  rw [hdd x hx]at this;rcases this with h|h
  ·exact h
  ·exact h
 ·have hi:i<N:=by simpa using hi
  rw [AK hi,AK hi];exact ht i
def Cl.frz:Cl->Cl
 | .c t _ x=>.c t 0 x
 |y=>y
def Sl.frz:Sl->Option Sl
 | .one y=>some (.one y.frz)
 | .new l=>match Iz l with
  |some ⟨t,x⟩=>some (.one (.c (.ptr t) 0 x))
  |none=>none
 | .agg l=>some (.agg (l.map Cl.frz))
 | .pk t l=>some (.pk t (l.map Cl.frz))
 | .tup l=>some (.tup (l.map fun p=>(p.1,p.2.map Cl.frz)))
theorem Cl.frz_v{r:List Ac}(y:Cl):Go.Ve.frz (y.v r)=y.frz.v r:=by
 cases y with
 |c t d x=>
  cases ho:t.one with
  |true=>exact Ww ho d x
  |false=>cases t<;>first|rfl|cases ho
 |_=>rfl
theorem Qp{r:List Ac}(l:List Cl):Go.Ve.frz (Af (l.map (Cl.v r)))=Af ((l.map Cl.frz).map (Cl.v r)):=by
 rw [frz_mk,List.map_map,List.map_map]
 congr 1
 exact List.map_congr_left fun y _=>Cl.frz_v y
theorem Sl.frz_v{r:List Ac}{y y':Sl}(h:y.frz=some y'):Go.Ve.frz (y.v r)=y'.v r:=by
 cases y with
 |one c=>cases h;exact Cl.frz_v c
 |new l=>
  unfold Sl.frz at h;simp only at h;split at h
  ·rename_i t x hf
   cases h;show Go.Ve.frz (Be true (l.map Cl.v0))=Be false (tyV t 0 x);rw [Md,DD _ _ hf]
  ·cases h
 |agg l=>cases h;exact Qp l
 |pk t l=>
  cases h;show Go.Ve.frz (pkL t (l.map (Cl.v r)))=pkL t ((l.map Cl.frz).map (Cl.v r));rw [frz_pk,List.map_map,List.map_map]
  congr 1
  exact List.map_congr_left fun y _=>Cl.frz_v y
 |tup l=>
  cases h;show Go.Ve.frz (C1 _)=C1 _;rw [Aay,List.map_map,List.map_map]
  congr 1
  refine List.map_congr_left fun p _=>?_
  obtain⟨b,l⟩:=p;cases b with
  |true=>exact Qp l
  |false=>
   show Go.Ve.frz ((l.map (Cl.v r)).getD 0 .dead)=((l.map Cl.frz).map (Cl.v r)).getD 0 .dead;rw [Ax (f:=Cl.v r) (a:=.dead) rfl,Ax (f:=Cl.v r) (a:=.dead) rfl,Cl.frz_v]
   congr 1
   simp only [gDE,List.getElem?_map];cases l[0]? <;>rfl
def Cl.chk(m:Nat):Cl->Cl
 | .rf id p=>bif Nat.blt id m then .rf id p else .dead
 | .rs id p off len=>bif Nat.blt id m then .rs id p off len else .dead
 | .rp id p i k=>bif Nat.blt id m then .rp id p i k else .dead
 |y=>y
def Sl.chk(m:Nat):Sl->Sl
 | .one y=>.one (y.chk m)
 | .new l=>.new l
 | .agg l=>.agg (l.map (Cl.chk m))
 | .pk t l=>.pk t (l.map (Cl.chk m))
 | .tup l=>.tup (l.map fun p=>(p.1,p.2.map (Cl.chk m)))
theorem Cl.chk_v{r r':List Ac}(hr: ∀id,id<r.length->r'.getD id .dead=r.getD id .dead)(y:Cl):Av (y.v r) ((y.chk r.length).v r'):=by
 cases y with
 |rf id p=>
  show Av _ ((bif Nat.blt id r.length then Cl.rf id p else .dead).v r');cases hb:Nat.blt id r.length with
  |false=>exact Av.dead _
  |true=>
   have hb:id<r.length:=blE hb;show Av (V.rs id p 0 (Ae r id p).len) (V.rs id p 0 (Ae r' id p).len);unfold Ae;rw [hr id hb];exact Av.refl _
 |rs id p off len=>
  show Av _ ((bif Nat.blt id r.length then Cl.rs id p off len else .dead).v r');cases hb:Nat.blt id r.length with
  |false=>exact Av.dead _
  |true=>exact Av.refl _
 |rp id p off len=>
  show Av _ ((bif Nat.blt id r.length then Cl.rp id p off len else .dead).v r');cases hb:Nat.blt id r.length with
  |false=>exact Av.dead _
  |true=>exact Av.refl _
 |_=>exact Av.refl _
theorem Bm{l:List Cl}{f g:Cl->V}(hf:f .dead= .dead)(hg:g .dead= .dead)(h: ∀y,Av (f y) (g y))(k:Nat):Av ((l.map f).getD k .dead) ((l.map g).getD k .dead):=by
 rw [Ax (f:=f) (a:=.dead) hf,Ax (f:=g) (a:=.dead) hg];exact h _
theorem Sl.chk_v{r r':List Ac}(hr: ∀id,id<r.length->r'.getD id .dead=r.getD id .dead)(y:Sl):Av (y.v r) ((y.chk r.length).v r'):=by
 have agg: ∀l:List Cl,Av (Af (l.map (Cl.v r))) (Af ((l.map (Cl.chk r.length)).map (Cl.v r'))):=by
  intro l;refine Av.mk (by simp) fun k _=>?_
  rw [List.map_map];exact Bm rfl rfl (fun y=>Cl.chk_v hr y) k
 cases y with
 |one c=>exact Cl.chk_v hr c
 |new l=>exact Av.refl _
 |agg l=>exact agg l
 |pk t l=>
  show Av (pkL t (l.map (Cl.v r))) (pkL t ((l.map (Cl.chk r.length)).map (Cl.v r')));refine Av.pk (by simp) fun k _=>?_
  rw [List.map_map];exact Bm rfl rfl (fun y=>Cl.chk_v hr y) k
 |tup l=>
  refine Av.tup (by simp) fun k hk=>?_
  have hk:k<l.length:=by simpa using hk
  simp only [gDE,List.getElem?_map,gEE hk,Option.map_some,Option.getD_some];generalize l[k]=p;obtain⟨b,m⟩:=p;cases b with
  |true=>exact agg m
  |false=>
   have:=Bm (l:=m) (f:=Cl.v r) (g:=fun y=>(y.chk r.length).v r') rfl rfl (fun y=>Cl.chk_v hr y) 0
   have e:(m.map fun y=>(y.chk r.length).v r')=(m.map (Cl.chk r.length)).map (Cl.v r'):=by rw [List.map_map];rfl
   rw [e]at this;simpa using this
end Go.Ve

