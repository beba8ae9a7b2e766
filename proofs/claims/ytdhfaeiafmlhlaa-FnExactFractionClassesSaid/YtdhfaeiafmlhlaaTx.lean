/- What is known of structs, tuples and slices of the small machine. -/
import Derived.Test.YtdhfaeiafmlhlaaVu
import Derived.Test.YtdhfaeiafmlhlaaTw
set_option linter.all false
namespace Go.Ve
variable{o:Bool}{l σ:List V}{id k m sz:Nat}{t:Tg}{α:Type}{p:V->Bool}
theorem Pb:cellsV (Ai l)=l:=by
 unfold Ai cellsV;apply List.ext_getElem?
 grind
def one1:V->Bool
 |.many ..=>false
 |.dead=>false
 |v=>!AM v
theorem YT:((List.range l.length).all λk=>p (l.getD k .dead))=l.all p:=by
 rw[Bool.eq_iff_iff,aET,aET];constructor
 .intro h x e
  obtain⟨i,hi,rfl⟩:=List.getElem_of_mem e
  simp_all
 grind
theorem KN:((List.range l.length).any λk=>p (l.getD k .dead))=l.any p:=by
 rw[Bool.eq_iff_iff,List.any_eq_true,List.any_eq_true];constructor
 .grind
 .rintro ⟨x,e,h⟩
  obtain⟨i,hi,rfl⟩:=List.getElem_of_mem e;refine⟨i,List.mem_range.2 hi,?_⟩
  grind
def XK:Bu (Ai l)=l.all one1:=by
 rw[<-YT];rfl
def WZ:AM (Ai l)=l.any AM:=by
 rw[<-KN];rfl
theorem Br{f:V->V}(e:f .dead=.dead):(l.map f).getD k .dead=f (l.getD k .dead):=by grind
theorem frz_mk:frz (Ai l)=Ai (l.map frz):=by
 unfold Ai frz;rw[List.length_map]
 congr 1
 funext k
 rw[Br rfl]
theorem AcJ:BQ σ (Ai l)=Ai (l.map (BQ σ)):=by
 unfold Ai;show V.many .ag l.length (λk=>BQ σ (l.getD k .dead))=_
 rw[List.length_map]
 congr 1
 funext k
 rw[Br rfl]
def B9:List V->Nat->List V×List V
 |[],_=>([],[])
 |v::vs,m=>((prom v m).1::(B9 vs (m+(prom v m).2.length)).1,(prom v m).2++(B9 vs (m+(prom v m).2.length)).2)
def Lw:∀(l:List V) (v:V) (m:Nat),B9 (l++[v]) m=((B9 l m).1++[(prom v (m+(B9 l m).2.length)).1],(B9 l m).2++(prom v (m+(B9 l m).2.length)).2)
 |[],v,m=>by simp[B9]
 |w::l,v,m=>by
  simp[B9,Lw l v,List.length_append,Nat.add_assoc,List.append_assoc]
def CV:∀(l:List V) (m:Nat),(B9 l m).1.length=l.length
 |[],_=>rfl
 |v::l,m=>by simp[B9,CV l]
theorem Iz:∀n,n<=l.length->BM (λk=>prom (l.getD k .dead)) n m=B9 (l.take n) m:=by
 intro n
 induction n with
 |zero=>intro _;rfl
 |succ n A=>
  intro B
  have e:l.take (n+1)=l.take n++[l.getD n .dead]:=by
   rw[List.take_add_one]
   grind
  rw[e,Lw];unfold BM
  grind
theorem XG:prom (Ai l) m=(Ai (B9 l m).1,(B9 l m).2):=by
 unfold Ai;show(V.many .ag l.length (λk=>(BM (λk=>prom (l.getD k .dead)) l.length m).1.getD k .dead),(BM (λk=>prom (l.getD k .dead)) l.length m).2)=_
 rw[Iz l.length (Nat.le_refl _),List.take_length,CV]
def Dw(l:List V):V:=.many .tu l.length λk=>l.getD k .dead
theorem ZR:prom (Dw l) m=(Dw (B9 l m).1,(B9 l m).2):=by
 unfold Dw;show(V.many .tu l.length (λk=>(BM (λk=>prom (l.getD k .dead)) l.length m).1.getD k .dead),(BM (λk=>prom (l.getD k .dead)) l.length m).2)=_
 rw[Iz l.length (Nat.le_refl _),List.take_length,CV]
def pkL(t:Tg)(l:List V):V:=.many t l.length λk=>l.getD k .dead
theorem frz_pk:frz (pkL t l)=pkL t (l.map frz):=by
 unfold pkL frz;rw[List.length_map]
 congr 1
 funext k
 rw[Br rfl]
def AbZ:AM (pkL t l)=l.any AM:=by
 rw[<-KN];rfl
theorem Acp:prom (pkL t l) m=(pkL t (B9 l m).1,(B9 l m).2):=by
 unfold pkL;show(V.many t l.length (λk=>(BM (λk=>prom (l.getD k .dead)) l.length m).1.getD k .dead),(BM (λk=>prom (l.getD k .dead)) l.length m).2)=_
 rw[Iz l.length (Nat.le_refl _),List.take_length,CV]
theorem AcK{g:Nat}:BQ σ (pkL (.cl g) l)=pkL (.cl g) (l.map (BQ σ)):=by
 show(if Tg.cl g=.bx then _ else V.many (.cl g) l.length λk=>BQ σ (l.getD k .dead))=_
 rw[if_neg (by simp)]
 unfold pkL;rw[List.length_map]
 congr 1
 funext k
 rw[Br rfl]
theorem Z6:BQ σ (boxL l)=Be false (l.map (BQ σ)):=by
 show V.nd false false l.length 1 (λi k=>if i=0 then BQ σ (l.getD k .dead)else .dead)=_
 unfold Be;rw[List.length_map]
 congr 1
 funext i k
 cases i with
 |zero=>
  simp only[if_true,List.getD_cons_zero];rw[Br rfl]
 |succ i=>rfl
def Lx{v:V}{e:List V}:B9 (v::e) m=((prom v m).1::(B9 e (m+(prom v m).2.length)).1,(prom v m).2++(B9 e (m+(prom v m).2.length)).2):=rfl
theorem Ac2:frz (Dw l)=Dw (l.map frz):=by
 unfold Dw frz;rw[List.length_map]
 congr 1
 funext k
 rw[Br rfl]
def Zx:AM (Dw l)=l.any AM:=by
 rw[<-KN];rfl
theorem Jv(h:k<l.length):l.getD k .dead∈l:=by grind
theorem KO:(∀k,k<l.length->BE (l.getD k .dead))= ∀v∈l,BE v:=by
 apply propext;constructor
 .intro h v e
  obtain⟨i,hi,rfl⟩:=List.getElem_of_mem e
  grind
 grind
def VJ:BE (Ai l)= ∀v∈l,BE v:=by
 show(Tg.ag≠.bx/\_)=_;rw[KO];simp
def P2:BE (Dw l)= ∀v∈l,BE v:=by
 show(Tg.tu≠.bx/\_)=_;rw[KO];simp
theorem Nf:frz (Be o l)=Be false (l.map frz):=by
 unfold Be frz;rw[List.length_map]
 congr 1
 funext i k
 cases i with
 |zero=>exact(Br rfl).symm
 |succ i=>rfl
theorem Qi{g:α->List V}{d:α}{l:List α}:frz (arr o sz g d l)=arr false sz (λa=>(g a).map frz) d l:=by
 unfold arr frz
 congr 1
 funext i k
 rw[Br rfl]
def X5(v:V)(off len:Nat):V:=match v with
 |.nd _ _ sz _ f=>.nd true false sz len λi k=>frz (f (off+i) k)
 |_=>.dead
def P8{p:List (Nat×Nat)}{off len:Nat}:BQ σ (.rs id p off len)=X5 (sub p (σ.getD id .dead)) off len:=rfl
theorem OO{n:Nat}{g:α->List V}{d:α}{l:List α}(h:n=l.length):X5 (arr o sz g d l) 0 n=arr false sz (λa=>(g a).map frz) d l:=by
 subst h;rw[<-Qi (o:=o)];show V.nd true false sz l.length (λi k=>frz ((g (l.getD (0+i) d)).getD k .dead))=_
 simp;rfl
def Z7(v:V)(i k:Nat):V:=match v with
 |.nd _ _ sz _ f=>.nd false false (sz-k) 1 λi' j=>if i'=0 then frz (f i (k+j))else .dead
 |_=>.dead
def P9{p:List (Nat×Nat)}{i:Nat}:BQ σ (.rp id p i k)=Z7 (sub p (σ.getD id .dead)) i k:=rfl
def LM:Z7 (Be o l) 0 k=Be false ((l.drop k).map frz):=by
 show V.nd false false (l.length-k) 1 (λi' j=>if i'=0 then frz (([l].getD 0 []).getD (k+j) .dead)else .dead)=_
 unfold Be;rw[List.length_map,List.length_drop]
 congr 1
 funext i j
 cases i with
 |zero=>
  simp only[List.getD_cons_zero];rw[Br rfl];simp
 |succ i=>rfl
end Go.Ve


namespace Go.Ve
@[reducible] def Ph {α:Type} (b:Bool) (x y:α):α:=bif b then x else y
@[reducible] def IE {α A:Type} (o:Option α) (f:α->Option A):Option A:=o.bind f
@[reducible] def oif {α:Type} (p:Prop) (dec:Decidable p) (x:Option α):Option α:=@ite _ p dec x none
@[reducible] def nif {α:Type} (a b:Nat) (x y:α):α:=if a=b then x else y
@[reducible] def Ac1 {α:Type} (xs:List α) (i:Nat) (d:α):α:=xs.getD i d
@[reducible] def setX {α:Type} (xs:List α) (i:Nat) (x:α):List α:=xs.set i x
@[reducible] def HZ {α:Type} (xs:List α):Nat:=xs.length
@[reducible] def AaZ {α:Type} (n:Nat) (x:α):List α:=List.replicate n x
@[reducible] def Qo {α:Type} (n:Nat) (xs:List α):List α:=xs.drop n
@[reducible] def Pu {α:Type} (n:Nat) (xs:List α):List α:=xs.take n
@[reducible] def Vm {α:Type} (off len:Nat) (xs:List α) (d:α):List α:=(List.range len).map λi=>xs.getD (off+i) d
@[reducible] def MG (s:ByteArray):Nat:=s.size
@[reducible] def catS (a b:ByteArray):ByteArray:=a++b
@[reducible] def cutS (s:ByteArray) (a b:Nat):ByteArray:=s.extract a b
@[reducible] def idxS (s:ByteArray) (i:Nat):Int:=((s.data.toList.getD i 0).toNat:Int)
@[reducible] def AdB (a b:Bool):Bool:=a&&b
@[reducible] def eqB (a b:Bool):Bool:=a==b
@[reducible] def notB (b:Bool):Bool:=!b
@[reducible] def eqI (a b:Int):Bool:=decide (a=b)
@[reducible] def neI (a b:Int):Bool:=!decide (a=b)
@[reducible] def ltI (a b:Int):Bool:=decide (a<b)
@[reducible] def leI (a b:Int):Bool:=decide (a<=b)
@[reducible] def eqS (a b:ByteArray):Bool:=decide (a.data.toList=b.data.toList)
@[reducible] def neS (a b:ByteArray):Bool:=!decide (a.data.toList=b.data.toList)
@[reducible] def ltS (a b:ByteArray):Bool:=Op.bytesLess a.data.toList b.data.toList
@[reducible] def minI (x y:Int):Int:=if y<x then y else x
@[reducible] def Adv (x y:Int):Int:=if x<y then y else x
@[reducible] def ofN (n:Nat):Int:=n
@[reducible] def J8 (n:Int):Nat:=n.toNat
@[reducible] def Adf {α:Type} (xs ys:List α):List α:=xs++ys
end Go.Ve


namespace Go.Ve
variable{α:Type}
def A9{b:Bool}{x:Option α}{z:α}(h:(bif b then x else none)=some z):b=true/\x=some z:=by
 cases b with
 |false=>cases h
 |true=>exact⟨rfl,h⟩
inductive Ty where
 |int (k:IntKind)|bool|str|sl (t:Ty)|ptr (t:Ty)|unit|pair (a b:Ty)|clo (g:Nat) (t:Ty)|osl (t:Ty)|mp (k v:Ty)
deriving DecidableEq
@[reducible] def Ty.T:Ty->Type
 |.int _=>Int
 |.bool=>Bool
 |.str=>ByteArray
 |.sl t=>List t.T
 |.ptr t=>t.T
 |.unit=>Unit
 |.pair a b=>a.T×b.T
 |.clo _ t=>t.T
 |.osl t=>Option (List t.T)
 |.mp k v=>List (k.T×v.T)
def Ty.dflt:(t:Ty)->t.T
 |.int _=>(0:Int)
 |.bool=>false
 |.str=>ByteArray.mk #[]
 |.sl _=>[]
 |.ptr t=>t.dflt
 |.unit=>()
 |.pair a b=>(a.dflt,b.dflt)
 |.clo _ t=>t.dflt
 |.osl _=>some []
 |.mp _ _=>[]
def Ty.w:Ty->Nat
 |.unit=>0
 |.pair a b=>a.w+b.w
 |_=>1
def Ty.dep:Ty->Nat
 |.sl t=>t.dep+1
 |.ptr t=>t.dep+1
 |.pair a b=>max a.dep b.dep
 |.clo _ _=>1
 |.osl t=>t.dep+1
 |.mp _ _=>1
 |_=>0
def Acy{α:Type}(own:Bool)(sz:Nat)(f:α->List V)(d:α):Option (List α)->V
 |none=>.dead
 |some xs=>arr own sz f d xs
def Aam{own:Bool}{sz:Nat}{f:α->List V}{d:α}(x:Option (List α)):frz (Acy own sz f d x)=Acy false sz (λa=>(f a).map frz) d x:=by
 cases x with
 |none=>rfl
 |some xs=>simp[Acy,Qi]
def Dg:Ty->Bool
 |.pair _ _=>true
 |.unit=>true
 |_=>false
def valA(ag:Bool)(l:List Value):Value:=bif ag then .agg l.toArray else l.getD 0 undef
def tyV:(t:Ty)->Nat->t.T->List V
 |.int k,_,n=>[.c (.int k n)]
 |.bool,_,b=>[.c (.bool b)]
 |.str,_,s=>[.c (.string s)]
 |.sl t,d,xs=>[arr (decide (0<d)) t.w (tyV t (d-1)) t.dflt xs]
 |.ptr t,d,x=>[Be (decide (0<d)) (tyV t (d-1) x)]
 |.unit,_,_=>[]
 |.pair a b,d,x=>tyV a d x.1++tyV b d x.2
 |.clo g t,_,x=>[.many (.cl g) t.w λk=>(tyV t 0 x).getD k .dead]
 |.osl t,d,x=>[Acy (decide (0<d)) t.w (tyV t (d-1)) t.dflt x]
 |.mp k v,d,x=>[.mp (decide (0<d)) (x.map λe=>(valA (Dg k) ((tyV k 0 e.1).map Dv),valA (Dg v) ((tyV v 0 e.2).map Dv)))]
def Ay:∀(t:Ty) (d:Nat) (x:t.T),(tyV t d x).length=t.w
 |.int _,_,_=>rfl
 |.bool,_,_=>rfl
 |.str,_,_=>rfl
 |.sl _,_,_=>rfl
 |.ptr _,_,_=>rfl
 |.unit,_,_=>rfl
 |.pair a b,d,x=>by simp[tyV,Ty.w,Ay a,Ay b]
 |.clo _ _,_,_=>rfl
 |.osl _,_,_=>rfl
 |.mp _ _,_,_=>rfl
theorem C0:∀(t:Ty) (d e:Nat) (x:t.T),min d t.dep=min e t.dep->tyV t d x=tyV t e x
 |.int _,_,_,_,_=>rfl
 |.bool,_,_,_,_=>rfl
 |.str,_,_,_,_=>rfl
 |.sl t,d,e,xs,h=>by
  simp only[Ty.dep]at h
  have A:decide (0<d)=decide (0<e):=by
   rw[Bool.eq_iff_iff];simp;omega
  have B:tyV t (d-1)=tyV t (e-1):=funext λx=>C0 t _ _ x (by omega)
  simp only[tyV,A,B]
 |.ptr t,d,e,x,h=>by
  simp only[Ty.dep]at h
  have A:decide (0<d)=decide (0<e):=by
   rw[Bool.eq_iff_iff];simp;omega
  simp only[tyV,A,C0 t (d-1) (e-1) x (by omega)]
 |.unit,_,_,_,_=>rfl
 |.pair a b,d,e,x,h=>by
  simp only[Ty.dep]at h;simp only[tyV,C0 a d e x.1 (by omega),C0 b d e x.2 (by omega)]
 |.clo _ _,_,_,_,_=>rfl
 |.mp k v,d,e,x,h=>by
  simp only[Ty.dep]at h
  have A:decide (0<d)=decide (0<e):=by
   rw[Bool.eq_iff_iff];simp;omega
  simp only[tyV,A]
 |.osl t,d,e,x,h=>by
  simp only[Ty.dep]at h
  have A:decide (0<d)=decide (0<e):=by
   rw[Bool.eq_iff_iff];simp;omega
  have B:tyV t (d-1)=tyV t (e-1):=funext λx=>C0 t _ _ x (by omega)
  simp only[tyV,A,B]
theorem Bg:∀(t:Ty) (d:Nat) (x:t.T),(tyV t d x).map frz=tyV t 0 x
 |.int _,_,_=>rfl
 |.bool,_,_=>rfl
 |.str,_,_=>rfl
 |.sl t,d,xs=>by
  have e:(λa=>(tyV t (d-1) a).map frz)=tyV t 0:=funext λx=>Bg t _ x
  simp[tyV,Qi,e]
 |.ptr t,d,x=>by simp[tyV,Nf,Bg t]
 |.unit,_,_=>rfl
 |.pair a b,d,x=>by simp[tyV,Bg a,Bg b]
 |.mp _ _,_,_=>rfl
 |.osl t,d,x=>by
  have e:(λa=>(tyV t (d-1) a).map frz)=tyV t 0:=funext λx=>Bg t _ x
  simp[tyV,Aam,e]
 |.clo g t,_,x=>by
  have e:(λk=>frz ((tyV t 0 x).getD k .dead))=λk=>(tyV t 0 x).getD k .dead:=by
   funext k
   have h:=Bg t 0 x
   conv=>rhs;rw[<-h]
   simp[List.getElem?_map];cases (tyV t 0 x)[k]? <;>rfl
  show [V.many (.cl g) t.w λk=>frz ((tyV t 0 x).getD k .dead)]=[V.many (.cl g) t.w λk=>(tyV t 0 x).getD k .dead]
  rw[e]
def OF{α:Type}(l:List α):List (Option α):=l.map some
def unO{α:Type}(l:List (Option (List α))):List (List α):=l.map λx=>match x with
 |some y=>y
 |none=>[]
def isO{α:Type}:Option (List α)->Bool
 |some _=>true
 |none=>false
def getO{α:Type}:Option (List α)->List α
 |some xs=>xs
 |none=>[]
abbrev AX:=List (Nat×Nat)
inductive Cl where
 |dead
 |nil
 |nilp
 |nilf
 |nilm
 |c (t:Ty) (d:Nat) (x:t.T)
 |rf (id:Nat) (p:AX)
 |rs (id:Nat) (p:AX) (off len:Nat)
 |rp (id:Nat) (p:AX) (i k:Nat)
 |rm (id:Nat) (p:AX)
inductive Ab where
 |dead
 |obj (ro:Bool) (l:List Cl)
 |arr (ro:Bool) (t:Ty) (d:Nat) (xs:List t.T)
 |opt (ro:Bool) (t:Ty) (d:Nat) (x:Option (List t.T))
 |mp (ro:Bool) (k v:Ty) (x:List (k.T×v.T))
def As:(t:Ty)->Nat->t.T->List Cl
 |.unit,_,_=>[]
 |.pair a b,d,x=>As a d x.1++As b d x.2
 |.int k,d,x=>[.c (.int k) d x]
 |.bool,d,x=>[.c .bool d x]
 |.str,d,x=>[.c .str d x]
 |.sl t,d,x=>[.c (.sl t) d x]
 |.ptr t,d,x=>[.c (.ptr t) d x]
 |.clo g t,d,x=>[.c (.clo g t) d x]
 |.osl t,d,x=>[.c (.osl t) d x]
 |.mp k v,d,x=>[.c (.mp k v) d x]
def mpV(own:Bool)(k v:Ty)(x:List (k.T×v.T)):V:=.mp own (x.map λe=>(valA (Dg k) ((tyV k 0 e.1).map Dv),valA (Dg v) ((tyV v 0 e.2).map Dv)))
def cV:(t:Ty)->Nat->t.T->V
 |.int k,_,n=>.c (.int k n)
 |.bool,_,b=>.c (.bool b)
 |.str,_,s=>.c (.string s)
 |.sl t,d,xs=>arr (decide (0<d)) t.w (tyV t (d-1)) t.dflt xs
 |.ptr t,d,x=>Be (decide (0<d)) (tyV t (d-1) x)
 |.clo g t,_,x=>.many (.cl g) t.w λk=>(tyV t 0 x).getD k .dead
 |.osl t,d,x=>Acy (decide (0<d)) t.w (tyV t (d-1)) t.dflt x
 |.mp k v,d,x=>mpV (decide (0<d)) k v x
 |.unit,_,_=>.dead
 |.pair _ _,_,_=>.dead
def Cl.v0:Cl->V
 |.dead=>.dead
 |.nil=>.c (.slice none 0 0)
 |.nilp=>.c (.pointer none)
 |.nilf=>.c .nilFunc
 |.nilm=>.c (.map none)
 |.c t d x=>cV t d x
 |_=>.dead
def Ab.v:Ab->V
 |.dead=>.dead
 |.obj _ l=>Be true (l.map Cl.v0)
 |.arr _ t d xs=>Go.Ve.arr true t.w (tyV t d) t.dflt xs
 |.opt _ t d x=>Acy true t.w (tyV t d) t.dflt x
 |.mp _ k v x=>mpV true k v x
def BK:∀(t:Ty) (d:Nat) (x:t.T),(As t d x).map Cl.v0=tyV t d x
 |.int _,_,_=>rfl
 |.bool,_,_=>rfl
 |.str,_,_=>rfl
 |.sl _,_,_=>rfl
 |.ptr _,_,_=>rfl
 |.clo _ _,_,_=>rfl
 |.mp _ _,_,_=>rfl
 |.osl _,_,_=>rfl
 |.unit,_,_=>rfl
 |.pair a b,d,x=>by simp[As,tyV,BK a,BK b]
def Cl.node(ro:Bool):Cl->Ab
 |.c (.sl t) (d+1) xs=>.arr ro t d xs
 |.c (.ptr t) (d+1) x=>.obj ro (As t d x)
 |.c (.osl t) (d+1) x=>.opt ro t d x
 |.c (.mp k v) (_+1) x=>.mp ro k v x
 |_=>.dead
def Ab.cells:Ab->Nat->List Cl
 |.obj _ l,0=>l
 |.obj _ _,_+1=>[]
 |.arr _ t d xs,i=>As t d (Ac1 xs i t.dflt)
 |.opt _ _ _ _,_=>[]
 |.mp _ _ _ _,_=>[]
 |.dead,_=>[]
def Ab.ro:Ab->Bool
 |.obj ro _=>ro
 |.arr ro _ _ _=>ro
 |.opt ro _ _ _=>ro
 |.mp ro _ _ _=>ro
 |.dead=>true
def Ab.at':Ab->AX->Ab
 |r,[]=>r
 |r,(i,k)::p=>(((r.cells i).getD k .dead).node r.ro).at' p
def Ab.len:Ab->Nat
 |.arr _ _ _ xs=>HZ xs
 |.opt _ _ _ (some xs)=>HZ xs
 |.opt _ _ _ none=>0
 |.mp _ _ _ _=>0
 |.obj _ _=>1
 |.dead=>0
def Af(r:List Ab)(id:Nat)(p:AX):Ab:=(r.getD id .dead).at' p
def Cl.v(r:List Ab):Cl->V
 |.dead=>.dead
 |.nil=>.c (.slice none 0 0)
 |.nilp=>.c (.pointer none)
 |.nilf=>.c .nilFunc
 |.nilm=>.c (.map none)
 |.c t d x=>cV t d x
 |.rf id p=>.rs id p 0 (Af r id p).len
 |.rs id p off len=>.rs id p off len
 |.rp id p i k=>.rp id p i k
 |.rm id p=>.rm id p
inductive Sl where
 |one (c:Cl)
 |new (l:List Cl)
 |agg (l:List Cl)
 |tup (l:List (Bool×List Cl))
 |pk (t:Tg) (l:List Cl)
def Sl.v(r:List Ab):Sl->V
 |.one c=>c.v r
 |.new l=>Be true (l.map Cl.v0)
 |.agg l=>Ai (l.map (Cl.v r))
 |.tup l=>Dw (l.map λp=>if p.1 then Ai (p.2.map (Cl.v r))else(p.2.map (Cl.v r)).getD 0 .dead)
 |.pk t l=>pkL t (l.map (Cl.v r))
structure St where
 t:Nat->Sl
 r:List Ab
def St.den(s:St):Ms:=⟨λi=>(s.t i).v s.r,s.r.map Ab.v⟩
theorem Aa6{ro:Bool}{c:Cl}(h:(c.node ro)≠.dead):c.v0=(c.node ro).v:=by
 unfold Cl.node at h⊢;split at h<;>try grind
 .rfl
 .simp[Cl.v0,cV,Ab.v,BK]
 all_goals rfl
theorem AE{f:α->V}{a:α}(e:f a=.dead)(l:List α)(k:Nat):(l.map f).getD k .dead=f (l.getD k a):=by grind
def Ab.live:Ab->Bool
 |.dead=>false
 |.opt _ _ _ _=>false
 |.mp _ _ _ _=>false
 |_=>true
def X3{r:Ab}(h:r.live=true):r≠.dead:=by rintro rfl;cases h
theorem Qq(r:Ab)(hd:r.live=true):∃s sz n f,r.v=.nd s true sz n f/\(∀i k,f i k=((r.cells i).getD k .dead).v0)/\n=r.len/\(s=false->n=1)/\
  (∀ro t d xs,r=.arr ro t d xs->s=true/\sz=t.w)/\(∀ro l,r=.obj ro l->s=false/\sz=l.length):=by
 cases r with
 |dead=>cases hd
 |opt=>cases hd
 |mp=>cases hd
 |obj ro l=>
  refine⟨false,_,_,_,rfl,?_,rfl,λ_=>rfl,λro t d xs h=>by grind,λro l h=>by grind⟩
  intro i k;cases i with
  |zero=>
   exact AE rfl l k
  |succ i=>rfl
 |arr ro t d xs=>
  refine⟨true,_,_,_,rfl,?_,rfl,(λh=>by cases h),λro t d xs h=>by grind,λro l h=>by cases h⟩
  intro i k;rw[<-BK];exact AE rfl _ k
def C8:∀p,Ab.at' .dead p=.dead
 |[]=>rfl
 |(i,k)::p=>by
  exact C8 p
theorem AaR:∀(p:AX) (r:Ab),r.at' p≠.dead->sub p r.v=(r.at' p).v
 |[],r,_=>rfl
 |(i,k)::p,r,h=>by
  have E:r.live=true:=by
   cases r with
   |dead=>exact absurd (C8 _) h
   |opt ro t d x=>exact absurd (C8 p) h
   |mp ro k v x=>exact absurd (C8 p) h
   |_=>rfl
  obtain⟨s,sz,n,f,B,J,_⟩:=Qq r E;rw[B];show sub p (f i k)=_;have A:(((r.cells i).getD k .dead).node r.ro).at' p≠.dead:=h;have F:((r.cells i).getD k .dead).node r.ro≠.dead:=by intro e;rw[e]at A;exact A (C8 p)
  rw[J,Aa6 F,AaR p _ A];rfl
def AbG:∀(p q:AX) (r:Ab),r.at' (p++q)=(r.at' p).at' q
 |[],_,_=>rfl
 |(i,k)::p,q,r=>AbG p q _
def Aw(l:List Ab)(id:Nat):(l.map Ab.v).getD id .dead=(l.getD id .dead).v:=AE rfl l id
def AV{r:List Ab}{id:Nat}{p:AX}(h:Af r id p≠.dead):sub p ((r.map Ab.v).getD id .dead)=(Af r id p).v:=by
 rw[Aw];exact AaR p _ h
end Go.Ve


namespace Go.Ve
open Go
variable{P:Program}
def eqT:(t:Ty)->t.T->t.T->Bool
 |.int _,a,b=>decide ((show Int from a)=b)
 |.bool,a,b=>(show Bool from a)==b
 |.str,a,b=>decide ((show ByteArray from a).data.toList=(show ByteArray from b).data.toList)
 |.pair s t,a,b=>eqT s a.1 b.1&&eqT t a.2 b.2
 |.unit,_,_=>true
 |_,_,_=>false
def I4:Ty->Bool
 |.int _=>true
 |.bool=>true
 |.str=>true
 |.unit=>true
 |.pair a b=>I4 a&&I4 b
 |_=>false
def Bv:Ty->List Nat
 |.int _=>[0]
 |.bool=>[1]
 |.str=>[2]
 |.pair a b=>Bv a++Bv b
 |_=>[]
def AW(t:Ty)(x:t.T):List Value:=(tyV t 0 x).map Dv
def XS:∀{ks e:List Nat}{l m B A:List Value},okL ks l m=true->okL e B A=true->okL (ks++e) (l++B) (m++A)=true
 |[],_,[],[],_,_,_,h=>h
 |k::ks,_,a::l,b::m,_,_,h,h'=>by
  have h:((kOf a==some k)&&(kOf b==some k)&&Cs a b&&okL ks l m)=true:=h;rw[bAE]at h;show((kOf a==some k)&&(kOf b==some k)&&Cs a b&&okL (ks++_) (l++_) (m++_))=true;rw[h.1,XS h.2 h'];rfl
 |[],_,[],_::_,_,_,h,_=>by cases h
 |[],_,_::_,_,_,_,h,_=>by cases h
 |_::_,_,[],_,_,_,h,_=>by cases h
 |_::_,_,_::_,[],_,_,h,_=>by cases h
def QB:∀{ks:List Nat}{l m A e:List Value},okL ks l m=true->Hv (l++A) (m++e)=(Hv l m&&Hv A e)
 |[],[],[],_,_,_=>rfl
 |k::ks,a::l,b::m,A,e,h=>by
  have h:((kOf a==some k)&&(kOf b==some k)&&Cs a b&&okL ks l m)=true:=h;rw[bAE]at h;show(vEq a b&&Hv (l++A) (m++e))=((vEq a b&&Hv l m)&&_);rw[QB h.2,Bool.and_assoc]
 |[],[],_::_,_,_,h=>by cases h
 |[],_::_,_,_,_,h=>by cases h
 |_::_,[],_,_,_,h=>by cases h
 |_::_,_::_,[],_,_,h=>by cases h
def Aab:∀(t:Ty) (a b:t.T),I4 t=true->okL (Bv t) (AW t a) (AW t b)=true/\Hv (AW t a) (AW t b)=eqT t a b
 |.int k,a,b,_=>by
  refine⟨?_,?_⟩
  .simp[AW,tyV,Dv,Bv,okL,kOf,Cs]
  .simp[AW,tyV,Dv,Hv,vEq,eqT]
 |.bool,a,b,_=>by
  refine⟨?_,?_⟩
  .simp[AW,tyV,Dv,Bv,okL,kOf,Cs]
  .simp[AW,tyV,Dv,Hv,vEq,eqT]
 |.str,a,b,_=>by
  refine⟨?_,?_⟩
  .simp[AW,tyV,Dv,Bv,okL,kOf,Cs]
  .simp[AW,tyV,Dv,Hv,vEq,eqT]
 |.unit,_,_,_=>⟨rfl,rfl⟩
 |.pair s t,a,b,h=>by
  simp only[I4,bAE]at h;obtain⟨A,F⟩:=Aab s a.1 b.1 h.1;obtain⟨E,B⟩:=Aab t a.2 b.2 h.2;have e:∀x:(Ty.pair s t).T,AW (.pair s t) x=AW s x.1++AW t x.2:=λx=>by simp[AW,tyV]
  rw[e,e];exact⟨XS A E,by rw[QB A,F,B];rfl⟩
 |.sl _,_,_,h=>by cases h
 |.ptr _,_,_,h=>by cases h
 |.clo _ _,_,_,h=>by cases h
 |.osl _,_,_,h=>by cases h
 |.mp _ _,_,_,h=>by cases h
def DE(t:Ty)(x:t.T):Value:=valA (Dg t) (AW t x)
theorem kEq_v:∀(t:Ty) (a b:t.T),I4 t=true->kEq (DE t a) (DE t b)=eqT t a b:=by
 intro t a b h;have A:=(Aab t a b h).2;cases t with
 |int k=>
  have e:vEq (Value.int k a) (Value.int k b)=eqT (.int k) a b:=by simpa [AW,tyV,Dv,Hv]using A
  exact e
 |bool=>
  have e:vEq (Value.bool a) (Value.bool b)=eqT .bool a b:=by simpa [AW,tyV,Dv,Hv]using A
  exact e
 |str=>
  have e:vEq (Value.string a) (Value.string b)=eqT .str a b:=by simpa [AW,tyV,Dv,Hv]using A
  exact e
 |unit=>rfl
 |pair u v=>exact A
 |_=>cases h
def BO(k v:Ty)(key:k.T):List (k.T×v.T)->Option v.T
 |[]=>none
 |e::l=>bif eqT k key e.1 then some e.2 else BO k v key l
def Qn(k v:Ty)(xs:List (k.T×v.T)):List (Value×Value):=xs.map λe=>(DE k e.1,DE v e.2)
def Yv{k v:Ty}(A:I4 k=true)(key:k.T):∀xs:List (k.T×v.T),H3 (DE k key) (Qn k v xs)=(BO k v key xs).map (DE v)
 |[]=>rfl
 |e::xs=>by
  show(bif kEq (DE k key) (DE k e.1)then some (DE v e.2)else H3 _ (Qn k v xs))=Option.map _ (bif eqT k key e.1 then some e.2 else BO k v key xs);rw[kEq_v k key e.1 A,Yv A key xs];cases eqT k key e.1<;>rfl
def Pr(k v:Ty)(key:k.T)(x:v.T):List (k.T×v.T)->List (k.T×v.T)
 |[]=>[(key,x)]
 |e::l=>bif eqT k key e.1 then(key,x)::l else e::Pr k v key x l
def AaM{k v:Ty}(A:I4 k=true)(key:k.T)(x:v.T):∀xs:List (k.T×v.T),AaN (DE k key) (DE v x) (Qn k v xs)=Qn k v (Pr k v key x xs)
 |[]=>rfl
 |e::xs=>by
  show(bif kEq (DE k key) (DE k e.1)then(DE k key,DE v x)::Qn k v xs else(DE k e.1,DE v e.2)::AaN _ _ (Qn k v xs))=Qn k v (bif eqT k key e.1 then(key,x)::xs else e::Pr k v key x xs);rw[kEq_v k key e.1 A,AaM A key x xs];cases eqT k key e.1<;>rfl
theorem pair_v{kt:TypeId}{t:Ty}{a b:t.T}(B:I4 t=true)(h:bif Dg t then Nh P kt=some (Bv t)/\Bv t≠[9]else ∃n,Bv t=[n]/\knd P kt=some n):BH P kt (DE t a) (DE t b)=true:=by
 have E:=(Aab t a b B).1;cases t with
 |int k=>
  obtain⟨n,e,A⟩:=h;cases e;show BH P kt (Value.int k a) (Value.int k b)=true;simp[BH,A,kOf,Cs]
 |bool=>
  obtain⟨n,e,A⟩:=h;cases e;show BH P kt (Value.bool a) (Value.bool b)=true;simp[BH,A,kOf,Cs]
 |str=>
  obtain⟨n,e,A⟩:=h;cases e;show BH P kt (Value.string a) (Value.string b)=true;simp[BH,A,kOf,Cs]
 |unit=>
  show(match Nh P kt with|some ks=>decide (ks≠[9])&&okL ks _ _|none=>false)=true
  rw[h.1];rfl
 |pair u v=>
  show(match Nh P kt with|some ks=>decide (ks≠[9])&&okL ks (AW (.pair u v) a) (AW (.pair u v) b)|none=>false)=true
  rw[h.1];show(decide _&&_)=true;rw[E,dT h.2];rfl
 |_=>cases B
structure MpI where
 kt:TypeId
 et:TypeId
 kn:Option Nat
 eq:Option (List Nat)
 ck:Bool
 z:Option Value
def ckS(P:Program)(kt:TypeId):Bool:=match knd P kt with
 |some _=>true
 |none=>match P.underlying kt,Nh P kt with
  |some (.struct fs),some ks=>fs.toList.all λf=>(knd P f.type).isSome&&decide (f.offset<ks.length)
  |_,_=>false
def mpI(P:Program)(t:TypeId):Option MpI:=match Wq P t with
 |some (k,e)=>some ⟨k,e,knd P k,bif(knd P k).isSome then none else Nh P k,ckS P k,Pn P e⟩
 |none=>none
def zT:Ty->Value
 |.mp _ _=>.map none
 |v=>DE v v.dflt
def mpW:Ty->Option (TypeId×TypeId)->Option MpI
 |.mp k v,some (kt,et)=>some ⟨kt,et,bif Dg k then none else(Bv k).head?,bif Dg k then some (Bv k)else none,true,some (zT v)⟩
 |_,_=>none
def YF(t:Ty)(x:t.T):(AW t x).length=t.w:=by unfold AW;rw[List.length_map,Ay]
def Kh:∀(t:Ty),I4 t=true->(Bv t).length=t.w
 |.int _,_=>rfl
 |.bool,_=>rfl
 |.str,_=>rfl
 |.unit,_=>rfl
 |.pair a b,h=>by
  simp only[I4,bAE]at h;simp[Bv,Ty.w,Kh a h.1,Kh b h.2]
 |.sl _,h=>by cases h
 |.ptr _,h=>by cases h
 |.clo _ _,h=>by cases h
 |.osl _,h=>by cases h
 |.mp _ _,h=>by cases h
def M7:∀(t:Ty),∀k∈Bv t,k≠9
 |.int _,k,h=>by simp[Bv]at h;omega
 |.bool,k,h=>by simp[Bv]at h;omega
 |.str,k,h=>by simp[Bv]at h;omega
 |.unit,k,h=>by cases h
 |.pair a b,k,h=>by
  simp only[Bv,List.mem_append]at h;exact h.elim (M7 a k) (M7 b k)
 |.sl _,k,h=>by cases h
 |.ptr _,k,h=>by cases h
 |.clo _ _,k,h=>by cases h
 |.osl _,k,h=>by cases h
 |.mp _ _,k,h=>by cases h
def map_v{t:TypeId}{k v:Ty}{q:Option (TypeId×TypeId)}(J:I4 k=true)(W:I4 v=true)(h:mpI P t=mpW (.mp k v) q)(Z:q≠none):∃kt et,Wq P t=some (kt,et)/\Pn P et=some (DE v v.dflt)/\(∀x:k.T,Zd P kt (DE k x)=true)/\∀x y:k.T,BH P kt (DE k x) (DE k y)=true:=by
 cases q with
 |none=>exact absurd rfl Z
 |some q=>
 obtain⟨kt,et⟩:=q;unfold mpI at h;split at h
 case h_2=>cases h
 rename_i k' U hm;have h:(MpI.mk k' U (knd P k') (bif(knd P k').isSome then none else Nh P k') (ckS P k') (Pn P U))=⟨kt,et,bif Dg k then none else(Bv k).head?,bif Dg k then some (Bv k)else none,true,some (zT v)⟩:=Option.some.inj h;simp only[MpI.mk.injEq]at h;obtain⟨rfl,rfl,F,A,E,O⟩:=h;have ez:zT v=DE v v.dflt:=by cases v<;>first|rfl|(cases W;done)
 rw[ez]at O;refine⟨_,_,hm,O,?_,?_⟩
 .intro x
  unfold ckS at E;unfold Zd;cases B:Dg k with
  |false=>
   rw[B]at F;have:∃n,knd P k'=some n:=by cases k<;>first|exact⟨_,F⟩|(cases B;done)|(cases J;done)
   obtain⟨n,hn⟩:=this;rw[hn]
  |true=>
   rw[B]at F A;rw[F]at A E⊢;simp only[cond_true]at A E⊢;have A:Nh P k'=some (Bv k):=A;rw[A]at E;have e:DE k x=.agg (AW k x).toArray:=by unfold DE;rw[B];rfl
   rw[e];split at E
   case h_2=>cases E
   rename_i fs ks Y e2;cases e2;rw[Y];rw[Kh k J]at E;show(fs.toList.all λf=>(knd P f.type).isSome&&decide (f.offset<(AW k x).toArray.size))=true
   rw[List.size_toArray,YF];exact E
 .intro x y
  refine pair_v J ?_;cases B:Dg k with
  |false=>
   rw[B]at F;show ∃n,Bv k=[n]/\knd P k'=some n;cases k<;>first|exact⟨_,rfl,F⟩|(cases B;done)|(cases J;done)
  |true=>
   rw[B]at F A;rw[F]at A;have A:Nh P k'=some (Bv k):=A;refine⟨A,λe=>M7 k 9 (by rw[e];exact List.mem_singleton.2 rfl) rfl⟩
def Nn{r:List Ab}:∀(t:Ty) (x:t.T),I4 t=true->(As t 0 x).map (Cl.v r)=(AW t x).map V.c
 |.int _,_,_=>rfl
 |.bool,_,_=>rfl
 |.str,_,_=>rfl
 |.unit,_,_=>rfl
 |.pair a b,x,h=>by
  simp only[I4,bAE]at h;have e:AW (.pair a b) x=AW a x.1++AW b x.2:=by simp[AW,tyV]
  rw[e,List.map_append,<-Nn (r:=r) a x.1 h.1,<-Nn (r:=r) b x.2 h.2,<-List.map_append];rfl
 |.sl _,_,h=>by cases h
 |.ptr _,_,h=>by cases h
 |.clo _ _,_,h=>by cases h
 |.osl _,_,h=>by cases h
 |.mp _ _,_,h=>by cases h
def KE:∀(t:Ty) (x:t.T),I4 t=true->(AW t x).all (·.oneCell')=true
 |.int _,_,_=>rfl
 |.bool,_,_=>rfl
 |.str,_,_=>rfl
 |.unit,_,_=>rfl
 |.pair a b,x,h=>by
  simp only[I4,bAE]at h;have e:AW (.pair a b) x=AW a x.1++AW b x.2:=by simp[AW,tyV]
  rw[e,List.all_append,KE a x.1 h.1,KE b x.2 h.2];rfl
 |.sl _,_,h=>by cases h
 |.ptr _,_,h=>by cases h
 |.clo _ _,_,h=>by cases h
 |.osl _,_,h=>by cases h
 |.mp _ _,_,h=>by cases h
def slT(t:Ty)(x:t.T):Sl:=bif Dg t then .agg (As t 0 x)else .one (.c t 0 x)
def slT_v{r:List Ab}:∀(t:Ty) (x:t.T),I4 t=true->Ado (DE t x)=(slT t x).v r/\WB (DE t x)=true
 |.int _,_,_=>⟨rfl,rfl⟩
 |.bool,_,_=>⟨rfl,rfl⟩
 |.str,_,_=>⟨rfl,rfl⟩
 |.unit,_,_=>⟨rfl,rfl⟩
 |.pair a b,x,h=>by
  refine⟨?_,?_⟩
  .show Ai ((AW (.pair a b) x).toArray.toList.map V.c)=Ai ((As (.pair a b) 0 x).map (Cl.v r))
   rw[Nn _ _ h]
  .show((AW (.pair a b) x).toArray.toList.all (·.oneCell'))=true
   exact KE _ _ h
 |.sl _,_,h=>by cases h
 |.ptr _,_,h=>by cases h
 |.clo _ _,_,h=>by cases h
 |.osl _,_,h=>by cases h
 |.mp _ _,_,h=>by cases h
theorem X9(l:List Value):Abe (Ai (l.map V.c))=some (.agg l.toArray):=by
 show(if((List.range (l.map V.c).length).all λk=>isCV ((l.map V.c).getD k .dead))=true then some (Value.agg ((List.range (l.map V.c).length).map λk=>Dv ((l.map V.c).getD k .dead)).toArray)else none)=_
 rw[if_pos]
 .congr 3
  apply List.ext_getElem
  .simp
  .intro i A B
   simp at A;simp[Dv,A]
 .rw[aET]
  intro k e;simp at e;simp[isCV,e]
end Go.Ve

