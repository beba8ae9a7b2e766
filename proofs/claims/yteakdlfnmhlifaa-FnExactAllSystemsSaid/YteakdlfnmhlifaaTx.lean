/- What is known of structs, tuples and slices of the small machine. -/
import Derived.Test.YteakdlfnmhlifaaVu
import Derived.Test.YteakdlfnmhlifaaTw
open List(range length_map take_length)
set_option linter.all false
namespace Go.Ve
variable{o:Bool}{l σ:List V}{id k m sz:Nat}{t:Tg}{α:Type}{p:V->Bool}
theorem Pc:cellsV (Ah l)=l:=by
 unfold Ah cellsV;apply List.ext_getElem?
 grind
def one1:V->Bool
 |.many ..=>false
 |.dead=>false
 |v=>!AJ v
theorem YI:((range l.length).all λk=>p (l.getD k .dead))=l.all p:=by
 rw[Bool.eq_iff_iff,aET,aET];constructor
 .intro h x A
  obtain⟨i,hi,rfl⟩:=List.getElem_of_mem A
  simp_all
 grind
theorem KN:((range l.length).any λk=>p (l.getD k .dead))=l.any p:=by
 rw[Bool.eq_iff_iff,List.any_eq_true,List.any_eq_true];constructor
 .grind
 .rintro ⟨x,A,h⟩
  obtain⟨i,hi,rfl⟩:=List.getElem_of_mem A;refine⟨i,List.mem_range.2 hi,?_⟩
  grind
def XA:Bs (Ah l)=l.all one1:=by
 rw[<-YI];rfl
def WN:AJ (Ah l)=l.any AJ:=by
 rw[<-KN];rfl
theorem Bo{f:V->V}(A:f .dead=.dead):(l.map f).getD k .dead=f (l.getD k .dead):=by grind
theorem frz_mk:frz (Ah l)=Ah (l.map frz):=by
 unfold Ah frz;rw[length_map]
 congr 1
 funext k
 rw[Bo rfl]
theorem Acs:B6 σ (Ah l)=Ah (l.map (B6 σ)):=by
 unfold Ah;show V.many .ag l.length (λk=>B6 σ (l.getD k .dead))=_
 rw[length_map]
 congr 1
 funext k
 rw[Bo rfl]
def B3:List V->Nat->List V×List V
 |[],_=>([],[])
 |v::vs,m=>((prom v m).1::(B3 vs (m+(prom v m).2.length)).1,(prom v m).2++(B3 vs (m+(prom v m).2.length)).2)
def Lu:∀(l:List V) (v:V) (m:Nat),B3 (l++[v]) m=((B3 l m).1++[(prom v (m+(B3 l m).2.length)).1],(B3 l m).2++(prom v (m+(B3 l m).2.length)).2)
 |[],v,m=>by simp[B3]
 |w::l,v,m=>by
  simp[B3,Lu l v,List.length_append,Nat.add_assoc,List.append_assoc]
def CV:∀(l:List V) (m:Nat),(B3 l m).1.length=l.length
 |[],_=>rfl
 |v::l,m=>by simp[B3,CV l]
theorem Iz:∀n,n<=l.length->BE (λk=>prom (l.getD k .dead)) n m=B3 (l.take n) m:=by
 intro n
 induction n with
 |zero=>intro _;rfl
 |succ n A=>
  intro B
  have e:l.take (n+1)=l.take n++[l.getD n .dead]:=by
   rw[List.take_add_one]
   grind
  rw[e,Lu];unfold BE
  grind
theorem Xy:prom (Ah l) m=(Ah (B3 l m).1,(B3 l m).2):=by
 unfold Ah;show(V.many .ag l.length (λk=>(BE (λk=>prom (l.getD k .dead)) l.length m).1.getD k .dead),(BE (λk=>prom (l.getD k .dead)) l.length m).2)=_
 rw[Iz l.length (Nat.le_refl _),take_length,CV]
def Dj(l:List V):V:=.many .tu l.length λk=>l.getD k .dead
theorem ZC:prom (Dj l) m=(Dj (B3 l m).1,(B3 l m).2):=by
 unfold Dj;show(V.many .tu l.length (λk=>(BE (λk=>prom (l.getD k .dead)) l.length m).1.getD k .dead),(BE (λk=>prom (l.getD k .dead)) l.length m).2)=_
 rw[Iz l.length (Nat.le_refl _),take_length,CV]
def pkL(t:Tg)(l:List V):V:=.many t l.length λk=>l.getD k .dead
theorem frz_pk:frz (pkL t l)=pkL t (l.map frz):=by
 unfold pkL frz;rw[length_map]
 congr 1
 funext k
 rw[Bo rfl]
def AbL:AJ (pkL t l)=l.any AJ:=by
 rw[<-KN];rfl
theorem Aca:prom (pkL t l) m=(pkL t (B3 l m).1,(B3 l m).2):=by
 unfold pkL;show(V.many t l.length (λk=>(BE (λk=>prom (l.getD k .dead)) l.length m).1.getD k .dead),(BE (λk=>prom (l.getD k .dead)) l.length m).2)=_
 rw[Iz l.length (Nat.le_refl _),take_length,CV]
theorem Acu{g:Nat}:B6 σ (pkL (.cl g) l)=pkL (.cl g) (l.map (B6 σ)):=by
 show(if Tg.cl g=.bx then _ else V.many (.cl g) l.length λk=>B6 σ (l.getD k .dead))=_
 rw[if_neg (by simp)]
 unfold pkL;rw[length_map]
 congr 1
 funext k
 rw[Bo rfl]
theorem ZR:B6 σ (boxL l)=A3 false (l.map (B6 σ)):=by
 show V.nd false false l.length 1 (λi k=>if i=0 then B6 σ (l.getD k .dead)else .dead)=_
 unfold A3;rw[length_map]
 congr 1
 funext i k
 cases i with
 |zero=>
  simp only[if_true,List.getD_cons_zero];rw[Bo rfl]
 |succ i=>rfl
def Lv{v:V}{A:List V}:B3 (v::A) m=((prom v m).1::(B3 A (m+(prom v m).2.length)).1,(prom v m).2++(B3 A (m+(prom v m).2.length)).2):=rfl
theorem AcL:frz (Dj l)=Dj (l.map frz):=by
 unfold Dj frz;rw[length_map]
 congr 1
 funext k
 rw[Bo rfl]
def Zi:AJ (Dj l)=l.any AJ:=by
 rw[<-KN];rfl
theorem Jq(h:k<l.length):l.getD k .dead∈l:=by grind
theorem KO:(∀k,k<l.length->Bw (l.getD k .dead))= ∀v∈l,Bw v:=by
 apply propext;constructor
 .intro h v hv
  obtain⟨i,hi,rfl⟩:=List.getElem_of_mem hv
  grind
 grind
def VA:Bw (Ah l)= ∀v∈l,Bw v:=by
 show(Tg.ag≠.bx/\_)=_;rw[KO];simp
def PY:Bw (Dj l)= ∀v∈l,Bw v:=by
 show(Tg.tu≠.bx/\_)=_;rw[KO];simp
theorem Nh:frz (A3 o l)=A3 false (l.map frz):=by
 unfold A3 frz;rw[length_map]
 congr 1
 funext i k
 cases i with
 |zero=>exact(Bo rfl).symm
 |succ i=>rfl
theorem Ni{g:α->List V}{d:α}{l:List α}:frz (arr o sz g d l)=arr false sz (λa=>(g a).map frz) d l:=by
 unfold arr frz
 congr 1
 funext i k
 rw[Bo rfl]
def XV(v:V)(off len:Nat):V:=match v with
 |.nd _ _ sz _ f=>.nd true false sz len λi k=>frz (f (off+i) k)
 |_=>.dead
def P6{p:List (Nat×Nat)}{off len:Nat}:B6 σ (.rs id p off len)=XV (sub p (σ.getD id .dead)) off len:=rfl
theorem OP{n:Nat}{g:α->List V}{d:α}{l:List α}(h:n=l.length):XV (arr o sz g d l) 0 n=arr false sz (λa=>(g a).map frz) d l:=by
 subst h;rw[<-Ni (o:=o)];show V.nd true false sz l.length (λi k=>frz ((g (l.getD (0+i) d)).getD k .dead))=_
 simp;rfl
def ZS(v:V)(i k:Nat):V:=match v with
 |.nd _ _ sz _ f=>.nd false false (sz-k) 1 λi' j=>if i'=0 then frz (f i (k+j))else .dead
 |_=>.dead
def P7{p:List (Nat×Nat)}{i:Nat}:B6 σ (.rp id p i k)=ZS (sub p (σ.getD id .dead)) i k:=rfl
def LG:ZS (A3 o l) 0 k=A3 false ((l.drop k).map frz):=by
 show V.nd false false (l.length-k) 1 (λi' j=>if i'=0 then frz (([l].getD 0 []).getD (k+j) .dead)else .dead)=_
 unfold A3;rw[length_map,List.length_drop]
 congr 1
 funext i j
 cases i with
 |zero=>
  simp only[List.getD_cons_zero];rw[Bo rfl];simp
 |succ i=>rfl
end Go.Ve


namespace Go.Ve
@[reducible] def V5 {α:Type} (b:Bool) (x y:α):α:=bif b then x else y
@[reducible] def DO {α A:Type} (o:Option α) (f:α->Option A):Option A:=o.bind f
@[reducible] def oif {α:Type} (p:Prop) (dec:Decidable p) (x:Option α):Option α:=@ite _ p dec x none
@[reducible] def nif {α:Type} (a b:Nat) (x y:α):α:=if a=b then x else y
@[reducible] def Ado {α:Type} (xs:List α) (i:Nat) (d:α):α:=xs.getD i d
@[reducible] def setX {α:Type} (xs:List α) (i:Nat) (x:α):List α:=xs.set i x
@[reducible] def IE {α:Type} (xs:List α):Nat:=xs.length
@[reducible] def AaP {α:Type} (n:Nat) (x:α):List α:=List.replicate n x
@[reducible] def Qh {α:Type} (n:Nat) (xs:List α):List α:=xs.drop n
@[reducible] def Ps {α:Type} (n:Nat) (xs:List α):List α:=xs.take n
@[reducible] def Vi {α:Type} (off len:Nat) (xs:List α) (d:α):List α:=(range len).map λi=>xs.getD (off+i) d
@[reducible] def PG (s:ByteArray):Nat:=s.size
@[reducible] def catS (a b:ByteArray):ByteArray:=a++b
@[reducible] def cutS (s:ByteArray) (a b:Nat):ByteArray:=s.extract a b
@[reducible] def YH (a b:Bool):Bool:=a&&b
@[reducible] def eqB (a b:Bool):Bool:=a==b
@[reducible] def notB (b:Bool):Bool:=!b
@[reducible] def eqI (a b:Int):Bool:=decide (a=b)
@[reducible] def neI (a b:Int):Bool:=!decide (a=b)
@[reducible] def ltI (a b:Int):Bool:=decide (a<b)
@[reducible] def leI (a b:Int):Bool:=decide (a<=b)
@[reducible] def eqS (a b:ByteArray):Bool:=decide (a.data.toList=b.data.toList)
@[reducible] def neS (a b:ByteArray):Bool:=!decide (a.data.toList=b.data.toList)
@[reducible] def ltS (a b:ByteArray):Bool:=Op.bytesLess a.data.toList b.data.toList
@[reducible] def minI (x y:Int):Int:=if y<x then y else x
@[reducible] def maxI (x y:Int):Int:=if x<y then y else x
@[reducible] def ofN (n:Nat):Int:=n
@[reducible] def K4 (n:Int):Nat:=n.toNat
@[reducible] def Ac6 {α:Type} (xs ys:List α):List α:=xs++ys
end Go.Ve


namespace Go.Ve
def A1{α:Type _}{b:Bool}{x:Option α}{z:α}(h:(bif b then x else none)=some z):b=true/\x=some z:=by
 cases b with
 |false=>cases h
 |true=>exact⟨rfl,h⟩
inductive Ty where
 |int (k:IntKind)|bool|str|sl (t:Ty)|ptr (t:Ty)|unit|pair (a b:Ty)|clo (g:Nat) (t:Ty)|osl (t:Ty)|mp (k v:Ty)
deriving DecidableEq
@[reducible] def Ty.T:Ty->Type
 |.int _=>Int
 |.bool=>Bool
 |.str=>ByteArray
 |.sl t=>List t.T
 |.ptr t=>t.T
 |.unit=>Unit
 |.pair a b=>a.T×b.T
 |.clo _ t=>t.T
 |.osl t=>Option (List t.T)
 |.mp k v=>List (k.T×v.T)
def Ty.dflt:(t:Ty)->t.T
 |.int _=>(0:Int)
 |.bool=>false
 |.str=>ByteArray.mk #[]
 |.sl _=>[]
 |.ptr t=>t.dflt
 |.unit=>()
 |.pair a b=>(a.dflt,b.dflt)
 |.clo _ t=>t.dflt
 |.osl _=>some []
 |.mp _ _=>[]
def Ty.w:Ty->Nat
 |.unit=>0
 |.pair a b=>a.w+b.w
 |_=>1
def Ty.dep:Ty->Nat
 |.sl t=>t.dep+1
 |.ptr t=>t.dep+1
 |.pair a b=>max a.dep b.dep
 |.clo _ _=>1
 |.osl t=>t.dep+1
 |.mp _ _=>1
 |_=>0
def Ach{α:Type}(own:Bool)(sz:Nat)(f:α->List V)(d:α):Option (List α)->V
 |none=>.dead
 |some xs=>arr own sz f d xs
def Z7{α:Type}{own:Bool}{sz:Nat}{f:α->List V}{d:α}(x:Option (List α)):frz (Ach own sz f d x)=Ach false sz (λa=>(f a).map frz) d x:=by
 cases x with
 |none=>rfl
 |some xs=>simp[Ach,Ni]
def Qb:Ty->Bool
 |.pair _ _=>true
 |.unit=>true
 |_=>false
def valA(ag:Bool)(l:List Value):Value:=bif ag then .agg l.toArray else l.getD 0 undef
def tyV:(t:Ty)->Nat->t.T->List V
 |.int k,_,n=>[.c (.int k n)]
 |.bool,_,b=>[.c (.bool b)]
 |.str,_,s=>[.c (.string s)]
 |.sl t,d,xs=>[arr (decide (0<d)) t.w (tyV t (d-1)) t.dflt xs]
 |.ptr t,d,x=>[A3 (decide (0<d)) (tyV t (d-1) x)]
 |.unit,_,_=>[]
 |.pair a b,d,x=>tyV a d x.1++tyV b d x.2
 |.clo g t,_,x=>[.many (.cl g) t.w λk=>(tyV t 0 x).getD k .dead]
 |.osl t,d,x=>[Ach (decide (0<d)) t.w (tyV t (d-1)) t.dflt x]
 |.mp k v,d,x=>[.mp (decide (0<d)) (x.map λe=>(valA (Qb k) ((tyV k 0 e.1).map Yv),valA (Qb v) ((tyV v 0 e.2).map Yv)))]
def Ax:∀(t:Ty) (d:Nat) (x:t.T),(tyV t d x).length=t.w
 |.int _,_,_=>rfl
 |.bool,_,_=>rfl
 |.str,_,_=>rfl
 |.sl _,_,_=>rfl
 |.ptr _,_,_=>rfl
 |.unit,_,_=>rfl
 |.pair a b,d,x=>by simp[tyV,Ty.w,Ax a,Ax b]
 |.clo _ _,_,_=>rfl
 |.osl _,_,_=>rfl
 |.mp _ _,_,_=>rfl
theorem C3:∀(t:Ty) (d A:Nat) (x:t.T),min d t.dep=min A t.dep->tyV t d x=tyV t A x
 |.int _,_,_,_,_=>rfl
 |.bool,_,_,_,_=>rfl
 |.str,_,_,_,_=>rfl
 |.sl t,d,A,xs,h=>by
  simp only[Ty.dep]at h
  have B:decide (0<d)=decide (0<A):=by
   rw[Bool.eq_iff_iff];simp;omega
  have F:tyV t (d-1)=tyV t (A-1):=funext λx=>C3 t _ _ x (by omega)
  simp only[tyV,B,F]
 |.ptr t,d,A,x,h=>by
  simp only[Ty.dep]at h
  have B:decide (0<d)=decide (0<A):=by
   rw[Bool.eq_iff_iff];simp;omega
  simp only[tyV,B,C3 t (d-1) (A-1) x (by omega)]
 |.unit,_,_,_,_=>rfl
 |.pair a b,d,A,x,h=>by
  simp only[Ty.dep]at h;simp only[tyV,C3 a d A x.1 (by omega),C3 b d A x.2 (by omega)]
 |.clo _ _,_,_,_,_=>rfl
 |.mp k v,d,A,x,h=>by
  simp only[Ty.dep]at h
  have B:decide (0<d)=decide (0<A):=by
   rw[Bool.eq_iff_iff];simp;omega
  simp only[tyV,B]
 |.osl t,d,A,x,h=>by
  simp only[Ty.dep]at h
  have B:decide (0<d)=decide (0<A):=by
   rw[Bool.eq_iff_iff];simp;omega
  have F:tyV t (d-1)=tyV t (A-1):=funext λx=>C3 t _ _ x (by omega)
  simp only[tyV,B,F]
theorem Ba:∀(t:Ty) (d:Nat) (x:t.T),(tyV t d x).map frz=tyV t 0 x
 |.int _,_,_=>rfl
 |.bool,_,_=>rfl
 |.str,_,_=>rfl
 |.sl t,d,xs=>by
  have e:(λa=>(tyV t (d-1) a).map frz)=tyV t 0:=funext λx=>Ba t _ x
  simp[tyV,Ni,e]
 |.ptr t,d,x=>by simp[tyV,Nh,Ba t]
 |.unit,_,_=>rfl
 |.pair a b,d,x=>by simp[tyV,Ba a,Ba b]
 |.mp _ _,_,_=>rfl
 |.osl t,d,x=>by
  have e:(λa=>(tyV t (d-1) a).map frz)=tyV t 0:=funext λx=>Ba t _ x
  simp[tyV,Z7,e]
 |.clo g t,_,x=>by
  have e:(λk=>frz ((tyV t 0 x).getD k .dead))=λk=>(tyV t 0 x).getD k .dead:=by
   funext k
   have h:=Ba t 0 x
   conv=>rhs;rw[<-h]
   simp[List.getElem?_map];cases (tyV t 0 x)[k]? <;>rfl
  show [V.many (.cl g) t.w λk=>frz ((tyV t 0 x).getD k .dead)]=[V.many (.cl g) t.w λk=>(tyV t 0 x).getD k .dead]
  rw[e]
def OG{α:Type}(l:List α):List (Option α):=l.map some
def unO{α:Type}(l:List (Option (List α))):List (List α):=l.map λx=>match x with
 |some y=>y
 |none=>[]
def isO{α:Type}:Option (List α)->Bool
 |some _=>true
 |none=>false
def getO{α:Type}:Option (List α)->List α
 |some xs=>xs
 |none=>[]
abbrev AI:=List (Nat×Nat)
inductive Cl where
 |dead
 |nil
 |nilp
 |nilf
 |nilm
 |raw (v:Value) (h:v.oneCell'=true)
 |c (t:Ty) (d:Nat) (x:t.T)
 |rf (id:Nat) (p:AI)
 |rs (id:Nat) (p:AI) (off len:Nat)
 |rp (id:Nat) (p:AI) (i k:Nat)
 |rm (id:Nat) (p:AI)
inductive Aa where
 |dead
 |obj (ro:Bool) (l:List Cl)
 |arr (ro:Bool) (t:Ty) (d:Nat) (xs:List t.T)
 |opt (ro:Bool) (t:Ty) (d:Nat) (x:Option (List t.T))
 |mp (ro:Bool) (k v:Ty) (x:List (k.T×v.T))
def Ar:(t:Ty)->Nat->t.T->List Cl
 |.unit,_,_=>[]
 |.pair a b,d,x=>Ar a d x.1++Ar b d x.2
 |.int k,d,x=>[.c (.int k) d x]
 |.bool,d,x=>[.c .bool d x]
 |.str,d,x=>[.c .str d x]
 |.sl t,d,x=>[.c (.sl t) d x]
 |.ptr t,d,x=>[.c (.ptr t) d x]
 |.clo g t,d,x=>[.c (.clo g t) d x]
 |.osl t,d,x=>[.c (.osl t) d x]
 |.mp k v,d,x=>[.c (.mp k v) d x]
def mpV(own:Bool)(k v:Ty)(x:List (k.T×v.T)):V:=.mp own (x.map λe=>(valA (Qb k) ((tyV k 0 e.1).map Yv),valA (Qb v) ((tyV v 0 e.2).map Yv)))
def cV:(t:Ty)->Nat->t.T->V
 |.int k,_,n=>.c (.int k n)
 |.bool,_,b=>.c (.bool b)
 |.str,_,s=>.c (.string s)
 |.sl t,d,xs=>arr (decide (0<d)) t.w (tyV t (d-1)) t.dflt xs
 |.ptr t,d,x=>A3 (decide (0<d)) (tyV t (d-1) x)
 |.clo g t,_,x=>.many (.cl g) t.w λk=>(tyV t 0 x).getD k .dead
 |.osl t,d,x=>Ach (decide (0<d)) t.w (tyV t (d-1)) t.dflt x
 |.mp k v,d,x=>mpV (decide (0<d)) k v x
 |.unit,_,_=>.dead
 |.pair _ _,_,_=>.dead
def Cl.v0:Cl->V
 |.dead=>.dead
 |.nil=>.c (.slice none 0 0)
 |.nilp=>.c (.pointer none)
 |.nilf=>.c .nilFunc
 |.nilm=>.c (.map none)
 |.raw v _=>.c v
 |.c t d x=>cV t d x
 |_=>.dead
def Aa.v:Aa->V
 |.dead=>.dead
 |.obj _ l=>A3 true (l.map Cl.v0)
 |.arr _ t d xs=>Go.Ve.arr true t.w (tyV t d) t.dflt xs
 |.opt _ t d x=>Ach true t.w (tyV t d) t.dflt x
 |.mp _ k v x=>mpV true k v x
def Br:∀(t:Ty) (d:Nat) (x:t.T),(Ar t d x).map Cl.v0=tyV t d x
 |.int _,_,_=>rfl
 |.bool,_,_=>rfl
 |.str,_,_=>rfl
 |.sl _,_,_=>rfl
 |.ptr _,_,_=>rfl
 |.clo _ _,_,_=>rfl
 |.mp _ _,_,_=>rfl
 |.osl _,_,_=>rfl
 |.unit,_,_=>rfl
 |.pair a b,d,x=>by simp[Ar,tyV,Br a,Br b]
def Cl.node(ro:Bool):Cl->Aa
 |.c (.sl t) (d+1) xs=>.arr ro t d xs
 |.c (.ptr t) (d+1) x=>.obj ro (Ar t d x)
 |.c (.osl t) (d+1) x=>.opt ro t d x
 |.c (.mp k v) (_+1) x=>.mp ro k v x
 |_=>.dead
def Aa.cells:Aa->Nat->List Cl
 |.obj _ l,0=>l
 |.obj _ _,_+1=>[]
 |.arr _ t d xs,i=>Ar t d (Ado xs i t.dflt)
 |.opt _ _ _ _,_=>[]
 |.mp _ _ _ _,_=>[]
 |.dead,_=>[]
def Aa.ro:Aa->Bool
 |.obj ro _=>ro
 |.arr ro _ _ _=>ro
 |.opt ro _ _ _=>ro
 |.mp ro _ _ _=>ro
 |.dead=>true
def Aa.at':Aa->AI->Aa
 |r,[]=>r
 |r,(i,k)::p=>(((r.cells i).getD k .dead).node r.ro).at' p
def Aa.len:Aa->Nat
 |.arr _ _ _ xs=>IE xs
 |.opt _ _ _ (some xs)=>IE xs
 |.opt _ _ _ none=>0
 |.mp _ _ _ _=>0
 |.obj _ _=>1
 |.dead=>0
def Ac(r:List Aa)(id:Nat)(p:AI):Aa:=(r.getD id .dead).at' p
def Cl.v(r:List Aa):Cl->V
 |.dead=>.dead
 |.nil=>.c (.slice none 0 0)
 |.nilp=>.c (.pointer none)
 |.nilf=>.c .nilFunc
 |.nilm=>.c (.map none)
 |.raw v _=>.c v
 |.c t d x=>cV t d x
 |.rf id p=>.rs id p 0 (Ac r id p).len
 |.rs id p off len=>.rs id p off len
 |.rp id p i k=>.rp id p i k
 |.rm id p=>.rm id p
inductive Sl where
 |one (c:Cl)
 |new (l:List Cl)
 |agg (l:List Cl)
 |tup (l:List (Bool×List Cl))
 |pk (t:Tg) (l:List Cl)
def Sl.v(r:List Aa):Sl->V
 |.one c=>c.v r
 |.new l=>A3 true (l.map Cl.v0)
 |.agg l=>Ah (l.map (Cl.v r))
 |.tup l=>Dj (l.map λp=>if p.1 then Ah (p.2.map (Cl.v r))else(p.2.map (Cl.v r)).getD 0 .dead)
 |.pk t l=>pkL t (l.map (Cl.v r))
structure St where
 t:Nat->Sl
 r:List Aa
def St.den(s:St):Ms:=⟨λi=>(s.t i).v s.r,s.r.map Aa.v⟩
theorem AaX{ro:Bool}{c:Cl}(h:(c.node ro)≠.dead):c.v0=(c.node ro).v:=by
 unfold Cl.node at h⊢;split at h<;>try grind
 .rfl
 .simp[Cl.v0,cV,Aa.v,Br]
 all_goals rfl
theorem Aw{α:Type}{f:α->V}{a:α}(A:f a=.dead)(l:List α)(k:Nat):(l.map f).getD k .dead=f (l.getD k a):=by grind
def Aa.live:Aa->Bool
 |.dead=>false
 |.opt _ _ _ _=>false
 |.mp _ _ _ _=>false
 |_=>true
def XT{r:Aa}(h:r.live=true):r≠.dead:=by rintro rfl;cases h
theorem Qj(r:Aa)(hd:r.live=true):∃s sz n f,r.v=.nd s true sz n f/\(∀i k,f i k=((r.cells i).getD k .dead).v0)/\n=r.len/\(s=false->n=1)/\
  (∀ro t d xs,r=.arr ro t d xs->s=true/\sz=t.w)/\(∀ro l,r=.obj ro l->s=false/\sz=l.length):=by
 cases r with
 |dead=>cases hd
 |opt=>cases hd
 |mp=>cases hd
 |obj ro l=>
  refine⟨false,_,_,_,rfl,?_,rfl,λ_=>rfl,λro t d xs h=>by grind,λro l h=>by grind⟩
  intro i k;cases i with
  |zero=>
   exact Aw rfl l k
  |succ i=>rfl
 |arr ro t d xs=>
  refine⟨true,_,_,_,rfl,?_,rfl,(λh=>by cases h),λro t d xs h=>by grind,λro l h=>by cases h⟩
  intro i k;rw[<-Br];exact Aw rfl _ k
def Dt:∀p,Aa.at' .dead p=.dead
 |[]=>rfl
 |(i,k)::p=>by
  exact Dt p
theorem AaK:∀(p:AI) (r:Aa),r.at' p≠.dead->sub p r.v=(r.at' p).v
 |[],r,_=>rfl
 |(i,k)::p,r,h=>by
  have B:r.live=true:=by
   cases r with
   |dead=>exact absurd (Dt _) h
   |opt ro t d x=>exact absurd (Dt p) h
   |mp ro k v x=>exact absurd (Dt p) h
   |_=>rfl
  obtain⟨s,sz,n,f,hv,H,_⟩:=Qj r B;rw[hv];show sub p (f i k)=_;have A:(((r.cells i).getD k .dead).node r.ro).at' p≠.dead:=h;have F:((r.cells i).getD k .dead).node r.ro≠.dead:=by intro e;rw[e]at A;exact A (Dt p)
  rw[H,AaX F,AaK p _ A];rfl
def Abq:∀(p q:AI) (r:Aa),r.at' (p++q)=(r.at' p).at' q
 |[],_,_=>rfl
 |(i,k)::p,q,r=>Abq p q _
def Ai(l:List Aa)(id:Nat):(l.map Aa.v).getD id .dead=(l.getD id .dead).v:=Aw rfl l id
def AV{r:List Aa}{id:Nat}{p:AI}(h:Ac r id p≠.dead):sub p ((r.map Aa.v).getD id .dead)=(Ac r id p).v:=by
 rw[Ai];exact AaK p _ h
end Go.Ve


namespace Go.Ve
open Go
def Ut:Ty->List Nat
 |.int _=>[0]
 |.bool=>[1]
 |.str=>[2]
 |.pair a b=>Ut a++Ut b
 |_=>[]
def cellsT(t:Ty)(x:t.T):List Value:=(tyV t 0 x).map Yv
def valT(t:Ty)(x:t.T):Value:=valA (Qb t) (cellsT t x)
structure MpI where
 kt:TypeId
 et:TypeId
 kn:Option Nat
 eq:Option (List Nat)
 ck:Bool
 z:Option Value
def ckS(P:Program)(kt:TypeId):Bool:=match knd P kt with
 |some _=>true
 |none=>match P.underlying kt,Wh P kt with
  |some (.struct fs),some ks=>fs.toList.all λf=>(knd P f.type).isSome&&decide (f.offset<ks.length)
  |_,_=>false
def mpI(P:Program)(t:TypeId):Option MpI:=match mapI P t with
 |some (k,e)=>some ⟨k,e,knd P k,bif(knd P k).isSome then none else Wh P k,ckS P k,zeroI P e⟩
 |none=>none
def zT:Ty->Value
 |.mp _ _=>.map none
 |v=>valT v v.dflt
def mpW:Ty->Option (TypeId×TypeId)->Option MpI
 |.mp k v,some (kt,et)=>some ⟨kt,et,bif Qb k then none else(Ut k).head?,bif Qb k then some (Ut k)else none,true,some (zT v)⟩
 |_,_=>none
end Go.Ve

