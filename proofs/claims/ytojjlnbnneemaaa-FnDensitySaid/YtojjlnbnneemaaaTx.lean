/- What is known of structs, tuples and slices of the small machine. -/
import Derived.Test.YtojjlnbnneemaaaVu
import Derived.Test.YtojjlnbnneemaaaTw
open List(range length_map take_length)
set_option linter.all false
namespace Go.Ve
variable{o:Bool}{l σ:List V}{id k m sz:Nat}{t:Tg}{α:Type}{p:V->Bool}
theorem Oi:cellsV (Am l)=l:=by
 unfold Am cellsV;apply List.ext_getElem?
 grind
def one1:V->Bool
 |.many ..=>false
 |.dead=>false
 |v=>!AN v
theorem XL:((range l.length).all λk=>p (l.getD k .dead))=l.all p:=by
 rw[Bool.eq_iff_iff,aET,aET];constructor
 .intro h x u
  obtain⟨i,A,rfl⟩:=List.getElem_of_mem u
  simp_all
 grind
theorem J8:((range l.length).any λk=>p (l.getD k .dead))=l.any p:=by
 rw[Bool.eq_iff_iff,List.any_eq_true,List.any_eq_true];constructor
 .grind
 .rintro ⟨x,u,h⟩
  obtain⟨i,A,rfl⟩:=List.getElem_of_mem u;refine⟨i,List.mem_range.2 A,?_⟩
  grind
def Wz:Bv (Am l)=l.all one1:=by
 rw[<-XL];rfl
def VN:AN (Am l)=l.any AN:=by
 rw[<-J8];rfl
theorem Br{f:V->V}(u:f .dead=.dead):(l.map f).getD k .dead=f (l.getD k .dead):=by grind
theorem frz_mk:frz (Am l)=Am (l.map frz):=by
 unfold Am frz;rw[length_map]
 congr 1
 funext k
 rw[Br rfl]
theorem Abu:Ce σ (Am l)=Am (l.map (Ce σ)):=by
 unfold Am;show V.many .ag l.length (λk=>Ce σ (l.getD k .dead))=_
 rw[length_map]
 congr 1
 funext k
 rw[Br rfl]
def Cc:List V->Nat->List V×List V
 |[],_=>([],[])
 |v::vs,m=>((prom v m).1::(Cc vs (m+(prom v m).2.length)).1,(prom v m).2++(Cc vs (m+(prom v m).2.length)).2)
def KP:∀(l:List V) (v:V) (m:Nat),Cc (l++[v]) m=((Cc l m).1++[(prom v (m+(Cc l m).2.length)).1],(Cc l m).2++(prom v (m+(Cc l m).2.length)).2)
 |[],v,m=>by simp[Cc]
 |w::l,v,m=>by
  simp[Cc,KP l v,List.length_append,Nat.add_assoc,List.append_assoc]
def C2:∀(l:List V) (m:Nat),(Cc l m).1.length=l.length
 |[],_=>rfl
 |v::l,m=>by simp[Cc,C2 l]
theorem Ih:∀n,n<=l.length->BP (λk=>prom (l.getD k .dead)) n m=Cc (l.take n) m:=by
 intro n
 induction n with
 |zero=>intro _;rfl
 |succ n u=>
  intro A
  have e:l.take (n+1)=l.take n++[l.getD n .dead]:=by
   rw[List.take_add_one]
   grind
  rw[e,KP];unfold BP
  grind
theorem Wx:prom (Am l) m=(Am (Cc l m).1,(Cc l m).2):=by
 unfold Am;show(V.many .ag l.length (λk=>(BP (λk=>prom (l.getD k .dead)) l.length m).1.getD k .dead),(BP (λk=>prom (l.getD k .dead)) l.length m).2)=_
 rw[Ih l.length (Nat.le_refl _),take_length,C2]
def DC(l:List V):V:=.many .tu l.length λk=>l.getD k .dead
theorem YH:prom (DC l) m=(DC (Cc l m).1,(Cc l m).2):=by
 unfold DC;show(V.many .tu l.length (λk=>(BP (λk=>prom (l.getD k .dead)) l.length m).1.getD k .dead),(BP (λk=>prom (l.getD k .dead)) l.length m).2)=_
 rw[Ih l.length (Nat.le_refl _),take_length,C2]
def pkL(t:Tg)(l:List V):V:=.many t l.length λk=>l.getD k .dead
theorem frz_pk:frz (pkL t l)=pkL t (l.map frz):=by
 unfold pkL frz;rw[length_map]
 congr 1
 funext k
 rw[Br rfl]
def AaR:AN (pkL t l)=l.any AN:=by
 rw[<-J8];rfl
theorem Abd:prom (pkL t l) m=(pkL t (Cc l m).1,(Cc l m).2):=by
 unfold pkL;show(V.many t l.length (λk=>(BP (λk=>prom (l.getD k .dead)) l.length m).1.getD k .dead),(BP (λk=>prom (l.getD k .dead)) l.length m).2)=_
 rw[Ih l.length (Nat.le_refl _),take_length,C2]
theorem Abv{g:Nat}:Ce σ (pkL (.cl g) l)=pkL (.cl g) (l.map (Ce σ)):=by
 show(if Tg.cl g=.bx then _ else V.many (.cl g) l.length λk=>Ce σ (l.getD k .dead))=_
 rw[if_neg (by simp)]
 unfold pkL;rw[length_map]
 congr 1
 funext k
 rw[Br rfl]
theorem YY:Ce σ (boxL l)=Bp false (l.map (Ce σ)):=by
 show V.nd false false l.length 1 (λi k=>if i=0 then Ce σ (l.getD k .dead)else .dead)=_
 unfold Bp;rw[length_map]
 congr 1
 funext i k
 cases i with
 |zero=>
  simp only[if_true,List.getD_cons_zero];rw[Br rfl]
 |succ i=>rfl
def KQ{v:V}{u:List V}:Cc (v::u) m=((prom v m).1::(Cc u (m+(prom v m).2.length)).1,(prom v m).2++(Cc u (m+(prom v m).2.length)).2):=rfl
theorem AbW:frz (DC l)=DC (l.map frz):=by
 unfold DC frz;rw[length_map]
 congr 1
 funext k
 rw[Br rfl]
def Ys:AN (DC l)=l.any AN:=by
 rw[<-J8];rfl
theorem I4(h:k<l.length):l.getD k .dead∈l:=by grind
theorem J9:(∀k,k<l.length->BH (l.getD k .dead))= ∀v∈l,BH v:=by
 apply propext;constructor
 .intro h v u
  obtain⟨i,A,rfl⟩:=List.getElem_of_mem u
  grind
 grind
def Uy:BH (Am l)= ∀v∈l,BH v:=by
 show(Tg.ag≠.bx/\_)=_;rw[J9];simp
def Pc:BH (DC l)= ∀v∈l,BH v:=by
 show(Tg.tu≠.bx/\_)=_;rw[J9];simp
theorem Mr:frz (Bp o l)=Bp false (l.map frz):=by
 unfold Bp frz;rw[length_map]
 congr 1
 funext i k
 cases i with
 |zero=>exact(Br rfl).symm
 |succ i=>rfl
theorem Pp{g:α->List V}{d:α}{l:List α}:frz (arr o sz g d l)=arr false sz (λa=>(g a).map frz) d l:=by
 unfold arr frz
 congr 1
 funext i k
 rw[Br rfl]
def WY(v:V)(off len:Nat):V:=match v with
 |.nd _ _ sz _ f=>.nd true false sz len λi k=>frz (f (off+i) k)
 |_=>.dead
def Ph{p:List (Nat×Nat)}{off len:Nat}:Ce σ (.rs id p off len)=WY (sub p (σ.getD id .dead)) off len:=rfl
theorem NX{n:Nat}{g:α->List V}{d:α}{l:List α}(h:n=l.length):WY (arr o sz g d l) 0 n=arr false sz (λa=>(g a).map frz) d l:=by
 subst h;rw[<-Pp (o:=o)];show V.nd true false sz l.length (λi k=>frz ((g (l.getD (0+i) d)).getD k .dead))=_
 simp;rfl
def YZ(v:V)(i k:Nat):V:=match v with
 |.nd _ _ sz _ f=>.nd false false (sz-k) 1 λi' j=>if i'=0 then frz (f i (k+j))else .dead
 |_=>.dead
def Pi{p:List (Nat×Nat)}{i:Nat}:Ce σ (.rp id p i k)=YZ (sub p (σ.getD id .dead)) i k:=rfl
def KZ:YZ (Bp o l) 0 k=Bp false ((l.drop k).map frz):=by
 show V.nd false false (l.length-k) 1 (λi' j=>if i'=0 then frz (([l].getD 0 []).getD (k+j) .dead)else .dead)=_
 unfold Bp;rw[length_map,List.length_drop]
 congr 1
 funext i j
 cases i with
 |zero=>
  simp only[List.getD_cons_zero];rw[Br rfl];simp
 |succ i=>rfl
end Go.Ve


namespace Go.Ve
@[reducible] def Pz {α:Type} (b:Bool) (x y:α):α:=bif b then x else y
@[reducible] def IR {α A:Type} (o:Option α) (f:α->Option A):Option A:=o.bind f
@[reducible] def oif {α:Type} (p:Prop) (dec:Decidable p) (x:Option α):Option α:=@ite _ p dec x none
@[reducible] def nif {α:Type} (a b:Nat) (x y:α):α:=if a=b then x else y
@[reducible] def Acv {α:Type} (xs:List α) (i:Nat) (d:α):α:=xs.getD i d
@[reducible] def setX {α:Type} (xs:List α) (i:Nat) (x:α):List α:=xs.set i x
@[reducible] def HL {α:Type} (xs:List α):Nat:=xs.length
@[reducible] def ZK {α:Type} (n:Nat) (x:α):List α:=List.replicate n x
@[reducible] def Pw {α:Type} (n:Nat) (xs:List α):List α:=xs.drop n
@[reducible] def OF {α:Type} (n:Nat) (xs:List α):List α:=xs.take n
@[reducible] def Oq {α:Type} (off len:Nat) (xs:List α) (d:α):List α:=(range len).map λi=>xs.getD (off+i) d
@[reducible] def OV (s:ByteArray):Nat:=s.size
@[reducible] def catS (a b:ByteArray):ByteArray:=a++b
@[reducible] def cutS (s:ByteArray) (a b:Nat):ByteArray:=s.extract a b
@[reducible] def AcA (a b:Bool):Bool:=a&&b
@[reducible] def eqB (a b:Bool):Bool:=a==b
@[reducible] def notB (b:Bool):Bool:=!b
@[reducible] def eqI (a b:Int):Bool:=decide (a=b)
@[reducible] def neI (a b:Int):Bool:=!decide (a=b)
@[reducible] def ltI (a b:Int):Bool:=decide (a<b)
@[reducible] def leI (a b:Int):Bool:=decide (a<=b)
@[reducible] def eqS (a b:ByteArray):Bool:=decide (a.data.toList=b.data.toList)
@[reducible] def neS (a b:ByteArray):Bool:=!decide (a.data.toList=b.data.toList)
@[reducible] def ltS (a b:ByteArray):Bool:=Op.bytesLess a.data.toList b.data.toList
@[reducible] def WO (x y:Int):Int:=if y<x then y else x
@[reducible] def Z1 (x y:Int):Int:=if x<y then y else x
@[reducible] def ofN (n:Nat):Int:=n
@[reducible] def Kk (n:Int):Nat:=n.toNat
@[reducible] def Acc {α:Type} (xs ys:List α):List α:=xs++ys
end Go.Ve


namespace Go.Ve
variable{α:Type}
def Bc{b:Bool}{x:Option α}{z:α}(h:(bif b then x else none)=some z):b=true/\x=some z:=by
 cases b with
 |false=>cases h
 |true=>exact⟨rfl,h⟩
inductive Ty where
 |int (k:IntKind)|bool|str|sl (t:Ty)|ptr (t:Ty)|unit|pair (a b:Ty)|clo (g:Nat) (t:Ty)|osl (t:Ty)|mp (k v:Ty)
deriving DecidableEq
@[reducible] def Ty.T:Ty->Type
 |.int _=>Int
 |.bool=>Bool
 |.str=>ByteArray
 |.sl t=>List t.T
 |.ptr t=>t.T
 |.unit=>Unit
 |.pair a b=>a.T×b.T
 |.clo _ t=>t.T
 |.osl t=>Option (List t.T)
 |.mp k v=>List (k.T×v.T)
def Ty.dflt:(t:Ty)->t.T
 |.int _=>(0:Int)
 |.bool=>false
 |.str=>ByteArray.mk #[]
 |.sl _=>[]
 |.ptr t=>t.dflt
 |.unit=>()
 |.pair a b=>(a.dflt,b.dflt)
 |.clo _ t=>t.dflt
 |.osl _=>some []
 |.mp _ _=>[]
def Ty.w:Ty->Nat
 |.unit=>0
 |.pair a b=>a.w+b.w
 |_=>1
def Ty.dep:Ty->Nat
 |.sl t=>t.dep+1
 |.ptr t=>t.dep+1
 |.pair a b=>max a.dep b.dep
 |.clo _ _=>1
 |.osl t=>t.dep+1
 |.mp _ _=>1
 |_=>0
def Abk{α:Type}(own:Bool)(sz:Nat)(f:α->List V)(d:α):Option (List α)->V
 |none=>.dead
 |some xs=>arr own sz f d xs
def Y9{own:Bool}{sz:Nat}{f:α->List V}{d:α}(x:Option (List α)):frz (Abk own sz f d x)=Abk false sz (λa=>(f a).map frz) d x:=by
 cases x with
 |none=>rfl
 |some xs=>simp[Abk,Pp]
def Di:Ty->Bool
 |.pair _ _=>true
 |.unit=>true
 |_=>false
def valA(ag:Bool)(l:List Value):Value:=bif ag then .agg l.toArray else l.getD 0 undef
def tyV:(t:Ty)->Nat->t.T->List V
 |.int k,_,n=>[.c (.int k n)]
 |.bool,_,b=>[.c (.bool b)]
 |.str,_,s=>[.c (.string s)]
 |.sl t,d,xs=>[arr (decide (0<d)) t.w (tyV t (d-1)) t.dflt xs]
 |.ptr t,d,x=>[Bp (decide (0<d)) (tyV t (d-1) x)]
 |.unit,_,_=>[]
 |.pair a b,d,x=>tyV a d x.1++tyV b d x.2
 |.clo g t,_,x=>[.many (.cl g) t.w λk=>(tyV t 0 x).getD k .dead]
 |.osl t,d,x=>[Abk (decide (0<d)) t.w (tyV t (d-1)) t.dflt x]
 |.mp k v,d,x=>[.mp (decide (0<d)) (x.map λe=>(valA (Di k) ((tyV k 0 e.1).map Du),valA (Di v) ((tyV v 0 e.2).map Du)))]
def AB:∀(t:Ty) (d:Nat) (x:t.T),(tyV t d x).length=t.w
 |.int _,_,_=>rfl
 |.bool,_,_=>rfl
 |.str,_,_=>rfl
 |.sl _,_,_=>rfl
 |.ptr _,_,_=>rfl
 |.unit,_,_=>rfl
 |.pair a b,d,x=>by simp[tyV,Ty.w,AB a,AB b]
 |.clo _ _,_,_=>rfl
 |.osl _,_,_=>rfl
 |.mp _ _,_,_=>rfl
theorem Dl:∀(t:Ty) (d u:Nat) (x:t.T),min d t.dep=min u t.dep->tyV t d x=tyV t u x
 |.int _,_,_,_,_=>rfl
 |.bool,_,_,_,_=>rfl
 |.str,_,_,_,_=>rfl
 |.sl t,d,u,xs,h=>by
  simp only[Ty.dep]at h
  have A:decide (0<d)=decide (0<u):=by
   rw[Bool.eq_iff_iff];simp;omega
  have B:tyV t (d-1)=tyV t (u-1):=funext λx=>Dl t _ _ x (by omega)
  simp only[tyV,A,B]
 |.ptr t,d,u,x,h=>by
  simp only[Ty.dep]at h
  have A:decide (0<d)=decide (0<u):=by
   rw[Bool.eq_iff_iff];simp;omega
  simp only[tyV,A,Dl t (d-1) (u-1) x (by omega)]
 |.unit,_,_,_,_=>rfl
 |.pair a b,d,u,x,h=>by
  simp only[Ty.dep]at h;simp only[tyV,Dl a d u x.1 (by omega),Dl b d u x.2 (by omega)]
 |.clo _ _,_,_,_,_=>rfl
 |.mp k v,d,u,x,h=>by
  simp only[Ty.dep]at h
  have A:decide (0<d)=decide (0<u):=by
   rw[Bool.eq_iff_iff];simp;omega
  simp only[tyV,A]
 |.osl t,d,u,x,h=>by
  simp only[Ty.dep]at h
  have A:decide (0<d)=decide (0<u):=by
   rw[Bool.eq_iff_iff];simp;omega
  have B:tyV t (d-1)=tyV t (u-1):=funext λx=>Dl t _ _ x (by omega)
  simp only[tyV,A,B]
theorem Bj:∀(t:Ty) (d:Nat) (x:t.T),(tyV t d x).map frz=tyV t 0 x
 |.int _,_,_=>rfl
 |.bool,_,_=>rfl
 |.str,_,_=>rfl
 |.sl t,d,xs=>by
  have e:(λa=>(tyV t (d-1) a).map frz)=tyV t 0:=funext λx=>Bj t _ x
  simp[tyV,Pp,e]
 |.ptr t,d,x=>by simp[tyV,Mr,Bj t]
 |.unit,_,_=>rfl
 |.pair a b,d,x=>by simp[tyV,Bj a,Bj b]
 |.mp _ _,_,_=>rfl
 |.osl t,d,x=>by
  have e:(λa=>(tyV t (d-1) a).map frz)=tyV t 0:=funext λx=>Bj t _ x
  simp[tyV,Y9,e]
 |.clo g t,_,x=>by
  have e:(λk=>frz ((tyV t 0 x).getD k .dead))=λk=>(tyV t 0 x).getD k .dead:=by
   funext k
   have h:=Bj t 0 x
   conv=>rhs;rw[<-h]
   simp[List.getElem?_map];cases (tyV t 0 x)[k]? <;>rfl
  show [V.many (.cl g) t.w λk=>frz ((tyV t 0 x).getD k .dead)]=[V.many (.cl g) t.w λk=>(tyV t 0 x).getD k .dead]
  rw[e]
def NP{α:Type}(l:List α):List (Option α):=l.map some
def unO{α:Type}(l:List (Option (List α))):List (List α):=l.map λx=>match x with
 |some y=>y
 |none=>[]
def isO{α:Type}:Option (List α)->Bool
 |some _=>true
 |none=>false
def getO{α:Type}:Option (List α)->List α
 |some xs=>xs
 |none=>[]
abbrev AX:=List (Nat×Nat)
inductive Cl where
 |dead
 |nil
 |nilp
 |nilf
 |nilm
 |c (t:Ty) (d:Nat) (x:t.T)
 |rf (id:Nat) (p:AX)
 |rs (id:Nat) (p:AX) (off len:Nat)
 |rp (id:Nat) (p:AX) (i k:Nat)
 |rm (id:Nat) (p:AX)
inductive Ae where
 |dead
 |obj (ro:Bool) (l:List Cl)
 |arr (ro:Bool) (t:Ty) (d:Nat) (xs:List t.T)
 |opt (ro:Bool) (t:Ty) (d:Nat) (x:Option (List t.T))
 |mp (ro:Bool) (k v:Ty) (x:List (k.T×v.T))
def AA:(t:Ty)->Nat->t.T->List Cl
 |.unit,_,_=>[]
 |.pair a b,d,x=>AA a d x.1++AA b d x.2
 |.int k,d,x=>[.c (.int k) d x]
 |.bool,d,x=>[.c .bool d x]
 |.str,d,x=>[.c .str d x]
 |.sl t,d,x=>[.c (.sl t) d x]
 |.ptr t,d,x=>[.c (.ptr t) d x]
 |.clo g t,d,x=>[.c (.clo g t) d x]
 |.osl t,d,x=>[.c (.osl t) d x]
 |.mp k v,d,x=>[.c (.mp k v) d x]
def mpV(own:Bool)(k v:Ty)(x:List (k.T×v.T)):V:=.mp own (x.map λe=>(valA (Di k) ((tyV k 0 e.1).map Du),valA (Di v) ((tyV v 0 e.2).map Du)))
def cV:(t:Ty)->Nat->t.T->V
 |.int k,_,n=>.c (.int k n)
 |.bool,_,b=>.c (.bool b)
 |.str,_,s=>.c (.string s)
 |.sl t,d,xs=>arr (decide (0<d)) t.w (tyV t (d-1)) t.dflt xs
 |.ptr t,d,x=>Bp (decide (0<d)) (tyV t (d-1) x)
 |.clo g t,_,x=>.many (.cl g) t.w λk=>(tyV t 0 x).getD k .dead
 |.osl t,d,x=>Abk (decide (0<d)) t.w (tyV t (d-1)) t.dflt x
 |.mp k v,d,x=>mpV (decide (0<d)) k v x
 |.unit,_,_=>.dead
 |.pair _ _,_,_=>.dead
def Cl.v0:Cl->V
 |.dead=>.dead
 |.nil=>.c (.slice none 0 0)
 |.nilp=>.c (.pointer none)
 |.nilf=>.c .nilFunc
 |.nilm=>.c (.map none)
 |.c t d x=>cV t d x
 |_=>.dead
def Ae.v:Ae->V
 |.dead=>.dead
 |.obj _ l=>Bp true (l.map Cl.v0)
 |.arr _ t d xs=>Go.Ve.arr true t.w (tyV t d) t.dflt xs
 |.opt _ t d x=>Abk true t.w (tyV t d) t.dflt x
 |.mp _ k v x=>mpV true k v x
def BM:∀(t:Ty) (d:Nat) (x:t.T),(AA t d x).map Cl.v0=tyV t d x
 |.int _,_,_=>rfl
 |.bool,_,_=>rfl
 |.str,_,_=>rfl
 |.sl _,_,_=>rfl
 |.ptr _,_,_=>rfl
 |.clo _ _,_,_=>rfl
 |.mp _ _,_,_=>rfl
 |.osl _,_,_=>rfl
 |.unit,_,_=>rfl
 |.pair a b,d,x=>by simp[AA,tyV,BM a,BM b]
def Cl.node(ro:Bool):Cl->Ae
 |.c (.sl t) (d+1) xs=>.arr ro t d xs
 |.c (.ptr t) (d+1) x=>.obj ro (AA t d x)
 |.c (.osl t) (d+1) x=>.opt ro t d x
 |.c (.mp k v) (_+1) x=>.mp ro k v x
 |_=>.dead
def Ae.cells:Ae->Nat->List Cl
 |.obj _ l,0=>l
 |.obj _ _,_+1=>[]
 |.arr _ t d xs,i=>AA t d (Acv xs i t.dflt)
 |.opt _ _ _ _,_=>[]
 |.mp _ _ _ _,_=>[]
 |.dead,_=>[]
def Ae.ro:Ae->Bool
 |.obj ro _=>ro
 |.arr ro _ _ _=>ro
 |.opt ro _ _ _=>ro
 |.mp ro _ _ _=>ro
 |.dead=>true
def Ae.at':Ae->AX->Ae
 |r,[]=>r
 |r,(i,k)::p=>(((r.cells i).getD k .dead).node r.ro).at' p
def Ae.len:Ae->Nat
 |.arr _ _ _ xs=>HL xs
 |.opt _ _ _ (some xs)=>HL xs
 |.opt _ _ _ none=>0
 |.mp _ _ _ _=>0
 |.obj _ _=>1
 |.dead=>0
def Ag(r:List Ae)(id:Nat)(p:AX):Ae:=(r.getD id .dead).at' p
def Cl.v(r:List Ae):Cl->V
 |.dead=>.dead
 |.nil=>.c (.slice none 0 0)
 |.nilp=>.c (.pointer none)
 |.nilf=>.c .nilFunc
 |.nilm=>.c (.map none)
 |.c t d x=>cV t d x
 |.rf id p=>.rs id p 0 (Ag r id p).len
 |.rs id p off len=>.rs id p off len
 |.rp id p i k=>.rp id p i k
 |.rm id p=>.rm id p
inductive Sl where
 |one (c:Cl)
 |new (l:List Cl)
 |agg (l:List Cl)
 |tup (l:List (Bool×List Cl))
 |pk (t:Tg) (l:List Cl)
def Sl.v(r:List Ae):Sl->V
 |.one c=>c.v r
 |.new l=>Bp true (l.map Cl.v0)
 |.agg l=>Am (l.map (Cl.v r))
 |.tup l=>DC (l.map λp=>if p.1 then Am (p.2.map (Cl.v r))else(p.2.map (Cl.v r)).getD 0 .dead)
 |.pk t l=>pkL t (l.map (Cl.v r))
structure St where
 t:Nat->Sl
 r:List Ae
def St.den(s:St):Ms:=⟨λi=>(s.t i).v s.r,s.r.map Ae.v⟩
theorem ZX{ro:Bool}{c:Cl}(h:(c.node ro)≠.dead):c.v0=(c.node ro).v:=by
 unfold Cl.node at h⊢;split at h<;>try grind
 .rfl
 .simp[Cl.v0,cV,Ae.v,BM]
 all_goals rfl
theorem AM{f:α->V}{a:α}(u:f a=.dead)(l:List α)(k:Nat):(l.map f).getD k .dead=f (l.getD k a):=by grind
def Ae.live:Ae->Bool
 |.dead=>false
 |.opt _ _ _ _=>false
 |.mp _ _ _ _=>false
 |_=>true
def WW{r:Ae}(h:r.live=true):r≠.dead:=by rintro rfl;cases h
theorem Px(r:Ae)(hd:r.live=true):∃s sz n f,r.v=.nd s true sz n f/\(∀i k,f i k=((r.cells i).getD k .dead).v0)/\n=r.len/\(s=false->n=1)/\
  (∀ro t d xs,r=.arr ro t d xs->s=true/\sz=t.w)/\(∀ro l,r=.obj ro l->s=false/\sz=l.length):=by
 cases r with
 |dead=>cases hd
 |opt=>cases hd
 |mp=>cases hd
 |obj ro l=>
  refine⟨false,_,_,_,rfl,?_,rfl,λ_=>rfl,λro t d xs h=>by grind,λro l h=>by grind⟩
  intro i k;cases i with
  |zero=>
   exact AM rfl l k
  |succ i=>rfl
 |arr ro t d xs=>
  refine⟨true,_,_,_,rfl,?_,rfl,(λh=>by cases h),λro t d xs h=>by grind,λro l h=>by cases h⟩
  intro i k;rw[<-BM];exact AM rfl _ k
def CQ:∀p,Ae.at' .dead p=.dead
 |[]=>rfl
 |(i,k)::p=>by
  exact CQ p
theorem ZC:∀(p:AX) (r:Ae),r.at' p≠.dead->sub p r.v=(r.at' p).v
 |[],r,_=>rfl
 |(i,k)::p,r,h=>by
  have B:r.live=true:=by
   cases r with
   |dead=>exact absurd (CQ _) h
   |opt ro t d x=>exact absurd (CQ p) h
   |mp ro k v x=>exact absurd (CQ p) h
   |_=>rfl
  obtain⟨s,sz,n,f,A,J,_⟩:=Px r B;rw[A];show sub p (f i k)=_;have u:(((r.cells i).getD k .dead).node r.ro).at' p≠.dead:=h;have E:((r.cells i).getD k .dead).node r.ro≠.dead:=by intro e;rw[e]at u;exact u (CQ p)
  rw[J,ZX E,ZC p _ u];rfl
def Aav:∀(p q:AX) (r:Ae),r.at' (p++q)=(r.at' p).at' q
 |[],_,_=>rfl
 |(i,k)::p,q,r=>Aav p q _
def Ax(l:List Ae)(id:Nat):(l.map Ae.v).getD id .dead=(l.getD id .dead).v:=AM rfl l id
def AV{r:List Ae}{id:Nat}{p:AX}(h:Ag r id p≠.dead):sub p ((r.map Ae.v).getD id .dead)=(Ag r id p).v:=by
 rw[Ax];exact ZC p _ h
end Go.Ve


namespace Go.Ve
open Go
variable{P:Program}
def eqT:(t:Ty)->t.T->t.T->Bool
 |.int _,a,b=>decide ((show Int from a)=b)
 |.bool,a,b=>(show Bool from a)==b
 |.str,a,b=>decide ((show ByteArray from a).data.toList=(show ByteArray from b).data.toList)
 |.pair s t,a,b=>eqT s a.1 b.1&&eqT t a.2 b.2
 |.unit,_,_=>true
 |_,_,_=>false
def IG:Ty->Bool
 |.int _=>true
 |.bool=>true
 |.str=>true
 |.unit=>true
 |.pair a b=>IG a&&IG b
 |_=>false
def By:Ty->List Nat
 |.int _=>[0]
 |.bool=>[1]
 |.str=>[2]
 |.pair a b=>By a++By b
 |_=>[]
def AR(t:Ty)(x:t.T):List Value:=(tyV t 0 x).map Du
def WH:∀{ks u:List Nat}{l m B A:List Value},okL ks l m=true->okL u B A=true->okL (ks++u) (l++B) (m++A)=true
 |[],_,[],[],_,_,_,h=>h
 |k::ks,_,a::l,b::m,_,_,h,h'=>by
  have h:((kOf a==some k)&&(kOf b==some k)&&Cz a b&&okL ks l m)=true:=h;rw[bAE]at h;show((kOf a==some k)&&(kOf b==some k)&&Cz a b&&okL (ks++_) (l++_) (m++_))=true;rw[h.1,WH h.2 h'];rfl
 |[],_,[],_::_,_,_,h,_=>by cases h
 |[],_,_::_,_,_,_,h,_=>by cases h
 |_::_,_,[],_,_,_,h,_=>by cases h
 |_::_,_,_::_,[],_,_,h,_=>by cases h
def PG:∀{ks:List Nat}{l m A u:List Value},okL ks l m=true->Hi (l++A) (m++u)=(Hi l m&&Hi A u)
 |[],[],[],_,_,_=>rfl
 |k::ks,a::l,b::m,A,u,h=>by
  have h:((kOf a==some k)&&(kOf b==some k)&&Cz a b&&okL ks l m)=true:=h;rw[bAE]at h;show(vEq a b&&Hi (l++A) (m++u))=((vEq a b&&Hi l m)&&_);rw[PG h.2,Bool.and_assoc]
 |[],[],_::_,_,_,h=>by cases h
 |[],_::_,_,_,_,h=>by cases h
 |_::_,[],_,_,_,h=>by cases h
 |_::_,_::_,[],_,_,h=>by cases h
def Y2:∀(t:Ty) (a b:t.T),IG t=true->okL (By t) (AR t a) (AR t b)=true/\Hi (AR t a) (AR t b)=eqT t a b
 |.int k,a,b,_=>by
  refine⟨?_,?_⟩
  .simp[AR,tyV,Du,By,okL,kOf,Cz]
  .simp[AR,tyV,Du,Hi,vEq,eqT]
 |.bool,a,b,_=>by
  refine⟨?_,?_⟩
  .simp[AR,tyV,Du,By,okL,kOf,Cz]
  .simp[AR,tyV,Du,Hi,vEq,eqT]
 |.str,a,b,_=>by
  refine⟨?_,?_⟩
  .simp[AR,tyV,Du,By,okL,kOf,Cz]
  .simp[AR,tyV,Du,Hi,vEq,eqT]
 |.unit,_,_,_=>⟨rfl,rfl⟩
 |.pair s t,a,b,h=>by
  simp only[IG,bAE]at h;obtain⟨u,E⟩:=Y2 s a.1 b.1 h.1;obtain⟨B,A⟩:=Y2 t a.2 b.2 h.2;have e:∀x:(Ty.pair s t).T,AR (.pair s t) x=AR s x.1++AR t x.2:=λx=>by simp[AR,tyV]
  rw[e,e];exact⟨WH u B,by rw[PG u,E,A];rfl⟩
 |.sl _,_,_,h=>by cases h
 |.ptr _,_,_,h=>by cases h
 |.clo _ _,_,_,h=>by cases h
 |.osl _,_,_,h=>by cases h
 |.mp _ _,_,_,h=>by cases h
def DB(t:Ty)(x:t.T):Value:=valA (Di t) (AR t x)
theorem kEq_v:∀(t:Ty) (a b:t.T),IG t=true->kEq (DB t a) (DB t b)=eqT t a b:=by
 intro t a b h;have B:=(Y2 t a b h).2;cases t with
 |int k=>
  have A:vEq (Value.int k a) (Value.int k b)=eqT (.int k) a b:=by simpa [AR,tyV,Du,Hi]using B
  exact A
 |bool=>
  have A:vEq (Value.bool a) (Value.bool b)=eqT .bool a b:=by simpa [AR,tyV,Du,Hi]using B
  exact A
 |str=>
  have A:vEq (Value.string a) (Value.string b)=eqT .str a b:=by simpa [AR,tyV,Du,Hi]using B
  exact A
 |unit=>rfl
 |pair u v=>exact B
 |_=>cases h
def BA(k v:Ty)(key:k.T):List (k.T×v.T)->Option v.T
 |[]=>none
 |e::l=>bif eqT k key e.1 then some e.2 else BA k v key l
def Pv(k v:Ty)(xs:List (k.T×v.T)):List (Value×Value):=xs.map λe=>(DB k e.1,DB v e.2)
def Xq{k v:Ty}(u:IG k=true)(key:k.T):∀xs:List (k.T×v.T),HR (DB k key) (Pv k v xs)=(BA k v key xs).map (DB v)
 |[]=>rfl
 |e::xs=>by
  show(bif kEq (DB k key) (DB k e.1)then some (DB v e.2)else HR _ (Pv k v xs))=Option.map _ (bif eqT k key e.1 then some e.2 else BA k v key xs);rw[kEq_v k key e.1 u,Xq u key xs];cases eqT k key e.1<;>rfl
def MT(k v:Ty)(key:k.T)(x:v.T):List (k.T×v.T)->List (k.T×v.T)
 |[]=>[(key,x)]
 |e::l=>bif eqT k key e.1 then(key,x)::l else e::MT k v key x l
def Zy{k v:Ty}(u:IG k=true)(key:k.T)(x:v.T):∀xs:List (k.T×v.T),Zz (DB k key) (DB v x) (Pv k v xs)=Pv k v (MT k v key x xs)
 |[]=>rfl
 |e::xs=>by
  show(bif kEq (DB k key) (DB k e.1)then(DB k key,DB v x)::Pv k v xs else(DB k e.1,DB v e.2)::Zz _ _ (Pv k v xs))=Pv k v (bif eqT k key e.1 then(key,x)::xs else e::MT k v key x xs);rw[kEq_v k key e.1 u,Zy u key x xs];cases eqT k key e.1<;>rfl
theorem pair_v{kt:TypeId}{t:Ty}{a b:t.T}(B:IG t=true)(h:bif Di t then Mw P kt=some (By t)/\By t≠[9]else ∃n,By t=[n]/\knd P kt=some n):BJ P kt (DB t a) (DB t b)=true:=by
 have E:=(Y2 t a b B).1;cases t with
 |int k=>
  obtain⟨n,e,A⟩:=h;cases e;show BJ P kt (Value.int k a) (Value.int k b)=true;simp[BJ,A,kOf,Cz]
 |bool=>
  obtain⟨n,e,A⟩:=h;cases e;show BJ P kt (Value.bool a) (Value.bool b)=true;simp[BJ,A,kOf,Cz]
 |str=>
  obtain⟨n,e,A⟩:=h;cases e;show BJ P kt (Value.string a) (Value.string b)=true;simp[BJ,A,kOf,Cz]
 |unit=>
  show(match Mw P kt with|some ks=>decide (ks≠[9])&&okL ks _ _|none=>false)=true
  rw[h.1];rfl
 |pair u v=>
  show(match Mw P kt with|some ks=>decide (ks≠[9])&&okL ks (AR (.pair u v) a) (AR (.pair u v) b)|none=>false)=true
  rw[h.1];show(decide _&&_)=true;rw[E,dT h.2];rfl
 |_=>cases B
structure MpI where
 kt:TypeId
 et:TypeId
 kn:Option Nat
 eq:Option (List Nat)
 ck:Bool
 z:Option Value
def ckS(P:Program)(kt:TypeId):Bool:=match knd P kt with
 |some _=>true
 |none=>match P.underlying kt,Mw P kt with
  |some (.struct fs),some ks=>fs.toList.all λf=>(knd P f.type).isSome&&decide (f.offset<ks.length)
  |_,_=>false
def mpI(P:Program)(t:TypeId):Option MpI:=match Vf P t with
 |some (k,e)=>some ⟨k,e,knd P k,bif(knd P k).isSome then none else Mw P k,ckS P k,Oy P e⟩
 |none=>none
def zT:Ty->Value
 |.mp _ _=>.map none
 |v=>DB v v.dflt
def mpW:Ty->Option (TypeId×TypeId)->Option MpI
 |.mp k v,some (kt,et)=>some ⟨kt,et,bif Di k then none else(By k).head?,bif Di k then some (By k)else none,true,some (zT v)⟩
 |_,_=>none
def XA(t:Ty)(x:t.T):(AR t x).length=t.w:=by unfold AR;rw[length_map,AB]
def JG:∀(t:Ty),IG t=true->(By t).length=t.w
 |.int _,_=>rfl
 |.bool,_=>rfl
 |.str,_=>rfl
 |.unit,_=>rfl
 |.pair a b,h=>by
  simp only[IG,bAE]at h;simp[By,Ty.w,JG a h.1,JG b h.2]
 |.sl _,h=>by cases h
 |.ptr _,h=>by cases h
 |.clo _ _,h=>by cases h
 |.osl _,h=>by cases h
 |.mp _ _,h=>by cases h
def Mj:∀(t:Ty),∀k∈By t,k≠9
 |.int _,k,h=>by simp[By]at h;omega
 |.bool,k,h=>by simp[By]at h;omega
 |.str,k,h=>by simp[By]at h;omega
 |.unit,k,h=>by cases h
 |.pair a b,k,h=>by
  simp only[By,List.mem_append]at h;exact h.elim (Mj a k) (Mj b k)
 |.sl _,k,h=>by cases h
 |.ptr _,k,h=>by cases h
 |.clo _ _,k,h=>by cases h
 |.osl _,k,h=>by cases h
 |.mp _ _,k,h=>by cases h
def map_v{t:TypeId}{k v:Ty}{q:Option (TypeId×TypeId)}(J:IG k=true)(W:IG v=true)(h:mpI P t=mpW (.mp k v) q)(Z:q≠none):∃kt et,Vf P t=some (kt,et)/\Oy P et=some (DB v v.dflt)/\(∀x:k.T,X5 P kt (DB k x)=true)/\∀x y:k.T,BJ P kt (DB k x) (DB k y)=true:=by
 cases q with
 |none=>exact absurd rfl Z
 |some q=>
 obtain⟨kt,et⟩:=q;unfold mpI at h;split at h
 case h_2=>cases h
 rename_i k' U hm;have h:(MpI.mk k' U (knd P k') (bif(knd P k').isSome then none else Mw P k') (ckS P k') (Oy P U))=⟨kt,et,bif Di k then none else(By k).head?,bif Di k then some (By k)else none,true,some (zT v)⟩:=Option.some.inj h;simp only[MpI.mk.injEq]at h;obtain⟨rfl,rfl,E,u,B,O⟩:=h;have ez:zT v=DB v v.dflt:=by cases v<;>first|rfl|(cases W;done)
 rw[ez]at O;refine⟨_,_,hm,O,?_,?_⟩
 .intro x
  unfold ckS at B;unfold X5;cases A:Di k with
  |false=>
   rw[A]at E;have:∃n,knd P k'=some n:=by cases k<;>first|exact⟨_,E⟩|(cases A;done)|(cases J;done)
   obtain⟨n,hn⟩:=this;rw[hn]
  |true=>
   rw[A]at E u;rw[E]at u B⊢;simp only[cond_true]at u B⊢;have u:Mw P k'=some (By k):=u;rw[u]at B;have e:DB k x=.agg (AR k x).toArray:=by unfold DB;rw[A];rfl
   rw[e];split at B
   case h_2=>cases B
   rename_i fs ks Y e2;cases e2;rw[Y];rw[JG k J]at B;show(fs.toList.all λf=>(knd P f.type).isSome&&decide (f.offset<(AR k x).toArray.size))=true
   rw[List.size_toArray,XA];exact B
 .intro x y
  refine pair_v J ?_;cases A:Di k with
  |false=>
   rw[A]at E;show ∃n,By k=[n]/\knd P k'=some n;cases k<;>first|exact⟨_,rfl,E⟩|(cases A;done)|(cases J;done)
  |true=>
   rw[A]at E u;rw[E]at u;have u:Mw P k'=some (By k):=u;refine⟨u,λe=>Mj k 9 (by rw[e];exact List.mem_singleton.2 rfl) rfl⟩
def ME{r:List Ae}:∀(t:Ty) (x:t.T),IG t=true->(AA t 0 x).map (Cl.v r)=(AR t x).map V.c
 |.int _,_,_=>rfl
 |.bool,_,_=>rfl
 |.str,_,_=>rfl
 |.unit,_,_=>rfl
 |.pair a b,x,h=>by
  simp only[IG,bAE]at h;have e:AR (.pair a b) x=AR a x.1++AR b x.2:=by simp[AR,tyV]
  rw[e,List.map_append,<-ME (r:=r) a x.1 h.1,<-ME (r:=r) b x.2 h.2,<-List.map_append];rfl
 |.sl _,_,h=>by cases h
 |.ptr _,_,h=>by cases h
 |.clo _ _,_,h=>by cases h
 |.osl _,_,h=>by cases h
 |.mp _ _,_,h=>by cases h
def J0:∀(t:Ty) (x:t.T),IG t=true->(AR t x).all (·.oneCell')=true
 |.int _,_,_=>rfl
 |.bool,_,_=>rfl
 |.str,_,_=>rfl
 |.unit,_,_=>rfl
 |.pair a b,x,h=>by
  simp only[IG,bAE]at h;have e:AR (.pair a b) x=AR a x.1++AR b x.2:=by simp[AR,tyV]
  rw[e,List.all_append,J0 a x.1 h.1,J0 b x.2 h.2];rfl
 |.sl _,_,h=>by cases h
 |.ptr _,_,h=>by cases h
 |.clo _ _,_,h=>by cases h
 |.osl _,_,h=>by cases h
 |.mp _ _,_,h=>by cases h
def slT(t:Ty)(x:t.T):Sl:=bif Di t then .agg (AA t 0 x)else .one (.c t 0 x)
def slT_v{r:List Ae}:∀(t:Ty) (x:t.T),IG t=true->Ack (DB t x)=(slT t x).v r/\Vo (DB t x)=true
 |.int _,_,_=>⟨rfl,rfl⟩
 |.bool,_,_=>⟨rfl,rfl⟩
 |.str,_,_=>⟨rfl,rfl⟩
 |.unit,_,_=>⟨rfl,rfl⟩
 |.pair a b,x,h=>by
  refine⟨?_,?_⟩
  .show Am ((AR (.pair a b) x).toArray.toList.map V.c)=Am ((AA (.pair a b) 0 x).map (Cl.v r))
   rw[ME _ _ h]
  .show((AR (.pair a b) x).toArray.toList.all (·.oneCell'))=true
   exact J0 _ _ h
 |.sl _,_,h=>by cases h
 |.ptr _,_,h=>by cases h
 |.clo _ _,_,h=>by cases h
 |.osl _,_,h=>by cases h
 |.mp _ _,_,h=>by cases h
theorem W1(l:List Value):Z4 (Am (l.map V.c))=some (.agg l.toArray):=by
 show(if((range (l.map V.c).length).all λk=>isCV ((l.map V.c).getD k .dead))=true then some (Value.agg ((range (l.map V.c).length).map λk=>Du ((l.map V.c).getD k .dead)).toArray)else none)=_
 rw[if_pos]
 .congr 3
  apply List.ext_getElem
  .simp
  .intro i A B
   simp at A;simp[Du,A]
 .rw[aET]
  intro k u;simp at u;simp[isCV,u]
end Go.Ve

