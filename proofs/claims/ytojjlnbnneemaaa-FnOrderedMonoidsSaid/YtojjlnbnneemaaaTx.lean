/- What is known of structs, tuples and slices of the small machine. -/
import Derived.Test.YtojjlnbnneemaaaVu
import Derived.Test.YtojjlnbnneemaaaTw
set_option linter.all false
namespace Go.Ve
variable{o:Bool}{l σ:List V}{id k m sz:Nat}{t:Tg}{α:Type}{p:V->Bool}
theorem OZ:cellsV (Aj l)=l:=by
 unfold Aj cellsV;apply List.ext_getElem?
 grind
def one1:V->Bool
 |.many ..=>false
 |.dead=>false
 |v=>!AS v
theorem XS:((List.range l.length).all λk=>p (l.getD k .dead))=l.all p:=by
 rw[Bool.eq_iff_iff,aET,aET];constructor
 .intro h x e
  obtain⟨i,A,rfl⟩:=List.getElem_of_mem e
  simp_all
 grind
theorem KE:((List.range l.length).any λk=>p (l.getD k .dead))=l.any p:=by
 rw[Bool.eq_iff_iff,List.any_eq_true,List.any_eq_true];constructor
 .grind
 .rintro ⟨x,e,h⟩
  obtain⟨i,A,rfl⟩:=List.getElem_of_mem e;refine⟨i,List.mem_range.2 A,?_⟩
  grind
def WU:Bw (Aj l)=l.all one1:=by
 rw[<-XS];rfl
def Wd:AS (Aj l)=l.any AS:=by
 rw[<-KE];rfl
theorem Br{f:V->V}(e:f .dead=.dead):(l.map f).getD k .dead=f (l.getD k .dead):=by grind
theorem frz_mk:frz (Aj l)=Aj (l.map frz):=by
 unfold Aj frz;rw[List.length_map]
 congr 1
 funext k
 rw[Br rfl]
theorem AbJ:BS σ (Aj l)=Aj (l.map (BS σ)):=by
 unfold Aj;show V.many .ag l.length (λk=>BS σ (l.getD k .dead))=_
 rw[List.length_map]
 congr 1
 funext k
 rw[Br rfl]
def B9:List V->Nat->List V×List V
 |[],_=>([],[])
 |v::vs,m=>((prom v m).1::(B9 vs (m+(prom v m).2.length)).1,(prom v m).2++(B9 vs (m+(prom v m).2.length)).2)
def Lk:∀(l:List V) (v:V) (m:Nat),B9 (l++[v]) m=((B9 l m).1++[(prom v (m+(B9 l m).2.length)).1],(B9 l m).2++(prom v (m+(B9 l m).2.length)).2)
 |[],v,m=>by simp[B9]
 |w::l,v,m=>by
  simp[B9,Lk l v,List.length_append,Nat.add_assoc,List.append_assoc]
def Da:∀(l:List V) (m:Nat),(B9 l m).1.length=l.length
 |[],_=>rfl
 |v::l,m=>by simp[B9,Da l]
theorem ID:∀n,n<=l.length->BP (λk=>prom (l.getD k .dead)) n m=B9 (l.take n) m:=by
 intro n
 induction n with
 |zero=>intro _;rfl
 |succ n A=>
  intro hn
  have e:l.take (n+1)=l.take n++[l.getD n .dead]:=by
   rw[List.take_add_one]
   grind
  rw[e,Lk];unfold BP
  grind
theorem WR:prom (Aj l) m=(Aj (B9 l m).1,(B9 l m).2):=by
 unfold Aj;show(V.many .ag l.length (λk=>(BP (λk=>prom (l.getD k .dead)) l.length m).1.getD k .dead),(BP (λk=>prom (l.getD k .dead)) l.length m).2)=_
 rw[ID l.length (Nat.le_refl _),List.take_length,Da]
def DH(l:List V):V:=.many .tu l.length λk=>l.getD k .dead
theorem YK:prom (DH l) m=(DH (B9 l m).1,(B9 l m).2):=by
 unfold DH;show(V.many .tu l.length (λk=>(BP (λk=>prom (l.getD k .dead)) l.length m).1.getD k .dead),(BP (λk=>prom (l.getD k .dead)) l.length m).2)=_
 rw[ID l.length (Nat.le_refl _),List.take_length,Da]
def pkL(t:Tg)(l:List V):V:=.many t l.length λk=>l.getD k .dead
theorem frz_pk:frz (pkL t l)=pkL t (l.map frz):=by
 unfold pkL frz;rw[List.length_map]
 congr 1
 funext k
 rw[Br rfl]
def AaY:AS (pkL t l)=l.any AS:=by
 rw[<-KE];rfl
theorem Abm:prom (pkL t l) m=(pkL t (B9 l m).1,(B9 l m).2):=by
 unfold pkL;show(V.many t l.length (λk=>(BP (λk=>prom (l.getD k .dead)) l.length m).1.getD k .dead),(BP (λk=>prom (l.getD k .dead)) l.length m).2)=_
 rw[ID l.length (Nat.le_refl _),List.take_length,Da]
theorem AbK{g:Nat}:BS σ (pkL (.cl g) l)=pkL (.cl g) (l.map (BS σ)):=by
 show(if Tg.cl g=.bx then _ else V.many (.cl g) l.length λk=>BS σ (l.getD k .dead))=_
 rw[if_neg (by simp)]
 unfold pkL;rw[List.length_map]
 congr 1
 funext k
 rw[Br rfl]
theorem Y3:BS σ (boxL l)=Bi false (l.map (BS σ)):=by
 show V.nd false false l.length 1 (λi k=>if i=0 then BS σ (l.getD k .dead)else .dead)=_
 unfold Bi;rw[List.length_map]
 congr 1
 funext i k
 cases i with
 |zero=>
  simp only[if_true,List.getD_cons_zero];rw[Br rfl]
 |succ i=>rfl
def Ll{v:V}{e:List V}:B9 (v::e) m=((prom v m).1::(B9 e (m+(prom v m).2.length)).1,(prom v m).2++(B9 e (m+(prom v m).2.length)).2):=rfl
theorem Ab2:frz (DH l)=DH (l.map frz):=by
 unfold DH frz;rw[List.length_map]
 congr 1
 funext k
 rw[Br rfl]
def Yw:AS (DH l)=l.any AS:=by
 rw[<-KE];rfl
theorem Jx(h:k<l.length):l.getD k .dead∈l:=by grind
theorem KF:(∀k,k<l.length->BF (l.getD k .dead))= ∀v∈l,BF v:=by
 apply propext;constructor
 .intro h v e
  obtain⟨i,A,rfl⟩:=List.getElem_of_mem e
  grind
 grind
def U2:BF (Aj l)= ∀v∈l,BF v:=by
 show(Tg.ag≠.bx/\_)=_;rw[KF];simp
def PH:BF (DH l)= ∀v∈l,BF v:=by
 show(Tg.tu≠.bx/\_)=_;rw[KF];simp
theorem MV:frz (Bi o l)=Bi false (l.map frz):=by
 unfold Bi frz;rw[List.length_map]
 congr 1
 funext i k
 cases i with
 |zero=>exact(Br rfl).symm
 |succ i=>rfl
theorem MW{g:α->List V}{d:α}{l:List α}:frz (arr o sz g d l)=arr false sz (λa=>(g a).map frz) d l:=by
 unfold arr frz
 congr 1
 funext i k
 rw[Br rfl]
def Xc(v:V)(off len:Nat):V:=match v with
 |.nd _ _ sz _ f=>.nd true false sz len λi k=>frz (f (off+i) k)
 |_=>.dead
def PP{p:List (Nat×Nat)}{off len:Nat}:BS σ (.rs id p off len)=Xc (sub p (σ.getD id .dead)) off len:=rfl
theorem OA{n:Nat}{g:α->List V}{d:α}{l:List α}(h:n=l.length):Xc (arr o sz g d l) 0 n=arr false sz (λa=>(g a).map frz) d l:=by
 subst h;rw[<-MW (o:=o)];show V.nd true false sz l.length (λi k=>frz ((g (l.getD (0+i) d)).getD k .dead))=_
 simp;rfl
def Y4(v:V)(i k:Nat):V:=match v with
 |.nd _ _ sz _ f=>.nd false false (sz-k) 1 λi' j=>if i'=0 then frz (f i (k+j))else .dead
 |_=>.dead
def PQ{p:List (Nat×Nat)}{i:Nat}:BS σ (.rp id p i k)=Y4 (sub p (σ.getD id .dead)) i k:=rfl
def Ls:Y4 (Bi o l) 0 k=Bi false ((l.drop k).map frz):=by
 show V.nd false false (l.length-k) 1 (λi' j=>if i'=0 then frz (([l].getD 0 []).getD (k+j) .dead)else .dead)=_
 unfold Bi;rw[List.length_map,List.length_drop]
 congr 1
 funext i j
 cases i with
 |zero=>
  simp only[List.getD_cons_zero];rw[Br rfl];simp
 |succ i=>rfl
end Go.Ve


namespace Go.Ve
@[reducible] def P7 {α:Type} (b:Bool) (x y:α):α:=bif b then x else y
@[reducible] def II {α A:Type} (o:Option α) (f:α->Option A):Option A:=o.bind f
@[reducible] def oif {α:Type} (p:Prop) (dec:Decidable p) (x:Option α):Option α:=@ite _ p dec x none
@[reducible] def nif {α:Type} (a b:Nat) (x y:α):α:=if a=b then x else y
@[reducible] def AcB {α:Type} (xs:List α) (i:Nat) (d:α):α:=xs.getD i d
@[reducible] def setX {α:Type} (xs:List α) (i:Nat) (x:α):List α:=xs.set i x
@[reducible] def H4 {α:Type} (xs:List α):Nat:=xs.length
@[reducible] def ZT {α:Type} (n:Nat) (x:α):List α:=List.replicate n x
@[reducible] def P4 {α:Type} (n:Nat) (xs:List α):List α:=xs.drop n
@[reducible] def Pg {α:Type} (n:Nat) (xs:List α):List α:=xs.take n
@[reducible] def UI {α:Type} (off len:Nat) (xs:List α) (d:α):List α:=(List.range len).map λi=>xs.getD (off+i) d
@[reducible] def NJ (s:ByteArray):Nat:=s.size
@[reducible] def catS (a b:ByteArray):ByteArray:=a++b
@[reducible] def cutS (s:ByteArray) (a b:Nat):ByteArray:=s.extract a b
@[reducible] def AcI (a b:Bool):Bool:=a&&b
@[reducible] def eqB (a b:Bool):Bool:=a==b
@[reducible] def notB (b:Bool):Bool:=!b
@[reducible] def eqI (a b:Int):Bool:=decide (a=b)
@[reducible] def neI (a b:Int):Bool:=!decide (a=b)
@[reducible] def ltI (a b:Int):Bool:=decide (a<b)
@[reducible] def leI (a b:Int):Bool:=decide (a<=b)
@[reducible] def eqS (a b:ByteArray):Bool:=decide (a.data.toList=b.data.toList)
@[reducible] def neS (a b:ByteArray):Bool:=!decide (a.data.toList=b.data.toList)
@[reducible] def ltS (a b:ByteArray):Bool:=Op.bytesLess a.data.toList b.data.toList
@[reducible] def X7 (x y:Int):Int:=if y<x then y else x
@[reducible] def maxI (x y:Int):Int:=if x<y then y else x
@[reducible] def ofN (n:Nat):Int:=n
@[reducible] def KQ (n:Int):Nat:=n.toNat
@[reducible] def Aci {α:Type} (xs ys:List α):List α:=xs++ys
end Go.Ve


namespace Go.Ve
def A7{α:Type _}{b:Bool}{x:Option α}{z:α}(h:(bif b then x else none)=some z):b=true/\x=some z:=by
 cases b with
 |false=>cases h
 |true=>exact⟨rfl,h⟩
inductive Ty where
 |int (k:IntKind)|bool|str|sl (t:Ty)|ptr (t:Ty)|unit|pair (a b:Ty)|clo (g:Nat) (t:Ty)|osl (t:Ty)|mp (k v:Ty)
deriving DecidableEq
@[reducible] def Ty.T:Ty->Type
 |.int _=>Int
 |.bool=>Bool
 |.str=>ByteArray
 |.sl t=>List t.T
 |.ptr t=>t.T
 |.unit=>Unit
 |.pair a b=>a.T×b.T
 |.clo _ t=>t.T
 |.osl t=>Option (List t.T)
 |.mp k v=>List (k.T×v.T)
def Ty.dflt:(t:Ty)->t.T
 |.int _=>(0:Int)
 |.bool=>false
 |.str=>ByteArray.mk #[]
 |.sl _=>[]
 |.ptr t=>t.dflt
 |.unit=>()
 |.pair a b=>(a.dflt,b.dflt)
 |.clo _ t=>t.dflt
 |.osl _=>some []
 |.mp _ _=>[]
def Ty.w:Ty->Nat
 |.unit=>0
 |.pair a b=>a.w+b.w
 |_=>1
def Ty.dep:Ty->Nat
 |.sl t=>t.dep+1
 |.ptr t=>t.dep+1
 |.pair a b=>max a.dep b.dep
 |.clo _ _=>1
 |.osl t=>t.dep+1
 |.mp _ _=>1
 |_=>0
def Abz{α:Type}(own:Bool)(sz:Nat)(f:α->List V)(d:α):Option (List α)->V
 |none=>.dead
 |some xs=>arr own sz f d xs
def Ze{α:Type}{own:Bool}{sz:Nat}{f:α->List V}{d:α}(x:Option (List α)):frz (Abz own sz f d x)=Abz false sz (λa=>(f a).map frz) d x:=by
 cases x with
 |none=>rfl
 |some xs=>simp[Abz,MW]
def Do:Ty->Bool
 |.pair _ _=>true
 |.unit=>true
 |_=>false
def valA(ag:Bool)(l:List Value):Value:=bif ag then .agg l.toArray else l.getD 0 undef
def tyV:(t:Ty)->Nat->t.T->List V
 |.int k,_,n=>[.c (.int k n)]
 |.bool,_,b=>[.c (.bool b)]
 |.str,_,s=>[.c (.string s)]
 |.sl t,d,xs=>[arr (decide (0<d)) t.w (tyV t (d-1)) t.dflt xs]
 |.ptr t,d,x=>[Bi (decide (0<d)) (tyV t (d-1) x)]
 |.unit,_,_=>[]
 |.pair a b,d,x=>tyV a d x.1++tyV b d x.2
 |.clo g t,_,x=>[.many (.cl g) t.w λk=>(tyV t 0 x).getD k .dead]
 |.osl t,d,x=>[Abz (decide (0<d)) t.w (tyV t (d-1)) t.dflt x]
 |.mp k v,d,x=>[.mp (decide (0<d)) (x.map λe=>(valA (Do k) ((tyV k 0 e.1).map DG),valA (Do v) ((tyV v 0 e.2).map DG)))]
def AB:∀(t:Ty) (d:Nat) (x:t.T),(tyV t d x).length=t.w
 |.int _,_,_=>rfl
 |.bool,_,_=>rfl
 |.str,_,_=>rfl
 |.sl _,_,_=>rfl
 |.ptr _,_,_=>rfl
 |.unit,_,_=>rfl
 |.pair a b,d,x=>by simp[tyV,Ty.w,AB a,AB b]
 |.clo _ _,_,_=>rfl
 |.osl _,_,_=>rfl
 |.mp _ _,_,_=>rfl
theorem Dt:∀(t:Ty) (d e:Nat) (x:t.T),min d t.dep=min e t.dep->tyV t d x=tyV t e x
 |.int _,_,_,_,_=>rfl
 |.bool,_,_,_,_=>rfl
 |.str,_,_,_,_=>rfl
 |.sl t,d,e,xs,h=>by
  simp only[Ty.dep]at h
  have A:decide (0<d)=decide (0<e):=by
   rw[Bool.eq_iff_iff];simp;omega
  have B:tyV t (d-1)=tyV t (e-1):=funext λx=>Dt t _ _ x (by omega)
  simp only[tyV,A,B]
 |.ptr t,d,e,x,h=>by
  simp only[Ty.dep]at h
  have A:decide (0<d)=decide (0<e):=by
   rw[Bool.eq_iff_iff];simp;omega
  simp only[tyV,A,Dt t (d-1) (e-1) x (by omega)]
 |.unit,_,_,_,_=>rfl
 |.pair a b,d,e,x,h=>by
  simp only[Ty.dep]at h;simp only[tyV,Dt a d e x.1 (by omega),Dt b d e x.2 (by omega)]
 |.clo _ _,_,_,_,_=>rfl
 |.mp k v,d,e,x,h=>by
  simp only[Ty.dep]at h
  have A:decide (0<d)=decide (0<e):=by
   rw[Bool.eq_iff_iff];simp;omega
  simp only[tyV,A]
 |.osl t,d,e,x,h=>by
  simp only[Ty.dep]at h
  have A:decide (0<d)=decide (0<e):=by
   rw[Bool.eq_iff_iff];simp;omega
  have B:tyV t (d-1)=tyV t (e-1):=funext λx=>Dt t _ _ x (by omega)
  simp only[tyV,A,B]
theorem Bl:∀(t:Ty) (d:Nat) (x:t.T),(tyV t d x).map frz=tyV t 0 x
 |.int _,_,_=>rfl
 |.bool,_,_=>rfl
 |.str,_,_=>rfl
 |.sl t,d,xs=>by
  have e:(λa=>(tyV t (d-1) a).map frz)=tyV t 0:=funext λx=>Bl t _ x
  simp[tyV,MW,e]
 |.ptr t,d,x=>by simp[tyV,MV,Bl t]
 |.unit,_,_=>rfl
 |.pair a b,d,x=>by simp[tyV,Bl a,Bl b]
 |.mp _ _,_,_=>rfl
 |.osl t,d,x=>by
  have e:(λa=>(tyV t (d-1) a).map frz)=tyV t 0:=funext λx=>Bl t _ x
  simp[tyV,Ze,e]
 |.clo g t,_,x=>by
  have e:(λk=>frz ((tyV t 0 x).getD k .dead))=λk=>(tyV t 0 x).getD k .dead:=by
   funext k
   have h:=Bl t 0 x
   conv=>rhs;rw[<-h]
   simp[List.getElem?_map];cases (tyV t 0 x)[k]? <;>rfl
  show [V.many (.cl g) t.w λk=>frz ((tyV t 0 x).getD k .dead)]=[V.many (.cl g) t.w λk=>(tyV t 0 x).getD k .dead]
  rw[e]
def Oo{α:Type}(l:List α):List (Option α):=l.map some
def unO{α:Type}(l:List (Option (List α))):List (List α):=l.map λx=>match x with
 |some y=>y
 |none=>[]
def isO{α:Type}:Option (List α)->Bool
 |some _=>true
 |none=>false
def getO{α:Type}:Option (List α)->List α
 |some xs=>xs
 |none=>[]
abbrev AW:=List (Nat×Nat)
inductive Cl where
 |dead
 |nil
 |nilp
 |nilf
 |nilm
 |c (t:Ty) (d:Nat) (x:t.T)
 |rf (id:Nat) (p:AW)
 |rs (id:Nat) (p:AW) (off len:Nat)
 |rp (id:Nat) (p:AW) (i k:Nat)
 |rm (id:Nat) (p:AW)
inductive Ac where
 |dead
 |obj (ro:Bool) (l:List Cl)
 |arr (ro:Bool) (t:Ty) (d:Nat) (xs:List t.T)
 |opt (ro:Bool) (t:Ty) (d:Nat) (x:Option (List t.T))
 |mp (ro:Bool) (k v:Ty) (x:List (k.T×v.T))
def AA:(t:Ty)->Nat->t.T->List Cl
 |.unit,_,_=>[]
 |.pair a b,d,x=>AA a d x.1++AA b d x.2
 |.int k,d,x=>[.c (.int k) d x]
 |.bool,d,x=>[.c .bool d x]
 |.str,d,x=>[.c .str d x]
 |.sl t,d,x=>[.c (.sl t) d x]
 |.ptr t,d,x=>[.c (.ptr t) d x]
 |.clo g t,d,x=>[.c (.clo g t) d x]
 |.osl t,d,x=>[.c (.osl t) d x]
 |.mp k v,d,x=>[.c (.mp k v) d x]
def mpV(own:Bool)(k v:Ty)(x:List (k.T×v.T)):V:=.mp own (x.map λe=>(valA (Do k) ((tyV k 0 e.1).map DG),valA (Do v) ((tyV v 0 e.2).map DG)))
def cV:(t:Ty)->Nat->t.T->V
 |.int k,_,n=>.c (.int k n)
 |.bool,_,b=>.c (.bool b)
 |.str,_,s=>.c (.string s)
 |.sl t,d,xs=>arr (decide (0<d)) t.w (tyV t (d-1)) t.dflt xs
 |.ptr t,d,x=>Bi (decide (0<d)) (tyV t (d-1) x)
 |.clo g t,_,x=>.many (.cl g) t.w λk=>(tyV t 0 x).getD k .dead
 |.osl t,d,x=>Abz (decide (0<d)) t.w (tyV t (d-1)) t.dflt x
 |.mp k v,d,x=>mpV (decide (0<d)) k v x
 |.unit,_,_=>.dead
 |.pair _ _,_,_=>.dead
def Cl.v0:Cl->V
 |.dead=>.dead
 |.nil=>.c (.slice none 0 0)
 |.nilp=>.c (.pointer none)
 |.nilf=>.c .nilFunc
 |.nilm=>.c (.map none)
 |.c t d x=>cV t d x
 |_=>.dead
def Ac.v:Ac->V
 |.dead=>.dead
 |.obj _ l=>Bi true (l.map Cl.v0)
 |.arr _ t d xs=>Go.Ve.arr true t.w (tyV t d) t.dflt xs
 |.opt _ t d x=>Abz true t.w (tyV t d) t.dflt x
 |.mp _ k v x=>mpV true k v x
def Bv:∀(t:Ty) (d:Nat) (x:t.T),(AA t d x).map Cl.v0=tyV t d x
 |.int _,_,_=>rfl
 |.bool,_,_=>rfl
 |.str,_,_=>rfl
 |.sl _,_,_=>rfl
 |.ptr _,_,_=>rfl
 |.clo _ _,_,_=>rfl
 |.mp _ _,_,_=>rfl
 |.osl _,_,_=>rfl
 |.unit,_,_=>rfl
 |.pair a b,d,x=>by simp[AA,tyV,Bv a,Bv b]
def Cl.node(ro:Bool):Cl->Ac
 |.c (.sl t) (d+1) xs=>.arr ro t d xs
 |.c (.ptr t) (d+1) x=>.obj ro (AA t d x)
 |.c (.osl t) (d+1) x=>.opt ro t d x
 |.c (.mp k v) (_+1) x=>.mp ro k v x
 |_=>.dead
def Ac.cells:Ac->Nat->List Cl
 |.obj _ l,0=>l
 |.obj _ _,_+1=>[]
 |.arr _ t d xs,i=>AA t d (AcB xs i t.dflt)
 |.opt _ _ _ _,_=>[]
 |.mp _ _ _ _,_=>[]
 |.dead,_=>[]
def Ac.ro:Ac->Bool
 |.obj ro _=>ro
 |.arr ro _ _ _=>ro
 |.opt ro _ _ _=>ro
 |.mp ro _ _ _=>ro
 |.dead=>true
def Ac.at':Ac->AW->Ac
 |r,[]=>r
 |r,(i,k)::p=>(((r.cells i).getD k .dead).node r.ro).at' p
def Ac.len:Ac->Nat
 |.arr _ _ _ xs=>H4 xs
 |.opt _ _ _ (some xs)=>H4 xs
 |.opt _ _ _ none=>0
 |.mp _ _ _ _=>0
 |.obj _ _=>1
 |.dead=>0
def Ae(r:List Ac)(id:Nat)(p:AW):Ac:=(r.getD id .dead).at' p
def Cl.v(r:List Ac):Cl->V
 |.dead=>.dead
 |.nil=>.c (.slice none 0 0)
 |.nilp=>.c (.pointer none)
 |.nilf=>.c .nilFunc
 |.nilm=>.c (.map none)
 |.c t d x=>cV t d x
 |.rf id p=>.rs id p 0 (Ae r id p).len
 |.rs id p off len=>.rs id p off len
 |.rp id p i k=>.rp id p i k
 |.rm id p=>.rm id p
inductive Sl where
 |one (c:Cl)
 |new (l:List Cl)
 |agg (l:List Cl)
 |tup (l:List (Bool×List Cl))
 |pk (t:Tg) (l:List Cl)
def Sl.v(r:List Ac):Sl->V
 |.one c=>c.v r
 |.new l=>Bi true (l.map Cl.v0)
 |.agg l=>Aj (l.map (Cl.v r))
 |.tup l=>DH (l.map λp=>if p.1 then Aj (p.2.map (Cl.v r))else(p.2.map (Cl.v r)).getD 0 .dead)
 |.pk t l=>pkL t (l.map (Cl.v r))
structure St where
 t:Nat->Sl
 r:List Ac
def St.den(s:St):Ms:=⟨λi=>(s.t i).v s.r,s.r.map Ac.v⟩
theorem Z4{ro:Bool}{c:Cl}(h:(c.node ro)≠.dead):c.v0=(c.node ro).v:=by
 unfold Cl.node at h⊢;split at h<;>try grind
 .rfl
 .simp[Cl.v0,cV,Ac.v,Bv]
 all_goals rfl
theorem AG{α:Type}{f:α->V}{a:α}(e:f a=.dead)(l:List α)(k:Nat):(l.map f).getD k .dead=f (l.getD k a):=by grind
def Ac.live:Ac->Bool
 |.dead=>false
 |.opt _ _ _ _=>false
 |.mp _ _ _ _=>false
 |_=>true
def Xa{r:Ac}(h:r.live=true):r≠.dead:=by rintro rfl;cases h
theorem P5(r:Ac)(hd:r.live=true):∃s sz n f,r.v=.nd s true sz n f/\(∀i k,f i k=((r.cells i).getD k .dead).v0)/\n=r.len/\(s=false->n=1)/\
  (∀ro t d xs,r=.arr ro t d xs->s=true/\sz=t.w)/\(∀ro l,r=.obj ro l->s=false/\sz=l.length):=by
 cases r with
 |dead=>cases hd
 |opt=>cases hd
 |mp=>cases hd
 |obj ro l=>
  refine⟨false,_,_,_,rfl,?_,rfl,λ_=>rfl,λro t d xs h=>by grind,λro l h=>by grind⟩
  intro i k;cases i with
  |zero=>
   exact AG rfl l k
  |succ i=>rfl
 |arr ro t d xs=>
  refine⟨true,_,_,_,rfl,?_,rfl,(λh=>by cases h),λro t d xs h=>by grind,λro l h=>by cases h⟩
  intro i k;rw[<-Bv];exact AG rfl _ k
def C1:∀p,Ac.at' .dead p=.dead
 |[]=>rfl
 |(i,k)::p=>by
  exact C1 p
theorem ZP:∀(p:AW) (r:Ac),r.at' p≠.dead->sub p r.v=(r.at' p).v
 |[],r,_=>rfl
 |(i,k)::p,r,h=>by
  have E:r.live=true:=by
   cases r with
   |dead=>exact absurd (C1 _) h
   |opt ro t d x=>exact absurd (C1 p) h
   |mp ro k v x=>exact absurd (C1 p) h
   |_=>rfl
  obtain⟨s,sz,n,f,B,F,_⟩:=P5 r E;rw[B];show sub p (f i k)=_;have A:(((r.cells i).getD k .dead).node r.ro).at' p≠.dead:=h;have hn:((r.cells i).getD k .dead).node r.ro≠.dead:=by intro e;rw[e]at A;exact A (C1 p)
  rw[F,Z4 hn,ZP p _ A];rfl
def AaA:∀(p q:AW) (r:Ac),r.at' (p++q)=(r.at' p).at' q
 |[],_,_=>rfl
 |(i,k)::p,q,r=>AaA p q _
def Aq(l:List Ac)(id:Nat):(l.map Ac.v).getD id .dead=(l.getD id .dead).v:=AG rfl l id
def A5{r:List Ac}{id:Nat}{p:AW}(h:Ae r id p≠.dead):sub p ((r.map Ac.v).getD id .dead)=(Ae r id p).v:=by
 rw[Aq];exact ZP p _ h
end Go.Ve


namespace Go.Ve
open Go
variable{P:Program}
def eqT:(t:Ty)->t.T->t.T->Bool
 |.int _,a,b=>decide ((show Int from a)=b)
 |.bool,a,b=>(show Bool from a)==b
 |.str,a,b=>decide ((show ByteArray from a).data.toList=(show ByteArray from b).data.toList)
 |.pair s t,a,b=>eqT s a.1 b.1&&eqT t a.2 b.2
 |.unit,_,_=>true
 |_,_,_=>false
def Ja:Ty->Bool
 |.int _=>true
 |.bool=>true
 |.str=>true
 |.unit=>true
 |.pair a b=>Ja a&&Ja b
 |_=>false
def By:Ty->List Nat
 |.int _=>[0]
 |.bool=>[1]
 |.str=>[2]
 |.pair a b=>By a++By b
 |_=>[]
def AZ(t:Ty)(x:t.T):List Value:=(tyV t 0 x).map DG
def W0:∀{ks e:List Nat}{l m B A:List Value},okL ks l m=true->okL e B A=true->okL (ks++e) (l++B) (m++A)=true
 |[],_,[],[],_,_,_,h=>h
 |k::ks,_,a::l,b::m,_,_,h,h'=>by
  have h:((kOf a==some k)&&(kOf b==some k)&&CA a b&&okL ks l m)=true:=h;rw[bAE]at h;show((kOf a==some k)&&(kOf b==some k)&&CA a b&&okL (ks++_) (l++_) (m++_))=true;rw[h.1,W0 h.2 h'];rfl
 |[],_,[],_::_,_,_,h,_=>by cases h
 |[],_,_::_,_,_,_,h,_=>by cases h
 |_::_,_,[],_,_,_,h,_=>by cases h
 |_::_,_,_::_,[],_,_,h,_=>by cases h
def Qc:∀{ks:List Nat}{l m A e:List Value},okL ks l m=true->HA (l++A) (m++e)=(HA l m&&HA A e)
 |[],[],[],_,_,_=>rfl
 |k::ks,a::l,b::m,A,e,h=>by
  have h:((kOf a==some k)&&(kOf b==some k)&&CA a b&&okL ks l m)=true:=h;rw[bAE]at h;show(vEq a b&&HA (l++A) (m++e))=((vEq a b&&HA l m)&&_);rw[Qc h.2,Bool.and_assoc]
 |[],[],_::_,_,_,h=>by cases h
 |[],_::_,_,_,_,h=>by cases h
 |_::_,[],_,_,_,h=>by cases h
 |_::_,_::_,[],_,_,h=>by cases h
def Y7:∀(t:Ty) (a b:t.T),Ja t=true->okL (By t) (AZ t a) (AZ t b)=true/\HA (AZ t a) (AZ t b)=eqT t a b
 |.int k,a,b,_=>by
  refine⟨?_,?_⟩
  .simp[AZ,tyV,DG,By,okL,kOf,CA]
  .simp[AZ,tyV,DG,HA,vEq,eqT]
 |.bool,a,b,_=>by
  refine⟨?_,?_⟩
  .simp[AZ,tyV,DG,By,okL,kOf,CA]
  .simp[AZ,tyV,DG,HA,vEq,eqT]
 |.str,a,b,_=>by
  refine⟨?_,?_⟩
  .simp[AZ,tyV,DG,By,okL,kOf,CA]
  .simp[AZ,tyV,DG,HA,vEq,eqT]
 |.unit,_,_,_=>⟨rfl,rfl⟩
 |.pair s t,a,b,h=>by
  simp only[Ja,bAE]at h;obtain⟨A,F⟩:=Y7 s a.1 b.1 h.1;obtain⟨E,B⟩:=Y7 t a.2 b.2 h.2;have e:∀x:(Ty.pair s t).T,AZ (.pair s t) x=AZ s x.1++AZ t x.2:=λx=>by simp[AZ,tyV]
  rw[e,e];exact⟨W0 A E,by rw[Qc A,F,B];rfl⟩
 |.sl _,_,_,h=>by cases h
 |.ptr _,_,_,h=>by cases h
 |.clo _ _,_,_,h=>by cases h
 |.osl _,_,_,h=>by cases h
 |.mp _ _,_,_,h=>by cases h
def DP(t:Ty)(x:t.T):Value:=valA (Do t) (AZ t x)
theorem kEq_v:∀(t:Ty) (a b:t.T),Ja t=true->kEq (DP t a) (DP t b)=eqT t a b:=by
 intro t a b h;have A:=(Y7 t a b h).2;cases t with
 |int k=>
  have e:vEq (Value.int k a) (Value.int k b)=eqT (.int k) a b:=by simpa [AZ,tyV,DG,HA]using A
  exact e
 |bool=>
  have e:vEq (Value.bool a) (Value.bool b)=eqT .bool a b:=by simpa [AZ,tyV,DG,HA]using A
  exact e
 |str=>
  have e:vEq (Value.string a) (Value.string b)=eqT .str a b:=by simpa [AZ,tyV,DG,HA]using A
  exact e
 |unit=>rfl
 |pair u v=>exact A
 |_=>cases h
def H8(k v:Ty)(key:k.T):List (k.T×v.T)->Option v.T
 |[]=>none
 |e::l=>bif eqT k key e.1 then some e.2 else H8 k v key l
def P2(k v:Ty)(xs:List (k.T×v.T)):List (Value×Value):=xs.map λe=>(DP k e.1,DP v e.2)
def XA{k v:Ty}(A:Ja k=true)(key:k.T):∀xs:List (k.T×v.T),H9 (DP k key) (P2 k v xs)=(H8 k v key xs).map (DP v)
 |[]=>rfl
 |e::xs=>by
  show(bif kEq (DP k key) (DP k e.1)then some (DP v e.2)else H9 _ (P2 k v xs))=Option.map _ (bif eqT k key e.1 then some e.2 else H8 k v key xs);rw[kEq_v k key e.1 A,XA A key xs];cases eqT k key e.1<;>rfl
def AaI(k v:Ty)(key:k.T)(x:v.T):List (k.T×v.T)->List (k.T×v.T)
 |[]=>[(key,x)]
 |e::l=>bif eqT k key e.1 then(key,x)::l else e::AaI k v key x l
def ZI{k v:Ty}(A:Ja k=true)(key:k.T)(x:v.T):∀xs:List (k.T×v.T),ZJ (DP k key) (DP v x) (P2 k v xs)=P2 k v (AaI k v key x xs)
 |[]=>rfl
 |e::xs=>by
  show(bif kEq (DP k key) (DP k e.1)then(DP k key,DP v x)::P2 k v xs else(DP k e.1,DP v e.2)::ZJ _ _ (P2 k v xs))=P2 k v (bif eqT k key e.1 then(key,x)::xs else e::AaI k v key x xs);rw[kEq_v k key e.1 A,ZI A key x xs];cases eqT k key e.1<;>rfl
theorem pair_v{kt:TypeId}{t:Ty}{a b:t.T}(A:Ja t=true)(h:bif Do t then MX P kt=some (By t)/\By t≠[9]else ∃n,By t=[n]/\knd P kt=some n):BI P kt (DP t a) (DP t b)=true:=by
 have B:=(Y7 t a b A).1;cases t with
 |int k=>
  obtain⟨n,e,hn⟩:=h;cases e;show BI P kt (Value.int k a) (Value.int k b)=true;simp[BI,hn,kOf,CA]
 |bool=>
  obtain⟨n,e,hn⟩:=h;cases e;show BI P kt (Value.bool a) (Value.bool b)=true;simp[BI,hn,kOf,CA]
 |str=>
  obtain⟨n,e,hn⟩:=h;cases e;show BI P kt (Value.string a) (Value.string b)=true;simp[BI,hn,kOf,CA]
 |unit=>
  show(match MX P kt with|some ks=>decide (ks≠[9])&&okL ks _ _|none=>false)=true
  rw[h.1];rfl
 |pair u v=>
  show(match MX P kt with|some ks=>decide (ks≠[9])&&okL ks (AZ (.pair u v) a) (AZ (.pair u v) b)|none=>false)=true
  rw[h.1];show(decide _&&_)=true;rw[B,dT h.2];rfl
 |_=>cases A
structure MpI where
 kt:TypeId
 et:TypeId
 kn:Option Nat
 eq:Option (List Nat)
 ck:Bool
 z:Option Value
def ckS(P:Program)(kt:TypeId):Bool:=match knd P kt with
 |some _=>true
 |none=>match P.underlying kt,MX P kt with
  |some (.struct fs),some ks=>fs.toList.all λf=>(knd P f.type).isSome&&decide (f.offset<ks.length)
  |_,_=>false
def mpI(P:Program)(t:TypeId):Option MpI:=match VJ P t with
 |some (k,e)=>some ⟨k,e,knd P k,bif(knd P k).isSome then none else MX P k,ckS P k,Pa P e⟩
 |none=>none
def zT:Ty->Value
 |.mp _ _=>.map none
 |v=>DP v v.dflt
def mpW:Ty->Option (TypeId×TypeId)->Option MpI
 |.mp k v,some (kt,et)=>some ⟨kt,et,bif Do k then none else(By k).head?,bif Do k then some (By k)else none,true,some (zT v)⟩
 |_,_=>none
def XI(t:Ty)(x:t.T):(AZ t x).length=t.w:=by unfold AZ;rw[List.length_map,AB]
def Kb:∀(t:Ty),Ja t=true->(By t).length=t.w
 |.int _,_=>rfl
 |.bool,_=>rfl
 |.str,_=>rfl
 |.unit,_=>rfl
 |.pair a b,h=>by
  simp only[Ja,bAE]at h;simp[By,Ty.w,Kb a h.1,Kb b h.2]
 |.sl _,h=>by cases h
 |.ptr _,h=>by cases h
 |.clo _ _,h=>by cases h
 |.osl _,h=>by cases h
 |.mp _ _,h=>by cases h
def MN:∀(t:Ty),∀k∈By t,k≠9
 |.int _,k,h=>by simp[By]at h;omega
 |.bool,k,h=>by simp[By]at h;omega
 |.str,k,h=>by simp[By]at h;omega
 |.unit,k,h=>by cases h
 |.pair a b,k,h=>by
  simp only[By,List.mem_append]at h;exact h.elim (MN a k) (MN b k)
 |.sl _,k,h=>by cases h
 |.ptr _,k,h=>by cases h
 |.clo _ _,k,h=>by cases h
 |.osl _,k,h=>by cases h
 |.mp _ _,k,h=>by cases h
def map_v{t:TypeId}{k v:Ty}{q:Option (TypeId×TypeId)}(F:Ja k=true)(M:Ja v=true)(h:mpI P t=mpW (.mp k v) q)(U:q≠none):∃kt et,VJ P t=some (kt,et)/\Pa P et=some (DP v v.dflt)/\(∀x:k.T,X9 P kt (DP k x)=true)/\∀x y:k.T,BI P kt (DP k x) (DP k y)=true:=by
 cases q with
 |none=>exact absurd rfl U
 |some q=>
 obtain⟨kt,et⟩:=q;unfold mpI at h;split at h
 case h_2=>cases h
 rename_i k' L W;have h:(MpI.mk k' L (knd P k') (bif(knd P k').isSome then none else MX P k') (ckS P k') (Pa P L))=⟨kt,et,bif Do k then none else(By k).head?,bif Do k then some (By k)else none,true,some (zT v)⟩:=Option.some.inj h;simp only[MpI.mk.injEq]at h;obtain⟨rfl,rfl,E,A,B,J⟩:=h;have Y:zT v=DP v v.dflt:=by cases v<;>first|rfl|(cases M;done)
 rw[Y]at J;refine⟨_,_,W,J,?_,?_⟩
 .intro x
  unfold ckS at B;unfold X9;cases ha:Do k with
  |false=>
   rw[ha]at E;have:∃n,knd P k'=some n:=by cases k<;>first|exact⟨_,E⟩|(cases ha;done)|(cases F;done)
   obtain⟨n,hn⟩:=this;rw[hn]
  |true=>
   rw[ha]at E A;rw[E]at A B⊢;simp only[cond_true]at A B⊢;have A:MX P k'=some (By k):=A;rw[A]at B;have e:DP k x=.agg (AZ k x).toArray:=by unfold DP;rw[ha];rfl
   rw[e];split at B
   case h_2=>cases B
   rename_i fs ks O Z;cases Z;rw[O];rw[Kb k F]at B;show(fs.toList.all λf=>(knd P f.type).isSome&&decide (f.offset<(AZ k x).toArray.size))=true
   rw[List.size_toArray,XI];exact B
 .intro x y
  refine pair_v F ?_;cases ha:Do k with
  |false=>
   rw[ha]at E;show ∃n,By k=[n]/\knd P k'=some n;cases k<;>first|exact⟨_,rfl,E⟩|(cases ha;done)|(cases F;done)
  |true=>
   rw[ha]at E A;rw[E]at A;have A:MX P k'=some (By k):=A;refine⟨A,λe=>MN k 9 (by rw[e];exact List.mem_singleton.2 rfl) rfl⟩
def M5{r:List Ac}:∀(t:Ty) (x:t.T),Ja t=true->(AA t 0 x).map (Cl.v r)=(AZ t x).map V.c
 |.int _,_,_=>rfl
 |.bool,_,_=>rfl
 |.str,_,_=>rfl
 |.unit,_,_=>rfl
 |.pair a b,x,h=>by
  simp only[Ja,bAE]at h;have e:AZ (.pair a b) x=AZ a x.1++AZ b x.2:=by simp[AZ,tyV]
  rw[e,List.map_append,<-M5 (r:=r) a x.1 h.1,<-M5 (r:=r) b x.2 h.2,<-List.map_append];rfl
 |.sl _,_,h=>by cases h
 |.ptr _,_,h=>by cases h
 |.clo _ _,_,h=>by cases h
 |.osl _,_,h=>by cases h
 |.mp _ _,_,h=>by cases h
def Ku:∀(t:Ty) (x:t.T),Ja t=true->(AZ t x).all (·.oneCell')=true
 |.int _,_,_=>rfl
 |.bool,_,_=>rfl
 |.str,_,_=>rfl
 |.unit,_,_=>rfl
 |.pair a b,x,h=>by
  simp only[Ja,bAE]at h;have e:AZ (.pair a b) x=AZ a x.1++AZ b x.2:=by simp[AZ,tyV]
  rw[e,List.all_append,Ku a x.1 h.1,Ku b x.2 h.2];rfl
 |.sl _,_,h=>by cases h
 |.ptr _,_,h=>by cases h
 |.clo _ _,_,h=>by cases h
 |.osl _,_,h=>by cases h
 |.mp _ _,_,h=>by cases h
def slT(t:Ty)(x:t.T):Sl:=bif Do t then .agg (AA t 0 x)else .one (.c t 0 x)
def slT_v{r:List Ac}:∀(t:Ty) (x:t.T),Ja t=true->Acq (DP t x)=(slT t x).v r/\VP (DP t x)=true
 |.int _,_,_=>⟨rfl,rfl⟩
 |.bool,_,_=>⟨rfl,rfl⟩
 |.str,_,_=>⟨rfl,rfl⟩
 |.unit,_,_=>⟨rfl,rfl⟩
 |.pair a b,x,h=>by
  refine⟨?_,?_⟩
  .show Aj ((AZ (.pair a b) x).toArray.toList.map V.c)=Aj ((AA (.pair a b) 0 x).map (Cl.v r))
   rw[M5 _ _ h]
  .show((AZ (.pair a b) x).toArray.toList.all (·.oneCell'))=true
   exact Ku _ _ h
 |.sl _,_,h=>by cases h
 |.ptr _,_,h=>by cases h
 |.clo _ _,_,h=>by cases h
 |.osl _,_,h=>by cases h
 |.mp _ _,_,h=>by cases h
theorem Xf(l:List Value):Z9 (Aj (l.map V.c))=some (.agg l.toArray):=by
 show(if((List.range (l.map V.c).length).all λk=>isCV ((l.map V.c).getD k .dead))=true then some (Value.agg ((List.range (l.map V.c).length).map λk=>DG ((l.map V.c).getD k .dead)).toArray)else none)=_
 rw[if_pos]
 .congr 3
  apply List.ext_getElem
  .simp
  .intro i A B
   simp at A;simp[DG,A]
 .rw[aET]
  intro k e;simp at e;simp[isCV,e]
end Go.Ve

