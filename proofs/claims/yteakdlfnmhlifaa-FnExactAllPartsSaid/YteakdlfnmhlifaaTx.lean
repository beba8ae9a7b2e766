/- What is known of structs, tuples and slices of the small machine. -/
import Derived.Test.YteakdlfnmhlifaaVu
import Derived.Test.YteakdlfnmhlifaaTw
open List(range length_map take_length)
set_option linter.all false
namespace Go.Ve
variable{o:Bool}{l σ:List V}{id k m sz:Nat}{t:Tg}{α:Type}{p:V->Bool}
theorem Pr:cellsV (Ag l)=l:=by
 unfold Ag cellsV;apply List.ext_getElem?
 grind
def one1:V->Bool
 |.many ..=>false
 |.dead=>false
 |v=>!AK v
theorem Zc:((range l.length).all λk=>p (l.getD k .dead))=l.all p:=by
 rw[Bool.eq_iff_iff,aET,aET];constructor
 .intro h x e
  obtain⟨i,hi,rfl⟩:=List.getElem_of_mem e
  simp_all
 grind
theorem KY:((range l.length).any λk=>p (l.getD k .dead))=l.any p:=by
 rw[Bool.eq_iff_iff,List.any_eq_true,List.any_eq_true];constructor
 .grind
 .rintro ⟨x,e,h⟩
  obtain⟨i,hi,rfl⟩:=List.getElem_of_mem e;refine⟨i,List.mem_range.2 hi,?_⟩
  grind
def X6:Bv (Ag l)=l.all one1:=by
 rw[<-Zc];rfl
def Xg:AK (Ag l)=l.any AK:=by
 rw[<-KY];rfl
theorem Bp{f:V->V}(e:f .dead=.dead):(l.map f).getD k .dead=f (l.getD k .dead):=by grind
theorem frz_mk:frz (Ag l)=Ag (l.map frz):=by
 unfold Ag frz;rw[length_map]
 congr 1
 funext k
 rw[Bp rfl]
theorem Ac0:BQ σ (Ag l)=Ag (l.map (BQ σ)):=by
 unfold Ag;show V.many .ag l.length (λk=>BQ σ (l.getD k .dead))=_
 rw[length_map]
 congr 1
 funext k
 rw[Bp rfl]
def B7:List V->Nat->List V×List V
 |[],_=>([],[])
 |v::vs,m=>((prom v m).1::(B7 vs (m+(prom v m).2.length)).1,(prom v m).2++(B7 vs (m+(prom v m).2.length)).2)
def LE:∀(l:List V) (v:V) (m:Nat),B7 (l++[v]) m=((B7 l m).1++[(prom v (m+(B7 l m).2.length)).1],(B7 l m).2++(prom v (m+(B7 l m).2.length)).2)
 |[],v,m=>by simp[B7]
 |w::l,v,m=>by
  simp[B7,LE l v,List.length_append,Nat.add_assoc,List.append_assoc]
def C4:∀(l:List V) (m:Nat),(B7 l m).1.length=l.length
 |[],_=>rfl
 |v::l,m=>by simp[B7,C4 l]
theorem IE:∀n,n<=l.length->BO (λk=>prom (l.getD k .dead)) n m=B7 (l.take n) m:=by
 intro n
 induction n with
 |zero=>intro _;rfl
 |succ n u=>
  intro A
  have e:l.take (n+1)=l.take n++[l.getD n .dead]:=by
   rw[List.take_add_one]
   grind
  rw[e,LE];unfold BO
  grind
theorem X4:prom (Ag l) m=(Ag (B7 l m).1,(B7 l m).2):=by
 unfold Ag;show(V.many .ag l.length (λk=>(BO (λk=>prom (l.getD k .dead)) l.length m).1.getD k .dead),(BO (λk=>prom (l.getD k .dead)) l.length m).2)=_
 rw[IE l.length (Nat.le_refl _),take_length,C4]
def Dq(l:List V):V:=.many .tu l.length λk=>l.getD k .dead
theorem Aab:prom (Dq l) m=(Dq (B7 l m).1,(B7 l m).2):=by
 unfold Dq;show(V.many .tu l.length (λk=>(BO (λk=>prom (l.getD k .dead)) l.length m).1.getD k .dead),(BO (λk=>prom (l.getD k .dead)) l.length m).2)=_
 rw[IE l.length (Nat.le_refl _),take_length,C4]
def pkL(t:Tg)(l:List V):V:=.many t l.length λk=>l.getD k .dead
theorem frz_pk:frz (pkL t l)=pkL t (l.map frz):=by
 unfold pkL frz;rw[length_map]
 congr 1
 funext k
 rw[Bp rfl]
def Ach:AK (pkL t l)=l.any AK:=by
 rw[<-KY];rfl
theorem AcF:prom (pkL t l) m=(pkL t (B7 l m).1,(B7 l m).2):=by
 unfold pkL;show(V.many t l.length (λk=>(BO (λk=>prom (l.getD k .dead)) l.length m).1.getD k .dead),(BO (λk=>prom (l.getD k .dead)) l.length m).2)=_
 rw[IE l.length (Nat.le_refl _),take_length,C4]
theorem Ac1{g:Nat}:BQ σ (pkL (.cl g) l)=pkL (.cl g) (l.map (BQ σ)):=by
 show(if Tg.cl g=.bx then _ else V.many (.cl g) l.length λk=>BQ σ (l.getD k .dead))=_
 rw[if_neg (by simp)]
 unfold pkL;rw[length_map]
 congr 1
 funext k
 rw[Bp rfl]
theorem Aat:BQ σ (boxL l)=A8 false (l.map (BQ σ)):=by
 show V.nd false false l.length 1 (λi k=>if i=0 then BQ σ (l.getD k .dead)else .dead)=_
 unfold A8;rw[length_map]
 congr 1
 funext i k
 cases i with
 |zero=>
  simp only[if_true,List.getD_cons_zero];rw[Bp rfl]
 |succ i=>rfl
def LF{v:V}{e:List V}:B7 (v::e) m=((prom v m).1::(B7 e (m+(prom v m).2.length)).1,(prom v m).2++(B7 e (m+(prom v m).2.length)).2):=rfl
theorem Adk:frz (Dq l)=Dq (l.map frz):=by
 unfold Dq frz;rw[length_map]
 congr 1
 funext k
 rw[Bp rfl]
def ZT:AK (Dq l)=l.any AK:=by
 rw[<-KY];rfl
theorem JD(h:k<l.length):l.getD k .dead∈l:=by grind
theorem KZ:(∀k,k<l.length->BE (l.getD k .dead))= ∀v∈l,BE v:=by
 apply propext;constructor
 .intro h v e
  obtain⟨i,hi,rfl⟩:=List.getElem_of_mem e
  grind
 grind
def VZ:BE (Ag l)= ∀v∈l,BE v:=by
 show(Tg.ag≠.bx/\_)=_;rw[KZ];simp
def Qn:BE (Dq l)= ∀v∈l,BE v:=by
 show(Tg.tu≠.bx/\_)=_;rw[KZ];simp
theorem Nr:frz (A8 o l)=A8 false (l.map frz):=by
 unfold A8 frz;rw[length_map]
 congr 1
 funext i k
 cases i with
 |zero=>exact(Bp rfl).symm
 |succ i=>rfl
theorem Ns{g:α->List V}{d:α}{l:List α}:frz (arr o sz g d l)=arr false sz (λa=>(g a).map frz) d l:=by
 unfold arr frz
 congr 1
 funext i k
 rw[Bp rfl]
def Yu(v:V)(off len:Nat):V:=match v with
 |.nd _ _ sz _ f=>.nd true false sz len λi k=>frz (f (off+i) k)
 |_=>.dead
def Qv{p:List (Nat×Nat)}{off len:Nat}:BQ σ (.rs id p off len)=Yu (sub p (σ.getD id .dead)) off len:=rfl
theorem O2{n:Nat}{g:α->List V}{d:α}{l:List α}(h:n=l.length):Yu (arr o sz g d l) 0 n=arr false sz (λa=>(g a).map frz) d l:=by
 subst h;rw[<-Ns (o:=o)];show V.nd true false sz l.length (λi k=>frz ((g (l.getD (0+i) d)).getD k .dead))=_
 simp;rfl
def Aau(v:V)(i k:Nat):V:=match v with
 |.nd _ _ sz _ f=>.nd false false (sz-k) 1 λi' j=>if i'=0 then frz (f i (k+j))else .dead
 |_=>.dead
def Qw{p:List (Nat×Nat)}{i:Nat}:BQ σ (.rp id p i k)=Aau (sub p (σ.getD id .dead)) i k:=rfl
def LU:Aau (A8 o l) 0 k=A8 false ((l.drop k).map frz):=by
 show V.nd false false (l.length-k) 1 (λi' j=>if i'=0 then frz (([l].getD 0 []).getD (k+j) .dead)else .dead)=_
 unfold A8;rw[length_map,List.length_drop]
 congr 1
 funext i j
 cases i with
 |zero=>
  simp only[List.getD_cons_zero];rw[Bp rfl];simp
 |succ i=>rfl
end Go.Ve


namespace Go.Ve
@[reducible] def Wx {α:Type} (b:Bool) (x y:α):α:=bif b then x else y
@[reducible] def II {α A:Type} (o:Option α) (f:α->Option A):Option A:=o.bind f
@[reducible] def oif {α:Type} (p:Prop) (dec:Decidable p) (x:Option α):Option α:=@ite _ p dec x none
@[reducible] def nif {α:Type} (a b:Nat) (x y:α):α:=if a=b then x else y
@[reducible] def AdR {α:Type} (xs:List α) (i:Nat) (d:α):α:=xs.getD i d
@[reducible] def setX {α:Type} (xs:List α) (i:Nat) (x:α):List α:=xs.set i x
@[reducible] def H7 {α:Type} (xs:List α):Nat:=xs.length
@[reducible] def Abm {α:Type} (n:Nat) (x:α):List α:=List.replicate n x
@[reducible] def QJ {α:Type} (n:Nat) (xs:List α):List α:=xs.drop n
@[reducible] def PN {α:Type} (n:Nat) (xs:List α):List α:=xs.take n
@[reducible] def VG {α:Type} (off len:Nat) (xs:List α) (d:α):List α:=(range len).map λi=>xs.getD (off+i) d
@[reducible] def P4 (s:ByteArray):Nat:=s.size
@[reducible] def catS (a b:ByteArray):ByteArray:=a++b
@[reducible] def cutS (s:ByteArray) (a b:Nat):ByteArray:=s.extract a b
@[reducible] def AdW (a b:Bool):Bool:=a&&b
@[reducible] def eqB (a b:Bool):Bool:=a==b
@[reducible] def notB (b:Bool):Bool:=!b
@[reducible] def eqI (a b:Int):Bool:=decide (a=b)
@[reducible] def neI (a b:Int):Bool:=!decide (a=b)
@[reducible] def ltI (a b:Int):Bool:=decide (a<b)
@[reducible] def leI (a b:Int):Bool:=decide (a<=b)
@[reducible] def eqS (a b:ByteArray):Bool:=decide (a.data.toList=b.data.toList)
@[reducible] def neS (a b:ByteArray):Bool:=!decide (a.data.toList=b.data.toList)
@[reducible] def ltS (a b:ByteArray):Bool:=Op.bytesLess a.data.toList b.data.toList
@[reducible] def minI (x y:Int):Int:=if y<x then y else x
@[reducible] def maxI (x y:Int):Int:=if x<y then y else x
@[reducible] def ofN (n:Nat):Int:=n
@[reducible] def Lc (n:Int):Nat:=n.toNat
@[reducible] def Adz {α:Type} (xs ys:List α):List α:=xs++ys
end Go.Ve


namespace Go.Ve
def A1{α:Type _}{b:Bool}{x:Option α}{z:α}(h:(bif b then x else none)=some z):b=true/\x=some z:=by
 cases b with
 |false=>cases h
 |true=>exact⟨rfl,h⟩
inductive Ty where
 |int (k:IntKind)|bool|str|sl (t:Ty)|ptr (t:Ty)|unit|pair (a b:Ty)|clo (g:Nat) (t:Ty)|osl (t:Ty)|mp (k v:Ty)
deriving DecidableEq
@[reducible] def Ty.T:Ty->Type
 |.int _=>Int
 |.bool=>Bool
 |.str=>ByteArray
 |.sl t=>List t.T
 |.ptr t=>t.T
 |.unit=>Unit
 |.pair a b=>a.T×b.T
 |.clo _ t=>t.T
 |.osl t=>Option (List t.T)
 |.mp k v=>List (k.T×v.T)
def Ty.dflt:(t:Ty)->t.T
 |.int _=>(0:Int)
 |.bool=>false
 |.str=>ByteArray.mk #[]
 |.sl _=>[]
 |.ptr t=>t.dflt
 |.unit=>()
 |.pair a b=>(a.dflt,b.dflt)
 |.clo _ t=>t.dflt
 |.osl _=>some []
 |.mp _ _=>[]
def Ty.w:Ty->Nat
 |.unit=>0
 |.pair a b=>a.w+b.w
 |_=>1
def Ty.dep:Ty->Nat
 |.sl t=>t.dep+1
 |.ptr t=>t.dep+1
 |.pair a b=>max a.dep b.dep
 |.clo _ _=>1
 |.osl t=>t.dep+1
 |.mp _ _=>1
 |_=>0
def AcO{α:Type}(own:Bool)(sz:Nat)(f:α->List V)(d:α):Option (List α)->V
 |none=>.dead
 |some xs=>arr own sz f d xs
def AaH{α:Type}{own:Bool}{sz:Nat}{f:α->List V}{d:α}(x:Option (List α)):frz (AcO own sz f d x)=AcO false sz (λa=>(f a).map frz) d x:=by
 cases x with
 |none=>rfl
 |some xs=>simp[AcO,Ns]
def Dm:Ty->Bool
 |.pair _ _=>true
 |.unit=>true
 |_=>false
def valA(ag:Bool)(l:List Value):Value:=bif ag then .agg l.toArray else l.getD 0 undef
def tyV:(t:Ty)->Nat->t.T->List V
 |.int k,_,n=>[.c (.int k n)]
 |.bool,_,b=>[.c (.bool b)]
 |.str,_,s=>[.c (.string s)]
 |.sl t,d,xs=>[arr (decide (0<d)) t.w (tyV t (d-1)) t.dflt xs]
 |.ptr t,d,x=>[A8 (decide (0<d)) (tyV t (d-1) x)]
 |.unit,_,_=>[]
 |.pair a b,d,x=>tyV a d x.1++tyV b d x.2
 |.clo g t,_,x=>[.many (.cl g) t.w λk=>(tyV t 0 x).getD k .dead]
 |.osl t,d,x=>[AcO (decide (0<d)) t.w (tyV t (d-1)) t.dflt x]
 |.mp k v,d,x=>[.mp (decide (0<d)) (x.map λe=>(valA (Dm k) ((tyV k 0 e.1).map DC),valA (Dm v) ((tyV v 0 e.2).map DC)))]
def Av:∀(t:Ty) (d:Nat) (x:t.T),(tyV t d x).length=t.w
 |.int _,_,_=>rfl
 |.bool,_,_=>rfl
 |.str,_,_=>rfl
 |.sl _,_,_=>rfl
 |.ptr _,_,_=>rfl
 |.unit,_,_=>rfl
 |.pair a b,d,x=>by simp[tyV,Ty.w,Av a,Av b]
 |.clo _ _,_,_=>rfl
 |.osl _,_,_=>rfl
 |.mp _ _,_,_=>rfl
theorem Da:∀(t:Ty) (d e:Nat) (x:t.T),min d t.dep=min e t.dep->tyV t d x=tyV t e x
 |.int _,_,_,_,_=>rfl
 |.bool,_,_,_,_=>rfl
 |.str,_,_,_,_=>rfl
 |.sl t,d,e,xs,h=>by
  simp only[Ty.dep]at h
  have u:decide (0<d)=decide (0<e):=by
   rw[Bool.eq_iff_iff];simp;omega
  have A:tyV t (d-1)=tyV t (e-1):=funext λx=>Da t _ _ x (by omega)
  simp only[tyV,u,A]
 |.ptr t,d,e,x,h=>by
  simp only[Ty.dep]at h
  have u:decide (0<d)=decide (0<e):=by
   rw[Bool.eq_iff_iff];simp;omega
  simp only[tyV,u,Da t (d-1) (e-1) x (by omega)]
 |.unit,_,_,_,_=>rfl
 |.pair a b,d,e,x,h=>by
  simp only[Ty.dep]at h;simp only[tyV,Da a d e x.1 (by omega),Da b d e x.2 (by omega)]
 |.clo _ _,_,_,_,_=>rfl
 |.mp k v,d,e,x,h=>by
  simp only[Ty.dep]at h
  have u:decide (0<d)=decide (0<e):=by
   rw[Bool.eq_iff_iff];simp;omega
  simp only[tyV,u]
 |.osl t,d,e,x,h=>by
  simp only[Ty.dep]at h
  have u:decide (0<d)=decide (0<e):=by
   rw[Bool.eq_iff_iff];simp;omega
  have A:tyV t (d-1)=tyV t (e-1):=funext λx=>Da t _ _ x (by omega)
  simp only[tyV,u,A]
theorem Be:∀(t:Ty) (d:Nat) (x:t.T),(tyV t d x).map frz=tyV t 0 x
 |.int _,_,_=>rfl
 |.bool,_,_=>rfl
 |.str,_,_=>rfl
 |.sl t,d,xs=>by
  have e:(λa=>(tyV t (d-1) a).map frz)=tyV t 0:=funext λx=>Be t _ x
  simp[tyV,Ns,e]
 |.ptr t,d,x=>by simp[tyV,Nr,Be t]
 |.unit,_,_=>rfl
 |.pair a b,d,x=>by simp[tyV,Be a,Be b]
 |.mp _ _,_,_=>rfl
 |.osl t,d,x=>by
  have e:(λa=>(tyV t (d-1) a).map frz)=tyV t 0:=funext λx=>Be t _ x
  simp[tyV,AaH,e]
 |.clo g t,_,x=>by
  have e:(λk=>frz ((tyV t 0 x).getD k .dead))=λk=>(tyV t 0 x).getD k .dead:=by
   funext k
   have h:=Be t 0 x
   conv=>rhs;rw[<-h]
   simp[List.getElem?_map];cases (tyV t 0 x)[k]? <;>rfl
  show [V.many (.cl g) t.w λk=>frz ((tyV t 0 x).getD k .dead)]=[V.many (.cl g) t.w λk=>(tyV t 0 x).getD k .dead]
  rw[e]
def OT{α:Type}(l:List α):List (Option α):=l.map some
def unO{α:Type}(l:List (Option (List α))):List (List α):=l.map λx=>match x with
 |some y=>y
 |none=>[]
def isO{α:Type}:Option (List α)->Bool
 |some _=>true
 |none=>false
def getO{α:Type}:Option (List α)->List α
 |some xs=>xs
 |none=>[]
abbrev AG:=List (Nat×Nat)
inductive Cl where
 |dead
 |nil
 |nilp
 |nilf
 |nilm
 |c (t:Ty) (d:Nat) (x:t.T)
 |rf (id:Nat) (p:AG)
 |rs (id:Nat) (p:AG) (off len:Nat)
 |rp (id:Nat) (p:AG) (i k:Nat)
 |rm (id:Nat) (p:AG)
inductive Ab where
 |dead
 |obj (ro:Bool) (l:List Cl)
 |arr (ro:Bool) (t:Ty) (d:Nat) (xs:List t.T)
 |opt (ro:Bool) (t:Ty) (d:Nat) (x:Option (List t.T))
 |mp (ro:Bool) (k v:Ty) (x:List (k.T×v.T))
def Aq:(t:Ty)->Nat->t.T->List Cl
 |.unit,_,_=>[]
 |.pair a b,d,x=>Aq a d x.1++Aq b d x.2
 |.int k,d,x=>[.c (.int k) d x]
 |.bool,d,x=>[.c .bool d x]
 |.str,d,x=>[.c .str d x]
 |.sl t,d,x=>[.c (.sl t) d x]
 |.ptr t,d,x=>[.c (.ptr t) d x]
 |.clo g t,d,x=>[.c (.clo g t) d x]
 |.osl t,d,x=>[.c (.osl t) d x]
 |.mp k v,d,x=>[.c (.mp k v) d x]
def mpV(own:Bool)(k v:Ty)(x:List (k.T×v.T)):V:=.mp own (x.map λe=>(valA (Dm k) ((tyV k 0 e.1).map DC),valA (Dm v) ((tyV v 0 e.2).map DC)))
def cV:(t:Ty)->Nat->t.T->V
 |.int k,_,n=>.c (.int k n)
 |.bool,_,b=>.c (.bool b)
 |.str,_,s=>.c (.string s)
 |.sl t,d,xs=>arr (decide (0<d)) t.w (tyV t (d-1)) t.dflt xs
 |.ptr t,d,x=>A8 (decide (0<d)) (tyV t (d-1) x)
 |.clo g t,_,x=>.many (.cl g) t.w λk=>(tyV t 0 x).getD k .dead
 |.osl t,d,x=>AcO (decide (0<d)) t.w (tyV t (d-1)) t.dflt x
 |.mp k v,d,x=>mpV (decide (0<d)) k v x
 |.unit,_,_=>.dead
 |.pair _ _,_,_=>.dead
def Cl.v0:Cl->V
 |.dead=>.dead
 |.nil=>.c (.slice none 0 0)
 |.nilp=>.c (.pointer none)
 |.nilf=>.c .nilFunc
 |.nilm=>.c (.map none)
 |.c t d x=>cV t d x
 |_=>.dead
def Ab.v:Ab->V
 |.dead=>.dead
 |.obj _ l=>A8 true (l.map Cl.v0)
 |.arr _ t d xs=>Go.Ve.arr true t.w (tyV t d) t.dflt xs
 |.opt _ t d x=>AcO true t.w (tyV t d) t.dflt x
 |.mp _ k v x=>mpV true k v x
def Bs:∀(t:Ty) (d:Nat) (x:t.T),(Aq t d x).map Cl.v0=tyV t d x
 |.int _,_,_=>rfl
 |.bool,_,_=>rfl
 |.str,_,_=>rfl
 |.sl _,_,_=>rfl
 |.ptr _,_,_=>rfl
 |.clo _ _,_,_=>rfl
 |.mp _ _,_,_=>rfl
 |.osl _,_,_=>rfl
 |.unit,_,_=>rfl
 |.pair a b,d,x=>by simp[Aq,tyV,Bs a,Bs b]
def Cl.node(ro:Bool):Cl->Ab
 |.c (.sl t) (d+1) xs=>.arr ro t d xs
 |.c (.ptr t) (d+1) x=>.obj ro (Aq t d x)
 |.c (.osl t) (d+1) x=>.opt ro t d x
 |.c (.mp k v) (_+1) x=>.mp ro k v x
 |_=>.dead
def Ab.cells:Ab->Nat->List Cl
 |.obj _ l,0=>l
 |.obj _ _,_+1=>[]
 |.arr _ t d xs,i=>Aq t d (AdR xs i t.dflt)
 |.opt _ _ _ _,_=>[]
 |.mp _ _ _ _,_=>[]
 |.dead,_=>[]
def Ab.ro:Ab->Bool
 |.obj ro _=>ro
 |.arr ro _ _ _=>ro
 |.opt ro _ _ _=>ro
 |.mp ro _ _ _=>ro
 |.dead=>true
def Ab.at':Ab->AG->Ab
 |r,[]=>r
 |r,(i,k)::p=>(((r.cells i).getD k .dead).node r.ro).at' p
def Ab.len:Ab->Nat
 |.arr _ _ _ xs=>H7 xs
 |.opt _ _ _ (some xs)=>H7 xs
 |.opt _ _ _ none=>0
 |.mp _ _ _ _=>0
 |.obj _ _=>1
 |.dead=>0
def Ac(r:List Ab)(id:Nat)(p:AG):Ab:=(r.getD id .dead).at' p
def Cl.v(r:List Ab):Cl->V
 |.dead=>.dead
 |.nil=>.c (.slice none 0 0)
 |.nilp=>.c (.pointer none)
 |.nilf=>.c .nilFunc
 |.nilm=>.c (.map none)
 |.c t d x=>cV t d x
 |.rf id p=>.rs id p 0 (Ac r id p).len
 |.rs id p off len=>.rs id p off len
 |.rp id p i k=>.rp id p i k
 |.rm id p=>.rm id p
inductive Sl where
 |one (c:Cl)
 |new (l:List Cl)
 |agg (l:List Cl)
 |tup (l:List (Bool×List Cl))
 |pk (t:Tg) (l:List Cl)
def Sl.v(r:List Ab):Sl->V
 |.one c=>c.v r
 |.new l=>A8 true (l.map Cl.v0)
 |.agg l=>Ag (l.map (Cl.v r))
 |.tup l=>Dq (l.map λp=>if p.1 then Ag (p.2.map (Cl.v r))else(p.2.map (Cl.v r)).getD 0 .dead)
 |.pk t l=>pkL t (l.map (Cl.v r))
structure St where
 t:Nat->Sl
 r:List Ab
def St.den(s:St):Ms:=⟨λi=>(s.t i).v s.r,s.r.map Ab.v⟩
theorem Abs{ro:Bool}{c:Cl}(h:(c.node ro)≠.dead):c.v0=(c.node ro).v:=by
 unfold Cl.node at h⊢;split at h<;>try grind
 .rfl
 .simp[Cl.v0,cV,Ab.v,Bs]
 all_goals rfl
theorem Az{α:Type}{f:α->V}{a:α}(e:f a=.dead)(l:List α)(k:Nat):(l.map f).getD k .dead=f (l.getD k a):=by grind
def Ab.live:Ab->Bool
 |.dead=>false
 |.opt _ _ _ _=>false
 |.mp _ _ _ _=>false
 |_=>true
def Ys{r:Ab}(h:r.live=true):r≠.dead:=by rintro rfl;cases h
theorem QM(r:Ab)(hd:r.live=true):∃s sz n f,r.v=.nd s true sz n f/\(∀i k,f i k=((r.cells i).getD k .dead).v0)/\n=r.len/\(s=false->n=1)/\
  (∀ro t d xs,r=.arr ro t d xs->s=true/\sz=t.w)/\(∀ro l,r=.obj ro l->s=false/\sz=l.length):=by
 cases r with
 |dead=>cases hd
 |opt=>cases hd
 |mp=>cases hd
 |obj ro l=>
  refine⟨false,_,_,_,rfl,?_,rfl,λ_=>rfl,λro t d xs h=>by grind,λro l h=>by grind⟩
  intro i k;cases i with
  |zero=>
   exact Az rfl l k
  |succ i=>rfl
 |arr ro t d xs=>
  refine⟨true,_,_,_,rfl,?_,rfl,(λh=>by cases h),λro t d xs h=>by grind,λro l h=>by cases h⟩
  intro i k;rw[<-Bs];exact Az rfl _ k
def CT:∀p,Ab.at' .dead p=.dead
 |[]=>rfl
 |(i,k)::p=>by
  exact CT p
theorem Abi:∀(p:AG) (r:Ab),r.at' p≠.dead->sub p r.v=(r.at' p).v
 |[],r,_=>rfl
 |(i,k)::p,r,h=>by
  have B:r.live=true:=by
   cases r with
   |dead=>exact absurd (CT _) h
   |opt ro t d x=>exact absurd (CT p) h
   |mp ro k v x=>exact absurd (CT p) h
   |_=>rfl
  obtain⟨s,sz,n,f,A,F,_⟩:=QM r B;rw[A];show sub p (f i k)=_;have u:(((r.cells i).getD k .dead).node r.ro).at' p≠.dead:=h;have E:((r.cells i).getD k .dead).node r.ro≠.dead:=by intro e;rw[e]at u;exact u (CT p)
  rw[F,Abs E,Abi p _ u];rfl
def AbW:∀(p q:AG) (r:Ab),r.at' (p++q)=(r.at' p).at' q
 |[],_,_=>rfl
 |(i,k)::p,q,r=>AbW p q _
def Ak(l:List Ab)(id:Nat):(l.map Ab.v).getD id .dead=(l.getD id .dead).v:=Az rfl l id
def AS{r:List Ab}{id:Nat}{p:AG}(h:Ac r id p≠.dead):sub p ((r.map Ab.v).getD id .dead)=(Ac r id p).v:=by
 rw[Ak];exact Abi p _ h
end Go.Ve


namespace Go.Ve
open Go
variable{P:Program}
def eqT:(t:Ty)->t.T->t.T->Bool
 |.int _,a,b=>decide ((show Int from a)=b)
 |.bool,a,b=>(show Bool from a)==b
 |.str,a,b=>decide ((show ByteArray from a).data.toList=(show ByteArray from b).data.toList)
 |.pair s t,a,b=>eqT s a.1 b.1&&eqT t a.2 b.2
 |.unit,_,_=>true
 |_,_,_=>false
def Jc:Ty->Bool
 |.int _=>true
 |.bool=>true
 |.str=>true
 |.unit=>true
 |.pair a b=>Jc a&&Jc b
 |_=>false
def Bw:Ty->List Nat
 |.int _=>[0]
 |.bool=>[1]
 |.str=>[2]
 |.pair a b=>Bw a++Bw b
 |_=>[]
def AU(t:Ty)(x:t.T):List Value:=(tyV t 0 x).map DC
def Ye:∀{ks e:List Nat}{l m A u:List Value},okL ks l m=true->okL e A u=true->okL (ks++e) (l++A) (m++u)=true
 |[],_,[],[],_,_,_,h=>h
 |k::ks,_,a::l,b::m,_,_,h,h'=>by
  have h:((kOf a==some k)&&(kOf b==some k)&&Cu a b&&okL ks l m)=true:=h;rw[bAE]at h;show((kOf a==some k)&&(kOf b==some k)&&Cu a b&&okL (ks++_) (l++_) (m++_))=true;rw[h.1,Ye h.2 h'];rfl
 |[],_,[],_::_,_,_,h,_=>by cases h
 |[],_,_::_,_,_,_,h,_=>by cases h
 |_::_,_,[],_,_,_,h,_=>by cases h
 |_::_,_,_::_,[],_,_,h,_=>by cases h
def QY:∀{ks:List Nat}{l m u e:List Value},okL ks l m=true->HI (l++u) (m++e)=(HI l m&&HI u e)
 |[],[],[],_,_,_=>rfl
 |k::ks,a::l,b::m,u,e,h=>by
  have h:((kOf a==some k)&&(kOf b==some k)&&Cu a b&&okL ks l m)=true:=h;rw[bAE]at h;show(vEq a b&&HI (l++u) (m++e))=((vEq a b&&HI l m)&&_);rw[QY h.2,Bool.and_assoc]
 |[],[],_::_,_,_,h=>by cases h
 |[],_::_,_,_,_,h=>by cases h
 |_::_,[],_,_,_,h=>by cases h
 |_::_,_::_,[],_,_,h=>by cases h
def Aax:∀(t:Ty) (a b:t.T),Jc t=true->okL (Bw t) (AU t a) (AU t b)=true/\HI (AU t a) (AU t b)=eqT t a b
 |.int k,a,b,_=>by
  refine⟨?_,?_⟩
  .simp[AU,tyV,DC,Bw,okL,kOf,Cu]
  .simp[AU,tyV,DC,HI,vEq,eqT]
 |.bool,a,b,_=>by
  refine⟨?_,?_⟩
  .simp[AU,tyV,DC,Bw,okL,kOf,Cu]
  .simp[AU,tyV,DC,HI,vEq,eqT]
 |.str,a,b,_=>by
  refine⟨?_,?_⟩
  .simp[AU,tyV,DC,Bw,okL,kOf,Cu]
  .simp[AU,tyV,DC,HI,vEq,eqT]
 |.unit,_,_,_=>⟨rfl,rfl⟩
 |.pair s t,a,b,h=>by
  simp only[Jc,bAE]at h;obtain⟨u,E⟩:=Aax s a.1 b.1 h.1;obtain⟨B,A⟩:=Aax t a.2 b.2 h.2;have e:∀x:(Ty.pair s t).T,AU (.pair s t) x=AU s x.1++AU t x.2:=λx=>by simp[AU,tyV]
  rw[e,e];exact⟨Ye u B,by rw[QY u,E,A];rfl⟩
 |.sl _,_,_,h=>by cases h
 |.ptr _,_,_,h=>by cases h
 |.clo _ _,_,_,h=>by cases h
 |.osl _,_,_,h=>by cases h
 |.mp _ _,_,_,h=>by cases h
def DI(t:Ty)(x:t.T):Value:=valA (Dm t) (AU t x)
theorem kEq_v:∀(t:Ty) (a b:t.T),Jc t=true->kEq (DI t a) (DI t b)=eqT t a b:=by
 intro t a b h;have A:=(Aax t a b h).2;cases t with
 |int k=>
  have e:vEq (Value.int k a) (Value.int k b)=eqT (.int k) a b:=by simpa [AU,tyV,DC,HI]using A
  exact e
 |bool=>
  have e:vEq (Value.bool a) (Value.bool b)=eqT .bool a b:=by simpa [AU,tyV,DC,HI]using A
  exact e
 |str=>
  have e:vEq (Value.string a) (Value.string b)=eqT .str a b:=by simpa [AU,tyV,DC,HI]using A
  exact e
 |unit=>rfl
 |pair u v=>exact A
 |_=>cases h
def HB(k v:Ty)(key:k.T):List (k.T×v.T)->Option v.T
 |[]=>none
 |e::l=>bif eqT k key e.1 then some e.2 else HB k v key l
def QI(k v:Ty)(xs:List (k.T×v.T)):List (Value×Value):=xs.map λe=>(DI k e.1,DI v e.2)
def YT{k v:Ty}(u:Jc k=true)(key:k.T):∀xs:List (k.T×v.T),Ib (DI k key) (QI k v xs)=(HB k v key xs).map (DI v)
 |[]=>rfl
 |e::xs=>by
  show(bif kEq (DI k key) (DI k e.1)then some (DI v e.2)else Ib _ (QI k v xs))=Option.map _ (bif eqT k key e.1 then some e.2 else HB k v key xs);rw[kEq_v k key e.1 u,YT u key xs];cases eqT k key e.1<;>rfl
def WV(k v:Ty)(key:k.T)(x:v.T):List (k.T×v.T)->List (k.T×v.T)
 |[]=>[(key,x)]
 |e::l=>bif eqT k key e.1 then(key,x)::l else e::WV k v key x l
def Abc{k v:Ty}(u:Jc k=true)(key:k.T)(x:v.T):∀xs:List (k.T×v.T),Abd (DI k key) (DI v x) (QI k v xs)=QI k v (WV k v key x xs)
 |[]=>rfl
 |e::xs=>by
  show(bif kEq (DI k key) (DI k e.1)then(DI k key,DI v x)::QI k v xs else(DI k e.1,DI v e.2)::Abd _ _ (QI k v xs))=QI k v (bif eqT k key e.1 then(key,x)::xs else e::WV k v key x xs);rw[kEq_v k key e.1 u,Abc u key x xs];cases eqT k key e.1<;>rfl
theorem pair_v{kt:TypeId}{t:Ty}{a b:t.T}(B:Jc t=true)(h:bif Dm t then Nu P kt=some (Bw t)/\Bw t≠[9]else ∃n,Bw t=[n]/\knd P kt=some n):BI P kt (DI t a) (DI t b)=true:=by
 have E:=(Aax t a b B).1;cases t with
 |int k=>
  obtain⟨n,e,A⟩:=h;cases e;show BI P kt (Value.int k a) (Value.int k b)=true;simp[BI,A,kOf,Cu]
 |bool=>
  obtain⟨n,e,A⟩:=h;cases e;show BI P kt (Value.bool a) (Value.bool b)=true;simp[BI,A,kOf,Cu]
 |str=>
  obtain⟨n,e,A⟩:=h;cases e;show BI P kt (Value.string a) (Value.string b)=true;simp[BI,A,kOf,Cu]
 |unit=>
  show(match Nu P kt with|some ks=>decide (ks≠[9])&&okL ks _ _|none=>false)=true
  rw[h.1];rfl
 |pair u v=>
  show(match Nu P kt with|some ks=>decide (ks≠[9])&&okL ks (AU (.pair u v) a) (AU (.pair u v) b)|none=>false)=true
  rw[h.1];show(decide _&&_)=true;rw[E,dT h.2];rfl
 |_=>cases B
structure MpI where
 kt:TypeId
 et:TypeId
 kn:Option Nat
 eq:Option (List Nat)
 ck:Bool
 z:Option Value
def ckS(P:Program)(kt:TypeId):Bool:=match knd P kt with
 |some _=>true
 |none=>match P.underlying kt,Nu P kt with
  |some (.struct fs),some ks=>fs.toList.all λf=>(knd P f.type).isSome&&decide (f.offset<ks.length)
  |_,_=>false
def mpI(P:Program)(t:TypeId):Option MpI:=match WI P t with
 |some (k,e)=>some ⟨k,e,knd P k,bif(knd P k).isSome then none else Nu P k,ckS P k,PF P e⟩
 |none=>none
def zT:Ty->Value
 |.mp _ _=>.map none
 |v=>DI v v.dflt
def mpW:Ty->Option (TypeId×TypeId)->Option MpI
 |.mp k v,some (kt,et)=>some ⟨kt,et,bif Dm k then none else(Bw k).head?,bif Dm k then some (Bw k)else none,true,some (zT v)⟩
 |_,_=>none
def Y1(t:Ty)(x:t.T):(AU t x).length=t.w:=by unfold AU;rw[length_map,Av]
def Kn:∀(t:Ty),Jc t=true->(Bw t).length=t.w
 |.int _,_=>rfl
 |.bool,_=>rfl
 |.str,_=>rfl
 |.unit,_=>rfl
 |.pair a b,h=>by
  simp only[Jc,bAE]at h;simp[Bw,Ty.w,Kn a h.1,Kn b h.2]
 |.sl _,h=>by cases h
 |.ptr _,h=>by cases h
 |.clo _ _,h=>by cases h
 |.osl _,h=>by cases h
 |.mp _ _,h=>by cases h
def Ni:∀(t:Ty),∀k∈Bw t,k≠9
 |.int _,k,h=>by simp[Bw]at h;omega
 |.bool,k,h=>by simp[Bw]at h;omega
 |.str,k,h=>by simp[Bw]at h;omega
 |.unit,k,h=>by cases h
 |.pair a b,k,h=>by
  simp only[Bw,List.mem_append]at h;exact h.elim (Ni a k) (Ni b k)
 |.sl _,k,h=>by cases h
 |.ptr _,k,h=>by cases h
 |.clo _ _,k,h=>by cases h
 |.osl _,k,h=>by cases h
 |.mp _ _,k,h=>by cases h
def map_v{t:TypeId}{k v:Ty}{q:Option (TypeId×TypeId)}(F:Jc k=true)(O:Jc v=true)(h:mpI P t=mpW (.mp k v) q)(W:q≠none):∃kt et,WI P t=some (kt,et)/\PF P et=some (DI v v.dflt)/\(∀x:k.T,Zu P kt (DI k x)=true)/\∀x y:k.T,BI P kt (DI k x) (DI k y)=true:=by
 cases q with
 |none=>exact absurd rfl W
 |some q=>
 obtain⟨kt,et⟩:=q;unfold mpI at h;split at h
 case h_2=>cases h
 rename_i k' J Z;have h:(MpI.mk k' J (knd P k') (bif(knd P k').isSome then none else Nu P k') (ckS P k') (PF P J))=⟨kt,et,bif Dm k then none else(Bw k).head?,bif Dm k then some (Bw k)else none,true,some (zT v)⟩:=Option.some.inj h;simp only[MpI.mk.injEq]at h;obtain⟨rfl,rfl,E,u,B,H⟩:=h;have ez:zT v=DI v v.dflt:=by cases v<;>first|rfl|(cases O;done)
 rw[ez]at H;refine⟨_,_,Z,H,?_,?_⟩
 .intro x
  unfold ckS at B;unfold Zu;cases A:Dm k with
  |false=>
   rw[A]at E;have:∃n,knd P k'=some n:=by cases k<;>first|exact⟨_,E⟩|(cases A;done)|(cases F;done)
   obtain⟨n,Y⟩:=this;rw[Y]
  |true=>
   rw[A]at E u;rw[E]at u B⊢;simp only[cond_true]at u B⊢;have u:Nu P k'=some (Bw k):=u;rw[u]at B;have e:DI k x=.agg (AU k x).toArray:=by unfold DI;rw[A];rfl
   rw[e];split at B
   case h_2=>cases B
   rename_i fs ks U e2;cases e2;rw[U];rw[Kn k F]at B;show(fs.toList.all λf=>(knd P f.type).isSome&&decide (f.offset<(AU k x).toArray.size))=true
   rw[List.size_toArray,Y1];exact B
 .intro x y
  refine pair_v F ?_;cases A:Dm k with
  |false=>
   rw[A]at E;show ∃n,Bw k=[n]/\knd P k'=some n;cases k<;>first|exact⟨_,rfl,E⟩|(cases A;done)|(cases F;done)
  |true=>
   rw[A]at E u;rw[E]at u;have u:Nu P k'=some (Bw k):=u;refine⟨u,λe=>Ni k 9 (by rw[e];exact List.mem_singleton.2 rfl) rfl⟩
def NA{r:List Ab}:∀(t:Ty) (x:t.T),Jc t=true->(Aq t 0 x).map (Cl.v r)=(AU t x).map V.c
 |.int _,_,_=>rfl
 |.bool,_,_=>rfl
 |.str,_,_=>rfl
 |.unit,_,_=>rfl
 |.pair a b,x,h=>by
  simp only[Jc,bAE]at h;have e:AU (.pair a b) x=AU a x.1++AU b x.2:=by simp[AU,tyV]
  rw[e,List.map_append,<-NA (r:=r) a x.1 h.1,<-NA (r:=r) b x.2 h.2,<-List.map_append];rfl
 |.sl _,_,h=>by cases h
 |.ptr _,_,h=>by cases h
 |.clo _ _,_,h=>by cases h
 |.osl _,_,h=>by cases h
 |.mp _ _,_,h=>by cases h
def KN:∀(t:Ty) (x:t.T),Jc t=true->(AU t x).all (·.oneCell')=true
 |.int _,_,_=>rfl
 |.bool,_,_=>rfl
 |.str,_,_=>rfl
 |.unit,_,_=>rfl
 |.pair a b,x,h=>by
  simp only[Jc,bAE]at h;have e:AU (.pair a b) x=AU a x.1++AU b x.2:=by simp[AU,tyV]
  rw[e,List.all_append,KN a x.1 h.1,KN b x.2 h.2];rfl
 |.sl _,_,h=>by cases h
 |.ptr _,_,h=>by cases h
 |.clo _ _,_,h=>by cases h
 |.osl _,_,h=>by cases h
 |.mp _ _,_,h=>by cases h
def slT(t:Ty)(x:t.T):Sl:=bif Dm t then .agg (Aq t 0 x)else .one (.c t 0 x)
def slT_v{r:List Ab}:∀(t:Ty) (x:t.T),Jc t=true->AdI (DI t x)=(slT t x).v r/\WT (DI t x)=true
 |.int _,_,_=>⟨rfl,rfl⟩
 |.bool,_,_=>⟨rfl,rfl⟩
 |.str,_,_=>⟨rfl,rfl⟩
 |.unit,_,_=>⟨rfl,rfl⟩
 |.pair a b,x,h=>by
  refine⟨?_,?_⟩
  .show Ag ((AU (.pair a b) x).toArray.toList.map V.c)=Ag ((Aq (.pair a b) 0 x).map (Cl.v r))
   rw[NA _ _ h]
  .show((AU (.pair a b) x).toArray.toList.all (·.oneCell'))=true
   exact KN _ _ h
 |.sl _,_,h=>by cases h
 |.ptr _,_,h=>by cases h
 |.clo _ _,_,h=>by cases h
 |.osl _,_,h=>by cases h
 |.mp _ _,_,h=>by cases h
theorem Yy(l:List Value):Abx (Ag (l.map V.c))=some (.agg l.toArray):=by
 show(if((range (l.map V.c).length).all λk=>isCV ((l.map V.c).getD k .dead))=true then some (Value.agg ((range (l.map V.c).length).map λk=>DC ((l.map V.c).getD k .dead)).toArray)else none)=_
 rw[if_pos]
 .congr 3
  apply List.ext_getElem
  .simp
  .intro i u A
   simp at u;simp[DC,u]
 .rw[aET]
  intro k e;simp at e;simp[isCV,e]
end Go.Ve

