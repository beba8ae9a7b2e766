/- What is known of structs, tuples and slices of the small machine. -/
import Derived.Test.YtcpgmjbppfdjbaaDoorVu
import Derived.ChangeKeysEq
namespace Go.Ve
variable{o:Bool}{l σ:List V}{id k m sz:Nat}{t:Tg}{α:Type}{p:V->Bool}
theorem NW:cellsV (Ac l)=l:=by
 unfold Ac cellsV;apply List.ext_getElem?
 grind
def one1:V->Bool
 | .many ..=>false
 | .dead=>false
 |v=>!AE v
theorem WX:((List.range l.length).all λk=>p (l.getD k .dead))=l.all p:=by
 rw [Bool.eq_iff_iff,aET,aET];constructor
 ·intro h x hx
  obtain⟨i,hi,rfl⟩:=List.getElem_of_mem hx
  simp_all
 grind
theorem J0:((List.range l.length).any λk=>p (l.getD k .dead))=l.any p:=by
 rw [Bool.eq_iff_iff,List.any_eq_true,List.any_eq_true];constructor
 ·grind
 ·rintro ⟨x,hx,h⟩
  obtain⟨i,hi,rfl⟩:=List.getElem_of_mem hx;refine⟨i,List.mem_range.2 hi,?_⟩
  grind
theorem VU:Bo (Ac l)=l.all one1:=by
 rw [<-WX];rfl
theorem Vb:AE (Ac l)=l.any AE:=by
 rw [<-J0];rfl
theorem Bh{f:V->V}(hf:f .dead= .dead):(l.map f).getD k .dead=f (l.getD k .dead):=by grind
theorem frz_mk:frz (Ac l)=Ac (l.map frz):=by
 unfold Ac frz;rw [List.length_map]
 congr 1
 funext k
 rw [Bh rfl]
theorem Z3:BE σ (Ac l)=Ac (l.map (BE σ)):=by
 unfold Ac;show V.many .ag l.length (λk=>BE σ (l.getD k .dead))=_
 rw [List.length_map]
 congr 1
 funext k
 rw [Bh rfl]
def BU:List V->Nat->List V×List V
 | [],_=>([],[])
 |v::vs,m=>((prom v m).1::(BU vs (m+(prom v m).2.length)).1,(prom v m).2++(BU vs (m+(prom v m).2.length)).2)
theorem Kz: ∀ (l:List V) (v:V) (m:Nat),BU (l++ [v]) m=((BU l m).1++ [(prom v (m+(BU l m).2.length)).1],(BU l m).2++(prom v (m+(BU l m).2.length)).2)
 | [],v,m=>by simp [BU]
 |w::l,v,m=>by
  simp [BU,Kz l v,List.length_append,Nat.add_assoc,List.append_assoc]
theorem CE: ∀ (l:List V) (m:Nat),(BU l m).1.length=l.length
 | [],_=>rfl
 |v::l,m=>by simp [BU,CE l]
theorem HW: ∀n,n<=l.length->Bx (λk=>prom (l.getD k .dead)) n m=BU (l.take n) m:=by
 intro n
 induction n with
 |zero=>intro _;rfl
 |succ n ih=>
  intro hn
  have e:l.take (n+1)=l.take n++ [l.getD n .dead]:=by
   rw [List.take_add_one]
   grind
  rw [e,Kz];unfold Bx
  grind
theorem VS:prom (Ac l) m=(Ac (BU l m).1,(BU l m).2):=by
 unfold Ac;show(V.many .ag l.length (λk=>(Bx (λk=>prom (l.getD k .dead)) l.length m).1.getD k .dead),(Bx (λk=>prom (l.getD k .dead)) l.length m).2)=_
 rw [HW l.length (Nat.le_refl _),List.take_length,CE]
def C8(l:List V):V:=.many .tu l.length λk=>l.getD k .dead
theorem XN:prom (C8 l) m=(C8 (BU l m).1,(BU l m).2):=by
 unfold C8;show(V.many .tu l.length (λk=>(Bx (λk=>prom (l.getD k .dead)) l.length m).1.getD k .dead),(Bx (λk=>prom (l.getD k .dead)) l.length m).2)=_
 rw [HW l.length (Nat.le_refl _),List.take_length,CE]
def pkL(t:Tg)(l:List V):V:=.many t l.length λk=>l.getD k .dead
theorem frz_pk:frz (pkL t l)=pkL t (l.map frz):=by
 unfold pkL frz;rw [List.length_map]
 congr 1
 funext k
 rw [Bh rfl]
theorem Zw:AE (pkL t l)=l.any AE:=by
 rw [<-J0];rfl
theorem ZP:prom (pkL t l) m=(pkL t (BU l m).1,(BU l m).2):=by
 unfold pkL;show(V.many t l.length (λk=>(Bx (λk=>prom (l.getD k .dead)) l.length m).1.getD k .dead),(Bx (λk=>prom (l.getD k .dead)) l.length m).2)=_
 rw [HW l.length (Nat.le_refl _),List.take_length,CE]
theorem Z4{g:Nat}:BE σ (pkL (.cl g) l)=pkL (.cl g) (l.map (BE σ)):=by
 show(if Tg.cl g= .bx then _ else V.many (.cl g) l.length λk=>BE σ (l.getD k .dead))=_
 rw [if_neg (by simp)]
 unfold pkL;rw [List.length_map]
 congr 1
 funext k
 rw [Bh rfl]
theorem X0:BE σ (boxL l)=A7 false (l.map (BE σ)):=by
 show V.nd false false l.length 1 (λi k=>if i=0 then BE σ (l.getD k .dead)else .dead)=_
 unfold A7;rw [List.length_map]
 congr 1
 funext i k
 cases i with
 |zero=>
  simp only [if_true,List.getD_cons_zero];rw [Bh rfl]
 |succ i=>rfl
theorem KA{v:V}{vs:List V}:BU (v::vs) m=((prom v m).1::(BU vs (m+(prom v m).2.length)).1,(prom v m).2++(BU vs (m+(prom v m).2.length)).2):=rfl
theorem Aak:frz (C8 l)=C8 (l.map frz):=by
 unfold C8 frz;rw [List.length_map]
 congr 1
 funext k
 rw [Bh rfl]
theorem Xy:AE (C8 l)=l.any AE:=by
 rw [<-J0];rfl
theorem IT(h:k<l.length):l.getD k .dead∈l:=by grind
theorem J1:(∀k,k<l.length->Bp (l.getD k .dead))= ∀v∈l,Bp v:=by
 apply propext;constructor
 ·intro h v hv
  obtain⟨i,hi,rfl⟩:=List.getElem_of_mem hv
  grind
 grind
theorem Ua:Bp (Ac l)= ∀v∈l,Bp v:=by
 show(Tg.ag≠.bx/\_)=_;rw [J1];simp
theorem OH:Bp (C8 l)= ∀v∈l,Bp v:=by
 show(Tg.tu≠.bx/\_)=_;rw [J1];simp
theorem L9:frz (A7 o l)=A7 false (l.map frz):=by
 unfold A7 frz;rw [List.length_map]
 congr 1
 funext i k
 cases i with
 |zero=>exact(Bh rfl).symm
 |succ i=>rfl
theorem OY{g:α->List V}{d:α}{l:List α}:frz (arr o sz g d l)=arr false sz (λa=>(g a).map frz) d l:=by
 unfold arr frz
 congr 1
 funext i k
 rw [Bh rfl]
def Wf(v:V)(off len:Nat):V:=match v with
 | .nd _ _ sz _ f=>.nd true false sz len λi k=>frz (f (off+i) k)
 |_=>.dead
theorem OO{p:List (Nat×Nat)}{off len:Nat}:BE σ (.rs id p off len)=Wf (sub p (σ.getD id .dead)) off len:=rfl
theorem NC{n:Nat}{g:α->List V}{d:α}{l:List α}(h:n=l.length):Wf (arr o sz g d l) 0 n=arr false sz (λa=>(g a).map frz) d l:=by
 subst h;rw [<-OY (o:=o)];show V.nd true false sz l.length (λi k=>frz ((g (l.getD (0+i) d)).getD k .dead))=_
 simp;rfl
def X1(v:V)(i k:Nat):V:=match v with
 | .nd _ _ sz _ f=>.nd false false (sz-k) 1 λi' j=>if i'=0 then frz (f i (k+j))else .dead
 |_=>.dead
theorem OP{p:List (Nat×Nat)}{i:Nat}:BE σ (.rp id p i k)=X1 (sub p (σ.getD id .dead)) i k:=rfl
theorem KJ:X1 (A7 o l) 0 k=A7 false ((l.drop k).map frz):=by
 show V.nd false false (l.length-k) 1 (λi' j=>if i'=0 then frz (([l].getD 0 []).getD (k+j) .dead)else .dead)=_
 unfold A7;rw [List.length_map,List.length_drop]
 congr 1
 funext i j
 cases i with
 |zero=>
  simp only [List.getD_cons_zero];rw [Bh rfl];simp
 |succ i=>rfl
end Go.Ve


namespace Go.Ve
@[reducible] def N3 {α:Type} (b:Bool) (x y:α):α:=bif b then x else y
@[reducible] def H1 {α β:Type} (o:Option α) (f:α->Option β):Option β:=o.bind f
@[reducible] def oif {α:Type} (p:Prop) (dec:Decidable p) (x:Option α):Option α:=@ite _ p dec x none
@[reducible] def nif {α:Type} (a b:Nat) (x y:α):α:=if a=b then x else y
@[reducible] def Aaj {α:Type} (xs:List α) (i:Nat) (d:α):α:=xs.getD i d
@[reducible] def setX {α:Type} (xs:List α) (i:Nat) (x:α):List α:=xs.set i x
@[reducible] def H5 {α:Type} (xs:List α):Nat:=xs.length
@[reducible] def YN {α:Type} (n:Nat) (x:α):List α:=List.replicate n x
@[reducible] def O2 {α:Type} (n:Nat) (xs:List α):List α:=xs.drop n
@[reducible] def Og {α:Type} (n:Nat) (xs:List α):List α:=xs.take n
@[reducible] def QO {α:Type} (off len:Nat) (xs:List α) (d:α):List α:=(List.range len).map λi=>xs.getD (off+i) d
@[reducible] def Lx (s:ByteArray):Nat:=s.size
@[reducible] def catS (a b:ByteArray):ByteArray:=a++b
@[reducible] def cutS (s:ByteArray) (a b:Nat):ByteArray:=s.extract a b
@[reducible] def Xb (s:ByteArray) (i:Nat):Int:=((s.data.toList.getD i 0).toNat:Int)
@[reducible] def AaQ (a b:Bool):Bool:=a&&b
@[reducible] def eqB (a b:Bool):Bool:=a==b
@[reducible] def notB (b:Bool):Bool:=!b
@[reducible] def eqI (a b:Int):Bool:=decide (a=b)
@[reducible] def neI (a b:Int):Bool:=!decide (a=b)
@[reducible] def ltI (a b:Int):Bool:=decide (a<b)
@[reducible] def leI (a b:Int):Bool:=decide (a<=b)
@[reducible] def eqS (a b:ByteArray):Bool:=decide (a.data.toList=b.data.toList)
@[reducible] def neS (a b:ByteArray):Bool:=!decide (a.data.toList=b.data.toList)
@[reducible] def ltS (a b:ByteArray):Bool:=Op.bytesLess a.data.toList b.data.toList
@[reducible] def minI (x y:Int):Int:=if y<x then y else x
@[reducible] def maxI (x y:Int):Int:=if x<y then y else x
@[reducible] def ofN (n:Nat):Int:=n
@[reducible] def Jv (n:Int):Nat:=n.toNat
@[reducible] def Aay {α:Type} (xs ys:List α):List α:=xs++ys
end Go.Ve


namespace Go.Ve
open Go
variable{k:Nat}{P:Program}{e t:TypeId}
def knd(P:Program)(t:TypeId):Option Nat:=match P.underlying t with
 |some (.int _)=>some 0
 |some .bool=>some 1
 |some .string=>some 2
 |_=>none
def Xc(P:Program)(t:TypeId):Option (List Nat):=match P.underlying t with
 |some .bool=>some [9]
 | some (.struct fs) => if fs.toList.all (λf => f.name != "_") && !P.stoodInHeld t && !P.eqGuardType P.depth t && decide (fs.toList.map (·.offset) = List.range fs.toList.length) then fs.toList.mapM (λf => knd P f.type) else none
 |some (.array n e)=>if P.cellsOf e==1&& !P.eqGuardType P.depth t then(match knd P e with
   |some k=>some (List.replicate n k)
   |none=>none)else none
 |_=>none
def kOf:Value->Option Nat
 | .int _ _=>some 0
 | .bool _=>some 1
 | .string _=>some 2
 |_=>none
def Je:Value->Value->Bool
 | .int k _,.int k' _=>decide (k=k')
 |_,_=>true
def vEq:Value->Value->Bool
 | .int _ a,.int _ b=>decide (a=b)
 | .bool a,.bool b=>a==b
 | .string a,.string b=>decide (a.data.toList=b.data.toList)
 |_,_=>false
theorem Hp(h:knd P e=some k):P.plainKey e=true:=by
 unfold knd at h;unfold Program.plainKey
 grind
theorem WC(w:World){d:Nat}{a b:Value}(hk:knd P e=some k)(ha:kOf a=some k)(hb:kOf b=some k)(hs:Je a b=true):(Op.equalIn (d+1) e a b).run P w= .ok (vEq a b) w:=by
 unfold knd at hk;split at hk
 ·rename_i q hu
  cases hk;cases a<;>try (cases ha;done)
  cases b<;>try (cases hb;done)
  rename_i k1 x k2 y;have hkk:k1=k2:=by simpa [Je]using hs
  subst hkk;simp [Op.equalIn,run_underlying hu,vEq];rfl
 ·rename_i hu
  cases hk;cases a<;>try (cases ha;done)
  cases b<;>try (cases hb;done)
  simp [Op.equalIn,run_underlying hu,vEq]
 ·rename_i hu
  cases hk;cases a<;>try (cases ha;done)
  cases b<;>try (cases hb;done)
  rename_i x y
  have e:(x==y)=decide (x.data.toList=y.data.toList):=by
   rw [beq_toListBytes,ByteArray.toList_eq,ByteArray.toList_eq];rw [Bool.eq_iff_iff];simp
  simp [Op.equalIn,run_underlying hu,vEq,e]
 ·cases hk
def Pf:List Value->List Value->Bool
 |a::l,b::m=>vEq a b&&Pf l m
 |_,_=>true
def okL:List Nat->List Value->List Value->Bool
 |k::ks,a::l,b::m=>(kOf a==some k)&&(kOf b==some k)&&Je a b&&okL ks l m
 | [],[],[]=>true
 |_,_,_=>false
theorem NP{P:Program}(w:World){e:TypeId}{k d:Nat}(hk:knd P e=some k)(xs ys:Array Value): ∀ (n off:Nat) (l m:List Value),xs.toList.drop off=l->ys.toList.drop off=m->okL (List.replicate n k) l m=true->
  (Op.eqItems (d+1) e 1 xs ys (List.range' off n)).run P w= .ok (Pf l m) w
 |0,off,l,m,_,_,h=>by
  cases l<;>cases m<;>first|(cases h;done)|rfl
 |n+1,off,l,m,hl,hm,h=>by
  cases l with
  |nil=>cases m<;>cases h
  |cons a l=>
  cases m with
  |nil=>cases h
  |cons b m=>
  have h:((kOf a==some k)&&(kOf b==some k)&&Je a b&&okL (List.replicate n k) l m)=true:=h;simp only [bAE,beq_iff_eq]at h;obtain⟨⟨⟨h1,h2⟩,h3⟩,h4⟩:=h;have ga:xs[off]? =some a:=by
   have:=congrArg (·[0]?) hl
   simpa using this
  have gb:ys[off]? =some b:=by
   have:=congrArg (·[0]?) hm
   simpa using this
  have ta:xs.toList.drop (off+1)=l:=by
   have:=congrArg (List.drop 1) hl;simpa [List.drop_drop,Nat.add_comm]using this
  have tb:ys.toList.drop (off+1)=m:=by
   have:=congrArg (List.drop 1) hm;simpa [List.drop_drop,Nat.add_comm]using this
  have ih:=NP w (d:=d) hk xs ys n (off+1) l m ta tb h4;rw [List.range'_succ];simp only [Op.eqItems,Sem.run_bind,Nat.mul_one,run_part_plain w (Hp hk) ga,run_part_plain w (Hp hk) gb,Result.andThen_ok,WC w hk h1 h2 h3];cases hv:vEq a b with
  |false=>simp [Pf,hv]
  |true=>simpa [Pf,hv]using ih
theorem KV {P : Program} (w : World) {d : Nat} (xs ys : Array Value) : ∀ (fs : List Field) (ks : List Nat) (off : Nat) (l m : List Value), fs.all (λf => f.name != "_") = true → fs.map (·.offset) = List.range' off fs.length → fs.mapM (λf => knd P f.type) = some ks →
  xs.toList.drop off=l->ys.toList.drop off=m->okL ks l m=true->(Op.eqFields (d+1) xs ys fs).run P w= .ok (Pf l m) w
 | [],ks,off,l,m,_,_,hk,_,_,h=>by
  simp at hk;subst hk;cases l<;>cases m<;>first|(cases h;done)|rfl
 |f::fs,ks,off,l,m,hn,ho,hk,hl,hm,h=>by
  rw [List.mapM_cons]at hk;simp only [bind,Option.bind_eq_some_iff,pure,Option.some.injEq]at hk;obtain⟨k,hk1,ks',hk2,rfl⟩:=hk;cases l with
  |nil=>cases m<;>cases h
  |cons a l=>
  cases m with
  |nil=>cases h
  |cons b m=>
  have h:((kOf a==some k)&&(kOf b==some k)&&Je a b&&okL ks' l m)=true:=h;simp only [bAE,beq_iff_eq]at h;obtain⟨⟨⟨h1,h2⟩,h3⟩,h4⟩:=h;rw [List.all_cons,bAE]at hn;rw [List.map_cons,List.length_cons,List.range'_succ,List.cons.injEq]at ho;have ga:xs[off]? =some a:=by
   have:=congrArg (·[0]?) hl
   simpa using this
  have gb:ys[off]? =some b:=by
   have:=congrArg (·[0]?) hm
   simpa using this
  have ta:xs.toList.drop (off+1)=l:=by
   have:=congrArg (List.drop 1) hl;simpa [List.drop_drop,Nat.add_comm]using this
  have tb:ys.toList.drop (off+1)=m:=by
   have:=congrArg (List.drop 1) hm;simpa [List.drop_drop,Nat.add_comm]using this
  have ih:=KV w (d:=d) xs ys fs ks' (off+1) l m hn.2 ho.2 hk2 ta tb h4;have hne : f.name ≠ "_" := by simpa using hn.1
  simp only [Op.eqFields,hne,ne_eq,not_false_eq_true,if_true,Sem.run_bind,ho.1,run_part_plain w (Hp hk1) ga,run_part_plain w (Hp hk1) gb,Result.andThen_ok,WC w hk1 h1 h2 h3];cases hv:vEq a b with
  |false=>simp [Pf,hv]
  |true=>simpa [Pf,hv]using ih
theorem WA(w:World){ks:List Nat}{xs ys:Array Value}(h:Xc P t=some ks)(hn:ks≠[9])(hx:okL ks xs.toList ys.toList=true):
  (Op.equal t (.agg xs) (.agg ys)).run P w= .ok (Pf xs.toList ys.toList) w/\P.eqGuardType P.depth t=false:=by
 unfold Xc at h;split at h
 ·grind
 ·rename_i fs hu
  split at h
  case isFalse=>cases h
  rename_i hc;simp only [bAE,Bool.not_eq_true',decide_eq_true_eq]at hc;obtain⟨⟨⟨h1,h2⟩,h3⟩,h4⟩:=hc;refine⟨?_,h3⟩;have ef:P.fieldsOf t=fs:=by unfold Program.fieldsOf;rw [hu]
  show(Op.equalIn (9998+1+1) t (.agg xs) (.agg ys)).run P w=_;rw [run_equalIn_struct w _ t xs ys (by grind) h2,ef]
  exact KV w xs ys fs.toList ks 0 _ _ h1 (by rw [h4,List.range_eq_range']) h rfl rfl hx
 ·rename_i n e hu
  split at h
  case isFalse=>cases h
  rename_i hc;simp only [bAE,Bool.not_eq_true',beq_iff_eq]at hc;split at h
  case h_2=>cases h
  rename_i k hk;cases h;refine⟨?_,hc.2⟩;obtain⟨i,hi⟩: ∃i,P.info? e=some i:=by
   unfold knd at hk;split at hk
   ·rename_i he;exact info_of_underlying he
   ·rename_i he;exact info_of_underlying he
   ·rename_i he;exact info_of_underlying he
   ·cases hk
  show(Op.equalIn (9998+1+1) t (.agg xs) (.agg ys)).run P w=_;rw [run_equalIn_array w _ xs ys hu hi,hc.1,List.range_eq_range'];exact NP w hk xs ys n 0 _ _ rfl rfl hx
 ·cases h
theorem YX(h:knd P t=some k):k≠9:=by
 unfold knd at h
 grind
theorem V9{α:Type}{f:α->Option Nat}{l:List α}{m:List Nat}(h:l.mapM f=some (k::m)): ∃x,f x=some k:=by
 cases l with
 |nil=>grind
 |cons x l=>
  simp [Option.bind_eq_some_iff,List.cons.injEq]at h
  grind
theorem Ux(w:World){a b:Bool}(h:Xc P t=some [9]):(Op.equal t (.bool a) (.bool b)).run P w= .ok (a==b) w:=by
 unfold Xc at h;split at h
 ·rename_i hu
  have gen: ∀d,(Op.equalIn (d+1) t (.bool a) (.bool b)).run P w= .ok (a==b) w:=λd=>by simp [Op.equalIn,run_underlying hu]
  exact gen 9999
 ·split at h
  ·obtain⟨x,hx⟩:=V9 h
   exact absurd rfl (YX hx)
  ·cases h
 ·split at h
  ·split at h
   ·rename_i k hk
    have h:=Option.some.inj h;have key: ∀n,List.replicate n k= [9]->False:=λn e=>by
     have:9∈List.replicate n k:=by rw [e];simp
     rw [List.mem_replicate]at this;exact absurd this.2.symm (YX hk)
    exact(key _ h).elim
   ·cases h
  ·cases h
 ·cases h
end Go.Ve


namespace Go.Ve
variable{α:Type}
theorem A1{b:Bool}{x:Option α}{z:α}(h:(bif b then x else none)=some z):b=true/\x=some z:=by
 cases b with
 |false=>cases h
 |true=>exact⟨rfl,h⟩
inductive Ty where
 |int (k:IntKind)|bool|str|sl (t:Ty)|ptr (t:Ty)|unit|pair (a b:Ty)|clo (g:Nat) (t:Ty)|osl (t:Ty)
deriving DecidableEq
@[reducible] def Ty.T:Ty->Type
 | .int _=>Int
 | .bool=>Bool
 | .str=>ByteArray
 | .sl t=>List t.T
 | .ptr t=>t.T
 | .unit=>Unit
 | .pair a b=>a.T×b.T
 | .clo _ t=>t.T
 | .osl t=>Option (List t.T)
def Ty.dflt:(t:Ty)->t.T
 | .int _=>(0:Int)
 | .bool=>false
 | .str=>ByteArray.mk #[]
 | .sl _=>[]
 | .ptr t=>t.dflt
 | .unit=>()
 | .pair a b=>(a.dflt,b.dflt)
 | .clo _ t=>t.dflt
 | .osl _=>some []
def Ty.w:Ty->Nat
 | .unit=>0
 | .pair a b=>a.w+b.w
 |_=>1
def Ty.dep:Ty->Nat
 | .sl t=>t.dep+1
 | .ptr t=>t.dep+1
 | .pair a b=>max a.dep b.dep
 | .clo _ _=>1
 | .osl t=>t.dep+1
 |_=>0
def ZV{α:Type}(own:Bool)(sz:Nat)(f:α->List V)(d:α):Option (List α)->V
 |none=>.dead
 |some xs=>arr own sz f d xs
theorem Yd{own:Bool}{sz:Nat}{f:α->List V}{d:α}(x:Option (List α)):frz (ZV own sz f d x)=ZV false sz (λa=>(f a).map frz) d x:=by
 cases x with
 |none=>rfl
 |some xs=>simp [ZV,OY]
def tyV:(t:Ty)->Nat->t.T->List V
 | .int k,_,n=>[.c (.int k n)]
 | .bool,_,b=>[.c (.bool b)]
 | .str,_,s=>[.c (.string s)]
 | .sl t,d,xs=>[arr (decide (0<d)) t.w (tyV t (d-1)) t.dflt xs]
 | .ptr t,d,x=>[A7 (decide (0<d)) (tyV t (d-1) x)]
 | .unit,_,_=>[]
 | .pair a b,d,x=>tyV a d x.1++tyV b d x.2
 | .clo g t,_,x=>[.many (.cl g) t.w λk=>(tyV t 0 x).getD k .dead]
 | .osl t,d,x=>[ZV (decide (0<d)) t.w (tyV t (d-1)) t.dflt x]
theorem Aq: ∀ (t:Ty) (d:Nat) (x:t.T),(tyV t d x).length=t.w
 | .int _,_,_=>rfl
 | .bool,_,_=>rfl
 | .str,_,_=>rfl
 | .sl _,_,_=>rfl
 | .ptr _,_,_=>rfl
 | .unit,_,_=>rfl
 | .pair a b,d,x=>by simp [tyV,Ty.w,Aq a,Aq b]
 | .clo _ _,_,_=>rfl
 | .osl _,_,_=>rfl
theorem CJ: ∀ (t:Ty) (d d':Nat) (x:t.T),min d t.dep=min d' t.dep->tyV t d x=tyV t d' x
 | .int _,_,_,_,_=>rfl
 | .bool,_,_,_,_=>rfl
 | .str,_,_,_,_=>rfl
 | .sl t,d,d',xs,h=>by
  simp only [Ty.dep]at h
  have e1:decide (0<d)=decide (0<d'):=by
   rw [Bool.eq_iff_iff];simp;omega
  have e2:tyV t (d-1)=tyV t (d'-1):=funext λx=>CJ t _ _ x (by omega)
  simp only [tyV,e1,e2]
 | .ptr t,d,d',x,h=>by
  simp only [Ty.dep]at h
  have e1:decide (0<d)=decide (0<d'):=by
   rw [Bool.eq_iff_iff];simp;omega
  simp only [tyV,e1,CJ t (d-1) (d'-1) x (by omega)]
 | .unit,_,_,_,_=>rfl
 | .pair a b,d,d',x,h=>by
  simp only [Ty.dep]at h;simp only [tyV,CJ a d d' x.1 (by omega),CJ b d d' x.2 (by omega)]
 | .clo _ _,_,_,_,_=>rfl
 | .osl t,d,d',x,h=>by
  simp only [Ty.dep]at h
  have e1:decide (0<d)=decide (0<d'):=by
   rw [Bool.eq_iff_iff];simp;omega
  have e2:tyV t (d-1)=tyV t (d'-1):=funext λx=>CJ t _ _ x (by omega)
  simp only [tyV,e1,e2]
theorem Bd: ∀ (t:Ty) (d:Nat) (x:t.T),(tyV t d x).map frz=tyV t 0 x
 | .int _,_,_=>rfl
 | .bool,_,_=>rfl
 | .str,_,_=>rfl
 | .sl t,d,xs=>by
  have e:(λa=>(tyV t (d-1) a).map frz)=tyV t 0:=funext λx=>Bd t _ x
  simp [tyV,OY,e]
 | .ptr t,d,x=>by simp [tyV,L9,Bd t]
 | .unit,_,_=>rfl
 | .pair a b,d,x=>by simp [tyV,Bd a,Bd b]
 | .osl t,d,x=>by
  have e:(λa=>(tyV t (d-1) a).map frz)=tyV t 0:=funext λx=>Bd t _ x
  simp [tyV,Yd,e]
 | .clo g t,_,x=>by
  have e:(λk=>frz ((tyV t 0 x).getD k .dead))=λk=>(tyV t 0 x).getD k .dead:=by
   funext k
   have h:=Bd t 0 x
   conv=>rhs;rw [<-h]
   simp [List.getElem?_map];cases (tyV t 0 x)[k]? <;>rfl
  show [V.many (.cl g) t.w λk=>frz ((tyV t 0 x).getD k .dead)]= [V.many (.cl g) t.w λk=>(tyV t 0 x).getD k .dead]
  rw [e]
def Nt{α:Type}(l:List α):List (Option α):=l.map some
def unO{α:Type}(l:List (Option (List α))):List (List α):=l.map λx=>match x with
 |some y=>y
 |none=>[]
def isO{α:Type}:Option (List α)->Bool
 |some _=>true
 |none=>false
def getO{α:Type}:Option (List α)->List α
 |some xs=>xs
 |none=>[]
abbrev AR:=List (Nat×Nat)
inductive Cl where
 |dead
 |nil
 |nilp
 |nilf
 |c (t:Ty) (d:Nat) (x:t.T)
 |rf (id:Nat) (p:AR)
 |rs (id:Nat) (p:AR) (off len:Nat)
 |rp (id:Nat) (p:AR) (i k:Nat)
inductive Aa where
 |dead
 |obj (ro:Bool) (l:List Cl)
 |arr (ro:Bool) (t:Ty) (d:Nat) (xs:List t.T)
 |opt (ro:Bool) (t:Ty) (d:Nat) (x:Option (List t.T))
def Am:(t:Ty)->Nat->t.T->List Cl
 | .unit,_,_=>[]
 | .pair a b,d,x=>Am a d x.1++Am b d x.2
 | .int k,d,x=>[.c (.int k) d x]
 | .bool,d,x=>[.c .bool d x]
 | .str,d,x=>[.c .str d x]
 | .sl t,d,x=>[.c (.sl t) d x]
 | .ptr t,d,x=>[.c (.ptr t) d x]
 | .clo g t,d,x=>[.c (.clo g t) d x]
 | .osl t,d,x=>[.c (.osl t) d x]
def cV:(t:Ty)->Nat->t.T->V
 | .int k,_,n=>.c (.int k n)
 | .bool,_,b=>.c (.bool b)
 | .str,_,s=>.c (.string s)
 | .sl t,d,xs=>arr (decide (0<d)) t.w (tyV t (d-1)) t.dflt xs
 | .ptr t,d,x=>A7 (decide (0<d)) (tyV t (d-1) x)
 | .clo g t,_,x=>.many (.cl g) t.w λk=>(tyV t 0 x).getD k .dead
 | .osl t,d,x=>ZV (decide (0<d)) t.w (tyV t (d-1)) t.dflt x
 | .unit,_,_=>.dead
 | .pair _ _,_,_=>.dead
def Cl.v0:Cl->V
 | .dead=>.dead
 | .nil=>.c (.slice none 0 0)
 | .nilp=>.c (.pointer none)
 | .nilf=>.c .nilFunc
 | .c t d x=>cV t d x
 |_=>.dead
def Aa.v:Aa->V
 | .dead=>.dead
 | .obj _ l=>A7 true (l.map Cl.v0)
 | .arr _ t d xs=>Go.Ve.arr true t.w (tyV t d) t.dflt xs
 | .opt _ t d x=>ZV true t.w (tyV t d) t.dflt x
theorem Bu: ∀ (t:Ty) (d:Nat) (x:t.T),(Am t d x).map Cl.v0=tyV t d x
 | .int _,_,_=>rfl
 | .bool,_,_=>rfl
 | .str,_,_=>rfl
 | .sl _,_,_=>rfl
 | .ptr _,_,_=>rfl
 | .clo _ _,_,_=>rfl
 | .osl _,_,_=>rfl
 | .unit,_,_=>rfl
 | .pair a b,d,x=>by simp [Am,tyV,Bu a,Bu b]
def Cl.node(ro:Bool):Cl->Aa
 | .c (.sl t) (d+1) xs=>.arr ro t d xs
 | .c (.ptr t) (d+1) x=>.obj ro (Am t d x)
 | .c (.osl t) (d+1) x=>.opt ro t d x
 |_=>.dead
def Aa.cells:Aa->Nat->List Cl
 | .obj _ l,0=>l
 | .obj _ _,_+1=>[]
 | .arr _ t d xs,i=>Am t d (Aaj xs i t.dflt)
 | .opt _ _ _ _,_=>[]
 | .dead,_=>[]
def Aa.ro:Aa->Bool
 | .obj ro _=>ro
 | .arr ro _ _ _=>ro
 | .opt ro _ _ _=>ro
 | .dead=>true
def Aa.at':Aa->AR->Aa
 |r,[]=>r
 |r,(i,k)::p=>(((r.cells i).getD k .dead).node r.ro).at' p
def Aa.len:Aa->Nat
 | .arr _ _ _ xs=>H5 xs
 | .opt _ _ _ (some xs)=>H5 xs
 | .opt _ _ _ none=>0
 | .obj _ _=>1
 | .dead=>0
def Ab(r:List Aa)(id:Nat)(p:AR):Aa:=(r.getD id .dead).at' p
def Cl.v(r:List Aa):Cl->V
 | .dead=>.dead
 | .nil=>.c (.slice none 0 0)
 | .nilp=>.c (.pointer none)
 | .nilf=>.c .nilFunc
 | .c t d x=>cV t d x
 | .rf id p=>.rs id p 0 (Ab r id p).len
 | .rs id p off len=>.rs id p off len
 | .rp id p i k=>.rp id p i k
inductive Sl where
 |one (c:Cl)
 |new (l:List Cl)
 |agg (l:List Cl)
 |tup (l:List (Bool×List Cl))
 |pk (t:Tg) (l:List Cl)
def Sl.v(r:List Aa):Sl->V
 | .one c=>c.v r
 | .new l=>A7 true (l.map Cl.v0)
 | .agg l=>Ac (l.map (Cl.v r))
 | .tup l=>C8 (l.map λp=>if p.1 then Ac (p.2.map (Cl.v r))else(p.2.map (Cl.v r)).getD 0 .dead)
 | .pk t l=>pkL t (l.map (Cl.v r))
structure St where
 t:Nat->Sl
 r:List Aa
def St.den(s:St):Ms:=⟨λi=>(s.t i).v s.r,s.r.map Aa.v⟩
theorem YT{ro:Bool}{c:Cl}(h:(c.node ro)≠.dead):c.v0=(c.node ro).v:=by
 unfold Cl.node at h⊢;split at h<;>try grind
 ·rfl
 ·simp [Cl.v0,cV,Aa.v,Bu]
 rfl
theorem Ay{f:α->V}{a:α}(hf:f a= .dead)(l:List α)(k:Nat):(l.map f).getD k .dead=f (l.getD k a):=by grind
def Aa.live:Aa->Bool
 | .dead=>false
 | .opt _ _ _ _=>false
 |_=>true
theorem Wd{r:Aa}(h:r.live=true):r≠.dead:=by rintro rfl;cases h
theorem O4(r:Aa)(hd:r.live=true): ∃s sz n f,r.v= .nd s true sz n f/\(∀i k,f i k=((r.cells i).getD k .dead).v0)/\n=r.len/\(s=false->n=1)/\
  (∀ro t d xs,r= .arr ro t d xs->s=true/\sz=t.w)/\(∀ro l,r= .obj ro l->s=false/\sz=l.length):=by
 cases r with
 |dead=>cases hd
 |opt=>cases hd
 |obj ro l=>
  refine⟨false,_,_,_,rfl,?_,rfl,λ_=>rfl,λro t d xs h=>by grind,λro l h=>by grind⟩
  intro i k;cases i with
  |zero=>
   exact Ay rfl l k
  |succ i=>rfl
 |arr ro t d xs=>
  refine⟨true,_,_,_,rfl,?_,rfl,(λh=>by cases h),λro t d xs h=>by grind,λro l h=>by cases h⟩
  intro i k;rw [<-Bu];exact Ay rfl _ k
theorem Dv: ∀p,Aa.at' .dead p= .dead
 | []=>rfl
 |(i,k)::p=>by
  exact Dv p
theorem YH: ∀ (p:AR) (r:Aa),r.at' p≠.dead->sub p r.v=(r.at' p).v
 | [],r,_=>rfl
 |(i,k)::p,r,h=>by
  have hr:r.live=true:=by
   cases r with
   |dead=>exact absurd (Dv _) h
   |opt ro t d x=>exact absurd (Dv p) h
   |_=>rfl
  obtain⟨s,sz,n,f,hv,hf,_⟩:=O4 r hr;rw [hv];show sub p (f i k)=_;have h':(((r.cells i).getD k .dead).node r.ro).at' p≠.dead:=h;have hn:((r.cells i).getD k .dead).node r.ro≠.dead:=by intro e;rw [e]at h';exact h' (Dv p)
  rw [hf,YT hn,YH p _ h'];rfl
theorem Zd: ∀ (p q:AR) (r:Aa),r.at' (p++q)=(r.at' p).at' q
 | [],_,_=>rfl
 |(i,k)::p,q,r=>Zd p q _
theorem An(l:List Aa)(id:Nat):(l.map Aa.v).getD id .dead=(l.getD id .dead).v:=Ay rfl l id
theorem AP{r:List Aa}{id:Nat}{p:AR}(h:Ab r id p≠.dead):sub p ((r.map Aa.v).getD id .dead)=(Ab r id p).v:=by
 rw [An];exact YH p _ h
end Go.Ve

