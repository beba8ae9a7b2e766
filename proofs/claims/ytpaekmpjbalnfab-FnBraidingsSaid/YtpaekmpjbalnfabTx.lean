/- What is known of structs, tuples and slices of the small machine. -/
import Derived.Test.YtpaekmpjbalnfabVu
import Derived.ChangeKeysEq
namespace Go.Ve
theorem N5{l:List V}:cellsV (Ai l)=l:=by
 unfold Ai cellsV;apply List.ext_getElem?;intro i;simp only [List.getElem?_map];by_cases h:i<l.length
 ·simp [h]
 ·simp [Nat.le_of_not_lt h]
def one1:V->Bool
 | .many ..=>false
 | .dead=>false
 |v=>!AS v
theorem W6{p:V->Bool}{l:List V}:((List.range l.length).all fun k=>p (l.getD k .dead))=l.all p:=by
 rw [Bool.eq_iff_iff,aET,aET];constructor
 ·intro h x hx
  obtain⟨i,hi,rfl⟩:=List.getElem_of_mem hx;have:=h i (List.mem_range.2 hi);simpa [hi]using this
 ·intro h i hi
  have hi:=List.mem_range.1 hi;have:l.getD i .dead∈l:=by
   rw [gDE,gEE hi];exact List.getElem_mem hi
  exact h _ this
theorem J3{p:V->Bool}{l:List V}:((List.range l.length).any fun k=>p (l.getD k .dead))=l.any p:=by
 rw [Bool.eq_iff_iff,List.any_eq_true,List.any_eq_true];constructor
 ·rintro ⟨i,hi,h⟩
  have hi:=List.mem_range.1 hi;refine⟨l.getD i .dead,?_,h⟩;rw [gDE,gEE hi];exact List.getElem_mem hi
 ·rintro ⟨x,hx,h⟩
  obtain⟨i,hi,rfl⟩:=List.getElem_of_mem hx;refine⟨i,List.mem_range.2 hi,?_⟩;simpa [hi]using h
theorem V1{l:List V}:Bz (Ai l)=l.all one1:=by
 unfold Ai;rw [<-W6];rfl
theorem Vl{l:List V}:AS (Ai l)=l.any AS:=by
 unfold Ai;rw [<-J3];rfl
theorem Br{f:V->V}(hf:f .dead= .dead){l:List V}{k:Nat}:(l.map f).getD k .dead=f (l.getD k .dead):=by
 simp only [gDE,List.getElem?_map];cases l[k]? <;>simp [hf]
theorem frz_mk{l:List V}:frz (Ai l)=Ai (l.map frz):=by
 unfold Ai frz;rw [List.length_map]
 congr 1
 funext k
 rw [Br rfl]
theorem Aaa{σ:List V}{l:List V}:BQ σ (Ai l)=Ai (l.map (BQ σ)):=by
 unfold Ai;show V.many .ag l.length (fun k=>BQ σ (l.getD k .dead))=_
 rw [List.length_map]
 congr 1
 funext k
 rw [Br rfl]
def Cc:List V->Nat->List V×List V
 | [],_=>([],[])
 |v::vs,m=>((prom v m).1::(Cc vs (m+(prom v m).2.length)).1,(prom v m).2++(Cc vs (m+(prom v m).2.length)).2)
theorem KD: ∀ (l:List V) (v:V) (m:Nat),Cc (l++ [v]) m=((Cc l m).1++ [(prom v (m+(Cc l m).2.length)).1],(Cc l m).2++(prom v (m+(Cc l m).2.length)).2)
 | [],v,m=>by simp [Cc]
 |w::l,v,m=>by
  simp only [List.cons_append,Cc,KD l v,List.length_append,Nat.add_assoc,List.append_assoc]
theorem CY: ∀ (l:List V) (m:Nat),(Cc l m).1.length=l.length
 | [],_=>rfl
 |v::l,m=>by simp [Cc,CY l]
theorem Io{l:List V}{m:Nat}: ∀n,n<=l.length->BL (fun k=>prom (l.getD k .dead)) n m=Cc (l.take n) m:=by
 intro n
 induction n with
 |zero=>intro _;rfl
 |succ n ih=>
  intro hn
  have e:l.take (n+1)=l.take n++ [l.getD n .dead]:=by
   rw [List.take_add_one];have hn':n<l.length:=by omega
   simp [hn']
  rw [e,KD];unfold BL;rw [ih (by omega)]
theorem VY{l:List V}{m:Nat}:prom (Ai l) m=(Ai (Cc l m).1,(Cc l m).2):=by
 unfold Ai;show(V.many .ag l.length (fun k=>(BL (fun k=>prom (l.getD k .dead)) l.length m).1.getD k .dead),(BL (fun k=>prom (l.getD k .dead)) l.length m).2)=_
 rw [Io l.length (Nat.le_refl _),List.take_length,CY]
def Df(l:List V):V:=.many .tu l.length fun k=>l.getD k .dead
theorem XY{l:List V}{m:Nat}:prom (Df l) m=(Df (Cc l m).1,(Cc l m).2):=by
 unfold Df;show(V.many .tu l.length (fun k=>(BL (fun k=>prom (l.getD k .dead)) l.length m).1.getD k .dead),(BL (fun k=>prom (l.getD k .dead)) l.length m).2)=_
 rw [Io l.length (Nat.le_refl _),List.take_length,CY]
def pkL(t:Tg)(l:List V):V:=.many t l.length fun k=>l.getD k .dead
theorem frz_pk{t:Tg}{l:List V}:frz (pkL t l)=pkL t (l.map frz):=by
 unfold pkL frz;rw [List.length_map]
 congr 1
 funext k
 rw [Br rfl]
theorem ZA{t:Tg}{l:List V}:AS (pkL t l)=l.any AS:=by
 unfold pkL;rw [<-J3];rfl
theorem ZV{t:Tg}{l:List V}{m:Nat}:prom (pkL t l) m=(pkL t (Cc l m).1,(Cc l m).2):=by
 unfold pkL;show(V.many t l.length (fun k=>(BL (fun k=>prom (l.getD k .dead)) l.length m).1.getD k .dead),(BL (fun k=>prom (l.getD k .dead)) l.length m).2)=_
 rw [Io l.length (Nat.le_refl _),List.take_length,CY]
theorem Aab{σ:List V}{g:Nat}{l:List V}:BQ σ (pkL (.cl g) l)=pkL (.cl g) (l.map (BQ σ)):=by
 show(if Tg.cl g= .bx then _ else V.many (.cl g) l.length fun k=>BQ σ (l.getD k .dead))=_
 rw [if_neg (by intro h;cases h)]
 unfold pkL;rw [List.length_map]
 congr 1
 funext k
 rw [Br rfl]
theorem Ye{σ:List V}{l:List V}:BQ σ (AaT l)=Bk false (l.map (BQ σ)):=by
 show V.nd false false l.length 1 (fun i k=>if i=0 then BQ σ (l.getD k .dead)else .dead)=_
 unfold Bk;rw [List.length_map]
 congr 1
 funext i k
 cases i with
 |zero=>
  simp only [if_true,List.getD_cons_zero];rw [Br rfl]
 |succ i=>rfl
theorem KE{v:V}{vs:List V}{m:Nat}:Cc (v::vs) m=((prom v m).1::(Cc vs (m+(prom v m).2.length)).1,(prom v m).2++(Cc vs (m+(prom v m).2.length)).2):=rfl
theorem Aat{l:List V}:frz (Df l)=Df (l.map frz):=by
 unfold Df frz;rw [List.length_map]
 congr 1
 funext k
 rw [Br rfl]
theorem XJ{l:List V}:AS (Df l)=l.any AS:=by
 unfold Df;rw [<-J3];rfl
theorem HV{l:List V}{k:Nat}(h:k<l.length):l.getD k .dead∈l:=by
 rw [gDE,gEE h];exact List.getElem_mem h
theorem J4{l:List V}:(∀k,k<l.length->BD (l.getD k .dead))= ∀v∈l,BD v:=by
 apply propext;constructor
 ·intro h v hv
  obtain⟨i,hi,rfl⟩:=List.getElem_of_mem hv;simpa [hi]using h i hi
 ·intro h k hk
  exact h _ (HV hk)
theorem Ui{l:List V}:BD (Ai l)= ∀v∈l,BD v:=by
 show(Tg.ag≠.bx/\_)=_;rw [J4];simp
theorem OO{l:List V}:BD (Df l)= ∀v∈l,BD v:=by
 show(Tg.tu≠.bx/\_)=_;rw [J4];simp
theorem Me{o:Bool}{l:List V}:frz (Bk o l)=Bk false (l.map frz):=by
 unfold Bk frz;rw [List.length_map]
 congr 1
 funext i k
 cases i with
 |zero=>exact(Br (f:=frz) rfl).symm
 |succ i=>rfl
theorem O8{α:Type}{o:Bool}{sz:Nat}{g:α->List V}{d:α}{l:List α}:frz (arr o sz g d l)=arr false sz (fun a=>(g a).map frz) d l:=by
 unfold arr frz
 congr 1
 funext i k
 rw [Br rfl]
def Wh(v:V)(off len:Nat):V:=match v with
 | .nd _ _ sz _ f=>.nd true false sz len fun i k=>frz (f (off+i) k)
 |_=>.dead
theorem OZ{σ:List V}{id:Nat}{p:List (Nat×Nat)}{off len:Nat}:BQ σ (.rs id p off len)=Wh (sub p (σ.getD id .dead)) off len:=rfl
theorem NJ{α:Type}{o:Bool}{sz n:Nat}{g:α->List V}{d:α}{l:List α}(h:n=l.length):Wh (arr o sz g d l) 0 n=arr false sz (fun a=>(g a).map frz) d l:=by
 subst h;rw [<-O8 (o:=o)];show V.nd true false sz l.length (fun i k=>frz ((g (l.getD (0+i) d)).getD k .dead))=_
 simp only [Nat.zero_add];rfl
def Yf(v:V)(i k:Nat):V:=match v with
 | .nd _ _ sz _ f=>.nd false false (sz-k) 1 fun i' j=>if i'=0 then frz (f i (k+j))else .dead
 |_=>.dead
theorem O0{σ:List V}{id:Nat}{p:List (Nat×Nat)}{i k:Nat}:BQ σ (.rp id p i k)=Yf (sub p (σ.getD id .dead)) i k:=rfl
theorem KN{o:Bool}{l:List V}{k:Nat}:Yf (Bk o l) 0 k=Bk false ((l.drop k).map frz):=by
 show V.nd false false (l.length-k) 1 (fun i' j=>if i'=0 then frz (([l].getD 0 []).getD (k+j) .dead)else .dead)=_
 unfold Bk;rw [List.length_map,List.length_drop]
 congr 1
 funext i j
 cases i with
 |zero=>
  simp only [if_true,List.getD_cons_zero];rw [Br rfl];simp
 |succ i=>rfl
end Go.Ve


namespace Go.Ve
@[reducible] def N9 {α:Type} (b:Bool) (x y:α):α:=bif b then x else y
@[reducible] def Iu {α β:Type} (o:Option α) (f:α->Option β):Option β:=o.bind f
@[reducible] def oif {α:Type} (p:Prop) (dec:Decidable p) (x:Option α):Option α:=@ite _ p dec x none
@[reducible] def nif {α:Type} (a b:Nat) (x y:α):α:=if a=b then x else y
@[reducible] def AaR {α:Type} (xs:List α) (i:Nat) (d:α):α:=xs.getD i d
@[reducible] def setX {α:Type} (xs:List α) (i:Nat) (x:α):List α:=xs.set i x
@[reducible] def JF {α:Type} (xs:List α):Nat:=xs.length
@[reducible] def YP {α:Type} (n:Nat) (x:α):List α:=List.replicate n x
@[reducible] def Pd {α:Type} (n:Nat) (xs:List α):List α:=xs.drop n
@[reducible] def Oj {α:Type} (n:Nat) (xs:List α):List α:=xs.take n
@[reducible] def Ly {α:Type} (off len:Nat) (xs:List α) (d:α):List α:=(List.range len).map fun i=>xs.getD (off+i) d
@[reducible] def LB (s:ByteArray):Nat:=s.size
@[reducible] def catS (a b:ByteArray):ByteArray:=a++b
@[reducible] def cutS (s:ByteArray) (a b:Nat):ByteArray:=s.extract a b
@[reducible] def idxS (s:ByteArray) (i:Nat):Int:=((s.data.toList.getD i 0).toNat:Int)
@[reducible] def AaU (a b:Bool):Bool:=a&&b
@[reducible] def eqB (a b:Bool):Bool:=a==b
@[reducible] def notB (b:Bool):Bool:=!b
@[reducible] def eqI (a b:Int):Bool:=decide (a=b)
@[reducible] def neI (a b:Int):Bool:=!decide (a=b)
@[reducible] def ltI (a b:Int):Bool:=decide (a<b)
@[reducible] def leI (a b:Int):Bool:=decide (a<=b)
@[reducible] def eqS (a b:ByteArray):Bool:=decide (a.data.toList=b.data.toList)
@[reducible] def neS (a b:ByteArray):Bool:=!decide (a.data.toList=b.data.toList)
@[reducible] def ltS (a b:ByteArray):Bool:=Op.bytesLess a.data.toList b.data.toList
@[reducible] def YY (x y:Int):Int:=if y<x then y else x
@[reducible] def maxI (x y:Int):Int:=if x<y then y else x
@[reducible] def ofN (n:Nat):Int:=n
@[reducible] def J8 (n:Int):Nat:=n.toNat
@[reducible] def catX {α:Type} (xs ys:List α):List α:=xs++ys
end Go.Ve


namespace Go.Ve
open Go
def knd(P:Program)(t:TypeId):Option Nat:=match P.underlying t with
 |some (.int _)=>some 0
 |some .bool=>some 1
 |some .string=>some 2
 |_=>none
def Xn(P:Program)(t:TypeId):Option (List Nat):=match P.underlying t with
 |some .bool=>some [9]
 | some (.struct fs) => if fs.toList.all (fun f => f.name != "_") && !P.stoodInHeld t && !P.eqGuardType P.depth t && decide (fs.toList.map (·.offset) = List.range fs.toList.length) then fs.toList.mapM (fun f => knd P f.type) else none
 |some (.array n e)=>if P.cellsOf e==1&& !P.eqGuardType P.depth t then(match knd P e with
   |some k=>some (List.replicate n k)
   |none=>none)else none
 |_=>none
def kOf:Value->Option Nat
 | .int _ _=>some 0
 | .bool _=>some 1
 | .string _=>some 2
 |_=>none
def Jo:Value->Value->Bool
 | .int k _,.int k' _=>decide (k=k')
 |_,_=>true
def vEq:Value->Value->Bool
 | .int _ a,.int _ b=>decide (a=b)
 | .bool a,.bool b=>a==b
 | .string a,.string b=>decide (a.data.toList=b.data.toList)
 |_,_=>false
theorem HS{P:Program}{e:TypeId}{k:Nat}(h:knd P e=some k):P.plainKey e=true:=by
 unfold knd at h;unfold Program.plainKey;split at h<;>first|(rename_i hu;simp [hu];done)|cases h
theorem WH{P:Program}(w:World){e:TypeId}{k d:Nat}{a b:Value}(hk:knd P e=some k)(ha:kOf a=some k)(hb:kOf b=some k)(hs:Jo a b=true):(Op.equalIn (d+1) e a b).run P w= .ok (vEq a b) w:=by
 unfold knd at hk;split at hk
 ·rename_i q hu
  cases hk;cases a<;>try (cases ha;done)
  cases b<;>try (cases hb;done)
  rename_i k1 x k2 y;have hkk:k1=k2:=by simpa [Jo]using hs
  subst hkk;simp [Op.equalIn,run_underlying hu,vEq];rfl
 ·rename_i hu
  cases hk;cases a<;>try (cases ha;done)
  cases b<;>try (cases hb;done)
  simp [Op.equalIn,run_underlying hu,vEq]
 ·rename_i hu
  cases hk;cases a<;>try (cases ha;done)
  cases b<;>try (cases hb;done)
  rename_i x y
  have e:(x==y)=decide (x.data.toList=y.data.toList):=by
   rw [beq_toListBytes,ByteArray.toList_eq,ByteArray.toList_eq];rw [Bool.eq_iff_iff];simp
  simp [Op.equalIn,run_underlying hu,vEq,e]
 ·cases hk
def Pp:List Value->List Value->Bool
 |a::l,b::m=>vEq a b&&Pp l m
 |_,_=>true
def okL:List Nat->List Value->List Value->Bool
 |k::ks,a::l,b::m=>(kOf a==some k)&&(kOf b==some k)&&Jo a b&&okL ks l m
 | [],[],[]=>true
 |_,_,_=>false
theorem NW{P:Program}(w:World){e:TypeId}{k d:Nat}(hk:knd P e=some k)(xs ys:Array Value): ∀ (n off:Nat) (l m:List Value),xs.toList.drop off=l->ys.toList.drop off=m->okL (List.replicate n k) l m=true->
  (Op.eqItems (d+1) e 1 xs ys (List.range' off n)).run P w= .ok (Pp l m) w
 |0,off,l,m,_,_,h=>by
  cases l<;>cases m<;>first|(cases h;done)|rfl
 |n+1,off,l,m,hl,hm,h=>by
  cases l with
  |nil=>cases m<;>cases h
  |cons a l=>
  cases m with
  |nil=>cases h
  |cons b m=>
  have h:((kOf a==some k)&&(kOf b==some k)&&Jo a b&&okL (List.replicate n k) l m)=true:=h;simp only [bAE,beq_iff_eq]at h;obtain⟨⟨⟨h1,h2⟩,h3⟩,h4⟩:=h;have ga:xs[off]? =some a:=by
   have:=congrArg (·[0]?) hl
   simpa using this
  have gb:ys[off]? =some b:=by
   have:=congrArg (·[0]?) hm
   simpa using this
  have ta:xs.toList.drop (off+1)=l:=by
   have:=congrArg (List.drop 1) hl;simpa [List.drop_drop,Nat.add_comm]using this
  have tb:ys.toList.drop (off+1)=m:=by
   have:=congrArg (List.drop 1) hm;simpa [List.drop_drop,Nat.add_comm]using this
  have ih:=NW w (d:=d) hk xs ys n (off+1) l m ta tb h4;rw [List.range'_succ];simp only [Op.eqItems,Sem.run_bind,Nat.mul_one,run_part_plain w (HS hk) ga,run_part_plain w (HS hk) gb,Result.andThen_ok,WH w hk h1 h2 h3];cases hv:vEq a b with
  |false=>simp [Pp,hv]
  |true=>simpa [Pp,hv]using ih
theorem K0 {P : Program} (w : World) {d : Nat} (xs ys : Array Value) : ∀ (fs : List Field) (ks : List Nat) (off : Nat) (l m : List Value), fs.all (fun f => f.name != "_") = true → fs.map (·.offset) = List.range' off fs.length → fs.mapM (fun f => knd P f.type) = some ks →
  xs.toList.drop off=l->ys.toList.drop off=m->okL ks l m=true->(Op.eqFields (d+1) xs ys fs).run P w= .ok (Pp l m) w
 | [],ks,off,l,m,_,_,hk,_,_,h=>by
  simp at hk;subst hk;cases l<;>cases m<;>first|(cases h;done)|rfl
 |f::fs,ks,off,l,m,hn,ho,hk,hl,hm,h=>by
  rw [List.mapM_cons]at hk;simp only [bind,Option.bind_eq_some_iff,pure,Option.some.injEq]at hk;obtain⟨k,hk1,ks',hk2,rfl⟩:=hk;cases l with
  |nil=>cases m<;>cases h
  |cons a l=>
  cases m with
  |nil=>cases h
  |cons b m=>
  have h:((kOf a==some k)&&(kOf b==some k)&&Jo a b&&okL ks' l m)=true:=h;simp only [bAE,beq_iff_eq]at h;obtain⟨⟨⟨h1,h2⟩,h3⟩,h4⟩:=h;rw [List.all_cons,bAE]at hn;rw [List.map_cons,List.length_cons,List.range'_succ,List.cons.injEq]at ho;have ga:xs[off]? =some a:=by
   have:=congrArg (·[0]?) hl
   simpa using this
  have gb:ys[off]? =some b:=by
   have:=congrArg (·[0]?) hm
   simpa using this
  have ta:xs.toList.drop (off+1)=l:=by
   have:=congrArg (List.drop 1) hl;simpa [List.drop_drop,Nat.add_comm]using this
  have tb:ys.toList.drop (off+1)=m:=by
   have:=congrArg (List.drop 1) hm;simpa [List.drop_drop,Nat.add_comm]using this
  have ih:=K0 w (d:=d) xs ys fs ks' (off+1) l m hn.2 ho.2 hk2 ta tb h4;have hne : f.name ≠ "_" := by simpa using hn.1
  simp only [Op.eqFields,hne,ne_eq,not_false_eq_true,if_true,Sem.run_bind,ho.1,run_part_plain w (HS hk1) ga,run_part_plain w (HS hk1) gb,Result.andThen_ok,WH w hk1 h1 h2 h3];cases hv:vEq a b with
  |false=>simp [Pp,hv]
  |true=>simpa [Pp,hv]using ih
theorem WG{P:Program}(w:World){t:TypeId}{ks:List Nat}{xs ys:Array Value}(h:Xn P t=some ks)(hn:ks≠[9])(hx:okL ks xs.toList ys.toList=true):
  (Op.equal t (.agg xs) (.agg ys)).run P w= .ok (Pp xs.toList ys.toList) w/\P.eqGuardType P.depth t=false:=by
 unfold Xn at h;split at h
 ·cases h;exact absurd rfl hn
 ·rename_i fs hu
  split at h
  case isFalse=>cases h
  rename_i hc;simp only [bAE,Bool.not_eq_true',decide_eq_true_eq]at hc;obtain⟨⟨⟨h1,h2⟩,h3⟩,h4⟩:=hc;refine⟨?_,h3⟩;have ef:P.fieldsOf t=fs:=by unfold Program.fieldsOf;rw [hu]
  show(Op.equalIn (9998+1+1) t (.agg xs) (.agg ys)).run P w=_;rw [run_equalIn_struct w _ t xs ys (by rw [ef];exact hu) h2,ef]
  exact K0 w xs ys fs.toList ks 0 _ _ h1 (by rw [h4,List.range_eq_range']) h rfl rfl hx
 ·rename_i n e hu
  split at h
  case isFalse=>cases h
  rename_i hc;simp only [bAE,Bool.not_eq_true',beq_iff_eq]at hc;split at h
  case h_2=>cases h
  rename_i k hk;cases h;refine⟨?_,hc.2⟩;obtain⟨i,hi⟩: ∃i,P.info? e=some i:=by
   unfold knd at hk;split at hk
   ·rename_i he;exact info_of_underlying he
   ·rename_i he;exact info_of_underlying he
   ·rename_i he;exact info_of_underlying he
   ·cases hk
  show(Op.equalIn (9998+1+1) t (.agg xs) (.agg ys)).run P w=_;rw [run_equalIn_array w _ xs ys hu hi,hc.1,List.range_eq_range'];exact NW w hk xs ys n 0 _ _ rfl rfl hx
 ·cases h
theorem YZ{P:Program}{t:TypeId}{k:Nat}(h:knd P t=some k):k≠9:=by
 unfold knd at h;split at h<;>cases h<;>simp
theorem Wa{α:Type}{f:α->Option Nat}{l:List α}{k:Nat}{m:List Nat}(h:l.mapM f=some (k::m)): ∃x,f x=some k:=by
 cases l with
 |nil=>simp at h
 |cons x l=>
  rw [List.mapM_cons]at h;simp only [bind,Option.bind_eq_some_iff,pure,Option.some.injEq,List.cons.injEq]at h;obtain⟨y,h1,z,h2,rfl,rfl⟩:=h;exact⟨x,h1⟩
theorem UD{P:Program}(w:World){t:TypeId}{a b:Bool}(h:Xn P t=some [9]):(Op.equal t (.bool a) (.bool b)).run P w= .ok (a==b) w:=by
 unfold Xn at h;split at h
 ·rename_i hu
  have gen: ∀d,(Op.equalIn (d+1) t (.bool a) (.bool b)).run P w= .ok (a==b) w:=fun d=>by simp [Op.equalIn,run_underlying hu]
  exact gen 9999
 ·split at h
  ·obtain⟨x,hx⟩:=Wa h
   exact absurd rfl (YZ hx)
  ·cases h
 ·split at h
  ·split at h
   ·rename_i k hk
    have h:=Option.some.inj h;have key: ∀n,List.replicate n k= [9]->False:=fun n e=>by
     have:9∈List.replicate n k:=by rw [e];simp
     rw [List.mem_replicate]at this;exact absurd this.2.symm (YZ hk)
    exact(key _ h).elim
   ·cases h
  ·cases h
 ·cases h
end Go.Ve


namespace Go.Ve
inductive Ty where
 |int (k:IntKind)|bool|str|sl (t:Ty)|ptr (t:Ty)|unit|pair (a b:Ty)|clo (g:Nat) (t:Ty)|osl (t:Ty)
deriving DecidableEq
@[reducible] def Ty.T:Ty->Type
 | .int _=>Int
 | .bool=>Bool
 | .str=>ByteArray
 | .sl t=>List t.T
 | .ptr t=>t.T
 | .unit=>Unit
 | .pair a b=>a.T×b.T
 | .clo _ t=>t.T
 | .osl t=>Option (List t.T)
def Ty.dflt:(t:Ty)->t.T
 | .int _=>(0:Int)
 | .bool=>false
 | .str=>ByteArray.mk #[]
 | .sl _=>[]
 | .ptr t=>t.dflt
 | .unit=>()
 | .pair a b=>(a.dflt,b.dflt)
 | .clo _ t=>t.dflt
 | .osl _=>some []
def Ty.w:Ty->Nat
 | .unit=>0
 | .pair a b=>a.w+b.w
 |_=>1
def Ty.dep:Ty->Nat
 | .sl t=>t.dep+1
 | .ptr t=>t.dep+1
 | .pair a b=>max a.dep b.dep
 | .clo _ _=>1
 | .osl t=>t.dep+1
 |_=>0
def Z2{α:Type}(own:Bool)(sz:Nat)(f:α->List V)(d:α):Option (List α)->V
 |none=>.dead
 |some xs=>arr own sz f d xs
theorem Yo{α:Type}{own:Bool}{sz:Nat}{f:α->List V}{d:α}(x:Option (List α)):frz (Z2 own sz f d x)=Z2 false sz (fun a=>(f a).map frz) d x:=by
 cases x with
 |none=>rfl
 |some xs=>simp [Z2,O8]
def tyV:(t:Ty)->Nat->t.T->List V
 | .int k,_,n=>[.c (.int k n)]
 | .bool,_,b=>[.c (.bool b)]
 | .str,_,s=>[.c (.string s)]
 | .sl t,d,xs=>[arr (decide (0<d)) t.w (tyV t (d-1)) t.dflt xs]
 | .ptr t,d,x=>[Bk (decide (0<d)) (tyV t (d-1) x)]
 | .unit,_,_=>[]
 | .pair a b,d,x=>tyV a d x.1++tyV b d x.2
 | .clo g t,_,x=>[.many (.cl g) t.w fun k=>(tyV t 0 x).getD k .dead]
 | .osl t,d,x=>[Z2 (decide (0<d)) t.w (tyV t (d-1)) t.dflt x]
theorem AA: ∀ (t:Ty) (d:Nat) (x:t.T),(tyV t d x).length=t.w
 | .int _,_,_=>rfl
 | .bool,_,_=>rfl
 | .str,_,_=>rfl
 | .sl _,_,_=>rfl
 | .ptr _,_,_=>rfl
 | .unit,_,_=>rfl
 | .pair a b,d,x=>by simp [tyV,Ty.w,AA a,AA b]
 | .clo _ _,_,_=>rfl
 | .osl _,_,_=>rfl
theorem Dg: ∀ (t:Ty) (d d':Nat) (x:t.T),min d t.dep=min d' t.dep->tyV t d x=tyV t d' x
 | .int _,_,_,_,_=>rfl
 | .bool,_,_,_,_=>rfl
 | .str,_,_,_,_=>rfl
 | .sl t,d,d',xs,h=>by
  simp only [Ty.dep]at h
  have e1:decide (0<d)=decide (0<d'):=by
   rw [Bool.eq_iff_iff];simp;omega
  have e2:tyV t (d-1)=tyV t (d'-1):=funext fun x=>Dg t _ _ x (by omega)
  simp only [tyV,e1,e2]
 | .ptr t,d,d',x,h=>by
  simp only [Ty.dep]at h
  have e1:decide (0<d)=decide (0<d'):=by
   rw [Bool.eq_iff_iff];simp;omega
  simp only [tyV,e1,Dg t (d-1) (d'-1) x (by omega)]
 | .unit,_,_,_,_=>rfl
 | .pair a b,d,d',x,h=>by
  simp only [Ty.dep]at h;simp only [tyV,Dg a d d' x.1 (by omega),Dg b d d' x.2 (by omega)]
 | .clo _ _,_,_,_,_=>rfl
 | .osl t,d,d',x,h=>by
  simp only [Ty.dep]at h
  have e1:decide (0<d)=decide (0<d'):=by
   rw [Bool.eq_iff_iff];simp;omega
  have e2:tyV t (d-1)=tyV t (d'-1):=funext fun x=>Dg t _ _ x (by omega)
  simp only [tyV,e1,e2]
theorem Bo: ∀ (t:Ty) (d:Nat) (x:t.T),(tyV t d x).map frz=tyV t 0 x
 | .int _,_,_=>rfl
 | .bool,_,_=>rfl
 | .str,_,_=>rfl
 | .sl t,d,xs=>by
  have e:(fun a=>(tyV t (d-1) a).map frz)=tyV t 0:=funext fun x=>Bo t _ x
  simp [tyV,O8,e]
 | .ptr t,d,x=>by simp [tyV,Me,Bo t]
 | .unit,_,_=>rfl
 | .pair a b,d,x=>by simp [tyV,Bo a,Bo b]
 | .osl t,d,x=>by
  have e:(fun a=>(tyV t (d-1) a).map frz)=tyV t 0:=funext fun x=>Bo t _ x
  simp [tyV,Yo,e]
 | .clo g t,_,x=>by
  have e:(fun k=>frz ((tyV t 0 x).getD k .dead))=fun k=>(tyV t 0 x).getD k .dead:=by
   funext k
   have h:=Bo t 0 x
   conv=>rhs;rw [<-h]
   simp only [gDE,List.getElem?_map];cases (tyV t 0 x)[k]? <;>rfl
  show [V.many (.cl g) t.w fun k=>frz ((tyV t 0 x).getD k .dead)]= [V.many (.cl g) t.w fun k=>(tyV t 0 x).getD k .dead]
  rw [e]
def My{α:Type}(l:List α):List (Option α):=l.map some
def unO{α:Type}(l:List (Option (List α))):List (List α):=l.map fun x=>match x with
 |some y=>y
 |none=>[]
def isO{α:Type}:Option (List α)->Bool
 |some _=>true
 |none=>false
def getO{α:Type}:Option (List α)->List α
 |some xs=>xs
 |none=>[]
abbrev A1:=List (Nat×Nat)
inductive Cl where
 |dead
 |nil
 |nilp
 |nilf
 |c (t:Ty) (d:Nat) (x:t.T)
 |rf (id:Nat) (p:A1)
 |rs (id:Nat) (p:A1) (off len:Nat)
 |rp (id:Nat) (p:A1) (i k:Nat)
inductive Ae where
 |dead
 |obj (ro:Bool) (l:List Cl)
 |arr (ro:Bool) (t:Ty) (d:Nat) (xs:List t.T)
 |opt (ro:Bool) (t:Ty) (d:Nat) (x:Option (List t.T))
def Ax:(t:Ty)->Nat->t.T->List Cl
 | .unit,_,_=>[]
 | .pair a b,d,x=>Ax a d x.1++Ax b d x.2
 | .int k,d,x=>[.c (.int k) d x]
 | .bool,d,x=>[.c .bool d x]
 | .str,d,x=>[.c .str d x]
 | .sl t,d,x=>[.c (.sl t) d x]
 | .ptr t,d,x=>[.c (.ptr t) d x]
 | .clo g t,d,x=>[.c (.clo g t) d x]
 | .osl t,d,x=>[.c (.osl t) d x]
def cV:(t:Ty)->Nat->t.T->V
 | .int k,_,n=>.c (.int k n)
 | .bool,_,b=>.c (.bool b)
 | .str,_,s=>.c (.string s)
 | .sl t,d,xs=>arr (decide (0<d)) t.w (tyV t (d-1)) t.dflt xs
 | .ptr t,d,x=>Bk (decide (0<d)) (tyV t (d-1) x)
 | .clo g t,_,x=>.many (.cl g) t.w fun k=>(tyV t 0 x).getD k .dead
 | .osl t,d,x=>Z2 (decide (0<d)) t.w (tyV t (d-1)) t.dflt x
 | .unit,_,_=>.dead
 | .pair _ _,_,_=>.dead
def Cl.v0:Cl->V
 | .dead=>.dead
 | .nil=>.c (.slice none 0 0)
 | .nilp=>.c (.pointer none)
 | .nilf=>.c .nilFunc
 | .c t d x=>cV t d x
 |_=>.dead
def Ae.v:Ae->V
 | .dead=>.dead
 | .obj _ l=>Bk true (l.map Cl.v0)
 | .arr _ t d xs=>Go.Ve.arr true t.w (tyV t d) t.dflt xs
 | .opt _ t d x=>Z2 true t.w (tyV t d) t.dflt x
theorem BZ: ∀ (t:Ty) (d:Nat) (x:t.T),(Ax t d x).map Cl.v0=tyV t d x
 | .int _,_,_=>rfl
 | .bool,_,_=>rfl
 | .str,_,_=>rfl
 | .sl _,_,_=>rfl
 | .ptr _,_,_=>rfl
 | .clo _ _,_,_=>rfl
 | .osl _,_,_=>rfl
 | .unit,_,_=>rfl
 | .pair a b,d,x=>by simp [Ax,tyV,BZ a,BZ b]
def Cl.node(ro:Bool):Cl->Ae
 | .c (.sl t) (d+1) xs=>.arr ro t d xs
 | .c (.ptr t) (d+1) x=>.obj ro (Ax t d x)
 | .c (.osl t) (d+1) x=>.opt ro t d x
 |_=>.dead
def Ae.cells:Ae->Nat->List Cl
 | .obj _ l,0=>l
 | .obj _ _,_+1=>[]
 | .arr _ t d xs,i=>Ax t d (AaR xs i t.dflt)
 | .opt _ _ _ _,_=>[]
 | .dead,_=>[]
def Ae.ro:Ae->Bool
 | .obj ro _=>ro
 | .arr ro _ _ _=>ro
 | .opt ro _ _ _=>ro
 | .dead=>true
def Ae.at':Ae->A1->Ae
 |r,[]=>r
 |r,(i,k)::p=>(((r.cells i).getD k .dead).node r.ro).at' p
def Ae.len:Ae->Nat
 | .arr _ _ _ xs=>JF xs
 | .opt _ _ _ (some xs)=>JF xs
 | .opt _ _ _ none=>0
 | .obj _ _=>1
 | .dead=>0
def Ag(r:List Ae)(id:Nat)(p:A1):Ae:=(r.getD id .dead).at' p
def Cl.v(r:List Ae):Cl->V
 | .dead=>.dead
 | .nil=>.c (.slice none 0 0)
 | .nilp=>.c (.pointer none)
 | .nilf=>.c .nilFunc
 | .c t d x=>cV t d x
 | .rf id p=>.rs id p 0 (Ag r id p).len
 | .rs id p off len=>.rs id p off len
 | .rp id p i k=>.rp id p i k
inductive Sl where
 |one (c:Cl)
 |new (l:List Cl)
 |agg (l:List Cl)
 |tup (l:List (Bool×List Cl))
 |pk (t:Tg) (l:List Cl)
def Sl.v(r:List Ae):Sl->V
 | .one c=>c.v r
 | .new l=>Bk true (l.map Cl.v0)
 | .agg l=>Ai (l.map (Cl.v r))
 | .tup l=>Df (l.map fun p=>if p.1 then Ai (p.2.map (Cl.v r))else(p.2.map (Cl.v r)).getD 0 .dead)
 | .pk t l=>pkL t (l.map (Cl.v r))
structure St where
 t:Nat->Sl
 r:List Ae
def St.den(s:St):Ms:=⟨fun i=>(s.t i).v s.r,s.r.map Ae.v⟩
theorem YV{ro:Bool}{c:Cl}(h:(c.node ro)≠.dead):c.v0=(c.node ro).v:=by
 unfold Cl.node at h⊢;split at h<;>try (exact absurd rfl h)
 ·simp [Cl.v0,cV,tyV,Ae.v]
 ·simp [Cl.v0,cV,tyV,Ae.v,BZ]
 ·simp [Cl.v0,cV,Ae.v]
theorem AB{α:Type}{f:α->V}{a:α}(hf:f a= .dead)(l:List α)(k:Nat):(l.map f).getD k .dead=f (l.getD k a):=by
 simp only [gDE,List.getElem?_map];cases l[k]? <;>simp [hf]
def Ae.live:Ae->Bool
 | .dead=>false
 | .opt _ _ _ _=>false
 |_=>true
theorem We{r:Ae}(h:r.live=true):r≠.dead:=by rintro rfl;cases h
theorem Pg(r:Ae)(hd:r.live=true): ∃s sz n f,r.v= .nd s true sz n f/\(∀i k,f i k=((r.cells i).getD k .dead).v0)/\n=r.len/\(s=false->n=1)/\
  (∀ro t d xs,r= .arr ro t d xs->s=true/\sz=t.w)/\(∀ro l,r= .obj ro l->s=false/\sz=l.length):=by
 cases r with
 |dead=>cases hd
 |opt=>cases hd
 |obj ro l=>
  refine⟨false,_,_,_,rfl,?_,rfl,fun _=>rfl,fun ro t d xs h=>by (cases h),fun ro l h=>by cases h;exact⟨rfl,by simp⟩⟩
  intro i k;cases i with
  |zero=>
   show(l.map Cl.v0).getD k .dead=_;exact AB (f:=Cl.v0) rfl l k
  |succ i=>rfl
 |arr ro t d xs=>
  refine⟨true,_,_,_,rfl,?_,rfl,(fun h=>by cases h),fun ro t d xs h=>by (cases h;exact⟨rfl,rfl⟩),fun ro l h=>by cases h⟩
  intro i k;show(tyV t d (xs.getD i t.dflt)).getD k .dead=_;rw [<-BZ];exact AB (f:=Cl.v0) rfl _ k
theorem CN: ∀p,Ae.at' .dead p= .dead
 | []=>rfl
 |(i,k)::p=>by
  show((([]:List Cl).getD k .dead).node true).at' p= .dead;exact CN p
theorem YL: ∀ (p:A1) (r:Ae),r.at' p≠.dead->sub p r.v=(r.at' p).v
 | [],r,_=>rfl
 |(i,k)::p,r,h=>by
  have hr:r.live=true:=by
   cases r with
   |dead=>exact absurd (CN _) h
   |opt ro t d x=>exact absurd (show Ae.at' (.opt ro t d x) ((i,k)::p)= .dead from CN p) h
   |_=>rfl
  obtain⟨s,sz,n,f,hv,hf,_⟩:=Pg r hr;rw [hv];show sub p (f i k)=_;have h':(((r.cells i).getD k .dead).node r.ro).at' p≠.dead:=h;have hn:((r.cells i).getD k .dead).node r.ro≠.dead:=by intro e;rw [e]at h';exact h' (CN p)
  rw [hf,YV hn,YL p _ h'];rfl
theorem Zi: ∀ (p q:A1) (r:Ae),r.at' (p++q)=(r.at' p).at' q
 | [],_,_=>rfl
 |(i,k)::p,q,r=>Zi p q _
theorem AI(l:List Ae)(id:Nat):(l.map Ae.v).getD id .dead=(l.getD id .dead).v:=AB (f:=Ae.v) rfl l id
theorem AZ{r:List Ae}{id:Nat}{p:A1}(h:Ag r id p≠.dead):sub p ((r.map Ae.v).getD id .dead)=(Ag r id p).v:=by
 rw [AI];exact YL p _ h
end Go.Ve

