/- Equality of bools, of structs and arrays of scalars. -/
import Derived.Test.YtojjlnbnneemaaaVh
import Derived.ChangeKeysEq
set_option linter.all false
namespace Go.Ve
open Go
variable{k:Nat}{P:Program}{e t:TypeId}
def knd(P:Program)(t:TypeId):Option Nat:=match P.underlying t with
 |some (.int _)=>some 0
 |some .bool=>some 1
 |some .string=>some 2
 |_=>none
def MX(P:Program)(t:TypeId):Option (List Nat):=match P.underlying t with
 |some .bool=>some [9]
 | some (.struct fs) => if fs.toList.all (λf => f.name != "_") && !P.stoodInHeld t && !P.eqGuardType P.depth t && decide (fs.toList.map (·.offset) = List.range fs.toList.length)then fs.toList.mapM (λf => knd P f.type)else none
 |some (.array n e)=>if P.cellsOf e==1&& !P.eqGuardType P.depth t then(match knd P e with
   |some k=>some (List.replicate n k)
   |none=>none)else none
 |_=>none
def kOf:Value->Option Nat
 |.int _ _=>some 0
 |.bool _=>some 1
 |.string _=>some 2
 |_=>none
def CA:Value->Value->Bool
 |.int k _,.int k' _=>decide (k=k')
 |_,_=>true
def vEq:Value->Value->Bool
 |.int _ a,.int _ b=>decide (a=b)
 |.bool a,.bool b=>a==b
 |.string a,.string b=>decide (a.data.toList=b.data.toList)
 |_,_=>false
theorem D7(h:knd P e=some k):P.plainKey e=true:=by
 unfold knd at h;unfold Program.plainKey
 grind
theorem P1(w:World){d:Nat}{a b:Value}(A:knd P e=some k)(ha:kOf a=some k)(J:kOf b=some k)(L:CA a b=true):(Op.equalIn (d+1) e a b).run P w=.ok (vEq a b) w:=by
 unfold knd at A;split at A
 .rename_i q B
  cases A;cases a<;>try (cases ha;done)
  cases b<;>try (cases J;done)
  rename_i k1 x k2 y;have E:k1=k2:=by simpa [CA]using L
  subst E;simp[Op.equalIn,run_underlying B,vEq];rfl
 .rename_i B
  cases A;cases a<;>try (cases ha;done)
  cases b<;>try (cases J;done)
  simp[Op.equalIn,run_underlying B,vEq]
 .rename_i B
  cases A;cases a<;>try (cases ha;done)
  cases b<;>try (cases J;done)
  rename_i x y
  have e:(x==y)=decide (x.data.toList=y.data.toList):=by
   rw[beq_toListBytes,ByteArray.toList_eq,ByteArray.toList_eq];rw[Bool.eq_iff_iff];simp
  simp[Op.equalIn,run_underlying B,vEq,e]
 .cases A
def HA:List Value->List Value->Bool
 |a::l,b::m=>vEq a b&&HA l m
 |_,_=>true
def okL:List Nat->List Value->List Value->Bool
 |k::ks,a::l,b::m=>(kOf a==some k)&&(kOf b==some k)&&CA a b&&okL ks l m
 |[],[],[]=>true
 |_,_,_=>false
def OS{P:Program}(w:World){e:TypeId}{k d:Nat}(A:knd P e=some k)(xs ys:Array Value):∀(n off:Nat) (l m:List Value),xs.toList.drop off=l->ys.toList.drop off=m->okL (List.replicate n k) l m=true->
  (Op.eqItems (d+1) e 1 xs ys (List.range' off n)).run P w=.ok (HA l m) w
 |0,off,l,m,_,_,h=>by
  cases l<;>cases m<;>first|(cases h;done)|rfl
 |n+1,off,l,m,hl,hm,h=>by
  cases l with
  |nil=>cases m<;>cases h
  |cons a l=>
  cases m with
  |nil=>cases h
  |cons b m=>
  have h:((kOf a==some k)&&(kOf b==some k)&&CA a b&&okL (List.replicate n k) l m)=true:=h;simp only[bAE,beq_iff_eq]at h;obtain⟨⟨⟨M,L⟩,h3⟩,h4⟩:=h;have U:xs[off]? =some a:=by
   have:=congrArg (·[0]?) hl
   simpa using this
  have O:ys[off]? =some b:=by
   have:=congrArg (·[0]?) hm
   simpa using this
  have E:xs.toList.drop (off+1)=l:=by
   have:=congrArg (List.drop 1) hl;simpa [List.drop_drop,Nat.add_comm]using this
  have tb:ys.toList.drop (off+1)=m:=by
   have:=congrArg (List.drop 1) hm;simpa [List.drop_drop,Nat.add_comm]using this
  have J:=OS w (d:=d) A xs ys n (off+1) l m E tb h4;rw[List.range'_succ];simp only[Op.eqItems,Sem.run_bind,Nat.mul_one,run_part_plain w (D7 A) U,run_part_plain w (D7 A) O,Result.andThen_ok,P1 w A M L h3];cases B:vEq a b with
  |false=>simp[HA,B]
  |true=>simpa [HA,B]using J
theorem LA {P : Program} (w : World) {d : Nat} (xs ys : Array Value) :∀(fs : List Field) (ks : List Nat) (off : Nat) (l m : List Value), fs.all (λf => f.name != "_") = true → fs.map (·.offset) = List.range' off fs.length → fs.mapM (λf => knd P f.type) = some ks →
  xs.toList.drop off=l->ys.toList.drop off=m->okL ks l m=true->(Op.eqFields (d+1) xs ys fs).run P w=.ok (HA l m) w
 |[],ks,off,l,m,_,_,hk,_,_,h=>by
  simp at hk;subst hk;cases l<;>cases m<;>first|(cases h;done)|rfl
 |f::fs,ks,off,l,m,hn,ho,hk,hl,hm,h=>by
  rw[List.mapM_cons]at hk;simp only[bind,Option.bind_eq_some_iff,pure,Option.some.injEq]at hk;obtain⟨k,hk1,ks',hk2,rfl⟩:=hk;cases l with
  |nil=>cases m<;>cases h
  |cons a l=>
  cases m with
  |nil=>cases h
  |cons b m=>
  have h:((kOf a==some k)&&(kOf b==some k)&&CA a b&&okL ks' l m)=true:=h;simp only[bAE,beq_iff_eq]at h;obtain⟨⟨⟨h1,h2⟩,h3⟩,h4⟩:=h;rw[List.all_cons,bAE]at hn;rw[List.map_cons,List.length_cons,List.range'_succ,List.cons.injEq]at ho;have ga:xs[off]? =some a:=by
   have:=congrArg (·[0]?) hl
   simpa using this
  have gb:ys[off]? =some b:=by
   have:=congrArg (·[0]?) hm
   simpa using this
  have ta:xs.toList.drop (off+1)=l:=by
   have:=congrArg (List.drop 1) hl;simpa [List.drop_drop,Nat.add_comm]using this
  have tb:ys.toList.drop (off+1)=m:=by
   have:=congrArg (List.drop 1) hm;simpa [List.drop_drop,Nat.add_comm]using this
  have ih:=LA w (d:=d) xs ys fs ks' (off+1) l m hn.2 ho.2 hk2 ta tb h4;have hne : f.name ≠ "_" := by simpa using hn.1
  simp only[Op.eqFields,hne,ne_eq,not_false_eq_true,if_true,Sem.run_bind,ho.1,run_part_plain w (D7 hk1) ga,run_part_plain w (D7 hk1) gb,Result.andThen_ok,P1 w hk1 h1 h2 h3];cases hv:vEq a b with
  |false=>simp[HA,hv]
  |true=>simpa [HA,hv]using ih
theorem OQ(w:World){ks:List Nat}{xs ys:Array Value}(h:MX P t=some ks)(hn:ks≠[9])(L:okL ks xs.toList ys.toList=true):
  (Op.equal t (.agg xs) (.agg ys)).run P w=.ok (HA xs.toList ys.toList) w/\P.eqGuardType P.depth t=false:=by
 unfold MX at h;split at h
 .grind
 .rename_i fs J
  split at h
  case isFalse=>cases h
  rename_i A;simp only[bAE,Bool.not_eq_true',decide_eq_true_eq]at A;obtain⟨⟨⟨W,U⟩,O⟩,h4⟩:=A;refine⟨?_,O⟩;have Y:P.fieldsOf t=fs:=by unfold Program.fieldsOf;rw[J]
  show(Op.equalIn (9998+1+1) t (.agg xs) (.agg ys)).run P w=_;rw[run_equalIn_struct w _ t xs ys (by grind) U,Y]
  exact LA w xs ys fs.toList ks 0 _ _ W (by rw[h4,List.range_eq_range']) h rfl rfl L
 .rename_i n e J
  split at h
  case isFalse=>cases h
  rename_i A;simp only[bAE,Bool.not_eq_true',beq_iff_eq]at A;split at h
  case h_2=>cases h
  rename_i k E;cases h;refine⟨?_,A.2⟩;obtain⟨i,M⟩:∃i,P.info? e=some i:=by
   unfold knd at E;split at E
   .rename_i B;exact info_of_underlying B
   .rename_i B;exact info_of_underlying B
   .rename_i B;exact info_of_underlying B
   .cases E
  show(Op.equalIn (9998+1+1) t (.agg xs) (.agg ys)).run P w=_;rw[run_equalIn_array w _ xs ys J M,A.1,List.range_eq_range'];exact OS w E xs ys n 0 _ _ rfl rfl L
 .cases h
theorem Z8(h:knd P t=some k):k≠9:=by
 unfold knd at h
 grind
theorem W6{α:Type}{f:α->Option Nat}{l:List α}{m:List Nat}(h:l.mapM f=some (k::m)):∃x,f x=some k:=by
 cases l with
 |nil=>grind
 |cons x l=>
  simp[Option.bind_eq_some_iff,List.cons.injEq]at h
  grind
theorem Vs(w:World){a b:Bool}(h:MX P t=some [9]):(Op.equal t (.bool a) (.bool b)).run P w=.ok (a==b) w:=by
 unfold MX at h;split at h
 .rename_i E
  have A:∀d,(Op.equalIn (d+1) t (.bool a) (.bool b)).run P w=.ok (a==b) w:=λd=>by simp[Op.equalIn,run_underlying E]
  exact A 9999
 .split at h
  .obtain⟨x,B⟩:=W6 h
   exact absurd rfl (Z8 B)
  .cases h
 .split at h
  .split at h
   .rename_i k J
    have h:=Option.some.inj h;have key:∀n,List.replicate n k=[9]->False:=λn e=>by
     have:9∈List.replicate n k:=by rw[e];simp
     rw[List.mem_replicate]at this;exact absurd this.2.symm (Z8 J)
    exact(key _ h).elim
   .cases h
  .cases h
 .cases h
end Go.Ve


namespace Go.Ve
open Go
variable{es:Array MapEntry}{co em:Bool}{b c n:Nat}{D fp:Nat->Prop}{d:TypeDesc}{et kt t:TypeId}{v:V}{R:V->Value->Prop}{cv k x y z:Value}{w:World}
section
variable {P:Program}{o:Oper}{a:Act}{w:World}{σ:List V}{D:Nat->Prop}{ρ:Nat->Value}{F:Nat->Nat->Prop}{K:V->Prop}
def VJ(P:Program)(t:TypeId):Option (TypeId×TypeId):=match P.underlying t with
 |some (.map k e)=>some (k,e)
 |_=>none
def J7{k e:TypeId}(h:VJ P t=some (k,e)):P.underlying t=some (.map k e):=by
 unfold VJ at h;split at h
 .rename_i A;cases h;exact A
 .cases h
def Qy(res:Option Operand)(K:V->Prop):Prop:=res=none/\K (.mp true [])
theorem KN(wr:Bs σ w D ρ F){res:Option Operand}(ho:o.op=.makeMap t res)(h:Qy res K):∃r,K r/\Av P o a w σ D ρ r:=by
 obtain⟨rfl,B⟩:=h;refine⟨_,B,Av.new (ob:=.map #[] 0) (v':=.map (some w.heap.size)) wr ?_ ⟨λb=>b=w.heap.size,⟨w.heap.size,rfl,⟨#[],0,?_,rfl⟩,(λe=>by cases e),λ_ x=>Iff.rfl⟩,λb A=>A⟩⟩
 .unfold execOp;rw[ho];simp[Instr.makeMap,newObj,Sem.run,Result.andThen]
 .show(w.heap.push _)[w.heap.size]? =_
  simp
def AcE(σ:List V):V->Option (List (Value×Value))
 |.mp _ l=>some l
 |.rm id p=>match sub p (σ.getD id .dead)with
  |.mp true l=>some l
  |_=>none
 |_=>none
def Q8(wr:Bs σ w D ρ F){l:List (Value×Value)}(M:Rel D w (Am σ ρ w) v cv fp)(h:AcE σ v=some l):
  ∃b es c,cv=.map (some b)/\w.heap[b]? =some (.map es c)/\es.toList.map (λe=>(e.key,e.val))=l:=by
 cases v with
 |mp own O=>
  cases h;obtain⟨b,rfl,⟨es,c,L,J⟩,_⟩:=M;exact⟨b,es,c,rfl,L,J⟩
 |rm id p=>
  obtain⟨⟨E,O,b,A,W⟩,_⟩:=M;have U:=At.sub A;unfold AcE at h
  dsimp only at h
  rw[<-U]at h;cases h;obtain⟨fp1,B,_⟩:=Dg (w':=w) p _ _ _ _ _ (wr.rel id E) (λb Y h'=>wr.dD id b h' Y) A
  obtain⟨b',Z,⟨es,c,L,J⟩,_⟩:=B;exact⟨b',es,c,Z,L,J⟩
 |_=>cases h
def BI(P:Program)(kt:TypeId):Value->Value->Bool
 |.agg xs,.agg ys=>match MX P kt with
  |some ks=>decide (ks≠[9])&&okL ks xs.toList ys.toList
  |none=>false
 |a,b=>match knd P kt with
  |some n=>decide (kOf a=some n)&&decide (kOf b=some n)&&CA a b
  |none=>false
def kEq:Value->Value->Bool
 |.agg xs,.agg ys=>HA xs.toList ys.toList
 |a,b=>vEq a b
theorem XD(h:BI P kt x y=true):(Op.equal kt x y).run P w=.ok (kEq x y) w:=by
 unfold BI at h;split at h
 .split at h
  .rename_i ks B
   rw[bAE,decide_eq_true_eq]at h;exact(OQ w B h.1 h.2).1
  .cases h
 .rename_i A
  split at h
  .rename_i n hn
   simp only[bAE,decide_eq_true_eq]at h;have e:kEq x y=vEq x y:=by
    cases x<;>cases y<;>first|rfl|exact absurd rfl (A _ _ rfl)
   rw[e];exact P1 w hn h.1.1 h.1.2 h.2
  .cases h
def QZ(k:Value):List MapEntry->Nat->Option (Nat×Value)
 |[],_=>none
 |e::es,i=>bif kEq k e.key then some (i,e.val)else QZ k es (i+1)
theorem Hp{kt:TypeId}{k:Value}:∀(es:List MapEntry) (i:Nat),(∀e∈es,BI P kt k e.key=true)->(Instr.findAsking kt k es i).run P w=.ok (QZ k es i) w
 |[],i,_=>rfl
 |e::es,i,h=>by
  have E:=XD (w:=w) (h e (List.mem_cons_self ..));have A:=Hp es (i+1) λx B=>h x (mCM _ B)
  unfold Instr.findAsking QZ;simp only[Sem.run_bind,E,Result.andThen];cases kEq k e.key with
  |true=>rfl
  |false=>simpa using A
theorem UM(hd:P.underlying kt=some d)(h:BI P kt x y=true):(∃xs ys,x=.agg xs/\y=.agg ys/\Instr.sameNow d x y=none)\/Instr.sameNow d x y=some (kEq x y):=by
 unfold BI at h;split at h
 .rename_i xs ys
  refine .inl ⟨xs,ys,rfl,rfl,?_⟩;cases d<;>rfl
 .rename_i L
  right;unfold knd at h;rw[hd]at h;split at h
  .rename_i n hn
   simp only[bAE,decide_eq_true_eq]at h;obtain⟨⟨O,M⟩,h3⟩:=h;split at hn
   all_goals (first|(cases hn;done)|skip)
   all_goals (rename_i q J;cases J;cases hn)
   all_goals (cases x<;>first|(cases O;done)|skip)
   all_goals (cases y<;>first|(cases M;done)|skip)
   all_goals (simp_all[Instr.sameNow,kEq,vEq,CA])
   all_goals (first
    |(rw[Bool.eq_iff_iff];simp;done)
    |(rename_i s1 E;rcases s1 with⟨B⟩;rcases E with⟨A⟩;show(B==A)=decide (B=A);rw[Bool.eq_iff_iff];simp)
    |trace_state)
  .cases h
theorem Ki{kt:TypeId}{d:TypeDesc}{k:Value}(hd:P.underlying kt=some d):∀(es:List MapEntry) (i:Nat),(∀e∈es,BI P kt k e.key=true)->Instr.findNow d k es i=none\/Instr.findNow d k es i=some (QZ k es i)
 |[],i,_=>.inr rfl
 |e::es,i,h=>by
  have B:=Ki hd es (i+1) λx E=>h x (mCM _ E)
  unfold Instr.findNow QZ;rcases UM hd (h e (List.mem_cons_self ..))with⟨_,_,_,_,A⟩|A
  .rw[A];exact .inl rfl
  .rw[A]
   cases kEq k e.key with
   |true=>exact .inr rfl
   |false=>exact B
def Kj(hd:P.underlying kt=some d)(es:List MapEntry)(h:∀e∈es,BI P kt k e.key=true):(Instr.findKey kt k es).run P w=.ok (QZ k es 0) w:=by
 unfold Instr.findKey;simp only[Sem.run_bind,run_underlying hd,Result.andThen];rcases Ki hd es 0 h with h1|h1
 .rw[h1];exact Hp es 0 h
 .rw[h1];rfl
def X9(P:Program)(kt:TypeId)(k:Value):Bool:=match knd P kt with
 |some _=>true
 |none=>match P.underlying kt,k with
  |some (.struct fs),.agg xs=>fs.toList.all λf=>(knd P f.type).isSome&&decide (f.offset<xs.size)
  |_,_=>false
def Uf{k:Nat}(B:knd P t=some k):(Instr.checkKey em (n+1) t x).run P w=.ok () w:=by
 unfold knd at B;unfold Instr.checkKey;split at B
 .rename_i q A;simp only[Sem.run_bind,run_underlying A,Result.andThen];cases x<;>rfl
 .rename_i A;simp only[Sem.run_bind,run_underlying A,Result.andThen];cases x<;>rfl
 .rename_i A;simp only[Sem.run_bind,run_underlying A,Result.andThen];cases x<;>rfl
 .cases B
theorem Aar(h:X9 P kt k=true):(Instr.checkKey em 10000 kt k).run P w=.ok () w:=by
 unfold X9 at h;split at h
 .rename_i n hn;exact Uf (n:=9999) hn
 .split at h
  case h_2=>cases h
  rename_i fs xs hu;rw[show(10000:Nat)=9999+1 from rfl,Instr.checkKey]
  simp only[Sem.run_bind,run_underlying hu,Result.andThen_ok];rw[<-Array.forIn_toList];have h:=aET.1 h;generalize fs.toList=L at h
  induction L with
  |nil=>simp
  |cons f L ih=>
   have h1:=h f (by simp)
   rw[bAE,decide_eq_true_eq,Option.isSome_iff_exists]at h1;obtain⟨⟨k,hk⟩,hlt⟩:=h1;have p1:=run_part_plain w (P:=P) (D7 hk) (Array.getElem?_eq_getElem hlt);have p2:=Uf (P:=P) (w:=w) (em:=em) (n:=9998) (x:=xs[f.offset]) hk;have ih:=ih λy hy=>h y (by simp[hy])
   rw[List.forIn_cons];by_cases hn : f.name = "_"
   .simpa [hn,Sem.run_bind,Result.andThen]using ih
   .simp only[Sem.run_bind,hn,ne_eq,not_false_eq_true,if_true,Result.andThen_ok,p1,p2,Sem.run_pure]
    exact ih
def DG:V->Value
 |.c v=>v
 |_=>undef
def isCV:V->Bool
 |.c _=>true
 |_=>false
def Z9:V->Option Value
 |.c v=>some v
 |.many .ag n f=>if((List.range n).all λk=>isCV (f k))=true then some (.agg ((List.range n).map λk=>DG (f k)).toArray)else none
 |_=>none
def XJ(A:Rel D w R v cv fp)(h:isCV v=true):cv=DG v:=by
 cases v<;>first|exact A.1|cases h
theorem MO(E:Rel D w R v cv fp)(h:Z9 v=some k):cv=k:=by
 cases v with
 |c x=>cases h;exact E.1
 |many t n f=>
  cases t<;>first|(cases h;done)|skip
  unfold Z9 at h
  dsimp only at h
  split at h
  case isFalse=>cases h
  rename_i L;cases h;obtain⟨cs,G,B,hn,M,_⟩:=E;have B:cv=.agg cs:=B;rw[B]
  congr 1
  apply Array.ext';apply List.ext_getElem
  .simpa using hn
  .intro j U O
   have J:j<n:=by simpa using O
   have A:=XJ (M j J) (aET.1 L j (List.mem_range.2 J));have A:cs.getD j undef=DG (f j):=A;rw[Array.getD_eq_getD_getElem?,Array.getElem?_eq_getElem (by simpa using U)]at A
   simpa using A
 |_=>cases h
def H9(k:Value):List (Value×Value)->Option Value
 |[]=>none
 |e::l=>bif kEq k e.1 then some e.2 else H9 k l
def Lt{k:Value}:∀(es:List MapEntry) (i:Nat),(QZ k es i).map (·.2)=H9 k (es.map λe=>(e.key,e.val))
 |[],_=>rfl
 |e::es,i=>by
  show Option.map _ (bif kEq k e.key then some (i,e.val)else QZ k es (i+1))=(bif kEq k e.key then some e.val else H9 k _);cases kEq k e.key with
  |true=>rfl
  |false=>exact Lt es (i+1)
def Pa(P:Program)(t:TypeId):Option Value:=match P.info? t with
 |some i=>i.zero
 |none=>none
def Ws(h:Pa P t=some z):(zeroValue t).run P w=.ok z w:=by
 unfold Pa at h;split at h
 .rename_i i A
  simp[zeroValue,typeInfo,Sem.run,A,h]
 .cases h
def VP(v:Value):Bool:=match v with
 |.agg cs=>cs.toList.all (·.oneCell')
 |v=>v.oneCell'
def Acq(v:Value):V:=match v with
 |.agg cs=>Aj (cs.toList.map .c)
 |v=>.c v
theorem Qb{v:Value}(h:VP v=true):Rel D w R (Acq v) v noF:=by
 unfold VP at h;unfold Acq;split at h
 .rename_i cs
  refine⟨cs,λ_=>noF,rfl,by simp,λk A=>?_,λ_ _ _ _ _ _ h=>h.elim,λb=>⟨λh=>h.elim,fun⟨_,_,h⟩=>h⟩⟩
  simp at A;have e:(cs.toList.map V.c).getD k .dead=.c (cs.getD k undef):=by simp_all
  show Rel D w R ((cs.toList.map V.c).getD k .dead) _ _;rw[e];refine⟨rfl,aET.1 h _ ?_,λ_ h=>h⟩
  grind
 .exact⟨rfl,h,λ_ h=>h⟩
def lookV(co:Bool)(v:Value)(b:Bool):V:=bif co then .many .tu 2 λk=>if k=0 then Acq v else .c (.bool b)else Acq v
def AbH(co:Bool)(v:Value)(b:Bool):Value:=if co then .tuple #[v,.bool b]else v
def WN(P:Program)(σ:List V)(t:TypeId)(A B:V)(co:Bool)(K:V->Prop):Prop:=
 ∃kt et l k z,VJ P t=some (kt,et)/\AcE σ A=some l/\Z9 B=some k/\Pa P et=some z/\X9 P kt k=true/\(∀e∈l,BI P kt k e.1=true)/\
  VP ((H9 k l).getD z)=true/\K (lookV co ((H9 k l).getD z) (H9 k l).isSome)
theorem W8{v:Value}{b:Bool}(h:VP v=true):Rel D w R (lookV co v b) (AbH co v b) noF:=by
 cases co with
 |false=>exact Qb h
 |true=>
  refine⟨#[v,.bool b],λ_=>noF,rfl,rfl,λk A=>?_,λ_ _ _ _ _ _ h=>h.elim,λb=>⟨λh=>h.elim,fun⟨_,_,h⟩=>h⟩⟩
  match k,A with
  |0,_=>exact Qb h
  |1,_=>exact⟨rfl,rfl,λ_ h=>h⟩
theorem Va{co:Bool}(L:VJ P t=some (kt,et))(Y:w.heap[b]? =some (.map es c))(B:Pa P et=some z)(A:X9 P kt k=true)(J:∀e∈es.toList,BI P kt k e.key=true):
  (Instr.lookup t (.map (some b)) k co).run P w=.ok (AbH co ((H9 k (es.toList.map λe=>(e.key,e.val))).getD z) (H9 k (es.toList.map λe=>(e.key,e.val))).isSome) w:=by
 have E:=J7 L;obtain⟨d,hd⟩:∃d,P.underlying kt=some d:=by
  unfold X9 knd at A
  grind
 have O:=Kj (w:=w) hd es.toList J;have U:=Lt (k:=k) es.toList 0;have W:=Aar (w:=w) (em:=es.isEmpty) A
 have M:(getObj b).run P w=.ok (.map es c) w:=by
  simp[getObj,Sem.run,Y]
 unfold Instr.lookup;simp only[Sem.run_bind,run_underlying E,Result.andThen_ok,M,Sem.run_pure,W,O];rw[<-U];cases QZ k es.toList 0 with
 |none=>
  simp only[Sem.run_bind,Ws B,Result.andThen_ok,Sem.run_pure];cases co<;>rfl
 |some q=>
  simp only[Sem.run_bind,Result.andThen_ok,Sem.run_pure];cases co<;>rfl
theorem Mq(wr:Bs σ w D ρ F){x i:Operand}{E J:V}(ho:o.op=.lookup t x i co)(A:OpR σ w D ρ F E (a.eval x))(B:OpR σ w D ρ F J (a.eval i))(h:WN P σ t E J co K):∃r,K r/\Av P o a w σ D ρ r:=by
 obtain⟨kt,et,l,k,z,h1,h2,h3,Z,Y,W,U,O⟩:=h;obtain⟨_,A,_⟩:=A;obtain⟨_,B,_⟩:=B;obtain⟨b,es,c,e1,e2,L⟩:=Q8 wr A h2;have e4:=MO B h3;refine⟨_,O,Av.pure wr (v':=AbH co ((H9 k l).getD z) (H9 k l).isSome) ?_ (W8 U)⟩;have:=Va (P:=P) (w:=w) (co:=co) h1 e2 Z Y (λe M=>W (e.key,e.val) (by rw[<-L];exact List.mem_map.2 ⟨e,M,rfl⟩))
 rw[L]at this;unfold execOp;rw[ho];simp[e1,e4,this]
def qLenM(σ:List V)(A:V)(K:V->Prop):Prop:=∃l,AcE σ A=some l/\K (.c (.int .i64 l.length))
theorem Pz(wr:Bs σ w D ρ F){x:Operand}(B:VJ P t=some (kt,et))(ho:o.op=.call {callee:=.builtin .len,args:=#[x],argTypes:=#[t]})(A:OpR σ w D ρ F v (a.eval x))(h:qLenM σ v K):∃r,K r/\Av P o a w σ D ρ r:=by
 obtain⟨l,M,L⟩:=h;obtain⟨_,E,_⟩:=A;obtain⟨b,es,c,W,U,O⟩:=Q8 wr E M;have J:(getObj b).run P w=.ok (.map es c) w:=by simp[getObj,Sem.run,U]
 have hn:l.length=es.size:=by rw[<-O];simp
 refine⟨_,L,Av.pure wr (v':=.int .i64 l.length) ?_ ⟨rfl,rfl,λ_ h=>h⟩⟩
 unfold execOp;rw[ho];simp[resolve,invoke,builtin,Builtin.len_,run_underlying (J7 B),W,J,goInt,hn,Result.andThen]
def ZJ(k v:Value):List (Value×Value)->List (Value×Value)
 |[]=>[(k,v)]
 |e::l=>bif kEq k e.1 then(k,v)::l else e::ZJ k v l
theorem Aay{k:Nat}(M:kOf x=some k)(L:kOf y=some k)(J:CA x y=true)(h:vEq x y=true):Instr.sameBits n y x=true:=by
 cases x<;>cases y<;>first|(cases h;done)|skip
 all_goals (simp_all[vEq,CA,kOf,Instr.sameBits])
 all_goals (rename_i s1 A;rcases s1 with⟨E⟩;rcases A with⟨B⟩;show(B==E)=true;simp_all)
def Aaz{n:Nat}:∀(ks:List Nat) (l m:List Value),okL ks l m=true->HA l m=true->m.length=l.length/\((m.zip l).all λq=>Instr.sameBits n q.1 q.2)=true
 |[],[],[],_,_=>⟨rfl,rfl⟩
 |k::ks,a::l,b::m,h,A=>by
  have h:((kOf a==some k)&&(kOf b==some k)&&CA a b&&okL ks l m)=true:=h;have A:(vEq a b&&HA l m)=true:=A;simp only[bAE,beq_iff_eq]at h A;obtain⟨⟨⟨L,J⟩,h3⟩,h4⟩:=h;obtain⟨E,B⟩:=Aaz (n:=n) ks l m h4 A.2;refine⟨by simp[E],?_⟩
  simp only[List.zip_cons_cons,List.all_cons,Aay L J h3 A.1,B,Bool.and_self]
 |[],[],_::_,h,_=>by cases h
 |[],_::_,_,h,_=>by cases h
 |_::_,[],_,h,_=>by cases h
 |_::_,_::_,[],h,_=>by cases h
theorem Zy(h:BI P kt x y=true)(A:kEq x y=true):Instr.sameBits (n+1) y x=true:=by
 unfold BI at h;split at h
 .rename_i xs ys
  split at h
  .rename_i ks E
   rw[bAE,decide_eq_true_eq]at h;have A:HA xs.toList ys.toList=true:=A;obtain⟨L,J⟩:=Aaz (n:=n) ks _ _ h.2 A;unfold Instr.sameBits;simp only[bAE,beq_iff_eq];exact⟨by simpa using L,J⟩
  .cases h
 .rename_i B
  split at h
  .rename_i q M
   simp only[bAE,decide_eq_true_eq]at h;have e:kEq x y=vEq x y:=by
    cases x<;>cases y<;>first|rfl|exact absurd rfl (B _ _ rfl)
   rw[e]at A;exact Aay h.1.1 h.1.2 h.2 A
  .cases h
def OF{k:Value}:∀(es:List MapEntry) (i:Nat),QZ k es i=none->∀v,ZJ k v (es.map λe=>(e.key,e.val))=(es.map λe=>(e.key,e.val))++[(k,v)]
 |[],_,_,_=>rfl
 |e::es,i,h,v=>by
  unfold QZ at h;show(bif kEq k e.key then _ else _)=_;cases A:kEq k e.key with
  |true=>rw[A]at h;cases h
  |false=>
   rw[A]at h;have B:=OF es (i+1) h v;show(e.key,e.val)::ZJ k v _=_;rw[B];rfl
def OE{k:Value}:∀(es:List MapEntry) (i j:Nat) (x:Value),QZ k es i=some (j,x)->∃q e,j=i+q/\es[q]? =some e/\kEq k e.key=true/\∀(v:Value) (f:MapEntry->MapEntry),(f e).key=k->(f e).val=v->(es.modify q f).map (λe=>(e.key,e.val))=ZJ k v (es.map λe=>(e.key,e.val))
 |[],_,_,_,h=>by cases h
 |e::es,i,j,x,h=>by
  unfold QZ at h;cases A:kEq k e.key with
  |true=>
   rw[A]at h;cases h;refine⟨0,e,rfl,rfl,A,λv f E B=>?_⟩
   show((f e).key,(f e).val)::_=(bif kEq k e.key then _ else _);rw[A,E,B];rfl
  |false=>
   rw[A]at h;obtain⟨q,M,E,B,L,J⟩:=OE es (i+1) j x h;refine⟨q+1,M,by omega,by simpa using B,L,λv f g1 g2=>?_⟩
   show _=(bif kEq k e.key then _ else _);rw[A];show _::_=_::_;rw[<-J v f g1 g2];rfl
theorem ME{v:Value}(hm:VJ P t=some (kt,et))(Z:w.heap[b]? =some (.map es c))(O:X9 P kt k=true)(M:∀e∈es.toList,BI P kt k e.key=true):
  ∃es' c',(Instr.mapUpdate t (.map (some b)) k v).run P w=.ok () {w with heap:=w.heap.setIfInBounds b (.map es' c')}/\es'.toList.map (λe=>(e.key,e.val))=ZJ k v (es.toList.map λe=>(e.key,e.val)):=by
 have J:=J7 hm;obtain⟨d,hd⟩:∃d,P.underlying kt=some d:=by
  unfold X9 knd at O
  grind
 have W:=Kj (w:=w) hd es.toList M;have Y:=Aar (w:=w) (em:=false) O;have U:(getObj b).run P w=.ok (.map es c) w:=by simp[getObj,Sem.run,Z]
 have L:∀o,(setObj b o).run P w=.ok () {w with heap:=w.heap.setIfInBounds b o}:=by intro o;simp[setObj,Sem.run,Z]
 cases A:QZ k es.toList 0 with
 |none=>
  refine⟨es.push {key:=k,val:=v,born:=c},c+1,?_,?_⟩
  .unfold Instr.mapUpdate
   simp[run_underlying J,Result.andThen,U,Y,W,A,L]
  .rw[OF _ _ A];simp
 |some q=>
  obtain⟨j,x⟩:=q;obtain⟨q,e,h1,h2,h3,h4⟩:=OE _ _ _ _ A;obtain rfl:j=q:=by omega
  have E:es[j]? =some e:=by simpa using h2
  have B:=Zy (n:=9999) (M e (List.mem_of_getElem? h2)) h3;refine⟨es.modify j λe=>{e with key:=k,val:=v},c,?_,?_⟩
  .unfold Instr.mapUpdate
   simp[run_underlying J,Result.andThen,U,Y,W,A,L,Instr.keyThatStays,E,B]
  .rw[Array.toList_modify]
   exact h4 v _ rfl rfl
end
end Go.Ve

