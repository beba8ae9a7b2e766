/- Equality of bools, of structs and arrays of scalars. -/
import Derived.Test.YtojjlnbnneemaaaVh
import Derived.ChangeKeysEq
open List(range replicate range' drop drop_drop all_cons)
set_option linter.all false
namespace Go.Ve
open Go
variable{k:Nat}{P:Program}{e t:TypeId}
def knd(P:Program)(t:TypeId):Option Nat:=match P.underlying t with
 |some (.int _)=>some 0
 |some .bool=>some 1
 |some .string=>some 2
 |_=>none
def Mw(P:Program)(t:TypeId):Option (List Nat):=match P.underlying t with
 |some .bool=>some [9]
 | some (.struct fs) => if fs.toList.all (λf => f.name != "_") && !P.stoodInHeld t && !P.eqGuardType P.depth t && decide (fs.toList.map (·.offset) = range fs.toList.length)then fs.toList.mapM (λf => knd P f.type)else none
 |some (.array n e)=>if P.cellsOf e==1&& !P.eqGuardType P.depth t then(match knd P e with
   |some k=>some (replicate n k)
   |none=>none)else none
 |_=>none
def kOf:Value->Option Nat
 |.int _ _=>some 0
 |.bool _=>some 1
 |.string _=>some 2
 |_=>none
def Cz:Value->Value->Bool
 |.int k _,.int k' _=>decide (k=k')
 |_,_=>true
def vEq:Value->Value->Bool
 |.int _ a,.int _ b=>decide (a=b)
 |.bool a,.bool b=>a==b
 |.string a,.string b=>decide (a.data.toList=b.data.toList)
 |_,_=>false
theorem DL(h:knd P e=some k):P.plainKey e=true:=by
 unfold knd at h;unfold Program.plainKey
 grind
theorem Pu(w:World){d:Nat}{a b:Value}(u:knd P e=some k)(J:kOf a=some k)(E:kOf b=some k)(O:Cz a b=true):(Op.equalIn (d+1) e a b).run P w=.ok (vEq a b) w:=by
 unfold knd at u;split at u
 .rename_i q A
  cases u;cases a<;>try (cases J;done)
  cases b<;>try (cases E;done)
  rename_i k1 x k2 y;have B:k1=k2:=by simpa [Cz]using O
  subst B;simp[Op.equalIn,run_underlying A,vEq];rfl
 .rename_i A
  cases u;cases a<;>try (cases J;done)
  cases b<;>try (cases E;done)
  simp[Op.equalIn,run_underlying A,vEq]
 .rename_i A
  cases u;cases a<;>try (cases J;done)
  cases b<;>try (cases E;done)
  rename_i x y
  have e:(x==y)=decide (x.data.toList=y.data.toList):=by
   rw[beq_toListBytes,ByteArray.toList_eq,ByteArray.toList_eq];rw[Bool.eq_iff_iff];simp
  simp[Op.equalIn,run_underlying A,vEq,e]
 .cases u
def Hi:List Value->List Value->Bool
 |a::l,b::m=>vEq a b&&Hi l m
 |_,_=>true
def okL:List Nat->List Value->List Value->Bool
 |k::ks,a::l,b::m=>(kOf a==some k)&&(kOf b==some k)&&Cz a b&&okL ks l m
 |[],[],[]=>true
 |_,_,_=>false
def Oc{P:Program}(w:World){e:TypeId}{k d:Nat}(u:knd P e=some k)(xs ys:Array Value):∀(n off:Nat) (l m:List Value),xs.toList.drop off=l->ys.toList.drop off=m->okL (replicate n k) l m=true->
  (Op.eqItems (d+1) e 1 xs ys (range' off n)).run P w=.ok (Hi l m) w
 |0,off,l,m,_,_,h=>by
  cases l<;>cases m<;>first|(cases h;done)|rfl
 |n+1,off,l,m,hl,hm,h=>by
  cases l with
  |nil=>cases m<;>cases h
  |cons a l=>
  cases m with
  |nil=>cases h
  |cons b m=>
  have h:((kOf a==some k)&&(kOf b==some k)&&Cz a b&&okL (replicate n k) l m)=true:=h;simp only[bAE,beq_iff_eq]at h;obtain⟨⟨⟨O,J⟩,h3⟩,h4⟩:=h;have W:xs[off]? =some a:=by
   have:=congrArg (·[0]?) hl
   simpa using this
  have U:ys[off]? =some b:=by
   have:=congrArg (·[0]?) hm
   simpa using this
  have B:xs.toList.drop (off+1)=l:=by
   have:=congrArg (drop 1) hl;simpa [drop_drop,Nat.add_comm]using this
  have tb:ys.toList.drop (off+1)=m:=by
   have:=congrArg (drop 1) hm;simpa [drop_drop,Nat.add_comm]using this
  have E:=Oc w (d:=d) u xs ys n (off+1) l m B tb h4;rw[List.range'_succ];simp only[Op.eqItems,Sem.run_bind,Nat.mul_one,run_part_plain w (DL u) W,run_part_plain w (DL u) U,Result.andThen_ok,Pu w u O J h3];cases A:vEq a b with
  |false=>simp[Hi,A]
  |true=>simpa [Hi,A]using E
theorem K9 {P : Program} (w : World) {d : Nat} (xs ys : Array Value) :∀(fs : List Field) (ks : List Nat) (off : Nat) (l m : List Value), fs.all (λf => f.name != "_") = true → fs.map (·.offset) = range' off fs.length → fs.mapM (λf => knd P f.type) = some ks →
  xs.toList.drop off=l->ys.toList.drop off=m->okL ks l m=true->(Op.eqFields (d+1) xs ys fs).run P w=.ok (Hi l m) w
 |[],ks,off,l,m,_,_,hk,_,_,h=>by
  simp at hk;subst hk;cases l<;>cases m<;>first|(cases h;done)|rfl
 |f::fs,ks,off,l,m,hn,ho,hk,hl,hm,h=>by
  rw[List.mapM_cons]at hk;simp only[bind,Option.bind_eq_some_iff,pure,Option.some.injEq]at hk;obtain⟨k,hk1,ks',hk2,rfl⟩:=hk;cases l with
  |nil=>cases m<;>cases h
  |cons a l=>
  cases m with
  |nil=>cases h
  |cons b m=>
  have h:((kOf a==some k)&&(kOf b==some k)&&Cz a b&&okL ks' l m)=true:=h;simp only[bAE,beq_iff_eq]at h;obtain⟨⟨⟨h1,h2⟩,h3⟩,h4⟩:=h;rw[all_cons,bAE]at hn;rw[List.map_cons,List.length_cons,List.range'_succ,List.cons.injEq]at ho;have ga:xs[off]? =some a:=by
   have:=congrArg (·[0]?) hl
   simpa using this
  have gb:ys[off]? =some b:=by
   have:=congrArg (·[0]?) hm
   simpa using this
  have ta:xs.toList.drop (off+1)=l:=by
   have:=congrArg (drop 1) hl;simpa [drop_drop,Nat.add_comm]using this
  have tb:ys.toList.drop (off+1)=m:=by
   have:=congrArg (drop 1) hm;simpa [drop_drop,Nat.add_comm]using this
  have ih:=K9 w (d:=d) xs ys fs ks' (off+1) l m hn.2 ho.2 hk2 ta tb h4;have hne : f.name ≠ "_" := by simpa using hn.1
  simp only[Op.eqFields,hne,ne_eq,not_false_eq_true,if_true,Sem.run_bind,ho.1,run_part_plain w (DL hk1) ga,run_part_plain w (DL hk1) gb,Result.andThen_ok,Pu w hk1 h1 h2 h3];cases hv:vEq a b with
  |false=>simp[Hi,hv]
  |true=>simpa [Hi,hv]using ih
theorem Ob(w:World){ks:List Nat}{xs ys:Array Value}(h:Mw P t=some ks)(hn:ks≠[9])(J:okL ks xs.toList ys.toList=true):
  (Op.equal t (.agg xs) (.agg ys)).run P w=.ok (Hi xs.toList ys.toList) w/\P.eqGuardType P.depth t=false:=by
 unfold Mw at h;split at h
 .grind
 .rename_i fs E
  split at h
  case isFalse=>cases h
  rename_i u;simp only[bAE,Bool.not_eq_true',decide_eq_true_eq]at u;obtain⟨⟨⟨Y,W⟩,U⟩,h4⟩:=u;refine⟨?_,U⟩;have Z:P.fieldsOf t=fs:=by unfold Program.fieldsOf;rw[E]
  show(Op.equalIn (9998+1+1) t (.agg xs) (.agg ys)).run P w=_;rw[run_equalIn_struct w _ t xs ys (by grind) W,Z]
  exact K9 w xs ys fs.toList ks 0 _ _ Y (by rw[h4,List.range_eq_range']) h rfl rfl J
 .rename_i n e E
  split at h
  case isFalse=>cases h
  rename_i u;simp only[bAE,Bool.not_eq_true',beq_iff_eq]at u;split at h
  case h_2=>cases h
  rename_i k B;cases h;refine⟨?_,u.2⟩;obtain⟨i,O⟩:∃i,P.info? e=some i:=by
   unfold knd at B;split at B
   .rename_i A;exact info_of_underlying A
   .rename_i A;exact info_of_underlying A
   .rename_i A;exact info_of_underlying A
   .cases B
  show(Op.equalIn (9998+1+1) t (.agg xs) (.agg ys)).run P w=_;rw[run_equalIn_array w _ xs ys E O,u.1,List.range_eq_range'];exact Oc w B xs ys n 0 _ _ rfl rfl J
 .cases h
theorem Z3(h:knd P t=some k):k≠9:=by
 unfold knd at h
 grind
theorem WQ{α:Type}{f:α->Option Nat}{l:List α}{m:List Nat}(h:l.mapM f=some (k::m)):∃x,f x=some k:=by
 cases l with
 |nil=>grind
 |cons x l=>
  simp[Option.bind_eq_some_iff,List.cons.injEq]at h
  grind
theorem UY(w:World){a b:Bool}(h:Mw P t=some [9]):(Op.equal t (.bool a) (.bool b)).run P w=.ok (a==b) w:=by
 unfold Mw at h;split at h
 .rename_i A
  have gen:∀d,(Op.equalIn (d+1) t (.bool a) (.bool b)).run P w=.ok (a==b) w:=λd=>by simp[Op.equalIn,run_underlying A]
  exact gen 9999
 .split at h
  .obtain⟨x,u⟩:=WQ h
   exact absurd rfl (Z3 u)
  .cases h
 .split at h
  .split at h
   .rename_i k B
    have h:=Option.some.inj h;have key:∀n,replicate n k=[9]->False:=λn e=>by
     have:9∈replicate n k:=by rw[e];simp
     rw[List.mem_replicate]at this;exact absurd this.2.symm (Z3 B)
    exact(key _ h).elim
   .cases h
  .cases h
 .cases h
end Go.Ve


namespace Go.Ve
open Go
variable{es:Array MapEntry}{co em:Bool}{b c n:Nat}{D fp:Nat->Prop}{d:TypeDesc}{et kt t:TypeId}{v:V}{R:V->Value->Prop}{cv k x y z:Value}{w:World}
section
variable {P:Program}{o:Oper}{a:Act}{w:World}{σ:List V}{D:Nat->Prop}{ρ:Nat->Value}{F:Nat->Nat->Prop}{K:V->Prop}
def Vf(P:Program)(t:TypeId):Option (TypeId×TypeId):=match P.underlying t with
 |some (.map k e)=>some (k,e)
 |_=>none
def JC{k e:TypeId}(h:Vf P t=some (k,e)):P.underlying t=some (.map k e):=by
 unfold Vf at h;split at h
 .rename_i u;cases h;exact u
 .cases h
def Qc(res:Option Operand)(K:V->Prop):Prop:=res=none/\K (.mp true [])
theorem Kh(wr:Bu σ w D ρ F){res:Option Operand}(u:o.op=.makeMap t res)(h:Qc res K):∃r,K r/\Av P o a w σ D ρ r:=by
 obtain⟨rfl,B⟩:=h;refine⟨_,B,Av.new (ob:=.map #[] 0) (v':=.map (some w.heap.size)) wr ?_ ⟨λb=>b=w.heap.size,⟨w.heap.size,rfl,⟨#[],0,?_,rfl⟩,(λe=>by cases e),λ_ x=>Iff.rfl⟩,λb A=>A⟩⟩
 .unfold execOp;rw[u];simp[Instr.makeMap,newObj,Sem.run,Result.andThen]
 .show(w.heap.push _)[w.heap.size]? =_
  simp
def Acx(σ:List V):V->Option (List (Value×Value))
 |.mp _ l=>some l
 |.rm id p=>match sub p (σ.getD id .dead)with
  |.mp true l=>some l
  |_=>none
 |_=>none
def QE(wr:Bu σ w D ρ F){l:List (Value×Value)}(O:Rel D w (Aq σ ρ w) v cv fp)(h:Acx σ v=some l):
  ∃b es c,cv=.map (some b)/\w.heap[b]? =some (.map es c)/\es.toList.map (λe=>(e.key,e.val))=l:=by
 cases v with
 |mp own U=>
  cases h;obtain⟨b,rfl,⟨es,c,J,E⟩,_⟩:=O;exact⟨b,es,c,rfl,J,E⟩
 |rm id p=>
  obtain⟨⟨B,U,b,u,Y⟩,_⟩:=O;have W:=At.sub u;unfold Acx at h
  dsimp only at h
  rw[<-W]at h;cases h;obtain⟨fp1,A,_⟩:=C9 (w':=w) p _ _ _ _ _ (wr.rel id B) (λb Z h'=>wr.dD id b h' Z) u
  obtain⟨b',h0,⟨es,c,J,E⟩,_⟩:=A;exact⟨b',es,c,h0,J,E⟩
 |_=>cases h
def BJ(P:Program)(kt:TypeId):Value->Value->Bool
 |.agg xs,.agg ys=>match Mw P kt with
  |some ks=>decide (ks≠[9])&&okL ks xs.toList ys.toList
  |none=>false
 |a,b=>match knd P kt with
  |some n=>decide (kOf a=some n)&&decide (kOf b=some n)&&Cz a b
  |none=>false
def kEq:Value->Value->Bool
 |.agg xs,.agg ys=>Hi xs.toList ys.toList
 |a,b=>vEq a b
theorem Xt(h:BJ P kt x y=true):(Op.equal kt x y).run P w=.ok (kEq x y) w:=by
 unfold BJ at h;split at h
 .split at h
  .rename_i ks A
   rw[bAE,decide_eq_true_eq]at h;exact(Ob w A h.1 h.2).1
  .cases h
 .rename_i u
  split at h
  .rename_i n B
   simp only[bAE,decide_eq_true_eq]at h;have e:kEq x y=vEq x y:=by
    cases x<;>cases y<;>first|rfl|exact absurd rfl (u _ _ rfl)
   rw[e];exact Pu w B h.1.1 h.1.2 h.2
  .cases h
def Qx(k:Value):List MapEntry->Nat->Option (Nat×Value)
 |[],_=>none
 |e::es,i=>bif kEq k e.key then some (i,e.val)else Qx k es (i+1)
theorem D7{kt:TypeId}{k:Value}:∀(es:List MapEntry) (i:Nat),(∀e∈es,BJ P kt k e.key=true)->(Instr.findAsking kt k es i).run P w=.ok (Qx k es i) w
 |[],i,_=>rfl
 |e::es,i,h=>by
  have B:=Xt (w:=w) (h e (List.mem_cons_self ..));have u:=D7 es (i+1) λx A=>h x (mCM _ A)
  unfold Instr.findAsking Qx;simp only[Sem.run_bind,B,Result.andThen];cases kEq k e.key with
  |true=>rfl
  |false=>simpa using u
theorem Uk(hd:P.underlying kt=some d)(h:BJ P kt x y=true):(∃xs ys,x=.agg xs/\y=.agg ys/\Instr.sameNow d x y=none)\/Instr.sameNow d x y=some (kEq x y):=by
 unfold BJ at h;split at h
 .rename_i xs ys
  refine .inl ⟨xs,ys,rfl,rfl,?_⟩;cases d<;>rfl
 .rename_i O
  right;unfold knd at h;rw[hd]at h;split at h
  .rename_i n u
   simp only[bAE,decide_eq_true_eq]at h;obtain⟨⟨W,U⟩,h3⟩:=h;split at u
   all_goals (first|(cases u;done)|skip)
   all_goals (rename_i q J;cases J;cases u)
   all_goals (cases x<;>first|(cases W;done)|skip)
   all_goals (cases y<;>first|(cases U;done)|skip)
   all_goals (simp_all[Instr.sameNow,kEq,vEq,Cz])
   all_goals (first
    |(rw[Bool.eq_iff_iff];simp;done)
    |(rename_i s1 E;rcases s1 with⟨B⟩;rcases E with⟨A⟩;show(B==A)=decide (B=A);rw[Bool.eq_iff_iff];simp)
    |trace_state)
  .cases h
theorem JO{kt:TypeId}{d:TypeDesc}{k:Value}(hd:P.underlying kt=some d):∀(es:List MapEntry) (i:Nat),(∀e∈es,BJ P kt k e.key=true)->Instr.findNow d k es i=none\/Instr.findNow d k es i=some (Qx k es i)
 |[],i,_=>.inr rfl
 |e::es,i,h=>by
  have A:=JO hd es (i+1) λx B=>h x (mCM _ B)
  unfold Instr.findNow Qx;rcases Uk hd (h e (List.mem_cons_self ..))with⟨_,_,_,_,u⟩|u
  .rw[u];exact .inl rfl
  .rw[u]
   cases kEq k e.key with
   |true=>exact .inr rfl
   |false=>exact A
def JP(hd:P.underlying kt=some d)(es:List MapEntry)(h:∀e∈es,BJ P kt k e.key=true):(Instr.findKey kt k es).run P w=.ok (Qx k es 0) w:=by
 unfold Instr.findKey;simp only[Sem.run_bind,run_underlying hd,Result.andThen];rcases JO hd es 0 h with h1|h1
 .rw[h1];exact D7 es 0 h
 .rw[h1];rfl
def X5(P:Program)(kt:TypeId)(k:Value):Bool:=match knd P kt with
 |some _=>true
 |none=>match P.underlying kt,k with
  |some (.struct fs),.agg xs=>fs.toList.all λf=>(knd P f.type).isSome&&decide (f.offset<xs.size)
  |_,_=>false
def QO{k:Nat}(A:knd P t=some k):(Instr.checkKey em (n+1) t x).run P w=.ok () w:=by
 unfold knd at A;unfold Instr.checkKey;split at A
 .rename_i q u;simp only[Sem.run_bind,run_underlying u,Result.andThen];cases x<;>rfl
 .rename_i u;simp only[Sem.run_bind,run_underlying u,Result.andThen];cases x<;>rfl
 .rename_i u;simp only[Sem.run_bind,run_underlying u,Result.andThen];cases x<;>rfl
 .cases A
theorem Aao(h:X5 P kt k=true):(Instr.checkKey em 10000 kt k).run P w=.ok () w:=by
 unfold X5 at h;split at h
 .rename_i n hn;exact QO (n:=9999) hn
 .split at h
  case h_2=>cases h
  rename_i fs xs hu;rw[show(10000:Nat)=9999+1 from rfl,Instr.checkKey]
  simp only[Sem.run_bind,run_underlying hu,Result.andThen_ok];rw[<-Array.forIn_toList];have h:=aET.1 h;generalize fs.toList=L at h
  induction L with
  |nil=>simp
  |cons f L ih=>
   have h1:=h f (by simp)
   rw[bAE,decide_eq_true_eq,Option.isSome_iff_exists]at h1;obtain⟨⟨k,hk⟩,hlt⟩:=h1;have p1:=run_part_plain w (P:=P) (DL hk) (Array.getElem?_eq_getElem hlt);have p2:=QO (P:=P) (w:=w) (em:=em) (n:=9998) (x:=xs[f.offset]) hk;have ih:=ih λy hy=>h y (by simp[hy])
   rw[List.forIn_cons];by_cases hn : f.name = "_"
   .simpa [hn,Sem.run_bind,Result.andThen]using ih
   .simp only[Sem.run_bind,hn,ne_eq,not_false_eq_true,if_true,Result.andThen_ok,p1,p2,Sem.run_pure]
    exact ih
def Du:V->Value
 |.c v=>v
 |_=>undef
def isCV:V->Bool
 |.c _=>true
 |_=>false
def Z4:V->Option Value
 |.c v=>some v
 |.many .ag n f=>if((range n).all λk=>isCV (f k))=true then some (.agg ((range n).map λk=>Du (f k)).toArray)else none
 |_=>none
def XB(u:Rel D w R v cv fp)(h:isCV v=true):cv=Du v:=by
 cases v<;>first|exact u.1|cases h
theorem Mk(B:Rel D w R v cv fp)(h:Z4 v=some k):cv=k:=by
 cases v with
 |c x=>cases h;exact B.1
 |many t n f=>
  cases t<;>first|(cases h;done)|skip
  unfold Z4 at h
  dsimp only at h
  split at h
  case isFalse=>cases h
  rename_i O;cases h;obtain⟨cs,G,A,J,U,_⟩:=B;have A:cv=.agg cs:=A;rw[A]
  congr 1
  apply Array.ext';apply List.ext_getElem
  .simpa using J
  .intro j Y W
   have E:j<n:=by simpa using W
   have u:=XB (U j E) (aET.1 O j (List.mem_range.2 E));have u:cs.getD j undef=Du (f j):=u;rw[Array.getD_eq_getD_getElem?,Array.getElem?_eq_getElem (by simpa using Y)]at u
   simpa using u
 |_=>cases h
def HR(k:Value):List (Value×Value)->Option Value
 |[]=>none
 |e::l=>bif kEq k e.1 then some e.2 else HR k l
def K0{k:Value}:∀(es:List MapEntry) (i:Nat),(Qx k es i).map (·.2)=HR k (es.map λe=>(e.key,e.val))
 |[],_=>rfl
 |e::es,i=>by
  show Option.map _ (bif kEq k e.key then some (i,e.val)else Qx k es (i+1))=(bif kEq k e.key then some e.val else HR k _);cases kEq k e.key with
  |true=>rfl
  |false=>exact K0 es (i+1)
def Oy(P:Program)(t:TypeId):Option Value:=match P.info? t with
 |some i=>i.zero
 |none=>none
def V7(h:Oy P t=some z):(zeroValue t).run P w=.ok z w:=by
 unfold Oy at h;split at h
 .rename_i i u
  simp[zeroValue,typeInfo,Sem.run,u,h]
 .cases h
def Vo(v:Value):Bool:=match v with
 |.agg cs=>cs.toList.all (·.oneCell')
 |v=>v.oneCell'
def Ack(v:Value):V:=match v with
 |.agg cs=>Am (cs.toList.map .c)
 |v=>.c v
theorem PF{v:Value}(h:Vo v=true):Rel D w R (Ack v) v noF:=by
 unfold Vo at h;unfold Ack;split at h
 .rename_i cs
  refine⟨cs,λ_=>noF,rfl,by simp,λk u=>?_,λ_ _ _ _ _ _ h=>h.elim,λb=>⟨λh=>h.elim,fun⟨_,_,h⟩=>h⟩⟩
  simp at u;have e:(cs.toList.map V.c).getD k .dead=.c (cs.getD k undef):=by simp_all
  show Rel D w R ((cs.toList.map V.c).getD k .dead) _ _;rw[e];refine⟨rfl,aET.1 h _ ?_,λ_ h=>h⟩
  grind
 .exact⟨rfl,h,λ_ h=>h⟩
def lookV(co:Bool)(v:Value)(b:Bool):V:=bif co then .many .tu 2 λk=>if k=0 then Ack v else .c (.bool b)else Ack v
def Abr(co:Bool)(v:Value)(b:Bool):Value:=if co then .tuple #[v,.bool b]else v
def Wr(P:Program)(σ:List V)(t:TypeId)(u A:V)(co:Bool)(K:V->Prop):Prop:=
 ∃kt et l k z,Vf P t=some (kt,et)/\Acx σ u=some l/\Z4 A=some k/\Oy P et=some z/\X5 P kt k=true/\(∀e∈l,BJ P kt k e.1=true)/\
  Vo ((HR k l).getD z)=true/\K (lookV co ((HR k l).getD z) (HR k l).isSome)
theorem WU{v:Value}{b:Bool}(h:Vo v=true):Rel D w R (lookV co v b) (Abr co v b) noF:=by
 cases co with
 |false=>exact PF h
 |true=>
  refine⟨#[v,.bool b],λ_=>noF,rfl,rfl,λk u=>?_,λ_ _ _ _ _ _ h=>h.elim,λb=>⟨λh=>h.elim,fun⟨_,_,h⟩=>h⟩⟩
  match k,u with
  |0,_=>exact PF h
  |1,_=>exact⟨rfl,rfl,λ_ h=>h⟩
theorem UG{co:Bool}(J:Vf P t=some (kt,et))(Z:w.heap[b]? =some (.map es c))(A:Oy P et=some z)(u:X5 P kt k=true)(E:∀e∈es.toList,BJ P kt k e.key=true):
  (Instr.lookup t (.map (some b)) k co).run P w=.ok (Abr co ((HR k (es.toList.map λe=>(e.key,e.val))).getD z) (HR k (es.toList.map λe=>(e.key,e.val))).isSome) w:=by
 have B:=JC J;obtain⟨d,hd⟩:∃d,P.underlying kt=some d:=by
  unfold X5 knd at u
  grind
 have U:=JP (w:=w) hd es.toList E;have W:=K0 (k:=k) es.toList 0;have Y:=Aao (w:=w) (em:=es.isEmpty) u
 have O:(getObj b).run P w=.ok (.map es c) w:=by
  simp[getObj,Sem.run,Z]
 unfold Instr.lookup;simp only[Sem.run_bind,run_underlying B,Result.andThen_ok,O,Sem.run_pure,Y,U];rw[<-W];cases Qx k es.toList 0 with
 |none=>
  simp only[Sem.run_bind,V7 A,Result.andThen_ok,Sem.run_pure];cases co<;>rfl
 |some q=>
  simp only[Sem.run_bind,Result.andThen_ok,Sem.run_pure];cases co<;>rfl
theorem LU(wr:Bu σ w D ρ F){x i:Operand}{B E:V}(O:o.op=.lookup t x i co)(u:OpR σ w D ρ F B (a.eval x))(A:OpR σ w D ρ F E (a.eval i))(h:Wr P σ t B E co K):∃r,K r/\Av P o a w σ D ρ r:=by
 obtain⟨kt,et,l,k,z,h1,h2,h3,h4,h5,Z,Y,W⟩:=h;obtain⟨_,u,_⟩:=u;obtain⟨_,A,_⟩:=A;obtain⟨b,es,c,e1,e2,J⟩:=QE wr u h2;have e4:=Mk A h3;refine⟨_,W,Av.pure wr (v':=Abr co ((HR k l).getD z) (HR k l).isSome) ?_ (WU Y)⟩;have:=UG (P:=P) (w:=w) (co:=co) h1 e2 h4 h5 (λe U=>Z (e.key,e.val) (by rw[<-J];exact List.mem_map.2 ⟨e,U,rfl⟩))
 rw[J]at this;unfold execOp;rw[O];simp[e1,e4,this]
def qLenM(σ:List V)(u:V)(K:V->Prop):Prop:=∃l,Acx σ u=some l/\K (.c (.int .i64 l.length))
theorem O3(wr:Bu σ w D ρ F){x:Operand}(A:Vf P t=some (kt,et))(E:o.op=.call {callee:=.builtin .len,args:=#[x],argTypes:=#[t]})(u:OpR σ w D ρ F v (a.eval x))(h:qLenM σ v K):∃r,K r/\Av P o a w σ D ρ r:=by
 obtain⟨l,W,U⟩:=h;obtain⟨_,B,_⟩:=u;obtain⟨b,es,c,e1,Z,Y⟩:=QE wr B W;have O:(getObj b).run P w=.ok (.map es c) w:=by simp[getObj,Sem.run,Z]
 have J:l.length=es.size:=by rw[<-Y];simp
 refine⟨_,U,Av.pure wr (v':=.int .i64 l.length) ?_ ⟨rfl,rfl,λ_ h=>h⟩⟩
 unfold execOp;rw[E];simp[resolve,invoke,builtin,Builtin.len_,run_underlying (JC A),e1,O,goInt,J,Result.andThen]
def Zz(k v:Value):List (Value×Value)->List (Value×Value)
 |[]=>[(k,v)]
 |e::l=>bif kEq k e.1 then(k,v)::l else e::Zz k v l
theorem Aat{k:Nat}(O:kOf x=some k)(J:kOf y=some k)(E:Cz x y=true)(h:vEq x y=true):Instr.sameBits n y x=true:=by
 cases x<;>cases y<;>first|(cases h;done)|skip
 all_goals (simp_all[vEq,Cz,kOf,Instr.sameBits])
 all_goals (rename_i s1 u;rcases s1 with⟨B⟩;rcases u with⟨A⟩;show(A==B)=true;simp_all)
def Aau{n:Nat}:∀(ks:List Nat) (l m:List Value),okL ks l m=true->Hi l m=true->m.length=l.length/\((m.zip l).all λq=>Instr.sameBits n q.1 q.2)=true
 |[],[],[],_,_=>⟨rfl,rfl⟩
 |k::ks,a::l,b::m,h,u=>by
  have h:((kOf a==some k)&&(kOf b==some k)&&Cz a b&&okL ks l m)=true:=h;have u:(vEq a b&&Hi l m)=true:=u;simp only[bAE,beq_iff_eq]at h u;obtain⟨⟨⟨J,E⟩,h3⟩,h4⟩:=h;obtain⟨B,A⟩:=Aau (n:=n) ks l m h4 u.2;refine⟨by simp[B],?_⟩
  simp only[List.zip_cons_cons,all_cons,Aat J E h3 u.1,A,Bool.and_self]
 |[],[],_::_,h,_=>by cases h
 |[],_::_,_,h,_=>by cases h
 |_::_,[],_,h,_=>by cases h
 |_::_,_::_,[],h,_=>by cases h
theorem Zl(h:BJ P kt x y=true)(u:kEq x y=true):Instr.sameBits (n+1) y x=true:=by
 unfold BJ at h;split at h
 .rename_i xs ys
  split at h
  .rename_i ks B
   rw[bAE,decide_eq_true_eq]at h;have u:Hi xs.toList ys.toList=true:=u;obtain⟨J,E⟩:=Aau (n:=n) ks _ _ h.2 u;unfold Instr.sameBits;simp only[bAE,beq_iff_eq];exact⟨by simpa using J,E⟩
  .cases h
 .rename_i A
  split at h
  .rename_i q O
   simp only[bAE,decide_eq_true_eq]at h;have e:kEq x y=vEq x y:=by
    cases x<;>cases y<;>first|rfl|exact absurd rfl (A _ _ rfl)
   rw[e]at u;exact Aat h.1.1 h.1.2 h.2 u
  .cases h
def N1{k:Value}:∀(es:List MapEntry) (i:Nat),Qx k es i=none->∀v,Zz k v (es.map λe=>(e.key,e.val))=(es.map λe=>(e.key,e.val))++[(k,v)]
 |[],_,_,_=>rfl
 |e::es,i,h,v=>by
  unfold Qx at h;show(bif kEq k e.key then _ else _)=_;cases u:kEq k e.key with
  |true=>rw[u]at h;cases h
  |false=>
   rw[u]at h;have A:=N1 es (i+1) h v;show(e.key,e.val)::Zz k v _=_;rw[A];rfl
def N0{k:Value}:∀(es:List MapEntry) (i j:Nat) (x:Value),Qx k es i=some (j,x)->∃q e,j=i+q/\es[q]? =some e/\kEq k e.key=true/\∀(v:Value) (f:MapEntry->MapEntry),(f e).key=k->(f e).val=v->(es.modify q f).map (λe=>(e.key,e.val))=Zz k v (es.map λe=>(e.key,e.val))
 |[],_,_,_,h=>by cases h
 |e::es,i,j,x,h=>by
  unfold Qx at h;cases u:kEq k e.key with
  |true=>
   rw[u]at h;cases h;refine⟨0,e,rfl,rfl,u,λv f B A=>?_⟩
   show((f e).key,(f e).val)::_=(bif kEq k e.key then _ else _);rw[u,B,A];rfl
  |false=>
   rw[u]at h;obtain⟨q,O,B,A,J,E⟩:=N0 es (i+1) j x h;refine⟨q+1,O,by omega,by simpa using A,J,λv f g1 g2=>?_⟩
   show _=(bif kEq k e.key then _ else _);rw[u];show _::_=_::_;rw[<-E v f g1 g2];rfl
theorem Mb{v:Value}(hm:Vf P t=some (kt,et))(hb:w.heap[b]? =some (.map es c))(U:X5 P kt k=true)(O:∀e∈es.toList,BJ P kt k e.key=true):
  ∃es' c',(Instr.mapUpdate t (.map (some b)) k v).run P w=.ok () {w with heap:=w.heap.setIfInBounds b (.map es' c')}/\es'.toList.map (λe=>(e.key,e.val))=Zz k v (es.toList.map λe=>(e.key,e.val)):=by
 have E:=JC hm;obtain⟨d,hd⟩:∃d,P.underlying kt=some d:=by
  unfold X5 knd at U
  grind
 have Y:=JP (w:=w) hd es.toList O;have Z:=Aao (w:=w) (em:=false) U;have W:(getObj b).run P w=.ok (.map es c) w:=by simp[getObj,Sem.run,hb]
 have J:∀o,(setObj b o).run P w=.ok () {w with heap:=w.heap.setIfInBounds b o}:=by intro o;simp[setObj,Sem.run,hb]
 cases u:Qx k es.toList 0 with
 |none=>
  refine⟨es.push {key:=k,val:=v,born:=c},c+1,?_,?_⟩
  .unfold Instr.mapUpdate
   simp[run_underlying E,Result.andThen,W,Z,Y,u,J]
  .rw[N1 _ _ u];simp
 |some q=>
  obtain⟨j,x⟩:=q;obtain⟨q,e,h1,h2,h3,h4⟩:=N0 _ _ _ _ u;obtain rfl:j=q:=by omega
  have B:es[j]? =some e:=by simpa using h2
  have A:=Zl (n:=9999) (O e (List.mem_of_getElem? h2)) h3;refine⟨es.modify j λe=>{e with key:=k,val:=v},c,?_,?_⟩
  .unfold Instr.mapUpdate
   simp[run_underlying E,Result.andThen,W,Z,Y,u,J,Instr.keyThatStays,B,A]
  .rw[Array.toList_modify]
   exact h4 v _ rfl rfl
end
end Go.Ve

