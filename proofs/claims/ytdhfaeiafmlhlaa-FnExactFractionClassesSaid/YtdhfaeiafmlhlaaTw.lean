/- Equality of bools, of structs and arrays of scalars. -/
import Derived.Test.YtdhfaeiafmlhlaaVh
import Derived.ChangeKeysEq
set_option linter.all false
namespace Go.Ve
open Go
variable{k:Nat}{P:Program}{e t:TypeId}
def knd(P:Program)(t:TypeId):Option Nat:=match P.underlying t with
 |some (.int _)=>some 0
 |some .bool=>some 1
 |some .string=>some 2
 |_=>none
def Nh(P:Program)(t:TypeId):Option (List Nat):=match P.underlying t with
 |some .bool=>some [9]
 | some (.struct fs) => if fs.toList.all (λf => f.name != "_") && !P.stoodInHeld t && !P.eqGuardType P.depth t && decide (fs.toList.map (·.offset) = List.range fs.toList.length)then fs.toList.mapM (λf => knd P f.type)else none
 |some (.array n e)=>if P.cellsOf e==1&& !P.eqGuardType P.depth t then(match knd P e with
   |some k=>some (List.replicate n k)
   |none=>none)else none
 |_=>none
def kOf:Value->Option Nat
 |.int _ _=>some 0
 |.bool _=>some 1
 |.string _=>some 2
 |_=>none
def Cs:Value->Value->Bool
 |.int k _,.int k' _=>decide (k=k')
 |_,_=>true
def vEq:Value->Value->Bool
 |.int _ a,.int _ b=>decide (a=b)
 |.bool a,.bool b=>a==b
 |.string a,.string b=>decide (a.data.toList=b.data.toList)
 |_,_=>false
theorem DT(h:knd P e=some k):P.plainKey e=true:=by
 unfold knd at h;unfold Program.plainKey
 grind
theorem Qm(w:World){d:Nat}{a b:Value}(A:knd P e=some k)(O:kOf a=some k)(J:kOf b=some k)(U:Cs a b=true):(Op.equalIn (d+1) e a b).run P w=.ok (vEq a b) w:=by
 unfold knd at A;split at A
 .rename_i q B
  cases A;cases a<;>try (cases O;done)
  cases b<;>try (cases J;done)
  rename_i k1 x k2 y;have E:k1=k2:=by simpa [Cs]using U
  subst E;simp[Op.equalIn,run_underlying B,vEq];rfl
 .rename_i B
  cases A;cases a<;>try (cases O;done)
  cases b<;>try (cases J;done)
  simp[Op.equalIn,run_underlying B,vEq]
 .rename_i B
  cases A;cases a<;>try (cases O;done)
  cases b<;>try (cases J;done)
  rename_i x y
  have e:(x==y)=decide (x.data.toList=y.data.toList):=by
   rw[beq_toListBytes,ByteArray.toList_eq,ByteArray.toList_eq];rw[Bool.eq_iff_iff];simp
  simp[Op.equalIn,run_underlying B,vEq,e]
 .cases A
def Hv:List Value->List Value->Bool
 |a::l,b::m=>vEq a b&&Hv l m
 |_,_=>true
def okL:List Nat->List Value->List Value->Bool
 |k::ks,a::l,b::m=>(kOf a==some k)&&(kOf b==some k)&&Cs a b&&okL ks l m
 |[],[],[]=>true
 |_,_,_=>false
def O4{P:Program}(w:World){e:TypeId}{k d:Nat}(A:knd P e=some k)(xs ys:Array Value):∀(n off:Nat) (l m:List Value),xs.toList.drop off=l->ys.toList.drop off=m->okL (List.replicate n k) l m=true->
  (Op.eqItems (d+1) e 1 xs ys (List.range' off n)).run P w=.ok (Hv l m) w
 |0,off,l,m,_,_,h=>by
  cases l<;>cases m<;>first|(cases h;done)|rfl
 |n+1,off,l,m,hl,hm,h=>by
  cases l with
  |nil=>cases m<;>cases h
  |cons a l=>
  cases m with
  |nil=>cases h
  |cons b m=>
  have h:((kOf a==some k)&&(kOf b==some k)&&Cs a b&&okL (List.replicate n k) l m)=true:=h;simp only[bAE,beq_iff_eq]at h;obtain⟨⟨⟨U,O⟩,h3⟩,h4⟩:=h;have Y:xs[off]? =some a:=by
   have:=congrArg (·[0]?) hl
   simpa using this
  have W:ys[off]? =some b:=by
   have:=congrArg (·[0]?) hm
   simpa using this
  have E:xs.toList.drop (off+1)=l:=by
   have:=congrArg (List.drop 1) hl;simpa [List.drop_drop,Nat.add_comm]using this
  have tb:ys.toList.drop (off+1)=m:=by
   have:=congrArg (List.drop 1) hm;simpa [List.drop_drop,Nat.add_comm]using this
  have J:=O4 w (d:=d) A xs ys n (off+1) l m E tb h4;rw[List.range'_succ];simp only[Op.eqItems,Sem.run_bind,Nat.mul_one,run_part_plain w (DT A) Y,run_part_plain w (DT A) W,Result.andThen_ok,Qm w A U O h3];cases B:vEq a b with
  |false=>simp[Hv,B]
  |true=>simpa [Hv,B]using J
theorem L3 {P : Program} (w : World) {d : Nat} (xs ys : Array Value) :∀(fs : List Field) (ks : List Nat) (off : Nat) (l m : List Value), fs.all (λf => f.name != "_") = true → fs.map (·.offset) = List.range' off fs.length → fs.mapM (λf => knd P f.type) = some ks →
  xs.toList.drop off=l->ys.toList.drop off=m->okL ks l m=true->(Op.eqFields (d+1) xs ys fs).run P w=.ok (Hv l m) w
 |[],ks,off,l,m,_,_,hk,_,_,h=>by
  simp at hk;subst hk;cases l<;>cases m<;>first|(cases h;done)|rfl
 |f::fs,ks,off,l,m,hn,ho,hk,hl,hm,h=>by
  rw[List.mapM_cons]at hk;simp only[bind,Option.bind_eq_some_iff,pure,Option.some.injEq]at hk;obtain⟨k,hk1,ks',hk2,rfl⟩:=hk;cases l with
  |nil=>cases m<;>cases h
  |cons a l=>
  cases m with
  |nil=>cases h
  |cons b m=>
  have h:((kOf a==some k)&&(kOf b==some k)&&Cs a b&&okL ks' l m)=true:=h;simp only[bAE,beq_iff_eq]at h;obtain⟨⟨⟨h1,h2⟩,h3⟩,h4⟩:=h;rw[List.all_cons,bAE]at hn;rw[List.map_cons,List.length_cons,List.range'_succ,List.cons.injEq]at ho;have ga:xs[off]? =some a:=by
   have:=congrArg (·[0]?) hl
   simpa using this
  have gb:ys[off]? =some b:=by
   have:=congrArg (·[0]?) hm
   simpa using this
  have ta:xs.toList.drop (off+1)=l:=by
   have:=congrArg (List.drop 1) hl;simpa [List.drop_drop,Nat.add_comm]using this
  have tb:ys.toList.drop (off+1)=m:=by
   have:=congrArg (List.drop 1) hm;simpa [List.drop_drop,Nat.add_comm]using this
  have ih:=L3 w (d:=d) xs ys fs ks' (off+1) l m hn.2 ho.2 hk2 ta tb h4;have hne : f.name ≠ "_" := by simpa using hn.1
  simp only[Op.eqFields,hne,ne_eq,not_false_eq_true,if_true,Sem.run_bind,ho.1,run_part_plain w (DT hk1) ga,run_part_plain w (DT hk1) gb,Result.andThen_ok,Qm w hk1 h1 h2 h3];cases hv:vEq a b with
  |false=>simp[Hv,hv]
  |true=>simpa [Hv,hv]using ih
theorem O3(w:World){ks:List Nat}{xs ys:Array Value}(h:Nh P t=some ks)(hn:ks≠[9])(O:okL ks xs.toList ys.toList=true):
  (Op.equal t (.agg xs) (.agg ys)).run P w=.ok (Hv xs.toList ys.toList) w/\P.eqGuardType P.depth t=false:=by
 unfold Nh at h;split at h
 .grind
 .rename_i fs J
  split at h
  case isFalse=>cases h
  rename_i A;simp only[bAE,Bool.not_eq_true',decide_eq_true_eq]at A;obtain⟨⟨⟨Y,W⟩,U⟩,h4⟩:=A;refine⟨?_,U⟩;have Z:P.fieldsOf t=fs:=by unfold Program.fieldsOf;rw[J]
  show(Op.equalIn (9998+1+1) t (.agg xs) (.agg ys)).run P w=_;rw[run_equalIn_struct w _ t xs ys (by grind) W,Z]
  exact L3 w xs ys fs.toList ks 0 _ _ Y (by rw[h4,List.range_eq_range']) h rfl rfl O
 .rename_i n e J
  split at h
  case isFalse=>cases h
  rename_i A;simp only[bAE,Bool.not_eq_true',beq_iff_eq]at A;split at h
  case h_2=>cases h
  rename_i k E;cases h;refine⟨?_,A.2⟩;obtain⟨i,hi⟩:∃i,P.info? e=some i:=by
   unfold knd at E;split at E
   .rename_i B;exact info_of_underlying B
   .rename_i B;exact info_of_underlying B
   .rename_i B;exact info_of_underlying B
   .cases E
  show(Op.equalIn (9998+1+1) t (.agg xs) (.agg ys)).run P w=_;rw[run_equalIn_array w _ xs ys J hi,A.1,List.range_eq_range'];exact O4 w E xs ys n 0 _ _ rfl rfl O
 .cases h
theorem Abd(h:knd P t=some k):k≠9:=by
 unfold knd at h
 grind
theorem XY{α:Type}{f:α->Option Nat}{l:List α}{m:List Nat}(h:l.mapM f=some (k::m)):∃x,f x=some k:=by
 cases l with
 |nil=>grind
 |cons x l=>
  simp[Option.bind_eq_some_iff,List.cons.injEq]at h
  grind
theorem Wa(w:World){a b:Bool}(h:Nh P t=some [9]):(Op.equal t (.bool a) (.bool b)).run P w=.ok (a==b) w:=by
 unfold Nh at h;split at h
 .rename_i B
  have gen:∀d,(Op.equalIn (d+1) t (.bool a) (.bool b)).run P w=.ok (a==b) w:=λd=>by simp[Op.equalIn,run_underlying B]
  exact gen 9999
 .split at h
  .obtain⟨x,A⟩:=XY h
   exact absurd rfl (Abd A)
  .cases h
 .split at h
  .split at h
   .rename_i k E
    have h:=Option.some.inj h;have key:∀n,List.replicate n k=[9]->False:=λn e=>by
     have:9∈List.replicate n k:=by rw[e];simp
     rw[List.mem_replicate]at this;exact absurd this.2.symm (Abd E)
    exact(key _ h).elim
   .cases h
  .cases h
 .cases h
end Go.Ve


namespace Go.Ve
open Go
variable{es:Array MapEntry}{co em:Bool}{b c n:Nat}{D fp:Nat->Prop}{d:TypeDesc}{et kt t:TypeId}{v:V}{R:V->Value->Prop}{cv k x y z:Value}{w:World}
section
variable {P:Program}{o:Oper}{a:Act}{w:World}{σ:List V}{D:Nat->Prop}{ρ:Nat->Value}{F:Nat->Nat->Prop}{K:V->Prop}
def Wq(P:Program)(t:TypeId):Option (TypeId×TypeId):=match P.underlying t with
 |some (.map k e)=>some (k,e)
 |_=>none
def Kc{k e:TypeId}(h:Wq P t=some (k,e)):P.underlying t=some (.map k e):=by
 unfold Wq at h;split at h
 .rename_i A;cases h;exact A
 .cases h
def Q8(res:Option Operand)(K:V->Prop):Prop:=res=none/\K (.mp true [])
theorem K2(wr:Bl σ w D ρ F){res:Option Operand}(A:o.op=.makeMap t res)(h:Q8 res K):∃r,K r/\Au P o a w σ D ρ r:=by
 obtain⟨rfl,E⟩:=h;refine⟨_,E,Au.new (ob:=.map #[] 0) (v':=.map (some w.heap.size)) wr ?_ ⟨λb=>b=w.heap.size,⟨w.heap.size,rfl,⟨#[],0,?_,rfl⟩,(λe=>by cases e),λ_ x=>Iff.rfl⟩,λb B=>B⟩⟩
 .unfold execOp;rw[A];simp[Instr.makeMap,newObj,Sem.run,Result.andThen]
 .show(w.heap.push _)[w.heap.size]? =_
  simp
def Ady(σ:List V):V->Option (List (Value×Value))
 |.mp _ l=>some l
 |.rm id p=>match sub p (σ.getD id .dead)with
  |.mp true l=>some l
  |_=>none
 |_=>none
def UD(wr:Bl σ w D ρ F){l:List (Value×Value)}(U:Rel D w (Ak σ ρ w) v cv fp)(h:Ady σ v=some l):
  ∃b es c,cv=.map (some b)/\w.heap[b]? =some (.map es c)/\es.toList.map (λe=>(e.key,e.val))=l:=by
 cases v with
 |mp own W=>
  cases h;obtain⟨b,rfl,⟨es,c,O,J⟩,_⟩:=U;exact⟨b,es,c,rfl,O,J⟩
 |rm id p=>
  obtain⟨⟨E,W,b,A,Z⟩,_⟩:=U;have Y:=At.sub A;unfold Ady at h
  dsimp only at h
  rw[<-Y]at h;cases h;obtain⟨fp1,B,_⟩:=C7 (w':=w) p _ _ _ _ _ (wr.rel id E) (λb hb h'=>wr.dD id b h' hb) A
  obtain⟨b',h0,⟨es,c,O,J⟩,_⟩:=B;exact⟨b',es,c,h0,O,J⟩
 |_=>cases h
def BH(P:Program)(kt:TypeId):Value->Value->Bool
 |.agg xs,.agg ys=>match Nh P kt with
  |some ks=>decide (ks≠[9])&&okL ks xs.toList ys.toList
  |none=>false
 |a,b=>match knd P kt with
  |some n=>decide (kOf a=some n)&&decide (kOf b=some n)&&Cs a b
  |none=>false
def kEq:Value->Value->Bool
 |.agg xs,.agg ys=>Hv xs.toList ys.toList
 |a,b=>vEq a b
theorem Yy(h:BH P kt x y=true):(Op.equal kt x y).run P w=.ok (kEq x y) w:=by
 unfold BH at h;split at h
 .split at h
  .rename_i ks B
   rw[bAE,decide_eq_true_eq]at h;exact(O3 w B h.1 h.2).1
  .cases h
 .rename_i A
  split at h
  .rename_i n E
   simp only[bAE,decide_eq_true_eq]at h;have e:kEq x y=vEq x y:=by
    cases x<;>cases y<;>first|rfl|exact absurd rfl (A _ _ rfl)
   rw[e];exact Qm w E h.1.1 h.1.2 h.2
  .cases h
def Uy(k:Value):List MapEntry->Nat->Option (Nat×Value)
 |[],_=>none
 |e::es,i=>bif kEq k e.key then some (i,e.val)else Uy k es (i+1)
theorem Hi{kt:TypeId}{k:Value}:∀(es:List MapEntry) (i:Nat),(∀e∈es,BH P kt k e.key=true)->(Instr.findAsking kt k es i).run P w=.ok (Uy k es i) w
 |[],i,_=>rfl
 |e::es,i,h=>by
  have E:=Yy (w:=w) (h e (List.mem_cons_self ..));have A:=Hi es (i+1) λx B=>h x (mCM _ B)
  unfold Instr.findAsking Uy;simp only[Sem.run_bind,E,Result.andThen];cases kEq k e.key with
  |true=>rfl
  |false=>simpa using A
theorem Vq(hd:P.underlying kt=some d)(h:BH P kt x y=true):(∃xs ys,x=.agg xs/\y=.agg ys/\Instr.sameNow d x y=none)\/Instr.sameNow d x y=some (kEq x y):=by
 unfold BH at h;split at h
 .rename_i xs ys
  refine .inl ⟨xs,ys,rfl,rfl,?_⟩;cases d<;>rfl
 .rename_i U
  right;unfold knd at h;rw[hd]at h;split at h
  .rename_i n A
   simp only[bAE,decide_eq_true_eq]at h;obtain⟨⟨Y,W⟩,h3⟩:=h;split at A
   all_goals (first|(cases A;done)|skip)
   all_goals (rename_i q O;cases O;cases A)
   all_goals (cases x<;>first|(cases Y;done)|skip)
   all_goals (cases y<;>first|(cases W;done)|skip)
   all_goals (simp_all[Instr.sameNow,kEq,vEq,Cs])
   all_goals (first
    |(rw[Bool.eq_iff_iff];simp;done)
    |(rename_i s1 J;rcases s1 with⟨E⟩;rcases J with⟨B⟩;show(E==B)=decide (E=B);rw[Bool.eq_iff_iff];simp)
    |trace_state)
  .cases h
theorem Kq{kt:TypeId}{d:TypeDesc}{k:Value}(hd:P.underlying kt=some d):∀(es:List MapEntry) (i:Nat),(∀e∈es,BH P kt k e.key=true)->Instr.findNow d k es i=none\/Instr.findNow d k es i=some (Uy k es i)
 |[],i,_=>.inr rfl
 |e::es,i,h=>by
  have B:=Kq hd es (i+1) λx E=>h x (mCM _ E)
  unfold Instr.findNow Uy;rcases Vq hd (h e (List.mem_cons_self ..))with⟨_,_,_,_,A⟩|A
  .rw[A];exact .inl rfl
  .rw[A]
   cases kEq k e.key with
   |true=>exact .inr rfl
   |false=>exact B
def Kr(hd:P.underlying kt=some d)(es:List MapEntry)(h:∀e∈es,BH P kt k e.key=true):(Instr.findKey kt k es).run P w=.ok (Uy k es 0) w:=by
 unfold Instr.findKey;simp only[Sem.run_bind,run_underlying hd,Result.andThen];rcases Kq hd es 0 h with h1|h1
 .rw[h1];exact Hi es 0 h
 .rw[h1];rfl
def Zd(P:Program)(kt:TypeId)(k:Value):Bool:=match knd P kt with
 |some _=>true
 |none=>match P.underlying kt,k with
  |some (.struct fs),.agg xs=>fs.toList.all λf=>(knd P f.type).isSome&&decide (f.offset<xs.size)
  |_,_=>false
def UO{k:Nat}(B:knd P t=some k):(Instr.checkKey em (n+1) t x).run P w=.ok () w:=by
 unfold knd at B;unfold Instr.checkKey;split at B
 .rename_i q A;simp only[Sem.run_bind,run_underlying A,Result.andThen];cases x<;>rfl
 .rename_i A;simp only[Sem.run_bind,run_underlying A,Result.andThen];cases x<;>rfl
 .rename_i A;simp only[Sem.run_bind,run_underlying A,Result.andThen];cases x<;>rfl
 .cases B
theorem Abx(h:Zd P kt k=true):(Instr.checkKey em 10000 kt k).run P w=.ok () w:=by
 unfold Zd at h;split at h
 .rename_i n hn;exact UO (n:=9999) hn
 .split at h
  case h_2=>cases h
  rename_i fs xs hu;rw[show(10000:Nat)=9999+1 from rfl,Instr.checkKey]
  simp only[Sem.run_bind,run_underlying hu,Result.andThen_ok];rw[<-Array.forIn_toList];have h:=aET.1 h;generalize fs.toList=L at h
  induction L with
  |nil=>simp
  |cons f L ih=>
   have h1:=h f (by simp)
   rw[bAE,decide_eq_true_eq,Option.isSome_iff_exists]at h1;obtain⟨⟨k,hk⟩,hlt⟩:=h1;have p1:=run_part_plain w (P:=P) (DT hk) (Array.getElem?_eq_getElem hlt);have p2:=UO (P:=P) (w:=w) (em:=em) (n:=9998) (x:=xs[f.offset]) hk;have ih:=ih λy hy=>h y (by simp[hy])
   rw[List.forIn_cons];by_cases hn : f.name = "_"
   .simpa [hn,Sem.run_bind,Result.andThen]using ih
   .simp only[Sem.run_bind,hn,ne_eq,not_false_eq_true,if_true,Result.andThen_ok,p1,p2,Sem.run_pure]
    exact ih
def Dv:V->Value
 |.c v=>v
 |_=>undef
def isCV:V->Bool
 |.c _=>true
 |_=>false
def Abe:V->Option Value
 |.c v=>some v
 |.many .ag n f=>if((List.range n).all λk=>isCV (f k))=true then some (.agg ((List.range n).map λk=>Dv (f k)).toArray)else none
 |_=>none
def YG(A:Rel D w R v cv fp)(h:isCV v=true):cv=Dv v:=by
 cases v<;>first|exact A.1|cases h
theorem M8(E:Rel D w R v cv fp)(h:Abe v=some k):cv=k:=by
 cases v with
 |c x=>cases h;exact E.1
 |many t n f=>
  cases t<;>first|(cases h;done)|skip
  unfold Abe at h
  dsimp only at h
  split at h
  case isFalse=>cases h
  rename_i O;cases h;obtain⟨cs,G,B,J,U,_⟩:=E;have B:cv=.agg cs:=B;rw[B]
  congr 1
  apply Array.ext';apply List.ext_getElem
  .simpa using J
  .intro j Y W
   have hj:j<n:=by simpa using W
   have A:=YG (U j hj) (aET.1 O j (List.mem_range.2 hj));have A:cs.getD j undef=Dv (f j):=A;rw[Array.getD_eq_getD_getElem?,Array.getElem?_eq_getElem (by simpa using Y)]at A
   simpa using A
 |_=>cases h
def H3(k:Value):List (Value×Value)->Option Value
 |[]=>none
 |e::l=>bif kEq k e.1 then some e.2 else H3 k l
def LN{k:Value}:∀(es:List MapEntry) (i:Nat),(Uy k es i).map (·.2)=H3 k (es.map λe=>(e.key,e.val))
 |[],_=>rfl
 |e::es,i=>by
  show Option.map _ (bif kEq k e.key then some (i,e.val)else Uy k es (i+1))=(bif kEq k e.key then some e.val else H3 k _);cases kEq k e.key with
  |true=>rfl
  |false=>exact LN es (i+1)
def Pn(P:Program)(t:TypeId):Option Value:=match P.info? t with
 |some i=>i.zero
 |none=>none
def Xi(h:Pn P t=some z):(zeroValue t).run P w=.ok z w:=by
 unfold Pn at h;split at h
 .rename_i i hi
  simp[zeroValue,typeInfo,Sem.run,hi,h]
 .cases h
def WB(v:Value):Bool:=match v with
 |.agg cs=>cs.toList.all (·.oneCell')
 |v=>v.oneCell'
def Ado(v:Value):V:=match v with
 |.agg cs=>Ai (cs.toList.map .c)
 |v=>.c v
theorem QA{v:Value}(h:WB v=true):Rel D w R (Ado v) v noF:=by
 unfold WB at h;unfold Ado;split at h
 .rename_i cs
  refine⟨cs,λ_=>noF,rfl,by simp,λk A=>?_,λ_ _ _ _ _ _ h=>h.elim,λb=>⟨λh=>h.elim,fun⟨_,_,h⟩=>h⟩⟩
  simp at A;have e:(cs.toList.map V.c).getD k .dead=.c (cs.getD k undef):=by simp_all
  show Rel D w R ((cs.toList.map V.c).getD k .dead) _ _;rw[e];refine⟨rfl,aET.1 h _ ?_,λ_ h=>h⟩
  grind
 .exact⟨rfl,h,λ_ h=>h⟩
def lookV(co:Bool)(v:Value)(b:Bool):V:=bif co then .many .tu 2 λk=>if k=0 then Ado v else .c (.bool b)else Ado v
def AcH(co:Bool)(v:Value)(b:Bool):Value:=if co then .tuple #[v,.bool b]else v
def XE(P:Program)(σ:List V)(t:TypeId)(A B:V)(co:Bool)(K:V->Prop):Prop:=
 ∃kt et l k z,Wq P t=some (kt,et)/\Ady σ A=some l/\Abe B=some k/\Pn P et=some z/\Zd P kt k=true/\(∀e∈l,BH P kt k e.1=true)/\
  WB ((H3 k l).getD z)=true/\K (lookV co ((H3 k l).getD z) (H3 k l).isSome)
theorem X1{v:Value}{b:Bool}(h:WB v=true):Rel D w R (lookV co v b) (AcH co v b) noF:=by
 cases co with
 |false=>exact QA h
 |true=>
  refine⟨#[v,.bool b],λ_=>noF,rfl,rfl,λk A=>?_,λ_ _ _ _ _ _ h=>h.elim,λb=>⟨λh=>h.elim,fun⟨_,_,h⟩=>h⟩⟩
  match k,A with
  |0,_=>exact QA h
  |1,_=>exact⟨rfl,rfl,λ_ h=>h⟩
theorem VT{co:Bool}(O:Wq P t=some (kt,et))(hb:w.heap[b]? =some (.map es c))(B:Pn P et=some z)(A:Zd P kt k=true)(J:∀e∈es.toList,BH P kt k e.key=true):
  (Instr.lookup t (.map (some b)) k co).run P w=.ok (AcH co ((H3 k (es.toList.map λe=>(e.key,e.val))).getD z) (H3 k (es.toList.map λe=>(e.key,e.val))).isSome) w:=by
 have E:=Kc O;obtain⟨d,hd⟩:∃d,P.underlying kt=some d:=by
  unfold Zd knd at A
  grind
 have W:=Kr (w:=w) hd es.toList J;have Y:=LN (k:=k) es.toList 0;have Z:=Abx (w:=w) (em:=es.isEmpty) A
 have U:(getObj b).run P w=.ok (.map es c) w:=by
  simp[getObj,Sem.run,hb]
 unfold Instr.lookup;simp only[Sem.run_bind,run_underlying E,Result.andThen_ok,U,Sem.run_pure,Z,W];rw[<-Y];cases Uy k es.toList 0 with
 |none=>
  simp only[Sem.run_bind,Xi B,Result.andThen_ok,Sem.run_pure];cases co<;>rfl
 |some q=>
  simp only[Sem.run_bind,Result.andThen_ok,Sem.run_pure];cases co<;>rfl
theorem MM(wr:Bl σ w D ρ F){x i:Operand}{B E:V}(O:o.op=.lookup t x i co)(A:OpR σ w D ρ F B (a.eval x))(hi:OpR σ w D ρ F E (a.eval i))(h:XE P σ t B E co K):∃r,K r/\Au P o a w σ D ρ r:=by
 obtain⟨kt,et,l,k,z,h1,h2,h3,h4,h5,Z,Y,W⟩:=h;obtain⟨_,A,_⟩:=A;obtain⟨_,hi,_⟩:=hi;obtain⟨b,es,c,e1,e2,J⟩:=UD wr A h2;have e4:=M8 hi h3;refine⟨_,W,Au.pure wr (v':=AcH co ((H3 k l).getD z) (H3 k l).isSome) ?_ (X1 Y)⟩;have:=VT (P:=P) (w:=w) (co:=co) h1 e2 h4 h5 (λe U=>Z (e.key,e.val) (by rw[<-J];exact List.mem_map.2 ⟨e,U,rfl⟩))
 rw[J]at this;unfold execOp;rw[O];simp[e1,e4,this]
def qLenM(σ:List V)(A:V)(K:V->Prop):Prop:=∃l,Ady σ A=some l/\K (.c (.int .i64 l.length))
theorem PV(wr:Bl σ w D ρ F){x:Operand}(B:Wq P t=some (kt,et))(J:o.op=.call {callee:=.builtin .len,args:=#[x],argTypes:=#[t]})(A:OpR σ w D ρ F v (a.eval x))(h:qLenM σ v K):∃r,K r/\Au P o a w σ D ρ r:=by
 obtain⟨l,Y,W⟩:=h;obtain⟨_,E,_⟩:=A;obtain⟨b,es,c,e1,e2,Z⟩:=UD wr E Y;have U:(getObj b).run P w=.ok (.map es c) w:=by simp[getObj,Sem.run,e2]
 have O:l.length=es.size:=by rw[<-Z];simp
 refine⟨_,W,Au.pure wr (v':=.int .i64 l.length) ?_ ⟨rfl,rfl,λ_ h=>h⟩⟩
 unfold execOp;rw[J];simp[resolve,invoke,builtin,Builtin.len_,run_underlying (Kc B),e1,U,goInt,O,Result.andThen]
def AaN(k v:Value):List (Value×Value)->List (Value×Value)
 |[]=>[(k,v)]
 |e::l=>bif kEq k e.1 then(k,v)::l else e::AaN k v l
theorem AbE{k:Nat}(U:kOf x=some k)(O:kOf y=some k)(J:Cs x y=true)(h:vEq x y=true):Instr.sameBits n y x=true:=by
 cases x<;>cases y<;>first|(cases h;done)|skip
 all_goals (simp_all[vEq,Cs,kOf,Instr.sameBits])
 all_goals (rename_i s1 A;rcases s1 with⟨E⟩;rcases A with⟨B⟩;show(B==E)=true;simp_all)
def AbF{n:Nat}:∀(ks:List Nat) (l m:List Value),okL ks l m=true->Hv l m=true->m.length=l.length/\((m.zip l).all λq=>Instr.sameBits n q.1 q.2)=true
 |[],[],[],_,_=>⟨rfl,rfl⟩
 |k::ks,a::l,b::m,h,A=>by
  have h:((kOf a==some k)&&(kOf b==some k)&&Cs a b&&okL ks l m)=true:=h;have A:(vEq a b&&Hv l m)=true:=A;simp only[bAE,beq_iff_eq]at h A;obtain⟨⟨⟨O,J⟩,h3⟩,h4⟩:=h;obtain⟨E,B⟩:=AbF (n:=n) ks l m h4 A.2;refine⟨by simp[E],?_⟩
  simp only[List.zip_cons_cons,List.all_cons,AbE O J h3 A.1,B,Bool.and_self]
 |[],[],_::_,h,_=>by cases h
 |[],_::_,_,h,_=>by cases h
 |_::_,[],_,h,_=>by cases h
 |_::_,_::_,[],h,_=>by cases h
theorem AaB(h:BH P kt x y=true)(A:kEq x y=true):Instr.sameBits (n+1) y x=true:=by
 unfold BH at h;split at h
 .rename_i xs ys
  split at h
  .rename_i ks E
   rw[bAE,decide_eq_true_eq]at h;have A:Hv xs.toList ys.toList=true:=A;obtain⟨O,J⟩:=AbF (n:=n) ks _ _ h.2 A;unfold Instr.sameBits;simp only[bAE,beq_iff_eq];exact⟨by simpa using O,J⟩
  .cases h
 .rename_i B
  split at h
  .rename_i q U
   simp only[bAE,decide_eq_true_eq]at h;have e:kEq x y=vEq x y:=by
    cases x<;>cases y<;>first|rfl|exact absurd rfl (B _ _ rfl)
   rw[e]at A;exact AbE h.1.1 h.1.2 h.2 A
  .cases h
def OT{k:Value}:∀(es:List MapEntry) (i:Nat),Uy k es i=none->∀v,AaN k v (es.map λe=>(e.key,e.val))=(es.map λe=>(e.key,e.val))++[(k,v)]
 |[],_,_,_=>rfl
 |e::es,i,h,v=>by
  unfold Uy at h;show(bif kEq k e.key then _ else _)=_;cases A:kEq k e.key with
  |true=>rw[A]at h;cases h
  |false=>
   rw[A]at h;have B:=OT es (i+1) h v;show(e.key,e.val)::AaN k v _=_;rw[B];rfl
def OS{k:Value}:∀(es:List MapEntry) (i j:Nat) (x:Value),Uy k es i=some (j,x)->∃q e,j=i+q/\es[q]? =some e/\kEq k e.key=true/\∀(v:Value) (f:MapEntry->MapEntry),(f e).key=k->(f e).val=v->(es.modify q f).map (λe=>(e.key,e.val))=AaN k v (es.map λe=>(e.key,e.val))
 |[],_,_,_,h=>by cases h
 |e::es,i,j,x,h=>by
  unfold Uy at h;cases A:kEq k e.key with
  |true=>
   rw[A]at h;cases h;refine⟨0,e,rfl,rfl,A,λv f E B=>?_⟩
   show((f e).key,(f e).val)::_=(bif kEq k e.key then _ else _);rw[A,E,B];rfl
  |false=>
   rw[A]at h;obtain⟨q,U,E,B,O,J⟩:=OS es (i+1) j x h;refine⟨q+1,U,by omega,by simpa using B,O,λv f g1 g2=>?_⟩
   show _=(bif kEq k e.key then _ else _);rw[A];show _::_=_::_;rw[<-J v f g1 g2];rfl
theorem MY{v:Value}(hm:Wq P t=some (kt,et))(hb:w.heap[b]? =some (.map es c))(U:Zd P kt k=true)(O:∀e∈es.toList,BH P kt k e.key=true):
  ∃es' c',(Instr.mapUpdate t (.map (some b)) k v).run P w=.ok () {w with heap:=w.heap.setIfInBounds b (.map es' c')}/\es'.toList.map (λe=>(e.key,e.val))=AaN k v (es.toList.map λe=>(e.key,e.val)):=by
 have E:=Kc hm;obtain⟨d,hd⟩:∃d,P.underlying kt=some d:=by
  unfold Zd knd at U
  grind
 have Y:=Kr (w:=w) hd es.toList O;have Z:=Abx (w:=w) (em:=false) U;have W:(getObj b).run P w=.ok (.map es c) w:=by simp[getObj,Sem.run,hb]
 have J:∀o,(setObj b o).run P w=.ok () {w with heap:=w.heap.setIfInBounds b o}:=by intro o;simp[setObj,Sem.run,hb]
 cases hi:Uy k es.toList 0 with
 |none=>
  refine⟨es.push {key:=k,val:=v,born:=c},c+1,?_,?_⟩
  .unfold Instr.mapUpdate
   simp[run_underlying E,Result.andThen,W,Z,Y,hi,J]
  .rw[OT _ _ hi];simp
 |some q=>
  obtain⟨j,x⟩:=q;obtain⟨q,e,h1,h2,h3,h4⟩:=OS _ _ _ _ hi;obtain rfl:j=q:=by omega
  have B:es[j]? =some e:=by simpa using h2
  have A:=AaB (n:=9999) (O e (List.mem_of_getElem? h2)) h3;refine⟨es.modify j λe=>{e with key:=k,val:=v},c,?_,?_⟩
  .unfold Instr.mapUpdate
   simp[run_underlying E,Result.andThen,W,Z,Y,hi,J,Instr.keyThatStays,B,A]
  .rw[Array.toList_modify]
   exact h4 v _ rfl rfl
end
end Go.Ve

