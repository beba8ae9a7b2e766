/- Equality of bools, of structs and arrays of scalars. -/
import Derived.Test.YteakdlfnmhlifaaVh
import Derived.ChangeKeysEq
open List(range replicate range' drop drop_drop all_cons)
set_option linter.all false
namespace Go.Ve
open Go
variable{k:Nat}{P:Program}{e t:TypeId}
def knd(P:Program)(t:TypeId):Option Nat:=match P.underlying t with
 |some (.int _)=>some 0
 |some .bool=>some 1
 |some .string=>some 2
 |_=>none
def Nu(P:Program)(t:TypeId):Option (List Nat):=match P.underlying t with
 |some .bool=>some [9]
 | some (.struct fs) => if fs.toList.all (λf => f.name != "_") && !P.stoodInHeld t && !P.eqGuardType P.depth t && decide (fs.toList.map (·.offset) = range fs.toList.length)then fs.toList.mapM (λf => knd P f.type)else none
 |some (.array n e)=>if P.cellsOf e==1&& !P.eqGuardType P.depth t then(match knd P e with
   |some k=>some (replicate n k)
   |none=>none)else none
 |_=>none
def kOf:Value->Option Nat
 |.int _ _=>some 0
 |.bool _=>some 1
 |.string _=>some 2
 |_=>none
def Cu:Value->Value->Bool
 |.int k _,.int k' _=>decide (k=k')
 |_,_=>true
def vEq:Value->Value->Bool
 |.int _ a,.int _ b=>decide (a=b)
 |.bool a,.bool b=>a==b
 |.string a,.string b=>decide (a.data.toList=b.data.toList)
 |_,_=>false
theorem D6(h:knd P e=some k):P.plainKey e=true:=by
 unfold knd at h;unfold Program.plainKey
 grind
theorem QH(w:World){d:Nat}{a b:Value}(u:knd P e=some k)(H:kOf a=some k)(E:kOf b=some k)(J:Cu a b=true):(Op.equalIn (d+1) e a b).run P w=.ok (vEq a b) w:=by
 unfold knd at u;split at u
 .rename_i q A
  cases u;cases a<;>try (cases H;done)
  cases b<;>try (cases E;done)
  rename_i k1 x k2 y;have B:k1=k2:=by simpa [Cu]using J
  subst B;simp[Op.equalIn,run_underlying A,vEq];rfl
 .rename_i A
  cases u;cases a<;>try (cases H;done)
  cases b<;>try (cases E;done)
  simp[Op.equalIn,run_underlying A,vEq]
 .rename_i A
  cases u;cases a<;>try (cases H;done)
  cases b<;>try (cases E;done)
  rename_i x y
  have e:(x==y)=decide (x.data.toList=y.data.toList):=by
   rw[beq_toListBytes,ByteArray.toList_eq,ByteArray.toList_eq];rw[Bool.eq_iff_iff];simp
  simp[Op.equalIn,run_underlying A,vEq,e]
 .cases u
def HI:List Value->List Value->Bool
 |a::l,b::m=>vEq a b&&HI l m
 |_,_=>true
def okL:List Nat->List Value->List Value->Bool
 |k::ks,a::l,b::m=>(kOf a==some k)&&(kOf b==some k)&&Cu a b&&okL ks l m
 |[],[],[]=>true
 |_,_,_=>false
def Pk{P:Program}(w:World){e:TypeId}{k d:Nat}(u:knd P e=some k)(xs ys:Array Value):∀(n off:Nat) (l m:List Value),xs.toList.drop off=l->ys.toList.drop off=m->okL (replicate n k) l m=true->
  (Op.eqItems (d+1) e 1 xs ys (range' off n)).run P w=.ok (HI l m) w
 |0,off,l,m,_,_,h=>by
  cases l<;>cases m<;>first|(cases h;done)|rfl
 |n+1,off,l,m,hl,hm,h=>by
  cases l with
  |nil=>cases m<;>cases h
  |cons a l=>
  cases m with
  |nil=>cases h
  |cons b m=>
  have h:((kOf a==some k)&&(kOf b==some k)&&Cu a b&&okL (replicate n k) l m)=true:=h;simp only[bAE,beq_iff_eq]at h;obtain⟨⟨⟨J,H⟩,h3⟩,h4⟩:=h;have U:xs[off]? =some a:=by
   have:=congrArg (·[0]?) hl
   simpa using this
  have O:ys[off]? =some b:=by
   have:=congrArg (·[0]?) hm
   simpa using this
  have B:xs.toList.drop (off+1)=l:=by
   have:=congrArg (drop 1) hl;simpa [drop_drop,Nat.add_comm]using this
  have tb:ys.toList.drop (off+1)=m:=by
   have:=congrArg (drop 1) hm;simpa [drop_drop,Nat.add_comm]using this
  have E:=Pk w (d:=d) u xs ys n (off+1) l m B tb h4;rw[List.range'_succ];simp only[Op.eqItems,Sem.run_bind,Nat.mul_one,run_part_plain w (D6 u) U,run_part_plain w (D6 u) O,Result.andThen_ok,QH w u J H h3];cases A:vEq a b with
  |false=>simp[HI,A]
  |true=>simpa [HI,A]using E
theorem L6 {P : Program} (w : World) {d : Nat} (xs ys : Array Value) :∀(fs : List Field) (ks : List Nat) (off : Nat) (l m : List Value), fs.all (λf => f.name != "_") = true → fs.map (·.offset) = range' off fs.length → fs.mapM (λf => knd P f.type) = some ks →
  xs.toList.drop off=l->ys.toList.drop off=m->okL ks l m=true->(Op.eqFields (d+1) xs ys fs).run P w=.ok (HI l m) w
 |[],ks,off,l,m,_,_,hk,_,_,h=>by
  simp at hk;subst hk;cases l<;>cases m<;>first|(cases h;done)|rfl
 |f::fs,ks,off,l,m,hn,ho,hk,hl,hm,h=>by
  rw[List.mapM_cons]at hk;simp only[bind,Option.bind_eq_some_iff,pure,Option.some.injEq]at hk;obtain⟨k,hk1,ks',hk2,rfl⟩:=hk;cases l with
  |nil=>cases m<;>cases h
  |cons a l=>
  cases m with
  |nil=>cases h
  |cons b m=>
  have h:((kOf a==some k)&&(kOf b==some k)&&Cu a b&&okL ks' l m)=true:=h;simp only[bAE,beq_iff_eq]at h;obtain⟨⟨⟨h1,h2⟩,h3⟩,h4⟩:=h;rw[all_cons,bAE]at hn;rw[List.map_cons,List.length_cons,List.range'_succ,List.cons.injEq]at ho;have ga:xs[off]? =some a:=by
   have:=congrArg (·[0]?) hl
   simpa using this
  have gb:ys[off]? =some b:=by
   have:=congrArg (·[0]?) hm
   simpa using this
  have ta:xs.toList.drop (off+1)=l:=by
   have:=congrArg (drop 1) hl;simpa [drop_drop,Nat.add_comm]using this
  have tb:ys.toList.drop (off+1)=m:=by
   have:=congrArg (drop 1) hm;simpa [drop_drop,Nat.add_comm]using this
  have ih:=L6 w (d:=d) xs ys fs ks' (off+1) l m hn.2 ho.2 hk2 ta tb h4;have hne : f.name ≠ "_" := by simpa using hn.1
  simp only[Op.eqFields,hne,ne_eq,not_false_eq_true,if_true,Sem.run_bind,ho.1,run_part_plain w (D6 hk1) ga,run_part_plain w (D6 hk1) gb,Result.andThen_ok,QH w hk1 h1 h2 h3];cases hv:vEq a b with
  |false=>simp[HI,hv]
  |true=>simpa [HI,hv]using ih
theorem Pi(w:World){ks:List Nat}{xs ys:Array Value}(h:Nu P t=some ks)(Y:ks≠[9])(H:okL ks xs.toList ys.toList=true):
  (Op.equal t (.agg xs) (.agg ys)).run P w=.ok (HI xs.toList ys.toList) w/\P.eqGuardType P.depth t=false:=by
 unfold Nu at h;split at h
 .grind
 .rename_i fs E
  split at h
  case isFalse=>cases h
  rename_i u;simp only[bAE,Bool.not_eq_true',decide_eq_true_eq]at u;obtain⟨⟨⟨U,O⟩,J⟩,h4⟩:=u;refine⟨?_,J⟩;have W:P.fieldsOf t=fs:=by unfold Program.fieldsOf;rw[E]
  show(Op.equalIn (9998+1+1) t (.agg xs) (.agg ys)).run P w=_;rw[run_equalIn_struct w _ t xs ys (by grind) O,W]
  exact L6 w xs ys fs.toList ks 0 _ _ U (by rw[h4,List.range_eq_range']) h rfl rfl H
 .rename_i n e E
  split at h
  case isFalse=>cases h
  rename_i u;simp only[bAE,Bool.not_eq_true',beq_iff_eq]at u;split at h
  case h_2=>cases h
  rename_i k B;cases h;refine⟨?_,u.2⟩;obtain⟨i,hi⟩:∃i,P.info? e=some i:=by
   unfold knd at B;split at B
   .rename_i A;exact info_of_underlying A
   .rename_i A;exact info_of_underlying A
   .rename_i A;exact info_of_underlying A
   .cases B
  show(Op.equalIn (9998+1+1) t (.agg xs) (.agg ys)).run P w=_;rw[run_equalIn_array w _ xs ys E hi,u.1,List.range_eq_range'];exact Pk w B xs ys n 0 _ _ rfl rfl H
 .cases h
theorem Abw(h:knd P t=some k):k≠9:=by
 unfold knd at h
 grind
theorem Yo{α:Type}{f:α->Option Nat}{l:List α}{m:List Nat}(h:l.mapM f=some (k::m)):∃x,f x=some k:=by
 cases l with
 |nil=>grind
 |cons x l=>
  simp[Option.bind_eq_some_iff,List.cons.injEq]at h
  grind
theorem Ws(w:World){a b:Bool}(h:Nu P t=some [9]):(Op.equal t (.bool a) (.bool b)).run P w=.ok (a==b) w:=by
 unfold Nu at h;split at h
 .rename_i A
  have gen:∀d,(Op.equalIn (d+1) t (.bool a) (.bool b)).run P w=.ok (a==b) w:=λd=>by simp[Op.equalIn,run_underlying A]
  exact gen 9999
 .split at h
  .obtain⟨x,u⟩:=Yo h
   exact absurd rfl (Abw u)
  .cases h
 .split at h
  .split at h
   .rename_i k B
    have h:=Option.some.inj h;have key:∀n,replicate n k=[9]->False:=λn e=>by
     have:9∈replicate n k:=by rw[e];simp
     rw[List.mem_replicate]at this;exact absurd this.2.symm (Abw B)
    exact(key _ h).elim
   .cases h
  .cases h
 .cases h
end Go.Ve


namespace Go.Ve
open Go
variable{es:Array MapEntry}{co em:Bool}{b c n:Nat}{D fp:Nat->Prop}{d:TypeDesc}{et kt t:TypeId}{v:V}{R:V->Value->Prop}{cv k x y z:Value}{w:World}
section
variable {P:Program}{o:Oper}{a:Act}{w:World}{σ:List V}{D:Nat->Prop}{ρ:Nat->Value}{F:Nat->Nat->Prop}{K:V->Prop}
def WI(P:Program)(t:TypeId):Option (TypeId×TypeId):=match P.underlying t with
 |some (.map k e)=>some (k,e)
 |_=>none
def Kj{k e:TypeId}(h:WI P t=some (k,e)):P.underlying t=some (.map k e):=by
 unfold WI at h;split at h
 .rename_i u;cases h;exact u
 .cases h
def Uu(res:Option Operand)(K:V->Prop):Prop:=res=none/\K (.mp true [])
theorem K9(wr:Bg σ w D ρ F){res:Option Operand}(u:o.op=.makeMap t res)(h:Uu res K):∃r,K r/\Ar P o a w σ D ρ r:=by
 obtain⟨rfl,B⟩:=h;refine⟨_,B,Ar.new (ob:=.map #[] 0) (v':=.map (some w.heap.size)) wr ?_ ⟨λb=>b=w.heap.size,⟨w.heap.size,rfl,⟨#[],0,?_,rfl⟩,(λe=>by cases e),λ_ x=>Iff.rfl⟩,λb A=>A⟩⟩
 .unfold execOp;rw[u];simp[Instr.makeMap,newObj,Sem.run,Result.andThen]
 .show(w.heap.push _)[w.heap.size]? =_
  simp
def AdT(σ:List V):V->Option (List (Value×Value))
 |.mp _ l=>some l
 |.rm id p=>match sub p (σ.getD id .dead)with
  |.mp true l=>some l
  |_=>none
 |_=>none
def U2(wr:Bg σ w D ρ F){l:List (Value×Value)}(J:Rel D w (Ai σ ρ w) v cv fp)(h:AdT σ v=some l):
  ∃b es c,cv=.map (some b)/\w.heap[b]? =some (.map es c)/\es.toList.map (λe=>(e.key,e.val))=l:=by
 cases v with
 |mp own O=>
  cases h;obtain⟨b,rfl,⟨es,c,H,E⟩,_⟩:=J;exact⟨b,es,c,rfl,H,E⟩
 |rm id p=>
  obtain⟨⟨B,O,b,u,W⟩,_⟩:=J;have U:=At.sub u;unfold AdT at h
  dsimp only at h
  rw[<-U]at h;cases h;obtain⟨fp1,A,_⟩:=Dg (w':=w) p _ _ _ _ _ (wr.rel id B) (λb Y h'=>wr.dD id b h' Y) u
  obtain⟨b',Z,⟨es,c,H,E⟩,_⟩:=A;exact⟨b',es,c,Z,H,E⟩
 |_=>cases h
def BI(P:Program)(kt:TypeId):Value->Value->Bool
 |.agg xs,.agg ys=>match Nu P kt with
  |some ks=>decide (ks≠[9])&&okL ks xs.toList ys.toList
  |none=>false
 |a,b=>match knd P kt with
  |some n=>decide (kOf a=some n)&&decide (kOf b=some n)&&Cu a b
  |none=>false
def kEq:Value->Value->Bool
 |.agg xs,.agg ys=>HI xs.toList ys.toList
 |a,b=>vEq a b
theorem YW(h:BI P kt x y=true):(Op.equal kt x y).run P w=.ok (kEq x y) w:=by
 unfold BI at h;split at h
 .split at h
  .rename_i ks A
   rw[bAE,decide_eq_true_eq]at h;exact(Pi w A h.1 h.2).1
  .cases h
 .rename_i u
  split at h
  .rename_i n B
   simp only[bAE,decide_eq_true_eq]at h;have e:kEq x y=vEq x y:=by
    cases x<;>cases y<;>first|rfl|exact absurd rfl (u _ _ rfl)
   rw[e];exact QH w B h.1.1 h.1.2 h.2
  .cases h
def UU(k:Value):List MapEntry->Nat->Option (Nat×Value)
 |[],_=>none
 |e::es,i=>bif kEq k e.key then some (i,e.val)else UU k es (i+1)
theorem Hu{kt:TypeId}{k:Value}:∀(es:List MapEntry) (i:Nat),(∀e∈es,BI P kt k e.key=true)->(Instr.findAsking kt k es i).run P w=.ok (UU k es i) w
 |[],i,_=>rfl
 |e::es,i,h=>by
  have B:=YW (w:=w) (h e (List.mem_cons_self ..));have u:=Hu es (i+1) λx A=>h x (mCM _ A)
  unfold Instr.findAsking UU;simp only[Sem.run_bind,B,Result.andThen];cases kEq k e.key with
  |true=>rfl
  |false=>simpa using u
theorem VJ(hd:P.underlying kt=some d)(h:BI P kt x y=true):(∃xs ys,x=.agg xs/\y=.agg ys/\Instr.sameNow d x y=none)\/Instr.sameNow d x y=some (kEq x y):=by
 unfold BI at h;split at h
 .rename_i xs ys
  refine .inl ⟨xs,ys,rfl,rfl,?_⟩;cases d<;>rfl
 .rename_i J
  right;unfold knd at h;rw[hd]at h;split at h
  .rename_i n u
   simp only[bAE,decide_eq_true_eq]at h;obtain⟨⟨U,O⟩,h3⟩:=h;split at u
   all_goals (first|(cases u;done)|skip)
   all_goals (rename_i q H;cases H;cases u)
   all_goals (cases x<;>first|(cases U;done)|skip)
   all_goals (cases y<;>first|(cases O;done)|skip)
   all_goals (simp_all[Instr.sameNow,kEq,vEq,Cu])
   all_goals (first
    |(rw[Bool.eq_iff_iff];simp;done)
    |(rename_i s1 E;rcases s1 with⟨B⟩;rcases E with⟨A⟩;show(B==A)=decide (B=A);rw[Bool.eq_iff_iff];simp)
    |trace_state)
  .cases h
theorem Kx{kt:TypeId}{d:TypeDesc}{k:Value}(hd:P.underlying kt=some d):∀(es:List MapEntry) (i:Nat),(∀e∈es,BI P kt k e.key=true)->Instr.findNow d k es i=none\/Instr.findNow d k es i=some (UU k es i)
 |[],i,_=>.inr rfl
 |e::es,i,h=>by
  have A:=Kx hd es (i+1) λx B=>h x (mCM _ B)
  unfold Instr.findNow UU;rcases VJ hd (h e (List.mem_cons_self ..))with⟨_,_,_,_,u⟩|u
  .rw[u];exact .inl rfl
  .rw[u]
   cases kEq k e.key with
   |true=>exact .inr rfl
   |false=>exact A
def Ky(hd:P.underlying kt=some d)(es:List MapEntry)(h:∀e∈es,BI P kt k e.key=true):(Instr.findKey kt k es).run P w=.ok (UU k es 0) w:=by
 unfold Instr.findKey;simp only[Sem.run_bind,run_underlying hd,Result.andThen];rcases Kx hd es 0 h with h1|h1
 .rw[h1];exact Hu es 0 h
 .rw[h1];rfl
def Zu(P:Program)(kt:TypeId)(k:Value):Bool:=match knd P kt with
 |some _=>true
 |none=>match P.underlying kt,k with
  |some (.struct fs),.agg xs=>fs.toList.all λf=>(knd P f.type).isSome&&decide (f.offset<xs.size)
  |_,_=>false
def Vb{k:Nat}(A:knd P t=some k):(Instr.checkKey em (n+1) t x).run P w=.ok () w:=by
 unfold knd at A;unfold Instr.checkKey;split at A
 .rename_i q u;simp only[Sem.run_bind,run_underlying u,Result.andThen];cases x<;>rfl
 .rename_i u;simp only[Sem.run_bind,run_underlying u,Result.andThen];cases x<;>rfl
 .rename_i u;simp only[Sem.run_bind,run_underlying u,Result.andThen];cases x<;>rfl
 .cases A
theorem AbN(h:Zu P kt k=true):(Instr.checkKey em 10000 kt k).run P w=.ok () w:=by
 unfold Zu at h;split at h
 .rename_i n hn;exact Vb (n:=9999) hn
 .split at h
  case h_2=>cases h
  rename_i fs xs hu;rw[show(10000:Nat)=9999+1 from rfl,Instr.checkKey]
  simp only[Sem.run_bind,run_underlying hu,Result.andThen_ok];rw[<-Array.forIn_toList];have h:=aET.1 h;generalize fs.toList=L at h
  induction L with
  |nil=>simp
  |cons f L ih=>
   have h1:=h f (by simp)
   rw[bAE,decide_eq_true_eq,Option.isSome_iff_exists]at h1;obtain⟨⟨k,hk⟩,hlt⟩:=h1;have p1:=run_part_plain w (P:=P) (D6 hk) (Array.getElem?_eq_getElem hlt);have p2:=Vb (P:=P) (w:=w) (em:=em) (n:=9998) (x:=xs[f.offset]) hk;have ih:=ih λy hy=>h y (by simp[hy])
   rw[List.forIn_cons];by_cases hn : f.name = "_"
   .simpa [hn,Sem.run_bind,Result.andThen]using ih
   .simp only[Sem.run_bind,hn,ne_eq,not_false_eq_true,if_true,Result.andThen_ok,p1,p2,Sem.run_pure]
    exact ih
def DC:V->Value
 |.c v=>v
 |_=>undef
def isCV:V->Bool
 |.c _=>true
 |_=>false
def Abx:V->Option Value
 |.c v=>some v
 |.many .ag n f=>if((range n).all λk=>isCV (f k))=true then some (.agg ((range n).map λk=>DC (f k)).toArray)else none
 |_=>none
def Y2(u:Rel D w R v cv fp)(h:isCV v=true):cv=DC v:=by
 cases v<;>first|exact u.1|cases h
theorem Nj(B:Rel D w R v cv fp)(h:Abx v=some k):cv=k:=by
 cases v with
 |c x=>cases h;exact B.1
 |many t n f=>
  cases t<;>first|(cases h;done)|skip
  unfold Abx at h
  dsimp only at h
  split at h
  case isFalse=>cases h
  rename_i H;cases h;obtain⟨cs,G,A,E,J,_⟩:=B;have A:cv=.agg cs:=A;rw[A]
  congr 1
  apply Array.ext';apply List.ext_getElem
  .simpa using E
  .intro j U O
   have hj:j<n:=by simpa using O
   have u:=Y2 (J j hj) (aET.1 H j (List.mem_range.2 hj));have u:cs.getD j undef=DC (f j):=u;rw[Array.getD_eq_getD_getElem?,Array.getElem?_eq_getElem (by simpa using U)]at u
   simpa using u
 |_=>cases h
def Ib(k:Value):List (Value×Value)->Option Value
 |[]=>none
 |e::l=>bif kEq k e.1 then some e.2 else Ib k l
def LW{k:Value}:∀(es:List MapEntry) (i:Nat),(UU k es i).map (·.2)=Ib k (es.map λe=>(e.key,e.val))
 |[],_=>rfl
 |e::es,i=>by
  show Option.map _ (bif kEq k e.key then some (i,e.val)else UU k es (i+1))=(bif kEq k e.key then some e.val else Ib k _);cases kEq k e.key with
  |true=>rfl
  |false=>exact LW es (i+1)
def PF(P:Program)(t:TypeId):Option Value:=match P.info? t with
 |some i=>i.zero
 |none=>none
def XB(h:PF P t=some z):(zeroValue t).run P w=.ok z w:=by
 unfold PF at h;split at h
 .rename_i i hi
  simp[zeroValue,typeInfo,Sem.run,hi,h]
 .cases h
def WT(v:Value):Bool:=match v with
 |.agg cs=>cs.toList.all (·.oneCell')
 |v=>v.oneCell'
def AdI(v:Value):V:=match v with
 |.agg cs=>Ag (cs.toList.map .c)
 |v=>.c v
theorem QX{v:Value}(h:WT v=true):Rel D w R (AdI v) v noF:=by
 unfold WT at h;unfold AdI;split at h
 .rename_i cs
  refine⟨cs,λ_=>noF,rfl,by simp,λk u=>?_,λ_ _ _ _ _ _ h=>h.elim,λb=>⟨λh=>h.elim,fun⟨_,_,h⟩=>h⟩⟩
  simp at u;have e:(cs.toList.map V.c).getD k .dead=.c (cs.getD k undef):=by simp_all
  show Rel D w R ((cs.toList.map V.c).getD k .dead) _ _;rw[e];refine⟨rfl,aET.1 h _ ?_,λ_ h=>h⟩
  grind
 .exact⟨rfl,h,λ_ h=>h⟩
def lookV(co:Bool)(v:Value)(b:Bool):V:=bif co then .many .tu 2 λk=>if k=0 then AdI v else .c (.bool b)else AdI v
def AcX(co:Bool)(v:Value)(b:Bool):Value:=if co then .tuple #[v,.bool b]else v
def XZ(P:Program)(σ:List V)(t:TypeId)(u A:V)(co:Bool)(K:V->Prop):Prop:=
 ∃kt et l k z,WI P t=some (kt,et)/\AdT σ u=some l/\Abx A=some k/\PF P et=some z/\Zu P kt k=true/\(∀e∈l,BI P kt k e.1=true)/\
  WT ((Ib k l).getD z)=true/\K (lookV co ((Ib k l).getD z) (Ib k l).isSome)
theorem Yr{v:Value}{b:Bool}(h:WT v=true):Rel D w R (lookV co v b) (AcX co v b) noF:=by
 cases co with
 |false=>exact QX h
 |true=>
  refine⟨#[v,.bool b],λ_=>noF,rfl,rfl,λk u=>?_,λ_ _ _ _ _ _ h=>h.elim,λb=>⟨λh=>h.elim,fun⟨_,_,h⟩=>h⟩⟩
  match k,u with
  |0,_=>exact QX h
  |1,_=>exact⟨rfl,rfl,λ_ h=>h⟩
theorem Wb{co:Bool}(H:WI P t=some (kt,et))(Y:w.heap[b]? =some (.map es c))(A:PF P et=some z)(u:Zu P kt k=true)(E:∀e∈es.toList,BI P kt k e.key=true):
  (Instr.lookup t (.map (some b)) k co).run P w=.ok (AcX co ((Ib k (es.toList.map λe=>(e.key,e.val))).getD z) (Ib k (es.toList.map λe=>(e.key,e.val))).isSome) w:=by
 have B:=Kj H;obtain⟨d,hd⟩:∃d,P.underlying kt=some d:=by
  unfold Zu knd at u
  grind
 have O:=Ky (w:=w) hd es.toList E;have U:=LW (k:=k) es.toList 0;have W:=AbN (w:=w) (em:=es.isEmpty) u
 have J:(getObj b).run P w=.ok (.map es c) w:=by
  simp[getObj,Sem.run,Y]
 unfold Instr.lookup;simp only[Sem.run_bind,run_underlying B,Result.andThen_ok,J,Sem.run_pure,W,O];rw[<-U];cases UU k es.toList 0 with
 |none=>
  simp only[Sem.run_bind,XB A,Result.andThen_ok,Sem.run_pure];cases co<;>rfl
 |some q=>
  simp only[Sem.run_bind,Result.andThen_ok,Sem.run_pure];cases co<;>rfl
theorem MS(wr:Bg σ w D ρ F){x i:Operand}{A B:V}(H:o.op=.lookup t x i co)(u:OpR σ w D ρ F A (a.eval x))(hi:OpR σ w D ρ F B (a.eval i))(h:XZ P σ t A B co K):∃r,K r/\Ar P o a w σ D ρ r:=by
 obtain⟨kt,et,l,k,z,h1,h2,h3,Z,Y,W,U,O⟩:=h;obtain⟨_,u,_⟩:=u;obtain⟨_,hi,_⟩:=hi;obtain⟨b,es,c,e1,e2,E⟩:=U2 wr u h2;have e4:=Nj hi h3;refine⟨_,O,Ar.pure wr (v':=AcX co ((Ib k l).getD z) (Ib k l).isSome) ?_ (Yr U)⟩;have:=Wb (P:=P) (w:=w) (co:=co) h1 e2 Z Y (λe J=>W (e.key,e.val) (by rw[<-E];exact List.mem_map.2 ⟨e,J,rfl⟩))
 rw[E]at this;unfold execOp;rw[H];simp[e1,e4,this]
def qLenM(σ:List V)(u:V)(K:V->Prop):Prop:=∃l,AdT σ u=some l/\K (.c (.int .i64 l.length))
theorem Qe(wr:Bg σ w D ρ F){x:Operand}(A:WI P t=some (kt,et))(E:o.op=.call {callee:=.builtin .len,args:=#[x],argTypes:=#[t]})(u:OpR σ w D ρ F v (a.eval x))(h:qLenM σ v K):∃r,K r/\Ar P o a w σ D ρ r:=by
 obtain⟨l,U,O⟩:=h;obtain⟨_,B,_⟩:=u;obtain⟨b,es,c,Z,Y,W⟩:=U2 wr B U;have J:(getObj b).run P w=.ok (.map es c) w:=by simp[getObj,Sem.run,Y]
 have H:l.length=es.size:=by rw[<-W];simp
 refine⟨_,O,Ar.pure wr (v':=.int .i64 l.length) ?_ ⟨rfl,rfl,λ_ h=>h⟩⟩
 unfold execOp;rw[E];simp[resolve,invoke,builtin,Builtin.len_,run_underlying (Kj A),Z,J,goInt,H,Result.andThen]
def Abd(k v:Value):List (Value×Value)->List (Value×Value)
 |[]=>[(k,v)]
 |e::l=>bif kEq k e.1 then(k,v)::l else e::Abd k v l
theorem AbU{k:Nat}(J:kOf x=some k)(H:kOf y=some k)(E:Cu x y=true)(h:vEq x y=true):Instr.sameBits n y x=true:=by
 cases x<;>cases y<;>first|(cases h;done)|skip
 all_goals (simp_all[vEq,Cu,kOf,Instr.sameBits])
 all_goals (rename_i s1 u;rcases s1 with⟨B⟩;rcases u with⟨A⟩;show(A==B)=true;simp_all)
def AbV{n:Nat}:∀(ks:List Nat) (l m:List Value),okL ks l m=true->HI l m=true->m.length=l.length/\((m.zip l).all λq=>Instr.sameBits n q.1 q.2)=true
 |[],[],[],_,_=>⟨rfl,rfl⟩
 |k::ks,a::l,b::m,h,u=>by
  have h:((kOf a==some k)&&(kOf b==some k)&&Cu a b&&okL ks l m)=true:=h;have u:(vEq a b&&HI l m)=true:=u;simp only[bAE,beq_iff_eq]at h u;obtain⟨⟨⟨H,E⟩,h3⟩,h4⟩:=h;obtain⟨B,A⟩:=AbV (n:=n) ks l m h4 u.2;refine⟨by simp[B],?_⟩
  simp only[List.zip_cons_cons,all_cons,AbU H E h3 u.1,A,Bool.and_self]
 |[],[],_::_,h,_=>by cases h
 |[],_::_,_,h,_=>by cases h
 |_::_,[],_,h,_=>by cases h
 |_::_,_::_,[],h,_=>by cases h
theorem Aa1(h:BI P kt x y=true)(u:kEq x y=true):Instr.sameBits (n+1) y x=true:=by
 unfold BI at h;split at h
 .rename_i xs ys
  split at h
  .rename_i ks B
   rw[bAE,decide_eq_true_eq]at h;have u:HI xs.toList ys.toList=true:=u;obtain⟨H,E⟩:=AbV (n:=n) ks _ _ h.2 u;unfold Instr.sameBits;simp only[bAE,beq_iff_eq];exact⟨by simpa using H,E⟩
  .cases h
 .rename_i A
  split at h
  .rename_i q J
   simp only[bAE,decide_eq_true_eq]at h;have e:kEq x y=vEq x y:=by
    cases x<;>cases y<;>first|rfl|exact absurd rfl (A _ _ rfl)
   rw[e]at u;exact AbU h.1.1 h.1.2 h.2 u
  .cases h
def O7{k:Value}:∀(es:List MapEntry) (i:Nat),UU k es i=none->∀v,Abd k v (es.map λe=>(e.key,e.val))=(es.map λe=>(e.key,e.val))++[(k,v)]
 |[],_,_,_=>rfl
 |e::es,i,h,v=>by
  unfold UU at h;show(bif kEq k e.key then _ else _)=_;cases u:kEq k e.key with
  |true=>rw[u]at h;cases h
  |false=>
   rw[u]at h;have A:=O7 es (i+1) h v;show(e.key,e.val)::Abd k v _=_;rw[A];rfl
def O6{k:Value}:∀(es:List MapEntry) (i j:Nat) (x:Value),UU k es i=some (j,x)->∃q e,j=i+q/\es[q]? =some e/\kEq k e.key=true/\∀(v:Value) (f:MapEntry->MapEntry),(f e).key=k->(f e).val=v->(es.modify q f).map (λe=>(e.key,e.val))=Abd k v (es.map λe=>(e.key,e.val))
 |[],_,_,_,h=>by cases h
 |e::es,i,j,x,h=>by
  unfold UU at h;cases u:kEq k e.key with
  |true=>
   rw[u]at h;cases h;refine⟨0,e,rfl,rfl,u,λv f B A=>?_⟩
   show((f e).key,(f e).val)::_=(bif kEq k e.key then _ else _);rw[u,B,A];rfl
  |false=>
   rw[u]at h;obtain⟨q,J,B,A,H,E⟩:=O6 es (i+1) j x h;refine⟨q+1,J,by omega,by simpa using A,H,λv f g1 g2=>?_⟩
   show _=(bif kEq k e.key then _ else _);rw[u];show _::_=_::_;rw[<-E v f g1 g2];rfl
theorem M8{v:Value}(hm:WI P t=some (kt,et))(Y:w.heap[b]? =some (.map es c))(J:Zu P kt k=true)(H:∀e∈es.toList,BI P kt k e.key=true):
  ∃es' c',(Instr.mapUpdate t (.map (some b)) k v).run P w=.ok () {w with heap:=w.heap.setIfInBounds b (.map es' c')}/\es'.toList.map (λe=>(e.key,e.val))=Abd k v (es.toList.map λe=>(e.key,e.val)):=by
 have B:=Kj hm;obtain⟨d,hd⟩:∃d,P.underlying kt=some d:=by
  unfold Zu knd at J
  grind
 have U:=Ky (w:=w) hd es.toList H;have W:=AbN (w:=w) (em:=false) J;have O:(getObj b).run P w=.ok (.map es c) w:=by simp[getObj,Sem.run,Y]
 have E:∀o,(setObj b o).run P w=.ok () {w with heap:=w.heap.setIfInBounds b o}:=by intro o;simp[setObj,Sem.run,Y]
 cases hi:UU k es.toList 0 with
 |none=>
  refine⟨es.push {key:=k,val:=v,born:=c},c+1,?_,?_⟩
  .unfold Instr.mapUpdate
   simp[run_underlying B,Result.andThen,O,W,U,hi,E]
  .rw[O7 _ _ hi];simp
 |some q=>
  obtain⟨j,x⟩:=q;obtain⟨q,e,h1,Z,h3,h4⟩:=O6 _ _ _ _ hi;obtain rfl:j=q:=by omega
  have A:es[j]? =some e:=by simpa using Z
  have u:=Aa1 (n:=9999) (H e (List.mem_of_getElem? Z)) h3;refine⟨es.modify j λe=>{e with key:=k,val:=v},c,?_,?_⟩
  .unfold Instr.mapUpdate
   simp[run_underlying B,Result.andThen,O,W,U,hi,E,Instr.keyThatStays,A,u]
  .rw[Array.toList_modify]
   exact h4 v _ rfl rfl
end
end Go.Ve

