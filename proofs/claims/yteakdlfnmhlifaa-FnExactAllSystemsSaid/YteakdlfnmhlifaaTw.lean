/- Equality of bools, of structs and arrays of scalars. -/
import Derived.Test.YteakdlfnmhlifaaVh
import Derived.ChangeKeysEq
open List(replicate range' drop drop_drop)
set_option linter.all false
namespace Go.Ve
open Go
variable{k:Nat}{P:Program}{e t:TypeId}
def knd(P:Program)(t:TypeId):Option Nat:=match P.underlying t with
 |some (.int _)=>some 0
 |some .bool=>some 1
 |some .string=>some 2
 |_=>none
def Wh(P:Program)(t:TypeId):Option (List Nat):=match P.underlying t with
 |some .bool=>some [9]
 | some (.struct fs) => if fs.toList.all (λf => f.name != "_") && !P.stoodInHeld t && !P.eqGuardType P.depth t && decide (fs.toList.map (·.offset) = List.range fs.toList.length)then fs.toList.mapM (λf => knd P f.type)else none
 |some (.array n e)=>if P.cellsOf e==1&& !P.eqGuardType P.depth t then(match knd P e with
   |some k=>some (replicate n k)
   |none=>none)else none
 |_=>none
def kOf:Value->Option Nat
 |.int _ _=>some 0
 |.bool _=>some 1
 |.string _=>some 2
 |_=>none
def JR:Value->Value->Bool
 |.int k _,.int k' _=>decide (k=k')
 |_,_=>true
def vEq:Value->Value->Bool
 |.int _ a,.int _ b=>decide (a=b)
 |.bool a,.bool b=>a==b
 |.string a,.string b=>decide (a.data.toList=b.data.toList)
 |_,_=>false
theorem HW(h:knd P e=some k):P.plainKey e=true:=by
 unfold knd at h;unfold Program.plainKey
 grind
theorem Yp(w:World){d:Nat}{a b:Value}(A:knd P e=some k)(W:kOf a=some k)(U:kOf b=some k)(Y:JR a b=true):(Op.equalIn (d+1) e a b).run P w=.ok (vEq a b) w:=by
 unfold knd at A;split at A
 .rename_i q B
  cases A;cases a<;>try (cases W;done)
  cases b<;>try (cases U;done)
  rename_i k1 x k2 y;have H:k1=k2:=by simpa [JR]using Y
  subst H;simp[Op.equalIn,run_underlying B,vEq];rfl
 .rename_i B
  cases A;cases a<;>try (cases W;done)
  cases b<;>try (cases U;done)
  simp[Op.equalIn,run_underlying B,vEq]
 .rename_i B
  cases A;cases a<;>try (cases W;done)
  cases b<;>try (cases U;done)
  rename_i x y
  have e:(x==y)=decide (x.data.toList=y.data.toList):=by
   rw[beq_toListBytes,ByteArray.toList_eq,ByteArray.toList_eq];rw[Bool.eq_iff_iff];simp
  simp[Op.equalIn,run_underlying B,vEq,e]
 .cases A
def Qu:List Value->List Value->Bool
 |a::l,b::m=>vEq a b&&Qu l m
 |_,_=>true
def okL:List Nat->List Value->List Value->Bool
 |k::ks,a::l,b::m=>(kOf a==some k)&&(kOf b==some k)&&JR a b&&okL ks l m
 |[],[],[]=>true
 |_,_,_=>false
def O4{P:Program}(w:World){e:TypeId}{k d:Nat}(A:knd P e=some k)(xs ys:Array Value):∀(n off:Nat) (l m:List Value),xs.toList.drop off=l->ys.toList.drop off=m->okL (replicate n k) l m=true->
  (Op.eqItems (d+1) e 1 xs ys (range' off n)).run P w=.ok (Qu l m) w
 |0,off,l,m,_,_,h=>by
  cases l<;>cases m<;>first|(cases h;done)|rfl
 |n+1,off,l,m,hl,hm,h=>by
  cases l with
  |nil=>cases m<;>cases h
  |cons a l=>
  cases m with
  |nil=>cases h
  |cons b m=>
  have h:((kOf a==some k)&&(kOf b==some k)&&JR a b&&okL (replicate n k) l m)=true:=h;simp only[bAE,beq_iff_eq]at h;obtain⟨⟨⟨W,U⟩,h3⟩,h4⟩:=h;have Z:xs[off]? =some a:=by
   have:=congrArg (·[0]?) hl
   simpa using this
  have Y:ys[off]? =some b:=by
   have:=congrArg (·[0]?) hm
   simpa using this
  have B:xs.toList.drop (off+1)=l:=by
   have:=congrArg (drop 1) hl;simpa [drop_drop,Nat.add_comm]using this
  have tb:ys.toList.drop (off+1)=m:=by
   have:=congrArg (drop 1) hm;simpa [drop_drop,Nat.add_comm]using this
  have H:=O4 w (d:=d) A xs ys n (off+1) l m B tb h4;rw[List.range'_succ];simp only[Op.eqItems,Sem.run_bind,Nat.mul_one,run_part_plain w (HW A) Z,run_part_plain w (HW A) Y,Result.andThen_ok,Yp w A W U h3];cases hv:vEq a b with
  |false=>simp[Qu,hv]
  |true=>simpa [Qu,hv]using H
theorem LW {P : Program} (w : World) {d : Nat} (xs ys : Array Value) :∀(fs : List Field) (ks : List Nat) (off : Nat) (l m : List Value), fs.all (λf => f.name != "_") = true → fs.map (·.offset) = range' off fs.length → fs.mapM (λf => knd P f.type) = some ks →
  xs.toList.drop off=l->ys.toList.drop off=m->okL ks l m=true->(Op.eqFields (d+1) xs ys fs).run P w=.ok (Qu l m) w
 |[],ks,off,l,m,_,_,hk,_,_,h=>by
  simp at hk;subst hk;cases l<;>cases m<;>first|(cases h;done)|rfl
 |f::fs,ks,off,l,m,hn,ho,hk,hl,hm,h=>by
  rw[List.mapM_cons]at hk;simp only[bind,Option.bind_eq_some_iff,pure,Option.some.injEq]at hk;obtain⟨k,hk1,ks',hk2,rfl⟩:=hk;cases l with
  |nil=>cases m<;>cases h
  |cons a l=>
  cases m with
  |nil=>cases h
  |cons b m=>
  have h:((kOf a==some k)&&(kOf b==some k)&&JR a b&&okL ks' l m)=true:=h;simp only[bAE,beq_iff_eq]at h;obtain⟨⟨⟨h1,h2⟩,h3⟩,h4⟩:=h;rw[List.all_cons,bAE]at hn;rw[List.map_cons,List.length_cons,List.range'_succ,List.cons.injEq]at ho;have ga:xs[off]? =some a:=by
   have:=congrArg (·[0]?) hl
   simpa using this
  have gb:ys[off]? =some b:=by
   have:=congrArg (·[0]?) hm
   simpa using this
  have ta:xs.toList.drop (off+1)=l:=by
   have:=congrArg (drop 1) hl;simpa [drop_drop,Nat.add_comm]using this
  have tb:ys.toList.drop (off+1)=m:=by
   have:=congrArg (drop 1) hm;simpa [drop_drop,Nat.add_comm]using this
  have ih:=LW w (d:=d) xs ys fs ks' (off+1) l m hn.2 ho.2 hk2 ta tb h4;have hne : f.name ≠ "_" := by simpa using hn.1
  simp only[Op.eqFields,hne,ne_eq,not_false_eq_true,if_true,Sem.run_bind,ho.1,run_part_plain w (HW hk1) ga,run_part_plain w (HW hk1) gb,Result.andThen_ok,Yp w hk1 h1 h2 h3];cases hv:vEq a b with
  |false=>simp[Qu,hv]
  |true=>simpa [Qu,hv]using ih
theorem Yo(w:World){ks:List Nat}{xs ys:Array Value}(h:Wh P t=some ks)(hn:ks≠[9])(W:okL ks xs.toList ys.toList=true):
  (Op.equal t (.agg xs) (.agg ys)).run P w=.ok (Qu xs.toList ys.toList) w/\P.eqGuardType P.depth t=false:=by
 unfold Wh at h;split at h
 .grind
 .rename_i fs U
  split at h
  case isFalse=>cases h
  rename_i A;simp only[bAE,Bool.not_eq_true',decide_eq_true_eq]at A;obtain⟨⟨⟨Z,Y⟩,h3⟩,h4⟩:=A;refine⟨?_,h3⟩;have ef:P.fieldsOf t=fs:=by unfold Program.fieldsOf;rw[U]
  show(Op.equalIn (9998+1+1) t (.agg xs) (.agg ys)).run P w=_;rw[run_equalIn_struct w _ t xs ys (by grind) Y,ef]
  exact LW w xs ys fs.toList ks 0 _ _ Z (by rw[h4,List.range_eq_range']) h rfl rfl W
 .rename_i n e U
  split at h
  case isFalse=>cases h
  rename_i A;simp only[bAE,Bool.not_eq_true',beq_iff_eq]at A;split at h
  case h_2=>cases h
  rename_i k H;cases h;refine⟨?_,A.2⟩;obtain⟨i,hi⟩:∃i,P.info? e=some i:=by
   unfold knd at H;split at H
   .rename_i B;exact info_of_underlying B
   .rename_i B;exact info_of_underlying B
   .rename_i B;exact info_of_underlying B
   .cases H
  show(Op.equalIn (9998+1+1) t (.agg xs) (.agg ys)).run P w=_;rw[run_equalIn_array w _ xs ys U hi,A.1,List.range_eq_range'];exact O4 w H xs ys n 0 _ _ rfl rfl W
 .cases h
theorem Aa4(h:knd P t=some k):k≠9:=by
 unfold knd at h
 grind
theorem XP{α:Type}{f:α->Option Nat}{l:List α}{m:List Nat}(h:l.mapM f=some (k::m)):∃x,f x=some k:=by
 cases l with
 |nil=>grind
 |cons x l=>
  simp[Option.bind_eq_some_iff,List.cons.injEq]at h
  grind
theorem VY(w:World){a b:Bool}(h:Wh P t=some [9]):(Op.equal t (.bool a) (.bool b)).run P w=.ok (a==b) w:=by
 unfold Wh at h;split at h
 .rename_i H
  have A:∀d,(Op.equalIn (d+1) t (.bool a) (.bool b)).run P w=.ok (a==b) w:=λd=>by simp[Op.equalIn,run_underlying H]
  exact A 9999
 .split at h
  .obtain⟨x,B⟩:=XP h
   exact absurd rfl (Aa4 B)
  .cases h
 .split at h
  .split at h
   .rename_i k U
    have h:=Option.some.inj h;have key:∀n,replicate n k=[9]->False:=λn e=>by
     have:9∈replicate n k:=by rw[e];simp
     rw[List.mem_replicate]at this;exact absurd this.2.symm (Aa4 U)
    exact(key _ h).elim
   .cases h
  .cases h
 .cases h
end Go.Ve


namespace Go.Ve
open Go
variable{x:Operand}{t:TypeId}{v:V}
section
variable {P:Program}{o:Oper}{a:Act}{w:World}{σ:List V}{D:Nat->Prop}{ρ:Nat->Value}{F:Nat->Nat->Prop}{K:V->Prop}
def mapI(P:Program)(t:TypeId):Option (TypeId×TypeId):=match P.underlying t with
 |some (.map k e)=>some (k,e)
 |_=>none
def XQ{k e:TypeId}(h:mapI P t=some (k,e)):P.underlying t=some (.map k e):=by
 unfold mapI at h;split at h
 .rename_i A;cases h;exact A
 .cases h
def Q4(_:Option Operand)(_:V->Prop):Prop:=False
def K0(wr:Be σ w D ρ F){res:Option Operand}(A:o.op=.makeMap t res)(h:Q4 res K):∃r,K r/\Ap P o a w σ D ρ r:=False.elim h
def entV(σ:List V):V->Option (List (Value×Value))
 |.mp _ l=>some l
 |.rm id p=>match sub p (σ.getD id .dead)with
  |.mp true l=>some l
  |_=>none
 |_=>none
def Aah(wr:Be σ w D ρ F){cv:Value}{fp:Nat->Prop}{l:List (Value×Value)}(Z:Rel D w (Ae σ ρ w) v cv fp)(h:entV σ v=some l):
  ∃b A c,cv=.map (some b)/\w.heap[b]? =some (.map A c)/\A.toList.map (λe=>(e.key,e.val))=l:=by
 cases v with
 |mp own l'=>
  cases h;obtain⟨b,rfl,⟨A,c,Y,W⟩,_⟩:=Z;exact⟨b,A,c,rfl,Y,W⟩
 |rm id p=>
  obtain⟨⟨U,l',b,B,hcv⟩,_⟩:=Z;have hs:=At.sub B;unfold entV at h
  dsimp only at h
  rw[<-hs]at h;cases h;obtain⟨fp1,H,_⟩:=Ds (w':=w) p _ _ _ _ _ (wr.rel id U) (λb hb h'=>wr.dD id b h' hb) B
  obtain⟨b',h0,⟨A,c,Y,W⟩,_⟩:=H;exact⟨b',A,c,h0,Y,W⟩
 |_=>cases h
def Yv:V->Value
 |.c v=>v
 |_=>undef
def zeroI(P:Program)(t:TypeId):Option Value:=match P.info? t with
 |some i=>i.zero
 |none=>none
def Xv(_:Program)(_:List V)(_:TypeId)(_ _:V)(_:Bool)(_:V->Prop):Prop:=False
def ML(wr:Be σ w D ρ F){i:Operand}{H:Bool}{A B:V}(W:o.op=.lookup t x i H)(U:OpR σ w D ρ F A (a.eval x))(hi:OpR σ w D ρ F B (a.eval i))(h:Xv P σ t A B H K):∃r,K r/\Ap P o a w σ D ρ r:=False.elim h
def qLenM(σ:List V)(A:V)(K:V->Prop):Prop:=∃l,entV σ A=some l/\K (.c (.int .i64 l.length))
def PO(wr:Be σ w D ρ F){kt et:TypeId}(B:mapI P t=some (kt,et))(U:o.op=.call {callee:=.builtin .len,args:=#[x],argTypes:=#[t]})(hv:OpR σ w D ρ F v (a.eval x))(h:qLenM σ v K):∃r,K r/\Ap P o a w σ D ρ r:=by
 obtain⟨l,h1,Z⟩:=h;obtain⟨_,H,_⟩:=hv;obtain⟨b,A,c,e1,e2,e3⟩:=Aah wr H h1;have Y:(getObj b).run P w=.ok (.map A c) w:=by simp[getObj,Sem.run,e2]
 have W:l.length=A.size:=by rw[<-e3];simp
 refine⟨_,Z,Ap.pure wr (v':=.int .i64 l.length) ?_ ⟨rfl,rfl,λ_ h=>h⟩⟩
 unfold execOp;rw[U];simp[resolve,invoke,builtin,Builtin.len_,run_underlying (XQ B),e1,Y,goInt,W,Result.andThen]
end
end Go.Ve

