/- The bridge. -/
import Derived.Test.YteakdlfnmhlifaaTo
import Derived.ChangeArms
import Derived.ChangeShapes
import Derived.ProofKit
open List(mem_cons_self all_cons length_append map_cons)
set_option linter.all false
namespace Go.Ve
open Go
variable{t:Ty}{v:Value}
def okT:(t:Ty)->t.T->Prop
 |.int k,n=>(Lit.int k n).wf=true
 |.bool,_=>True
 |.str,s=>s.size<=maxLen
 |.sl t,xs=>xs.length<=maxLen/\∀x∈xs,okT t x
 |.ptr t,x=>okT t x
 |.clo _ _,_=>True
 |.osl _,_=>True
 |.mp _ _,_=>True
 |.unit,_=>True
 |.pair a b,x=>okT a x.1/\okT b x.2
def AdO(P:Program)(g:TypeId->Option (List Ty)):List Field->Nat->Option (List Ty)
 |[],_=>some []
 |f::fs,off=>match g f.type with
  |some l=>if f.offset=off/\P.cellsOf f.type=l.length then(match AdO P g fs (off+l.length)with
   |some m=>some (l++m)
   |none=>none)else none
  |none=>none
def lvs(P:Program):Nat->TypeId->Option (List Ty)
 |0,_=>none
 |d+1,t=>match P.underlying t with
  |some .bool=>some [.bool]
  |some (.int k)=>some [.int k]
  |some .string=>some [.str]
  |some (.slice e)=>match lvs P d e with
   |some l=>if P.cellsOf e=l.length/\0<l.length then some [.sl (BT l)]else none
   |none=>none
  |some (.struct fs)=>match AdO P (lvs P d) fs.toList 0 with
   |some l=>if P.cellsOf t=l.length then some l else none
   |none=>none
  |_=>none
def dyV(y:Dy):V:=cV y.t 0 y.x
def QF:∀(ys:List Dy),(ys.all λy=>y.t.one)=true->(∀y∈ys,okT y.t y.x)->∃x:(BT (ys.map (·.t))).T,okT _ x/\tyV (BT (ys.map (·.t))) 0 x=ys.map dyV
 |[],_,_=>⟨(),trivial,rfl⟩
 |[y],h,hk=>by
  simp[Bool.and_true]at h;exact⟨y.x,hk y (mem_cons_self ..),Bh h 0 y.x⟩
 |y::z::l,h,hk=>by
  rw[all_cons,bAE]at h;obtain⟨x,A,u⟩:=QF (z::l) h.2 λa e=>hk a (mCM _ e)
  refine⟨(y.x,x),⟨hk y (mem_cons_self ..),A⟩,?_⟩;show tyV y.t 0 y.x++tyV (BT ((z::l).map (·.t))) 0 x=_
  rw[u,Bh h.1];rfl
theorem AbF:∀(l:List Ty),(l.all λt=>t.one)=true->(BT l).w=l.length
 |[],_=>rfl
 |[t],h=>by
  simp[Bool.and_true]at h;have:=Av t 0 t.dflt;rw[Bh h]at this;exact this.symm
 |t::u::l,h=>by
  rw[all_cons,bAE]at h;show t.w+(BT (u::l)).w=_;rw[AbF (u::l) h.2];have:=Av t 0 t.dflt;rw[Bh h.1]at this
  grind
def UN{P:Program}{g:TypeId->Option (List Ty)}(e:∀t l,g t=some l->(l.all λt=>t.one)=true):∀(fs:List Field) (off:Nat) (l:List Ty),AdO P g fs off=some l->(l.all λt=>t.one)=true
 |[],off,l,h=>by cases h;rfl
 |f::fs,off,l,h=>by
  unfold AdO at h;split at h
  case h_2=>grind
  rename_i l1 A;split at h
  case isFalse=>grind
  split at h
  case h_2=>grind
  rename_i m u;cases h;rw[List.all_append,e _ _ A,UN e fs _ _ u];rfl
def Qu{P:Program}:∀(d:Nat) (t:TypeId) (l:List Ty),lvs P d t=some l->(l.all λt=>t.one)=true
 |0,_,_,h=>by cases h
 |d+1,t,l,h=>by
  unfold lvs at h;split at h
  .cases h;rfl
  .cases h;rfl
  .cases h;rfl
  .split at h
   .split at h<;>cases h;rfl
   grind
  .split at h
   case h_2=>grind
   rename_i fs _ _ l1 e;split at h
   case isFalse=>grind
   cases h;exact UN (Qu d) _ _ _ e
  grind
theorem exL{α:Type}(d:α)(Q:Nat->α->Prop):∀n:Nat,(∀i,i<n->∃x,Q i x)->∃xs:List α,xs.length=n/\∀i,i<n->Q i (xs.getD i d)
 |0,_=>⟨[],rfl,λi h=>by omega⟩
 |n+1,h=>by
  obtain⟨xs,A,u⟩:=exL d Q n λi hi=>h i (by omega)
  obtain⟨x,e⟩:=h n (by simp)
  refine⟨xs++[x],by simp_all,λi hi=>?_⟩
  grind
section
variable {H:Type}{enc:TypeId×Value->H}{P:Program}{w:World}
def NN(w:World)(l:List Ty)(cs:List Value):Prop:=∃ys:List Dy,ys.map (·.t)=l/\cs.length=l.length/\(∀i,i<l.length->∀R,Rel (λb=>b<w.heap.size) w R ((ys.map dyV).getD i .dead) (cs.getD i undef) noF)/\∀y∈ys,okT y.t y.x
theorem J3{x:t.T}(u:okT t x)(h:∀R,Rel (λb=>b<w.heap.size) w R (cV t 0 x) v noF):NN w [t] [v]:=by
 refine⟨[⟨t,x⟩],rfl,rfl,λi hi R=>?_,λy e=>?_⟩
 .obtain rfl:i=0:=by grind
  exact h R
 grind
def P9{x:t.T}(u:okT t x)(h:cV t 0 x=.c v)(e:v.oneCell'=true):NN w [t] [v]:=
 J3 u λR=>by rw[h];exact⟨rfl,e,λ_ h=>h⟩
theorem XP{l m:List Ty}{cs ds:List Value}(F:NN w l cs)(E:NN w m ds):NN w (l++m) (cs++ds):=by
 obtain⟨ys,a1,a2,a3,a4⟩:=F;obtain⟨u,Z,Y,U,O⟩:=E;have A:ys.length=l.length:=by rw[<-a1,List.length_map]
 refine⟨ys++u,by rw[List.map_append,a1,Z],by simp[a2,Y],λi hi R=>?_,λy h=>(List.mem_append.1 h).elim (a4 y) (O y)⟩
 simp only[length_append]at hi;rw[List.map_append];by_cases e:i<l.length
 .have B:(ys.map dyV++u.map dyV).getD i .dead=(ys.map dyV).getD i .dead:=by
   rw[gDE,gAL (by simpa [A]using e),<-gDE]
  simp_all
 .have B:(ys.map dyV++u.map dyV).getD i .dead=(u.map dyV).getD (i-l.length) .dead:=by
   rw[gDE,gAR (by simp[A];omega),<-gDE,List.length_map,A]
  have J:(cs++ds).getD i undef=ds.getD (i-l.length) undef:=by
   grind
  rw[B,J];exact U _ (by omega) R
theorem Iu{Z:Bool}:∀(d:Nat) (t:TypeId) (l:List Ty),lvs P d t=some l->∀(m:Nat) (cs:List Value) (x:DataW H×List MemPlace),DataW.trod enc P w 0 (λ_=>true) Z m t cs=some x->NN w l cs
 |0,_,_,h=>by cases h
 |d+1,t,l,h=>by
  intro m cs x F;unfold lvs at h;split at h
  .rename_i J
   cases h;obtain⟨b,rfl,_⟩:=DataW.trod_bool J F;exact P9 (t:=.bool) (x:=b) trivial rfl rfl
  .rename_i k J
   cases h;obtain⟨n,rfl,_,hw⟩:=DataW.trod_int J F;exact P9 (t:=.int k) (x:=n) hw rfl rfl
  .rename_i J
   cases h;obtain⟨s,rfl,_,hw⟩:=DataW.trod_string J F;exact P9 (t:=.str) (x:=s) hw rfl rfl
  .rename_i e J
   split at h
   case h_2=>cases h
   rename_i le O;split at h
   case isFalse=>cases h
   rename_i hc;cases h;have A:=Qu _ _ _ O;rcases DataW.trod_slice J F with⟨rfl,_⟩|⟨a,len,cap,E,rest,n,_,rfl,_,_,B,hm,hlen,hel,hsp,_⟩
   .exact J3 (t:=.sl (BT le)) (x:=[]) ⟨Nat.zero_le _,λ_ h=>by cases h⟩ λR=>.inl ⟨rfl,rfl,.inl rfl,λ_ h=>h⟩
   .-- the elements
    have each:∀i,i<len->∃x:(BT le).T,okT _ x/\∀k,k<le.length->∃v,w.cell? ((a.add (i*le.length)).add k)=some v/\∀R,Rel (λb=>b<w.heap.size) w R ((tyV (BT le) 0 x).getD k .dead) v noF:=by
     intro i hi;have h1:=hel i hi;have h2:E[i]? =some (E[i]'(by omega)):=gEE (by omega)
     rw[h2,Option.bind_eq_some_iff]at h1;obtain⟨ci,hci,hti⟩:=h1;obtain⟨_,U,Y⟩:=World.cells?_some hci;obtain⟨ys,g1,g2,g3,g4⟩:=Iu d e le O n ci _ hti
     have hone':(ys.all λy=>y.t.one)=true:=by
      rw[<-g1,List.all_map]at A;exact A
     obtain⟨x,k1,k2⟩:=QF ys hone' g4;subst g1;refine⟨x,k1,λk hk=>⟨ci.getD k undef,?_,λR=>?_⟩⟩
     .rw[hc.1]at Y U
      rw[Y k hk];rw[gDE,gEE (by omega)];rfl
     .rw[k2];exact g3 k hk R
    obtain⟨xs,hxl,hxs⟩:=exL (BT le).dflt _ len each;have hw:(BT le).w=le.length:=AbF le A
    have hok:okT (.sl (BT le)) xs:=by
     refine⟨by omega,λx F=>?_⟩
     obtain⟨i,hi⟩:=List.getElem?_of_mem F;have hil:=(List.getElem?_eq_some_iff.1 hi).1;have:=(hxs i (by omega)).1
     rw[gDE,hi]at this;exact this
    refine J3 hok λR=>?_
    -- where it lies
    have hsp0:a.spot=none\/cap=0:=by
     by_cases h0:cap=0
     .exact .inr h0
     .left
      have hcell:∃v,w.cell? a=some v:=by
       by_cases hl0:0<len
       .obtain⟨v,u,_⟩:=(hxs 0 hl0).2 0 hc.2
        exact⟨v,by simpa [Addr.add]using u⟩
       .obtain⟨hr1,hr2⟩:=hsp rfl
        have h1:=hr2 0 (by omega)
        have h2:rest[0]? =some (rest[0]'(by omega)):=gEE (by omega)
        rw[h2,Option.bind_eq_some_iff]at h1;obtain⟨ci,hci,_⟩:=h1;obtain⟨_,U,Y⟩:=World.cells?_some hci;have h3:=Y 0 (by omega)
        have hl1:len=0:=by omega
        subst hl1;rw[gEE (by omega)]at h3
        exact⟨_,by simpa [Addr.add]using h3⟩
      obtain⟨v,u⟩:=hcell;unfold World.cell? at u;split at u
      .split at u
       .cases u
       .rename_i hns;simpa using hns
      .cases u
    cases hs:a.spot with
    |some sp=>
     have h0:cap=0:=hsp0.resolve_left (by rw[hs];simp)
     have hl0:len=0:=by omega
     subst h0;subst hl0;refine .inl ⟨hxl,rfl,.inr ⟨rfl,some a,rfl,λx F=>?_⟩,λ_ h=>h⟩
     cases F;rw[hs];simp
    |none=>
     obtain⟨b,o,sp⟩:=a;have hs:sp=none:=hs;subst hs
     have cell:∀i k,i<len->k<le.length->∃v,w.cell? ⟨b,o+i*le.length+k,none⟩=some v/\∀R,Rel (λb=>b<w.heap.size) w R ((tyV (BT le) 0 (xs.getD i (BT le).dflt)).getD k .dead) v noF:=by
      intro i k hi hk;obtain⟨v,u,hr⟩:=(hxs i hi).2 k hk;have e:∀n,(⟨b,o,none⟩:Addr).add n=⟨b,o+n,none⟩:=λn=>A3 (ad:=⟨b,o,none⟩) rfl n
      have e':∀n,(⟨b,o+i*le.length,none⟩:Addr).add n=⟨b,o+i*le.length+n,none⟩:=λn=>A3 (ad:=⟨b,o+i*le.length,none⟩) rfl n
      rw[e,e']at u;exact⟨v,u,hr⟩
     refine .inr ⟨b,o,cap,λ_ _=>noF,by rw[hxl];rfl,by omega,by omega,(λh=>by cases h),λi k hi hk=>?_,λ_=>⟨λhp=>?_,λ_ _ _ _ _ h=>h,λ_ h=>h⟩,λh=>by cases h⟩
     .rw[hw]at hk⊢
      obtain⟨v,u,hr⟩:=cell i k (by omega) hk
      exact⟨v,u,hr noR⟩
     .have hp1:0<xs.length:=Nat.pos_of_mul_pos_right hp
      obtain⟨v,u,_⟩:=cell 0 0 (by omega) hc.2
      show b<w.heap.size;unfold World.cell? at u;rcases Nat.lt_or_ge b w.heap.size with h|h
      .exact h
      .simp only[Array.getElem?_eq_none h]at u
       cases u
  .rename_i fs J
   split at h
   case h_2=>cases h
   rename_i l1 hl1;split at h
   case isFalse=>cases h
   rename_i hc;cases h;obtain⟨xs,n,_,_,U,hxl,hf⟩:=DataW.trod_struct J F
   have go:∀(gs:List Field) (off:Nat) (l:List Ty),AdO P (lvs P d) gs off=some l->(∀f∈gs,∃y,DataW.trod enc P w 0 (λ_=>true) Z n f.type ((cs.drop f.offset).take (P.cellsOf f.type))=some y)->off+l.length<=cs.length->NN w l ((cs.drop off).take l.length):=by
    intro gs
    induction gs with
    |nil=>
     intro off l B _ _;cases B;exact⟨[],rfl,by simp,λi hi=>by simp at hi,λ_ h=>by cases h⟩
    |cons f gs ih=>
     intro off l B hfs O;unfold AdO at B;split at B
     case h_2=>cases B
     rename_i l1 h1;split at B
     case isFalse=>cases B
     rename_i hfo;split at B
     case h_2=>cases B
     rename_i m2 h2;cases B;obtain⟨y,hy⟩:=hfs f (mem_cons_self ..);rw[hfo.1,hfo.2]at hy;have r1:=Iu d f.type l1 h1 n _ _ hy;rw[length_append]at O;have r2:=ih (off+l1.length) m2 h2 (λg hg=>hfs g (mCM _ hg)) (by omega)
     have:=XP r1 r2;rw[length_append]
     have e:(cs.drop off).take (l1.length+m2.length)=(cs.drop off).take l1.length++(cs.drop (off+l1.length)).take m2.length:=by
      rw[List.take_add,List.drop_drop]
     rw[e];exact this
   have:=go fs.toList 0 l hl1 (λf hf'=>by
    obtain⟨i,hi⟩:=List.getElem?_of_mem hf';have hi':fs[i]? =some f:=by simpa using hi
    have hlt:=(Array.getElem?_eq_some_iff.1 hi').1;refine⟨xs[i]'(by omega),?_⟩
    rw[hf i f hi',gEE (by omega)]) (by omega)
   rw[<-hc,<-U]at this;simpa using this
  .cases h
end
end Go.Ve


namespace Go.Ve
open Go Go.ChangeShapes Go.WideShapes Go.RowKit
variable{p:List MemPlace}{l:List Ty}{base:Nat}{v:Value}
def aggU(P:Program)(t:TypeId):Bool:=match P.underlying t with
 |some (.struct _)=>true
 |_=>false
def parP(P:Program)(t:TypeId):Bool×Option Ty:=(aggU P t,(lvs P 12 t).map BT)
section
variable {H:Type}{enc:TypeId×Value->H}{P:Program}{W:World}
theorem XQ{cs:Array Value}(u:(l.all λt=>t.one)=true)(h:NN W l cs.toList):∃x:(BT l).T,okT _ x/\∀R,Rel (λb=>b<W.heap.size) W R (Ag (tyV (BT l) 0 x)) (.agg cs) noF:=by
 obtain⟨ys,g1,g2,E,A⟩:=h;have e:(ys.all λy=>y.t.one)=true:=by grind
 obtain⟨x,k1,k2⟩:=QF ys e A;subst g1;refine⟨x,k1,λR=>⟨cs,λ_=>noF,rfl,?_,λk B=>?_,λ_ _ _ _ _ _ h=>h.elim,λb=>⟨λh=>h.elim,fun⟨_,_,h⟩=>h⟩⟩⟩
 .grind
 simp_all
theorem XO(h:NN W l [v])(e:(l.all λt=>t.one)=true):∃x:(BT l).T,okT _ x/\(BT l).one=true/\∀R,Rel (λb=>b<W.heap.size) W R (cV (BT l) 0 x) v noF:=by
 obtain⟨ys,g1,g2,B,A⟩:=h;cases ys with
 |nil=>grind
 |cons y ys=>
  cases ys with
  |cons z E=>grind
  |nil=>
   subst g1;have u:=by simpa using e
   refine⟨y.x,A y (mem_cons_self ..),u,λR=>?_⟩
   exact B 0 (by simp) R
theorem Py{t:TypeId}{d:DataW H}{ty:Ty}{b:Bool}(U:parP P t=(b,some ty))(E:Value.okWide P W .any base t v)(h:DataW.Trod enc P W 0 (λ_=>true) true t v d p):
  ∃x:ty.T,okT ty x/\∀R,Rel (λb=>b<W.heap.size) W R (vOf b ty 0 x) v noF:=by
 unfold parP at U;simp only[Prod.mk.injEq,Option.map_eq_some_iff]at U;obtain⟨F,l,Y,rfl⟩:=U;obtain⟨J,hf⟩:=h;have O:=Iu 12 t l Y J _ _ hf;have u:=Qu _ _ _ Y;cases b with
 |true=>
  unfold aggU at F;split at F
  case h_2=>cases F
  rename_i fs e;simp only[Value.okWide,e]at E;obtain⟨cs,rfl,_,_⟩:=E;obtain⟨x,Z,h2⟩:=XQ u O;exact⟨x,Z,λR=>h2 R⟩
 |false=>
  have B:v.cells= #[v]:=by
   have A:=Y;unfold lvs at A;unfold aggU at F;split at A
   .rename_i e;obtain⟨b,rfl⟩:=okWide_bool e E;rfl
   .rename_i e
    simp only[Value.okWide,e,Cell.okWide]at E;cases v<;>simp_all[Cell.ok,Value.cells]
   .rename_i e
    simp only[Value.okWide,e,Cell.okWide]at E;cases v<;>simp_all[Cell.ok,Value.cells]
   .rename_i e
    simp only[Value.okWide,e,Cell.okWide]at E;cases v<;>simp_all[Cell.ok,Value.cells]
   .rename_i e;rw[e]at F;cases F
   .cases A
  rw[B]at O;obtain⟨x,Z,h2,h3⟩:=XO O u;exact⟨x,Z,λR=>h3 R⟩
def Mp{base:Nat}:∀(ps:List (Bool×Ty)) (ts:List TypeId) (e:List Value) (ds:List (DataW H)) (p:List MemPlace),ts.map (parP P)=ps.map (λp=>(p.1,some p.2))->
  DataW.TrodAll enc P W 0 (λ_=>true) true ts e ds p->(∀(j:Nat) t v,ts[j]? =some t->e[j]? =some v->Value.okWide P W .any base t v)->
  ∃x:(PT ps).T,okT (PT ps) x/\e.length=(CX ps x).length/\∀i,i<e.length->∀R,Rel (λb=>b<W.heap.size) W R ((CX ps x).getD i .dead) (e.getD i undef) noF
 |[],ts,e,ds,p,hp,h,_=>by
  cases ts with
  |cons=>cases hp
  |nil=>
   obtain⟨rfl,rfl,rfl⟩:=trodAll_nil h;exact⟨(),trivial,rfl,λi hi=>by simp at hi⟩
 |[q],ts,e,ds,p,hp,h,hv=>by
  cases ts with
  |nil=>cases hp
  |cons t ts=>
   cases ts with
   |cons=>simp at hp
   |nil=>
    obtain⟨v,u,d,E,p1,p2,rfl,rfl,rfl,B,A⟩:=trodAll_cons h;obtain⟨rfl,rfl,rfl⟩:=trodAll_nil A;simp only[map_cons,List.map_nil,List.cons.injEq,and_true]at hp;obtain⟨x,k1,k2⟩:=Py (base:=base) hp (hv 0 t v rfl rfl) B;refine⟨x,k1,rfl,λi hi R=>?_⟩
    obtain rfl:i=0:=by simpa using hi
    exact k2 R
 |q::F::ps,ts,e,ds,p,hp,h,hv=>by
  cases ts with
  |nil=>cases hp
  |cons t ts=>
   obtain⟨v,u,d,E,p1,p2,rfl,rfl,rfl,B,A⟩:=trodAll_cons h;rw[map_cons,map_cons,List.cons.injEq]at hp;obtain⟨x,k1,k2⟩:=Py (base:=base) hp.1 (hv 0 t v rfl rfl) B;obtain⟨z,U,O,J⟩:=Mp (base:=base) (F::ps) ts u E p2 hp.2 A λj t v B A=>hv (j+1) t v B A
   refine⟨(x,z),⟨k1,U⟩,?_,λi hi R=>?_⟩
   .show _=(vOf q.1 q.2 0 x::CX (F::ps) z).length
    simp[O]
   .show Rel _ _ _ ((vOf q.1 q.2 0 x::CX (F::ps) z).getD i .dead) _ _
    cases i with
    |zero=>exact k2 R
    |succ i=>exact J i (by simpa using hi) R
theorem HM(E:laidOutB P=true){W':World}{sp:Nat->Bool}:∀(ts:List TypeId) (A:List Value) (ds:List (DataW H)) (p:List MemPlace),(ts.all λt=>P.readableRec t&&decide (t<P.types.size))=true->
  DataW.TrodAll enc P W 0 (λ_=>true) true ts A ds p->(∀x∈p,W.sameAt W' x)->(∀x∈p,sp x.block=true)->DataW.TrodAll enc P W' 0 sp true ts A ds p
 |[],_,_,_,_,h,_,_=>by obtain⟨rfl,rfl,rfl⟩:=trodAll_nil h;rfl
 |t::ts,A,ds,p,hr,h,h1,h2=>by
  obtain⟨v,u,d,B,p1,p2,rfl,rfl,rfl,g1,g2⟩:=trodAll_cons h;rw[all_cons,bAE,bAE,decide_eq_true_eq]at hr
  exact⟨p1,p2,WideElems.Trod_stays E hr.1.1 hr.1.2 g1 (λx e=>h1 x (List.mem_append_left _ e)) (λx e=>h2 x (List.mem_append_left _ e)),
   HM E ts u B p2 hr.2 g2 (λx e=>h1 x (List.mem_append_right _ e)) (λx e=>h2 x (List.mem_append_right _ e)),rfl⟩
theorem Yw{f:FuncId}{ps:List (Bool×Ty)}{g:(PT ps).T->Option Bool}(J:FT P f ⟨ps,[(false,0,.bool)]⟩ g)(F:∀x,okT (PT ps) x->g x=some true){base:Nat}{ts:List TypeId}{args:Array Value}{ds:List (DataW H)}(B:ts.map (parP P)=ps.map (λp=>(p.1,some p.2)))
  (U:DataW.TrodAll enc P W 0 (λ_=>true) true ts args.toList ds p) (u:∀(j:Nat) t v,ts[j]? =some t->args[j]? =some v->Value.okWide P W .any base t v) (E:Wok W):
  Calls P f args W λe W'=>e=.returned (.bool true)/\RowKit.Below W.heap.size W W':=by
 obtain⟨x,Y,h2,Z⟩:=Mp ps ts args.toList ds p B U (λj t v h h'=>u j t v h (by grind))
 have:=J x true (F x Y) W (λb=>b<W.heap.size) args E (λ_ h=>h) (by omega) λi hi=>by
  simp_all
 refine this.mono λe W'=>?_
 rintro ⟨cv,fp,D',rfl,O,A,_⟩
 rw[A.1];exact⟨rfl,O.row⟩
theorem Aav{f:Func}{s:ChangeSpec}{Il Y handsOn Z:Bool}{W':World}{args:Array Value}{ds gs:List (DataW H)}{J:List MemPlace}{tb:TypeId}
  (hW:DataW.Whole enc P f.params.toList s.vars Il W args.toList ds gs J) (hs:s.vars=[])
  (hfn:s.fn H ds= {results:=[.lit (.bool true)],args:=ds}) (O:f.resultTypes= #[tb]) (htb:P.underlying tb=some .bool)
  (hl:laidOutB P=true) (hr:(f.params.toList.all λt=>P.readableRec t&&decide (t<P.types.size))=true) (hb:RowKit.Below W.heap.size W W'):
  s.post enc P f Il Y handsOn Z W args (.bool true) W':=by
 have F:=hW.lt;have hW':=hW;obtain⟨p,q,hA,hV,rfl,hz,hn⟩:=hW';rw[hs]at hV;obtain⟨rfl,rfl⟩:=trodVars_none hV;rw[List.append_nil]at hW F hz hn;have B:s.fn H (ds++[])= {results:=[.lit (.bool true)],args:=ds}:=by rw[List.append_nil];exact hfn
 have U:∀x∈p,W.sameAt W' x:=λx e=>hb.same (F x e)
 have A:∀(b:Nat) (sp:Nat->Bool) (hd:Bool),DataW.TrodAll enc P W' b sp hd f.resultTypes.toList ((Value.bool true).resultList f.resultTypes.size) (s.fn H (ds++[])).results []:=λb sp hd=>by
  rw[B,O];exact trodAll_mk1 (shut_bool htb true)
 have E:∀sp:Nat->Bool,(∀x∈p,sp x.block=true)->DataW.TrodAll enc P W' 0 sp true f.params.toList args.toList (s.fn H (ds++[])).args p:=λsp hsp=>by
  rw[B];exact HM hl _ _ _ _ hr hA U hsp
 have u:∀sp:Nat->Bool,DataW.TrodVars enc P W' sp s.vars (s.fn H (ds++[])).vars []:=λsp=>by
  rw[B,hs];rfl
 have hold:∀x∈p,(λb=>decide (b<W.heap.size)) x.block=true:=λx e=>by simpa using F x e
 have hok:=ok_one (P:=P) (W':=W') (f:=f) O rfl (okWide_bool_mk htb true);refine⟨ds,[],p,[],p,[],hW,A _ _ _,E _ hold,u _,World.keptBut_mono (λx e=>⟨e,?_⟩) (hb.frame (· ∈p)),λ_=>?_⟩
 .exact Or.inr (by simpa using e)
 .refine⟨hok,_,_,([]++p)++[],⟨[]++p,[],trodAll_append (E _ (λ_ _=>rfl)) (A _ _ _),u _,rfl,?_,?_⟩,?_⟩
  .intro b off e
   have e:MemPlace.cell b off∈p:=by simpa using e
   rw[hb.frozen (p:=⟨b,off,none⟩) (F _ e)];exact hz b off e
  .grind
  .intro x e _
   simpa using e
end
end Go.Ve

