/- The bridge. -/
import Derived.Test.YteakdlfnmhlifaaTo
import Derived.ChangeArms
import Derived.ChangeShapes
import Derived.ProofKit
open List(mem_cons_self all_cons length_append map_cons)
set_option linter.all false
namespace Go.Ve
open Go
variable{t:Ty}{v:Value}
def okT:(t:Ty)->t.T->Prop
 |.int k,n=>(Lit.int k n).wf=true
 |.bool,_=>True
 |.str,s=>s.size<=maxLen
 |.sl t,xs=>xs.length<=maxLen/\∀x∈xs,okT t x
 |.ptr t,x=>okT t x
 |.clo _ _,_=>True
 |.osl _,_=>True
 |.mp _ _,_=>True
 |.unit,_=>True
 |.pair a b,x=>okT a x.1/\okT b x.2
def Adn(P:Program)(g:TypeId->Option (List Ty)):List Field->Nat->Option (List Ty)
 |[],_=>some []
 |f::fs,off=>match g f.type with
  |some l=>if f.offset=off/\P.cellsOf f.type=l.length then(match Adn P g fs (off+l.length)with
   |some m=>some (l++m)
   |none=>none)else none
  |none=>none
def lvs(P:Program):Nat->TypeId->Option (List Ty)
 |0,_=>none
 |d+1,t=>match P.underlying t with
  |some .bool=>some [.bool]
  |some (.int k)=>some [.int k]
  |some .string=>some [.str]
  |some (.slice e)=>match lvs P d e with
   |some l=>if P.cellsOf e=l.length/\0<l.length then some [.sl (BK l)]else none
   |none=>none
  |some (.struct fs)=>match Adn P (lvs P d) fs.toList 0 with
   |some l=>if P.cellsOf t=l.length then some l else none
   |none=>none
  |_=>none
def dyV(y:Dy):V:=cV y.t 0 y.x
def Qf:∀(ys:List Dy),(ys.all λy=>y.t.one)=true->(∀y∈ys,okT y.t y.x)->∃x:(BK (ys.map (·.t))).T,okT _ x/\tyV (BK (ys.map (·.t))) 0 x=ys.map dyV
 |[],_,_=>⟨(),trivial,rfl⟩
 |[y],h,hk=>by
  simp[Bool.and_true]at h;exact⟨y.x,hk y (mem_cons_self ..),Bm h 0 y.x⟩
 |y::z::l,h,hk=>by
  rw[all_cons,bAE]at h;obtain⟨x,F,B⟩:=Qf (z::l) h.2 λa A=>hk a (mCM _ A)
  refine⟨(y.x,x),⟨hk y (mem_cons_self ..),F⟩,?_⟩;show tyV y.t 0 y.x++tyV (BK ((z::l).map (·.t))) 0 x=_
  rw[B,Bm h.1];rfl
theorem Abb:∀(l:List Ty),(l.all λt=>t.one)=true->(BK l).w=l.length
 |[],_=>rfl
 |[t],h=>by
  simp[Bool.and_true]at h;have:=Ax t 0 t.dflt;rw[Bm h]at this;exact this.symm
 |t::u::l,h=>by
  rw[all_cons,bAE]at h;show t.w+(BK (u::l)).w=_;rw[Abb (u::l) h.2];have:=Ax t 0 t.dflt;rw[Bm h.1]at this
  grind
def Um{P:Program}{g:TypeId->Option (List Ty)}(A:∀t l,g t=some l->(l.all λt=>t.one)=true):∀(fs:List Field) (off:Nat) (l:List Ty),Adn P g fs off=some l->(l.all λt=>t.one)=true
 |[],off,l,h=>by cases h;rfl
 |f::fs,off,l,h=>by
  unfold Adn at h;split at h
  case h_2=>grind
  rename_i U F;split at h
  case isFalse=>grind
  split at h
  case h_2=>grind
  rename_i m B;cases h;rw[List.all_append,A _ _ F,Um A fs _ _ B];rfl
def P4{P:Program}:∀(d:Nat) (t:TypeId) (l:List Ty),lvs P d t=some l->(l.all λt=>t.one)=true
 |0,_,_,h=>by cases h
 |d+1,t,l,h=>by
  unfold lvs at h;split at h
  .cases h;rfl
  .cases h;rfl
  .cases h;rfl
  .split at h
   .split at h<;>cases h;rfl
   grind
  .split at h
   case h_2=>grind
   rename_i fs _ _ B A;split at h
   case isFalse=>grind
   cases h;exact Um (P4 d) _ _ _ A
  grind
theorem exL{α:Type}(d:α)(Q:Nat->α->Prop):∀n:Nat,(∀i,i<n->∃x,Q i x)->∃xs:List α,xs.length=n/\∀i,i<n->Q i (xs.getD i d)
 |0,_=>⟨[],rfl,λi h=>by omega⟩
 |n+1,h=>by
  obtain⟨xs,F,B⟩:=exL d Q n λi hi=>h i (by omega)
  obtain⟨x,A⟩:=h n (by simp)
  refine⟨xs++[x],by simp_all,λi hi=>?_⟩
  grind
section
variable {H:Type}{enc:TypeId×Value->H}{P:Program}{w:World}
def NB(w:World)(l:List Ty)(cs:List Value):Prop:=∃ys:List Dy,ys.map (·.t)=l/\cs.length=l.length/\(∀i,i<l.length->∀R,Rel (λb=>b<w.heap.size) w R ((ys.map dyV).getD i .dead) (cs.getD i undef) noF)/\∀y∈ys,okT y.t y.x
theorem JW{x:t.T}(B:okT t x)(h:∀R,Rel (λb=>b<w.heap.size) w R (cV t 0 x) v noF):NB w [t] [v]:=by
 refine⟨[⟨t,x⟩],rfl,rfl,λi hi R=>?_,λy A=>?_⟩
 .obtain rfl:i=0:=by grind
  exact h R
 grind
def PJ{x:t.T}(B:okT t x)(h:cV t 0 x=.c v)(A:v.oneCell'=true):NB w [t] [v]:=
 JW B λR=>by rw[h];exact⟨rfl,A,λ_ h=>h⟩
theorem Xm{l m:List Ty}{cs ds:List Value}(Y:NB w l cs)(U:NB w m ds):NB w (l++m) (cs++ds):=by
 obtain⟨ys,a1,a2,a3,a4⟩:=Y;obtain⟨A,b1,b2,b3,b4⟩:=U;have B:ys.length=l.length:=by rw[<-a1,List.length_map]
 refine⟨ys++A,by rw[List.map_append,a1,b1],by simp[a2,b2],λi hi R=>?_,λy h=>(List.mem_append.1 h).elim (a4 y) (b4 y)⟩
 simp only[length_append]at hi;rw[List.map_append];by_cases e:i<l.length
 .have F:(ys.map dyV++A.map dyV).getD i .dead=(ys.map dyV).getD i .dead:=by
   rw[gDE,gAL (by simpa [B]using e),<-gDE]
  simp_all
 .have F:(ys.map dyV++A.map dyV).getD i .dead=(A.map dyV).getD (i-l.length) .dead:=by
   rw[gDE,gAR (by simp[B];omega),<-gDE,List.length_map,B]
  have Z:(cs++ds).getD i undef=ds.getD (i-l.length) undef:=by
   grind
  rw[F,Z];exact b3 _ (by omega) R
theorem Il{held:Bool}:∀(d:Nat) (t:TypeId) (l:List Ty),lvs P d t=some l->∀(m:Nat) (cs:List Value) (x:DataW H×List MemPlace),DataW.trod enc P w 0 (λ_=>true) held m t cs=some x->NB w l cs
 |0,_,_,h=>by cases h
 |d+1,t,l,h=>by
  intro m cs x U;unfold lvs at h;split at h
  .rename_i Y
   cases h;obtain⟨b,rfl,_⟩:=DataW.trod_bool Y U;exact PJ (t:=.bool) (x:=b) trivial rfl rfl
  .rename_i k Y
   cases h;obtain⟨n,rfl,_,hw⟩:=DataW.trod_int Y U;exact PJ (t:=.int k) (x:=n) hw rfl rfl
  .rename_i Y
   cases h;obtain⟨s,rfl,_,hw⟩:=DataW.trod_string Y U;exact PJ (t:=.str) (x:=s) hw rfl rfl
  .rename_i e Y
   split at h
   case h_2=>cases h
   rename_i le Z;split at h
   case isFalse=>cases h
   rename_i hc;cases h;have A:=P4 _ _ _ Z;rcases DataW.trod_slice Y U with⟨rfl,_⟩|⟨a,len,cap,F,rest,n,_,rfl,_,_,B,hm,hlen,hel,hsp,_⟩
   .exact JW (t:=.sl (BK le)) (x:=[]) ⟨Nat.zero_le _,λ_ h=>by cases h⟩ λR=>.inl ⟨rfl,rfl,.inl rfl,λ_ h=>h⟩
   .-- the elements
    have each:∀i,i<len->∃x:(BK le).T,okT _ x/\∀k,k<le.length->∃v,w.cell? ((a.add (i*le.length)).add k)=some v/\∀R,Rel (λb=>b<w.heap.size) w R ((tyV (BK le) 0 x).getD k .dead) v noF:=by
     intro i hi;have h1:=hel i hi;have h2:F[i]? =some (F[i]'(by omega)):=gEE (by omega)
     rw[h2,Option.bind_eq_some_iff]at h1;obtain⟨ci,hci,hti⟩:=h1;obtain⟨_,hcl,hcc⟩:=World.cells?_some hci;obtain⟨ys,g1,g2,g3,g4⟩:=Il d e le Z n ci _ hti
     have hone':(ys.all λy=>y.t.one)=true:=by
      rw[<-g1,List.all_map]at A;exact A
     obtain⟨x,k1,k2⟩:=Qf ys hone' g4;subst g1;refine⟨x,k1,λk hk=>⟨ci.getD k undef,?_,λR=>?_⟩⟩
     .rw[hc.1]at hcc hcl
      rw[hcc k hk];rw[gDE,gEE (by omega)];rfl
     .rw[k2];exact g3 k hk R
    obtain⟨xs,hxl,hxs⟩:=exL (BK le).dflt _ len each;have hw:(BK le).w=le.length:=Abb le A
    have hok:okT (.sl (BK le)) xs:=by
     refine⟨by omega,λx U=>?_⟩
     obtain⟨i,hi⟩:=List.getElem?_of_mem U;have hil:=(List.getElem?_eq_some_iff.1 hi).1;have:=(hxs i (by omega)).1
     rw[gDE,hi]at this;exact this
    refine JW hok λR=>?_
    -- where it lies
    have hsp0:a.spot=none\/cap=0:=by
     by_cases h0:cap=0
     .exact .inr h0
     .left
      have hcell:∃v,w.cell? a=some v:=by
       by_cases hl0:0<len
       .obtain⟨v,hv,_⟩:=(hxs 0 hl0).2 0 hc.2
        exact⟨v,by simpa [Addr.add]using hv⟩
       .obtain⟨hr1,hr2⟩:=hsp rfl
        have h1:=hr2 0 (by omega)
        have h2:rest[0]? =some (rest[0]'(by omega)):=gEE (by omega)
        rw[h2,Option.bind_eq_some_iff]at h1;obtain⟨ci,hci,_⟩:=h1;obtain⟨_,hcl,hcc⟩:=World.cells?_some hci;have h3:=hcc 0 (by omega)
        have hl1:len=0:=by omega
        subst hl1;rw[gEE (by omega)]at h3
        exact⟨_,by simpa [Addr.add]using h3⟩
      obtain⟨v,hv⟩:=hcell;unfold World.cell? at hv;split at hv
      .split at hv
       .cases hv
       .rename_i hns;simpa using hns
      .cases hv
    cases hs:a.spot with
    |some sp=>
     have h0:cap=0:=hsp0.resolve_left (by rw[hs];simp)
     have hl0:len=0:=by omega
     subst h0;subst hl0;refine .inl ⟨hxl,rfl,.inr ⟨rfl,some a,rfl,λx U=>?_⟩,λ_ h=>h⟩
     cases U;rw[hs];simp
    |none=>
     obtain⟨b,o,sp⟩:=a;have hs:sp=none:=hs;subst hs
     have cell:∀i k,i<len->k<le.length->∃v,w.cell? ⟨b,o+i*le.length+k,none⟩=some v/\∀R,Rel (λb=>b<w.heap.size) w R ((tyV (BK le) 0 (xs.getD i (BK le).dflt)).getD k .dead) v noF:=by
      intro i k hi hk;obtain⟨v,hv,hr⟩:=(hxs i hi).2 k hk;have e:∀n,(⟨b,o,none⟩:Addr).add n=⟨b,o+n,none⟩:=λn=>AZ (ad:=⟨b,o,none⟩) rfl n
      have e':∀n,(⟨b,o+i*le.length,none⟩:Addr).add n=⟨b,o+i*le.length+n,none⟩:=λn=>AZ (ad:=⟨b,o+i*le.length,none⟩) rfl n
      rw[e,e']at hv;exact⟨v,hv,hr⟩
     refine .inr ⟨b,o,cap,λ_ _=>noF,by rw[hxl];rfl,by omega,by omega,(λh=>by cases h),λi k hi hk=>?_,λ_=>⟨λhp=>?_,λ_ _ _ _ _ h=>h,λ_ h=>h⟩,λh=>by cases h⟩
     .rw[hw]at hk⊢
      obtain⟨v,hv,hr⟩:=cell i k (by omega) hk
      exact⟨v,hv,hr noR⟩
     .have hp1:0<xs.length:=Nat.pos_of_mul_pos_right hp
      obtain⟨v,hv,_⟩:=cell 0 0 (by omega) hc.2
      show b<w.heap.size;unfold World.cell? at hv;rcases Nat.lt_or_ge b w.heap.size with h|h
      .exact h
      .simp only[Array.getElem?_eq_none h]at hv
       cases hv
  .rename_i fs Y
   split at h
   case h_2=>cases h
   rename_i l1 hl1;split at h
   case isFalse=>cases h
   rename_i hc;cases h;obtain⟨xs,n,_,_,hcl,hxl,hf⟩:=DataW.trod_struct Y U
   have go:∀(gs:List Field) (off:Nat) (l:List Ty),Adn P (lvs P d) gs off=some l->(∀f∈gs,∃y,DataW.trod enc P w 0 (λ_=>true) held n f.type ((cs.drop f.offset).take (P.cellsOf f.type))=some y)->off+l.length<=cs.length->NB w l ((cs.drop off).take l.length):=by
    intro gs
    induction gs with
    |nil=>
     intro off l B _ _;cases B;exact⟨[],rfl,by simp,λi hi=>by simp at hi,λ_ h=>by cases h⟩
    |cons f gs ih=>
     intro off l B hfs Z;unfold Adn at B;split at B
     case h_2=>cases B
     rename_i l1 h1;split at B
     case isFalse=>cases B
     rename_i hfo;split at B
     case h_2=>cases B
     rename_i m2 h2;cases B;obtain⟨y,hy⟩:=hfs f (mem_cons_self ..);rw[hfo.1,hfo.2]at hy;have r1:=Il d f.type l1 h1 n _ _ hy;rw[length_append]at Z;have r2:=ih (off+l1.length) m2 h2 (λg hg=>hfs g (mCM _ hg)) (by omega)
     have:=Xm r1 r2;rw[length_append]
     have e:(cs.drop off).take (l1.length+m2.length)=(cs.drop off).take l1.length++(cs.drop (off+l1.length)).take m2.length:=by
      rw[List.take_add,List.drop_drop]
     rw[e];exact this
   have:=go fs.toList 0 l hl1 (λf hf'=>by
    obtain⟨i,hi⟩:=List.getElem?_of_mem hf';have hi':fs[i]? =some f:=by simpa using hi
    have hlt:=(Array.getElem?_eq_some_iff.1 hi').1;refine⟨xs[i]'(by omega),?_⟩
    rw[hf i f hi',gEE (by omega)]) (by omega)
   rw[<-hc,<-hcl]at this;simpa using this
  .cases h
end
end Go.Ve


namespace Go.Ve
open Go Go.ChangeShapes Go.WideShapes Go.RowKit
variable{p:List MemPlace}{l:List Ty}{base:Nat}{v:Value}
def aggU(P:Program)(t:TypeId):Bool:=match P.underlying t with
 |some (.struct _)=>true
 |_=>false
def parP(P:Program)(t:TypeId):Bool×Option Ty:=(aggU P t,(lvs P 12 t).map BK)
section
variable {H:Type}{enc:TypeId×Value->H}{P:Program}{W:World}
theorem Xn{cs:Array Value}(B:(l.all λt=>t.one)=true)(h:NB W l cs.toList):∃x:(BK l).T,okT _ x/\∀R,Rel (λb=>b<W.heap.size) W R (Ah (tyV (BK l) 0 x)) (.agg cs) noF:=by
 obtain⟨ys,g1,g2,Y,F⟩:=h;have A:(ys.all λy=>y.t.one)=true:=by grind
 obtain⟨x,k1,k2⟩:=Qf ys A F;subst g1;refine⟨x,k1,λR=>⟨cs,λ_=>noF,rfl,?_,λk U=>?_,λ_ _ _ _ _ _ h=>h.elim,λb=>⟨λh=>h.elim,fun⟨_,_,h⟩=>h⟩⟩⟩
 .grind
 simp_all
theorem Xl(h:NB W l [v])(A:(l.all λt=>t.one)=true):∃x:(BK l).T,okT _ x/\(BK l).one=true/\∀R,Rel (λb=>b<W.heap.size) W R (cV (BK l) 0 x) v noF:=by
 obtain⟨ys,g1,g2,U,F⟩:=h;cases ys with
 |nil=>grind
 |cons y ys=>
  cases ys with
  |cons z Y=>grind
  |nil=>
   subst g1;have B:=by simpa using A
   refine⟨y.x,F y (mem_cons_self ..),B,λR=>?_⟩
   exact U 0 (by simp) R
theorem Ph{t:TypeId}{d:DataW H}{ty:Ty}{b:Bool}(hp:parP P t=(b,some ty))(hv:Value.okWide P W .any base t v)(h:DataW.Trod enc P W 0 (λ_=>true) true t v d p):
  ∃x:ty.T,okT ty x/\∀R,Rel (λb=>b<W.heap.size) W R (vOf b ty 0 x) v noF:=by
 unfold parP at hp;simp only[Prod.mk.injEq,Option.map_eq_some_iff]at hp;obtain⟨Y,l,hl,rfl⟩:=hp;obtain⟨Z,hf⟩:=h;have hr:=Il 12 t l hl Z _ _ hf;have B:=P4 _ _ _ hl;cases b with
 |true=>
  unfold aggU at Y;split at Y
  case h_2=>cases Y
  rename_i fs A;simp only[Value.okWide,A]at hv;obtain⟨cs,rfl,_,_⟩:=hv;obtain⟨x,h1,h2⟩:=Xn B hr;exact⟨x,h1,λR=>h2 R⟩
 |false=>
  have U:v.cells= #[v]:=by
   have F:=hl;unfold lvs at F;unfold aggU at Y;split at F
   .rename_i A;obtain⟨b,rfl⟩:=okWide_bool A hv;rfl
   .rename_i A
    simp only[Value.okWide,A,Cell.okWide]at hv;cases v<;>simp_all[Cell.ok,Value.cells]
   .rename_i A
    simp only[Value.okWide,A,Cell.okWide]at hv;cases v<;>simp_all[Cell.ok,Value.cells]
   .rename_i A
    simp only[Value.okWide,A,Cell.okWide]at hv;cases v<;>simp_all[Cell.ok,Value.cells]
   .rename_i A;rw[A]at Y;cases Y
   .cases F
  rw[U]at hr;obtain⟨x,h1,h2,h3⟩:=Xl hr B;exact⟨x,h1,λR=>h3 R⟩
def Mf{base:Nat}:∀(ps:List (Bool×Ty)) (ts:List TypeId) (A:List Value) (ds:List (DataW H)) (p:List MemPlace),ts.map (parP P)=ps.map (λp=>(p.1,some p.2))->
  DataW.TrodAll enc P W 0 (λ_=>true) true ts A ds p->(∀(j:Nat) t v,ts[j]? =some t->A[j]? =some v->Value.okWide P W .any base t v)->
  ∃x:(PT ps).T,okT (PT ps) x/\A.length=(CN ps x).length/\∀i,i<A.length->∀R,Rel (λb=>b<W.heap.size) W R ((CN ps x).getD i .dead) (A.getD i undef) noF
 |[],ts,A,ds,p,hp,h,_=>by
  cases ts with
  |cons=>cases hp
  |nil=>
   obtain⟨rfl,rfl,rfl⟩:=trodAll_nil h;exact⟨(),trivial,rfl,λi hi=>by simp at hi⟩
 |[q],ts,A,ds,p,hp,h,hv=>by
  cases ts with
  |nil=>cases hp
  |cons t ts=>
   cases ts with
   |cons=>simp at hp
   |nil=>
    obtain⟨v,B,d,Y,p1,p2,rfl,rfl,rfl,U,F⟩:=trodAll_cons h;obtain⟨rfl,rfl,rfl⟩:=trodAll_nil F;simp only[map_cons,List.map_nil,List.cons.injEq,and_true]at hp;obtain⟨x,k1,k2⟩:=Ph (base:=base) hp (hv 0 t v rfl rfl) U;refine⟨x,k1,rfl,λi hi R=>?_⟩
    obtain rfl:i=0:=by simpa using hi
    exact k2 R
 |q::Z::ps,ts,A,ds,p,hp,h,hv=>by
  cases ts with
  |nil=>cases hp
  |cons t ts=>
   obtain⟨v,B,d,Y,p1,p2,rfl,rfl,rfl,U,F⟩:=trodAll_cons h;rw[map_cons,map_cons,List.cons.injEq]at hp;obtain⟨x,k1,k2⟩:=Ph (base:=base) hp.1 (hv 0 t v rfl rfl) U;obtain⟨z,m1,m2,m3⟩:=Mf (base:=base) (Z::ps) ts B Y p2 hp.2 F λj t v U F=>hv (j+1) t v U F
   refine⟨(x,z),⟨k1,m1⟩,?_,λi hi R=>?_⟩
   .show _=(vOf q.1 q.2 0 x::CN (Z::ps) z).length
    simp[m2]
   .show Rel _ _ _ ((vOf q.1 q.2 0 x::CN (Z::ps) z).getD i .dead) _ _
    cases i with
    |zero=>exact k2 R
    |succ i=>exact m3 i (by simpa using hi) R
theorem Hw(Y:laidOutB P=true){W':World}{sp:Nat->Bool}:∀(ts:List TypeId) (F:List Value) (ds:List (DataW H)) (p:List MemPlace),(ts.all λt=>P.readableRec t&&decide (t<P.types.size))=true->
  DataW.TrodAll enc P W 0 (λ_=>true) true ts F ds p->(∀x∈p,W.sameAt W' x)->(∀x∈p,sp x.block=true)->DataW.TrodAll enc P W' 0 sp true ts F ds p
 |[],_,_,_,_,h,_,_=>by obtain⟨rfl,rfl,rfl⟩:=trodAll_nil h;rfl
 |t::ts,F,ds,p,hr,h,h1,h2=>by
  obtain⟨v,B,d,U,p1,p2,rfl,rfl,rfl,g1,g2⟩:=trodAll_cons h;rw[all_cons,bAE,bAE,decide_eq_true_eq]at hr
  exact⟨p1,p2,WideElems.Trod_stays Y hr.1.1 hr.1.2 g1 (λx A=>h1 x (List.mem_append_left _ A)) (λx A=>h2 x (List.mem_append_left _ A)),
   Hw Y ts B U p2 hr.2 g2 (λx A=>h1 x (List.mem_append_right _ A)) (λx A=>h2 x (List.mem_append_right _ A)),rfl⟩
theorem XX{f:FuncId}{ps:List (Bool×Ty)}{g:(PT ps).T->Option Bool}(Y:FT P f ⟨ps,[(false,0,.bool)]⟩ g)(U:∀x,okT (PT ps) x->g x=some true){base:Nat}{ts:List TypeId}{args:Array Value}{ds:List (DataW H)}(B:ts.map (parP P)=ps.map (λp=>(p.1,some p.2)))
  (hA:DataW.TrodAll enc P W 0 (λ_=>true) true ts args.toList ds p) (hv:∀(j:Nat) t v,ts[j]? =some t->args[j]? =some v->Value.okWide P W .any base t v) (F:Wok W):
  Calls P f args W λe W'=>e=.returned (.bool true)/\RowKit.Below W.heap.size W W':=by
 obtain⟨x,h1,h2,h3⟩:=Mf ps ts args.toList ds p B hA (λj t v h h'=>hv j t v h (by grind))
 have:=Y x true (U x h1) W (λb=>b<W.heap.size) args F (λ_ h=>h) (by omega) λi hi=>by
  simp_all
 refine this.mono λe W'=>?_
 rintro ⟨cv,fp,D',rfl,Z,A,_⟩
 rw[A.1];exact⟨rfl,Z.row⟩
theorem ZT{f:Func}{s:ChangeSpec}{Ib fresh handsOn again:Bool}{W':World}{args:Array Value}{ds gs:List (DataW H)}{before:List MemPlace}{tb:TypeId}
  (hW:DataW.Whole enc P f.params.toList s.vars Ib W args.toList ds gs before) (hs:s.vars=[])
  (hfn:s.fn H ds= {results:=[.lit (.bool true)],args:=ds}) (hres:f.resultTypes= #[tb]) (htb:P.underlying tb=some .bool)
  (hl:laidOutB P=true) (hr:(f.params.toList.all λt=>P.readableRec t&&decide (t<P.types.size))=true) (hb:RowKit.Below W.heap.size W W'):
  s.post enc P f Ib fresh handsOn again W args (.bool true) W':=by
 have Z:=hW.lt;have hW':=hW;obtain⟨p,q,hA,hV,rfl,hz,hn⟩:=hW';rw[hs]at hV;obtain⟨rfl,rfl⟩:=trodVars_none hV;rw[List.append_nil]at hW Z hz hn;have U:s.fn H (ds++[])= {results:=[.lit (.bool true)],args:=ds}:=by rw[List.append_nil];exact hfn
 have hsame:∀x∈p,W.sameAt W' x:=λx A=>hb.same (Z x A)
 have F:∀(b:Nat) (sp:Nat->Bool) (hd:Bool),DataW.TrodAll enc P W' b sp hd f.resultTypes.toList ((Value.bool true).resultList f.resultTypes.size) (s.fn H (ds++[])).results []:=λb sp hd=>by
  rw[U,hres];exact trodAll_mk1 (shut_bool htb true)
 have Y:∀sp:Nat->Bool,(∀x∈p,sp x.block=true)->DataW.TrodAll enc P W' 0 sp true f.params.toList args.toList (s.fn H (ds++[])).args p:=λsp hsp=>by
  rw[U];exact Hw hl _ _ _ _ hr hA hsame hsp
 have B:∀sp:Nat->Bool,DataW.TrodVars enc P W' sp s.vars (s.fn H (ds++[])).vars []:=λsp=>by
  rw[U,hs];rfl
 have hold:∀x∈p,(λb=>decide (b<W.heap.size)) x.block=true:=λx A=>by simpa using Z x A
 have hok:=ok_one (P:=P) (W':=W') (f:=f) hres rfl (okWide_bool_mk htb true);refine⟨ds,[],p,[],p,[],hW,F _ _ _,Y _ hold,B _,World.keptBut_mono (λx A=>⟨A,?_⟩) (hb.frame (· ∈p)),λ_=>?_⟩
 .exact Or.inr (by simpa using A)
 .refine⟨hok,_,_,([]++p)++[],⟨[]++p,[],trodAll_append (Y _ (λ_ _=>rfl)) (F _ _ _),B _,rfl,?_,?_⟩,?_⟩
  .intro b off A
   have A:MemPlace.cell b off∈p:=by simpa using A
   rw[hb.frozen (p:=⟨b,off,none⟩) (Z _ A)];exact hz b off A
  .grind
  .intro x A _
   simpa using A
end
end Go.Ve

