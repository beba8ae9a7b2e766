/- The bridge: what a statement's input reads as is data of the typed machine. -/
import Derived.Test.YtdhfaeiafmlhlaaTo
import Derived.ChangeArms
import Derived.ChangeShapes
import Derived.ProofKit
set_option linter.all false
namespace Go.Ve
open Go
variable{t:Ty}{v:Value}
def okT:(t:Ty)->t.T->Prop
 |.int k,n=>(Lit.int k n).wf=true
 |.bool,_=>True
 |.str,s=>s.size<=maxLen
 |.sl t,xs=>xs.length<=maxLen/\∀x∈xs,okT t x
 |.ptr t,x=>okT t x
 |.clo _ _,_=>True
 |.osl _,_=>True
 |.mp _ _,_=>True
 |.unit,_=>True
 |.pair a b,x=>okT a x.1/\okT b x.2
def Adw(P:Program)(g:TypeId->Option (List Ty)):List Field->Nat->Option (List Ty)
 |[],_=>some []
 |f::fs,off=>match g f.type with
  |some l=>if f.offset=off/\P.cellsOf f.type=l.length then(match Adw P g fs (off+l.length)with
   |some m=>some (l++m)
   |none=>none)else none
  |none=>none
def lvs(P:Program):Nat->TypeId->Option (List Ty)
 |0,_=>none
 |d+1,t=>match P.underlying t with
  |some .bool=>some [.bool]
  |some (.int k)=>some [.int k]
  |some .string=>some [.str]
  |some (.slice e)=>match lvs P d e with
   |some l=>if P.cellsOf e=l.length/\0<l.length then some [.sl (Bm l)]else none
   |none=>none
  |some (.struct fs)=>match Adw P (lvs P d) fs.toList 0 with
   |some l=>if P.cellsOf t=l.length then some l else none
   |none=>none
  |_=>none
def dyV(y:Dy):V:=cV y.t 0 y.x
def Qk:∀(ys:List Dy),(ys.all λy=>y.t.one)=true->(∀y∈ys,okT y.t y.x)->∃x:(Bm (ys.map (·.t))).T,okT _ x/\tyV (Bm (ys.map (·.t))) 0 x=ys.map dyV
 |[],_,_=>⟨(),trivial,rfl⟩
 |[y],h,hk=>by
  simp[Bool.and_true]at h;exact⟨y.x,hk y (List.mem_cons_self ..),BL h 0 y.x⟩
 |y::z::l,h,hk=>by
  rw[List.all_cons,bAE]at h;obtain⟨x,B,A⟩:=Qk (z::l) h.2 λa e=>hk a (mCM _ e)
  refine⟨(y.x,x),⟨hk y (List.mem_cons_self ..),B⟩,?_⟩;show tyV y.t 0 y.x++tyV (Bm ((z::l).map (·.t))) 0 x=_
  rw[A,BL h.1];rfl
theorem Abo:∀(l:List Ty),(l.all λt=>t.one)=true->(Bm l).w=l.length
 |[],_=>rfl
 |[t],h=>by
  simp[Bool.and_true]at h;have:=Ay t 0 t.dflt;rw[BL h]at this;exact this.symm
 |t::u::l,h=>by
  rw[List.all_cons,bAE]at h;show t.w+(Bm (u::l)).w=_;rw[Abo (u::l) h.2];have:=Ay t 0 t.dflt;rw[BL h.1]at this
  grind
def Uq{P:Program}{g:TypeId->Option (List Ty)}(e:∀t l,g t=some l->(l.all λt=>t.one)=true):∀(fs:List Field) (off:Nat) (l:List Ty),Adw P g fs off=some l->(l.all λt=>t.one)=true
 |[],off,l,h=>by cases h;rfl
 |f::fs,off,l,h=>by
  unfold Adw at h;split at h
  case h_2=>grind
  rename_i E B;split at h
  case isFalse=>grind
  split at h
  case h_2=>grind
  rename_i m A;cases h;rw[List.all_append,e _ _ B,Uq e fs _ _ A];rfl
def P7{P:Program}:∀(d:Nat) (t:TypeId) (l:List Ty),lvs P d t=some l->(l.all λt=>t.one)=true
 |0,_,_,h=>by cases h
 |d+1,t,l,h=>by
  unfold lvs at h;split at h
  .cases h;rfl
  .cases h;rfl
  .cases h;rfl
  .split at h
   .split at h<;>cases h;rfl
   grind
  .split at h
   case h_2=>grind
   rename_i fs _ _ A e;split at h
   case isFalse=>grind
   cases h;exact Uq (P7 d) _ _ _ e
  grind
theorem exL{α:Type}(d:α)(Q:Nat->α->Prop):∀n:Nat,(∀i,i<n->∃x,Q i x)->∃xs:List α,xs.length=n/\∀i,i<n->Q i (xs.getD i d)
 |0,_=>⟨[],rfl,λi h=>by omega⟩
 |n+1,h=>by
  obtain⟨xs,B,A⟩:=exL d Q n λi hi=>h i (by omega)
  obtain⟨x,e⟩:=h n (by simp)
  refine⟨xs++[x],by simp_all,λi hi=>?_⟩
  grind
section
variable {H:Type}{enc:TypeId×Value->H}{P:Program}{w:World}
def Ny(w:World)(l:List Ty)(cs:List Value):Prop:=∃ys:List Dy,ys.map (·.t)=l/\cs.length=l.length/\(∀i,i<l.length->∀R,Rel (λb=>b<w.heap.size) w R ((ys.map dyV).getD i .dead) (cs.getD i undef) noF)/\∀y∈ys,okT y.t y.x
theorem JY{x:t.T}(A:okT t x)(h:∀R,Rel (λb=>b<w.heap.size) w R (cV t 0 x) v noF):Ny w [t] [v]:=by
 refine⟨[⟨t,x⟩],rfl,rfl,λi hi R=>?_,λy e=>?_⟩
 .obtain rfl:i=0:=by grind
  exact h R
 grind
def PP{x:t.T}(A:okT t x)(h:cV t 0 x=.c v)(e:v.oneCell'=true):Ny w [t] [v]:=
 JY A λR=>by rw[h];exact⟨rfl,e,λ_ h=>h⟩
theorem Xw{l m:List Ty}{cs ds:List Value}(J:Ny w l cs)(F:Ny w m ds):Ny w (l++m) (cs++ds):=by
 obtain⟨ys,a1,a2,a3,a4⟩:=J;obtain⟨A,b1,Z,Y,U⟩:=F;have B:ys.length=l.length:=by rw[<-a1,List.length_map]
 refine⟨ys++A,by rw[List.map_append,a1,b1],by simp[a2,Z],λi hi R=>?_,λy h=>(List.mem_append.1 h).elim (a4 y) (U y)⟩
 simp only[List.length_append]at hi;rw[List.map_append];by_cases e:i<l.length
 .have E:(ys.map dyV++A.map dyV).getD i .dead=(ys.map dyV).getD i .dead:=by
   rw[gDE,gAL (by simpa [B]using e),<-gDE]
  simp_all
 .have E:(ys.map dyV++A.map dyV).getD i .dead=(A.map dyV).getD (i-l.length) .dead:=by
   rw[gDE,gAR (by simp[B];omega),<-gDE,List.length_map,B]
  have O:(cs++ds).getD i undef=ds.getD (i-l.length) undef:=by
   grind
  rw[E,O];exact Y _ (by omega) R
theorem Ik{held:Bool}:∀(d:Nat) (t:TypeId) (l:List Ty),lvs P d t=some l->∀(m:Nat) (cs:List Value) (x:DataW H×List MemPlace),DataW.trod enc P w 0 (λ_=>true) held m t cs=some x->Ny w l cs
 |0,_,_,h=>by cases h
 |d+1,t,l,h=>by
  intro m cs x J;unfold lvs at h;split at h
  .rename_i O
   cases h;obtain⟨b,rfl,_⟩:=DataW.trod_bool O J;exact PP (t:=.bool) (x:=b) trivial rfl rfl
  .rename_i k O
   cases h;obtain⟨n,rfl,_,hw⟩:=DataW.trod_int O J;exact PP (t:=.int k) (x:=n) hw rfl rfl
  .rename_i O
   cases h;obtain⟨s,rfl,_,hw⟩:=DataW.trod_string O J;exact PP (t:=.str) (x:=s) hw rfl rfl
  .rename_i e O
   split at h
   case h_2=>cases h
   rename_i le U;split at h
   case isFalse=>cases h
   rename_i hc;cases h;have B:=P7 _ _ _ U;rcases DataW.trod_slice O J with⟨rfl,_⟩|⟨a,len,cap,F,rest,n,_,rfl,_,_,E,hm,hlen,hel,hsp,_⟩
   .exact JY (t:=.sl (Bm le)) (x:=[]) ⟨Nat.zero_le _,λ_ h=>by cases h⟩ λR=>.inl ⟨rfl,rfl,.inl rfl,λ_ h=>h⟩
   .-- the elements
    have each:∀i,i<len->∃x:(Bm le).T,okT _ x/\∀k,k<le.length->∃v,w.cell? ((a.add (i*le.length)).add k)=some v/\∀R,Rel (λb=>b<w.heap.size) w R ((tyV (Bm le) 0 x).getD k .dead) v noF:=by
     intro i hi;have h1:=hel i hi;have h2:F[i]? =some (F[i]'(by omega)):=gEE (by omega)
     rw[h2,Option.bind_eq_some_iff]at h1;obtain⟨ci,hci,hti⟩:=h1;obtain⟨_,Y,Z⟩:=World.cells?_some hci;obtain⟨ys,g1,g2,g3,g4⟩:=Ik d e le U n ci _ hti
     have hone':(ys.all λy=>y.t.one)=true:=by
      rw[<-g1,List.all_map]at B;exact B
     obtain⟨x,k1,k2⟩:=Qk ys hone' g4;subst g1;refine⟨x,k1,λk hk=>⟨ci.getD k undef,?_,λR=>?_⟩⟩
     .rw[hc.1]at Z Y
      rw[Z k hk];rw[gDE,gEE (by omega)];rfl
     .rw[k2];exact g3 k hk R
    obtain⟨xs,hxl,hxs⟩:=exL (Bm le).dflt _ len each;have hw:(Bm le).w=le.length:=Abo le B
    have hok:okT (.sl (Bm le)) xs:=by
     refine⟨by omega,λx J=>?_⟩
     obtain⟨i,hi⟩:=List.getElem?_of_mem J;have hil:=(List.getElem?_eq_some_iff.1 hi).1;have:=(hxs i (by omega)).1
     rw[gDE,hi]at this;exact this
    refine JY hok λR=>?_
    -- where it lies
    have hsp0:a.spot=none\/cap=0:=by
     by_cases h0:cap=0
     .exact .inr h0
     .left
      have hcell:∃v,w.cell? a=some v:=by
       by_cases hl0:0<len
       .obtain⟨v,A,_⟩:=(hxs 0 hl0).2 0 hc.2
        exact⟨v,by simpa [Addr.add]using A⟩
       .obtain⟨hr1,hr2⟩:=hsp rfl
        have h1:=hr2 0 (by omega)
        have h2:rest[0]? =some (rest[0]'(by omega)):=gEE (by omega)
        rw[h2,Option.bind_eq_some_iff]at h1;obtain⟨ci,hci,_⟩:=h1;obtain⟨_,Y,Z⟩:=World.cells?_some hci;have h3:=Z 0 (by omega)
        have hl1:len=0:=by omega
        subst hl1;rw[gEE (by omega)]at h3
        exact⟨_,by simpa [Addr.add]using h3⟩
      obtain⟨v,A⟩:=hcell;unfold World.cell? at A;split at A
      .split at A
       .cases A
       .rename_i hns;simpa using hns
      .cases A
    cases hs:a.spot with
    |some sp=>
     have h0:cap=0:=hsp0.resolve_left (by rw[hs];simp)
     have hl0:len=0:=by omega
     subst h0;subst hl0;refine .inl ⟨hxl,rfl,.inr ⟨rfl,some a,rfl,λx J=>?_⟩,λ_ h=>h⟩
     cases J;rw[hs];simp
    |none=>
     obtain⟨b,o,sp⟩:=a;have hs:sp=none:=hs;subst hs
     have cell:∀i k,i<len->k<le.length->∃v,w.cell? ⟨b,o+i*le.length+k,none⟩=some v/\∀R,Rel (λb=>b<w.heap.size) w R ((tyV (Bm le) 0 (xs.getD i (Bm le).dflt)).getD k .dead) v noF:=by
      intro i k hi hk;obtain⟨v,A,hr⟩:=(hxs i hi).2 k hk;have e:∀n,(⟨b,o,none⟩:Addr).add n=⟨b,o+n,none⟩:=λn=>A3 (ad:=⟨b,o,none⟩) rfl n
      have e':∀n,(⟨b,o+i*le.length,none⟩:Addr).add n=⟨b,o+i*le.length+n,none⟩:=λn=>A3 (ad:=⟨b,o+i*le.length,none⟩) rfl n
      rw[e,e']at A;exact⟨v,A,hr⟩
     refine .inr ⟨b,o,cap,λ_ _=>noF,by rw[hxl];rfl,by omega,by omega,(λh=>by cases h),λi k hi hk=>?_,λ_=>⟨λhp=>?_,λ_ _ _ _ _ h=>h,λ_ h=>h⟩,λh=>by cases h⟩
     .rw[hw]at hk⊢
      obtain⟨v,A,hr⟩:=cell i k (by omega) hk
      exact⟨v,A,hr noR⟩
     .have hp1:0<xs.length:=Nat.pos_of_mul_pos_right hp
      obtain⟨v,A,_⟩:=cell 0 0 (by omega) hc.2
      show b<w.heap.size;unfold World.cell? at A;rcases Nat.lt_or_ge b w.heap.size with h|h
      .exact h
      .simp only[Array.getElem?_eq_none h]at A
       cases A
  .rename_i fs O
   split at h
   case h_2=>cases h
   rename_i l1 hl1;split at h
   case isFalse=>cases h
   rename_i hc;cases h;obtain⟨xs,n,_,_,Y,hxl,hf⟩:=DataW.trod_struct O J
   have go:∀(gs:List Field) (off:Nat) (l:List Ty),Adw P (lvs P d) gs off=some l->(∀f∈gs,∃y,DataW.trod enc P w 0 (λ_=>true) held n f.type ((cs.drop f.offset).take (P.cellsOf f.type))=some y)->off+l.length<=cs.length->Ny w l ((cs.drop off).take l.length):=by
    intro gs
    induction gs with
    |nil=>
     intro off l E _ _;cases E;exact⟨[],rfl,by simp,λi hi=>by simp at hi,λ_ h=>by cases h⟩
    |cons f gs ih=>
     intro off l E hfs U;unfold Adw at E;split at E
     case h_2=>cases E
     rename_i l1 h1;split at E
     case isFalse=>cases E
     rename_i hfo;split at E
     case h_2=>cases E
     rename_i m2 h2;cases E;obtain⟨y,hy⟩:=hfs f (List.mem_cons_self ..);rw[hfo.1,hfo.2]at hy;have r1:=Ik d f.type l1 h1 n _ _ hy;rw[List.length_append]at U;have r2:=ih (off+l1.length) m2 h2 (λg hg=>hfs g (mCM _ hg)) (by omega)
     have:=Xw r1 r2;rw[List.length_append]
     have e:(cs.drop off).take (l1.length+m2.length)=(cs.drop off).take l1.length++(cs.drop (off+l1.length)).take m2.length:=by
      rw[List.take_add,List.drop_drop]
     rw[e];exact this
   have:=go fs.toList 0 l hl1 (λf hf'=>by
    obtain⟨i,hi⟩:=List.getElem?_of_mem hf';have hi':fs[i]? =some f:=by simpa using hi
    have hlt:=(Array.getElem?_eq_some_iff.1 hi').1;refine⟨xs[i]'(by omega),?_⟩
    rw[hf i f hi',gEE (by omega)]) (by omega)
   rw[<-hc,<-Y]at this;simpa using this
  .cases h
end
end Go.Ve


namespace Go.Ve
open Go Go.ChangeShapes Go.WideShapes Go.RowKit
variable{p:List MemPlace}{l:List Ty}{base:Nat}{v:Value}
def aggU(P:Program)(t:TypeId):Bool:=match P.underlying t with
 |some (.struct _)=>true
 |_=>false
def parP(P:Program)(t:TypeId):Bool×Option Ty:=(aggU P t,(lvs P 12 t).map Bm)
section
variable {H:Type}{enc:TypeId×Value->H}{P:Program}{W:World}
theorem Xx{cs:Array Value}(A:(l.all λt=>t.one)=true)(h:Ny W l cs.toList):∃x:(Bm l).T,okT _ x/\∀R,Rel (λb=>b<W.heap.size) W R (Ai (tyV (Bm l) 0 x)) (.agg cs) noF:=by
 obtain⟨ys,g1,g2,F,B⟩:=h;have e:(ys.all λy=>y.t.one)=true:=by grind
 obtain⟨x,k1,k2⟩:=Qk ys e B;subst g1;refine⟨x,k1,λR=>⟨cs,λ_=>noF,rfl,?_,λk E=>?_,λ_ _ _ _ _ _ h=>h.elim,λb=>⟨λh=>h.elim,fun⟨_,_,h⟩=>h⟩⟩⟩
 .grind
 simp_all
theorem Xv(h:Ny W l [v])(e:(l.all λt=>t.one)=true):∃x:(Bm l).T,okT _ x/\(Bm l).one=true/\∀R,Rel (λb=>b<W.heap.size) W R (cV (Bm l) 0 x) v noF:=by
 obtain⟨ys,g1,g2,E,B⟩:=h;cases ys with
 |nil=>grind
 |cons y ys=>
  cases ys with
  |cons z F=>grind
  |nil=>
   subst g1;have A:=by simpa using e
   refine⟨y.x,B y (List.mem_cons_self ..),A,λR=>?_⟩
   exact E 0 (by simp) R
theorem Pi{t:TypeId}{d:DataW H}{ty:Ty}{b:Bool}(Y:parP P t=(b,some ty))(F:Value.okWide P W .any base t v)(h:DataW.Trod enc P W 0 (λ_=>true) true t v d p):
  ∃x:ty.T,okT ty x/\∀R,Rel (λb=>b<W.heap.size) W R (vOf b ty 0 x) v noF:=by
 unfold parP at Y;simp only[Prod.mk.injEq,Option.map_eq_some_iff]at Y;obtain⟨J,l,Z,rfl⟩:=Y;obtain⟨O,hf⟩:=h;have U:=Ik 12 t l Z O _ _ hf;have A:=P7 _ _ _ Z;cases b with
 |true=>
  unfold aggU at J;split at J
  case h_2=>cases J
  rename_i fs e;simp only[Value.okWide,e]at F;obtain⟨cs,rfl,_,_⟩:=F;obtain⟨x,h1,h2⟩:=Xx A U;exact⟨x,h1,λR=>h2 R⟩
 |false=>
  have E:v.cells= #[v]:=by
   have B:=Z;unfold lvs at B;unfold aggU at J;split at B
   .rename_i e;obtain⟨b,rfl⟩:=okWide_bool e F;rfl
   .rename_i e
    simp only[Value.okWide,e,Cell.okWide]at F;cases v<;>simp_all[Cell.ok,Value.cells]
   .rename_i e
    simp only[Value.okWide,e,Cell.okWide]at F;cases v<;>simp_all[Cell.ok,Value.cells]
   .rename_i e
    simp only[Value.okWide,e,Cell.okWide]at F;cases v<;>simp_all[Cell.ok,Value.cells]
   .rename_i e;rw[e]at J;cases J
   .cases B
  rw[E]at U;obtain⟨x,h1,h2,h3⟩:=Xv U A;exact⟨x,h1,λR=>h3 R⟩
def Mi{base:Nat}:∀(ps:List (Bool×Ty)) (ts:List TypeId) (e:List Value) (ds:List (DataW H)) (p:List MemPlace),ts.map (parP P)=ps.map (λp=>(p.1,some p.2))->
  DataW.TrodAll enc P W 0 (λ_=>true) true ts e ds p->(∀(j:Nat) t v,ts[j]? =some t->e[j]? =some v->Value.okWide P W .any base t v)->
  ∃x:(PT ps).T,okT (PT ps) x/\e.length=(Cf ps x).length/\∀i,i<e.length->∀R,Rel (λb=>b<W.heap.size) W R ((Cf ps x).getD i .dead) (e.getD i undef) noF
 |[],ts,e,ds,p,hp,h,_=>by
  cases ts with
  |cons=>cases hp
  |nil=>
   obtain⟨rfl,rfl,rfl⟩:=trodAll_nil h;exact⟨(),trivial,rfl,λi hi=>by simp at hi⟩
 |[q],ts,e,ds,p,hp,h,hv=>by
  cases ts with
  |nil=>cases hp
  |cons t ts=>
   cases ts with
   |cons=>simp at hp
   |nil=>
    obtain⟨v,A,d,F,p1,p2,rfl,rfl,rfl,E,B⟩:=trodAll_cons h;obtain⟨rfl,rfl,rfl⟩:=trodAll_nil B;simp only[List.map_cons,List.map_nil,List.cons.injEq,and_true]at hp;obtain⟨x,k1,k2⟩:=Pi (base:=base) hp (hv 0 t v rfl rfl) E;refine⟨x,k1,rfl,λi hi R=>?_⟩
    obtain rfl:i=0:=by simpa using hi
    exact k2 R
 |q::J::ps,ts,e,ds,p,hp,h,hv=>by
  cases ts with
  |nil=>cases hp
  |cons t ts=>
   obtain⟨v,A,d,F,p1,p2,rfl,rfl,rfl,E,B⟩:=trodAll_cons h;rw[List.map_cons,List.map_cons,List.cons.injEq]at hp;obtain⟨x,k1,k2⟩:=Pi (base:=base) hp.1 (hv 0 t v rfl rfl) E;obtain⟨z,Y,U,O⟩:=Mi (base:=base) (J::ps) ts A F p2 hp.2 B λj t v E B=>hv (j+1) t v E B
   refine⟨(x,z),⟨k1,Y⟩,?_,λi hi R=>?_⟩
   .show _=(vOf q.1 q.2 0 x::Cf (J::ps) z).length
    simp[U]
   .show Rel _ _ _ ((vOf q.1 q.2 0 x::Cf (J::ps) z).getD i .dead) _ _
    cases i with
    |zero=>exact k2 R
    |succ i=>exact O i (by simpa using hi) R
theorem HA(J:laidOutB P=true){W':World}{F:Nat->Bool}:∀(ts:List TypeId) (B:List Value) (ds:List (DataW H)) (p:List MemPlace),(ts.all λt=>P.readableRec t&&decide (t<P.types.size))=true->
  DataW.TrodAll enc P W 0 (λ_=>true) true ts B ds p->(∀x∈p,W.sameAt W' x)->(∀x∈p,F x.block=true)->DataW.TrodAll enc P W' 0 F true ts B ds p
 |[],_,_,_,_,h,_,_=>by obtain⟨rfl,rfl,rfl⟩:=trodAll_nil h;rfl
 |t::ts,B,ds,p,hr,h,h1,h2=>by
  obtain⟨v,A,d,E,p1,p2,rfl,rfl,rfl,g1,g2⟩:=trodAll_cons h;rw[List.all_cons,bAE,bAE,decide_eq_true_eq]at hr
  exact⟨p1,p2,WideElems.Trod_stays J hr.1.1 hr.1.2 g1 (λx e=>h1 x (List.mem_append_left _ e)) (λx e=>h2 x (List.mem_append_left _ e)),
   HA J ts A E p2 hr.2 g2 (λx e=>h1 x (List.mem_append_right _ e)) (λx e=>h2 x (List.mem_append_right _ e)),rfl⟩
theorem X7{f:FuncId}{ps:List (Bool×Ty)}{g:(PT ps).T->Option Bool}(O:FT P f ⟨ps,[(false,0,.bool)]⟩ g)(J:∀x,okT (PT ps) x->g x=some true){base:Nat}{ts:List TypeId}{args:Array Value}{ds:List (DataW H)}(E:ts.map (parP P)=ps.map (λp=>(p.1,some p.2)))
  (Y:DataW.TrodAll enc P W 0 (λ_=>true) true ts args.toList ds p) (A:∀(j:Nat) t v,ts[j]? =some t->args[j]? =some v->Value.okWide P W .any base t v) (F:Wok W):
  Calls P f args W λe W'=>e=.returned (.bool true)/\RowKit.Below W.heap.size W W':=by
 obtain⟨x,Z,h2,h3⟩:=Mi ps ts args.toList ds p E Y (λj t v h h'=>A j t v h (by grind))
 have:=O x true (J x Z) W (λb=>b<W.heap.size) args F (λ_ h=>h) (by omega) λi hi=>by
  simp_all
 refine this.mono λe W'=>?_
 rintro ⟨cv,fp,D',rfl,U,B,_⟩
 rw[B.1];exact⟨rfl,U.row⟩
theorem Z8{f:Func}{s:ChangeSpec}{Ic fresh handsOn again:Bool}{W':World}{args:Array Value}{ds gs:List (DataW H)}{U:List MemPlace}{tb:TypeId}
  (hW:DataW.Whole enc P f.params.toList s.vars Ic W args.toList ds gs U) (hs:s.vars=[])
  (hfn:s.fn H ds= {results:=[.lit (.bool true)],args:=ds}) (Y:f.resultTypes= #[tb]) (htb:P.underlying tb=some .bool)
  (hl:laidOutB P=true) (hr:(f.params.toList.all λt=>P.readableRec t&&decide (t<P.types.size))=true) (hb:RowKit.Below W.heap.size W W'):
  s.post enc P f Ic fresh handsOn again W args (.bool true) W':=by
 have O:=hW.lt;have hW':=hW;obtain⟨p,q,hA,hV,rfl,hz,hn⟩:=hW';rw[hs]at hV;obtain⟨rfl,rfl⟩:=trodVars_none hV;rw[List.append_nil]at hW O hz hn;have E:s.fn H (ds++[])= {results:=[.lit (.bool true)],args:=ds}:=by rw[List.append_nil];exact hfn
 have Z:∀x∈p,W.sameAt W' x:=λx e=>hb.same (O x e)
 have B:∀(b:Nat) (J:Nat->Bool) (hd:Bool),DataW.TrodAll enc P W' b J hd f.resultTypes.toList ((Value.bool true).resultList f.resultTypes.size) (s.fn H (ds++[])).results []:=λb J hd=>by
  rw[E,Y];exact trodAll_mk1 (shut_bool htb true)
 have F:∀J:Nat->Bool,(∀x∈p,J x.block=true)->DataW.TrodAll enc P W' 0 J true f.params.toList args.toList (s.fn H (ds++[])).args p:=λJ hsp=>by
  rw[E];exact HA hl _ _ _ _ hr hA Z hsp
 have A:∀J:Nat->Bool,DataW.TrodVars enc P W' J s.vars (s.fn H (ds++[])).vars []:=λJ=>by
  rw[E,hs];rfl
 have hold:∀x∈p,(λb=>decide (b<W.heap.size)) x.block=true:=λx e=>by simpa using O x e
 have hok:=ok_one (P:=P) (W':=W') (f:=f) Y rfl (okWide_bool_mk htb true);refine⟨ds,[],p,[],p,[],hW,B _ _ _,F _ hold,A _,World.keptBut_mono (λx e=>⟨e,?_⟩) (hb.frame (· ∈p)),λ_=>?_⟩
 .exact Or.inr (by simpa using e)
 .refine⟨hok,_,_,([]++p)++[],⟨[]++p,[],trodAll_append (F _ (λ_ _=>rfl)) (B _ _ _),A _,rfl,?_,?_⟩,?_⟩
  .intro b off e
   have e:MemPlace.cell b off∈p:=by simpa using e
   rw[hb.frozen (p:=⟨b,off,none⟩) (O _ e)];exact hz b off e
  .grind
  .intro x e _
   simpa using e
end
end Go.Ve

