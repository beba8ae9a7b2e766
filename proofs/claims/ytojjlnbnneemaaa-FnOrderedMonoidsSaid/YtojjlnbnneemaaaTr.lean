/- The bridge: what a statement's input reads as is data of the typed machine. -/
import Derived.Test.YtojjlnbnneemaaaTo
import Derived.ChangeArms
import Derived.ChangeShapes
import Derived.ProofKit
set_option linter.all false
namespace Go.Ve
open Go
variable{t:Ty}{v:Value}
def okT:(t:Ty)->t.T->Prop
 |.int k,n=>(Lit.int k n).wf=true
 |.bool,_=>True
 |.str,s=>s.size<=maxLen
 |.sl t,xs=>xs.length<=maxLen/\∀x∈xs,okT t x
 |.ptr t,x=>okT t x
 |.clo _ _,_=>True
 |.osl _,_=>True
 |.mp _ _,_=>True
 |.unit,_=>True
 |.pair a b,x=>okT a x.1/\okT b x.2
def Acz(P:Program)(g:TypeId->Option (List Ty)):List Field->Nat->Option (List Ty)
 |[],_=>some []
 |f::fs,off=>match g f.type with
  |some l=>if f.offset=off/\P.cellsOf f.type=l.length then(match Acz P g fs (off+l.length)with
   |some m=>some (l++m)
   |none=>none)else none
  |none=>none
def lvs(P:Program):Nat->TypeId->Option (List Ty)
 |0,_=>none
 |d+1,t=>match P.underlying t with
  |some .bool=>some [.bool]
  |some (.int k)=>some [.int k]
  |some .string=>some [.str]
  |some (.slice e)=>match lvs P d e with
   |some l=>if P.cellsOf e=l.length/\0<l.length then some [.sl (BV l)]else none
   |none=>none
  |some (.struct fs)=>match Acz P (lvs P d) fs.toList 0 with
   |some l=>if P.cellsOf t=l.length then some l else none
   |none=>none
  |_=>none
def dyV(y:Dy):V:=cV y.t 0 y.x
def PZ:∀(ys:List Dy),(ys.all λy=>y.t.one)=true->(∀y∈ys,okT y.t y.x)->∃x:(BV (ys.map (·.t))).T,okT _ x/\tyV (BV (ys.map (·.t))) 0 x=ys.map dyV
 |[],_,_=>⟨(),trivial,rfl⟩
 |[y],h,hk=>by
  simp[Bool.and_true]at h;exact⟨y.x,hk y (List.mem_cons_self ..),BO h 0 y.x⟩
 |y::z::l,h,hk=>by
  rw[List.all_cons,bAE]at h;obtain⟨x,A,e⟩:=PZ (z::l) h.2 λa ha=>hk a (mCM _ ha)
  refine⟨(y.x,x),⟨hk y (List.mem_cons_self ..),A⟩,?_⟩;show tyV y.t 0 y.x++tyV (BV ((z::l).map (·.t))) 0 x=_
  rw[e,BO h.1];rfl
theorem Aaf:∀(l:List Ty),(l.all λt=>t.one)=true->(BV l).w=l.length
 |[],_=>rfl
 |[t],h=>by
  simp[Bool.and_true]at h;have:=AB t 0 t.dflt;rw[BO h]at this;exact this.symm
 |t::u::l,h=>by
  rw[List.all_cons,bAE]at h;show t.w+(BV (u::l)).w=_;rw[Aaf (u::l) h.2];have:=AB t 0 t.dflt;rw[BO h.1]at this
  grind
def QV{P:Program}{g:TypeId->Option (List Ty)}(e:∀t l,g t=some l->(l.all λt=>t.one)=true):∀(fs:List Field) (off:Nat) (l:List Ty),Acz P g fs off=some l->(l.all λt=>t.one)=true
 |[],off,l,h=>by cases h;rfl
 |f::fs,off,l,h=>by
  unfold Acz at h;split at h
  case h_2=>grind
  rename_i E B;split at h
  case isFalse=>grind
  split at h
  case h_2=>grind
  rename_i m A;cases h;rw[List.all_append,e _ _ B,QV e fs _ _ A];rfl
def PO{P:Program}:∀(d:Nat) (t:TypeId) (l:List Ty),lvs P d t=some l->(l.all λt=>t.one)=true
 |0,_,_,h=>by cases h
 |d+1,t,l,h=>by
  unfold lvs at h;split at h
  .cases h;rfl
  .cases h;rfl
  .cases h;rfl
  .split at h
   .split at h<;>cases h;rfl
   grind
  .split at h
   case h_2=>grind
   rename_i fs _ _ A e;split at h
   case isFalse=>grind
   cases h;exact QV (PO d) _ _ _ e
  grind
theorem exL{α:Type}(d:α)(Q:Nat->α->Prop):∀n:Nat,(∀i,i<n->∃x,Q i x)->∃xs:List α,xs.length=n/\∀i,i<n->Q i (xs.getD i d)
 |0,_=>⟨[],rfl,λi h=>by omega⟩
 |n+1,h=>by
  obtain⟨xs,E,B⟩:=exL d Q n λi e=>h i (by omega)
  obtain⟨x,A⟩:=h n (by simp)
  refine⟨xs++[x],by simp_all,λi e=>?_⟩
  grind
section
variable {H:Type}{enc:TypeId×Value->H}{P:Program}{w:World}
def Nj(w:World)(l:List Ty)(cs:List Value):Prop:=∃ys:List Dy,ys.map (·.t)=l/\cs.length=l.length/\(∀i,i<l.length->∀R,Rel (λb=>b<w.heap.size) w R ((ys.map dyV).getD i .dead) (cs.getD i undef) noF)/\∀y∈ys,okT y.t y.x
theorem JS{x:t.T}(A:okT t x)(h:∀R,Rel (λb=>b<w.heap.size) w R (cV t 0 x) v noF):Nj w [t] [v]:=by
 refine⟨[⟨t,x⟩],rfl,rfl,λi B R=>?_,λy e=>?_⟩
 .obtain rfl:i=0:=by grind
  exact h R
 grind
def Pu{x:t.T}(e:okT t x)(h:cV t 0 x=.c v)(ho:v.oneCell'=true):Nj w [t] [v]:=
 JS e λR=>by rw[h];exact⟨rfl,ho,λ_ h=>h⟩
theorem WD{l m:List Ty}{cs ds:List Value}(L:Nj w l cs)(J:Nj w m ds):Nj w (l++m) (cs++ds):=by
 obtain⟨ys,a1,a2,a3,a4⟩:=L;obtain⟨A,Z,Y,U,O⟩:=J;have B:ys.length=l.length:=by rw[<-a1,List.length_map]
 refine⟨ys++A,by rw[List.map_append,a1,Z],by simp[a2,Y],λi F R=>?_,λy h=>(List.mem_append.1 h).elim (a4 y) (O y)⟩
 simp only[List.length_append]at F;rw[List.map_append];by_cases e:i<l.length
 .have E:(ys.map dyV++A.map dyV).getD i .dead=(ys.map dyV).getD i .dead:=by
   rw[gDE,gAL (by simpa [B]using e),<-gDE]
  simp_all
 .have E:(ys.map dyV++A.map dyV).getD i .dead=(A.map dyV).getD (i-l.length) .dead:=by
   rw[gDE,gAR (by simp[B];omega),<-gDE,List.length_map,B]
  have M:(cs++ds).getD i undef=ds.getD (i-l.length) undef:=by
   grind
  rw[E,M];exact U _ (by omega) R
theorem Ip{Z:Bool}:∀(d:Nat) (t:TypeId) (l:List Ty),lvs P d t=some l->∀(m:Nat) (cs:List Value) (x:DataW H×List MemPlace),DataW.trod enc P w 0 (λ_=>true) Z m t cs=some x->Nj w l cs
 |0,_,_,h=>by cases h
 |d+1,t,l,h=>by
  intro m cs x L;unfold lvs at h;split at h
  .rename_i M
   cases h;obtain⟨b,rfl,_⟩:=DataW.trod_bool M L;exact Pu (t:=.bool) (x:=b) trivial rfl rfl
  .rename_i k M
   cases h;obtain⟨n,rfl,_,hw⟩:=DataW.trod_int M L;exact Pu (t:=.int k) (x:=n) hw rfl rfl
  .rename_i M
   cases h;obtain⟨s,rfl,_,hw⟩:=DataW.trod_string M L;exact Pu (t:=.str) (x:=s) hw rfl rfl
  .rename_i e M
   split at h
   case h_2=>cases h
   rename_i le O;split at h
   case isFalse=>cases h
   rename_i hc;cases h;have B:=PO _ _ _ O;rcases DataW.trod_slice M L with⟨rfl,_⟩|⟨a,len,cap,J,rest,n,_,rfl,_,_,E,hm,hlen,hel,hsp,_⟩
   .exact JS (t:=.sl (BV le)) (x:=[]) ⟨Nat.zero_le _,λ_ h=>by cases h⟩ λR=>.inl ⟨rfl,rfl,.inl rfl,λ_ h=>h⟩
   .-- the elements
    have each:∀i,i<len->∃x:(BV le).T,okT _ x/\∀k,k<le.length->∃v,w.cell? ((a.add (i*le.length)).add k)=some v/\∀R,Rel (λb=>b<w.heap.size) w R ((tyV (BV le) 0 x).getD k .dead) v noF:=by
     intro i F;have h1:=hel i F;have h2:J[i]? =some (J[i]'(by omega)):=gEE (by omega)
     rw[h2,Option.bind_eq_some_iff]at h1;obtain⟨ci,hci,hti⟩:=h1;obtain⟨_,U,Y⟩:=World.cells?_some hci;obtain⟨ys,g1,g2,g3,g4⟩:=Ip d e le O n ci _ hti
     have hone':(ys.all λy=>y.t.one)=true:=by
      rw[<-g1,List.all_map]at B;exact B
     obtain⟨x,k1,k2⟩:=PZ ys hone' g4;subst g1;refine⟨x,k1,λk hk=>⟨ci.getD k undef,?_,λR=>?_⟩⟩
     .rw[hc.1]at Y U
      rw[Y k hk];rw[gDE,gEE (by omega)];rfl
     .rw[k2];exact g3 k hk R
    obtain⟨xs,hxl,hxs⟩:=exL (BV le).dflt _ len each;have hw:(BV le).w=le.length:=Aaf le B
    have hok:okT (.sl (BV le)) xs:=by
     refine⟨by omega,λx L=>?_⟩
     obtain⟨i,F⟩:=List.getElem?_of_mem L;have hil:=(List.getElem?_eq_some_iff.1 F).1;have:=(hxs i (by omega)).1
     rw[gDE,F]at this;exact this
    refine JS hok λR=>?_
    -- where it lies
    have hsp0:a.spot=none\/cap=0:=by
     by_cases h0:cap=0
     .exact .inr h0
     .left
      have hcell:∃v,w.cell? a=some v:=by
       by_cases hl0:0<len
       .obtain⟨v,A,_⟩:=(hxs 0 hl0).2 0 hc.2
        exact⟨v,by simpa [Addr.add]using A⟩
       .obtain⟨hr1,hr2⟩:=hsp rfl
        have h1:=hr2 0 (by omega)
        have h2:rest[0]? =some (rest[0]'(by omega)):=gEE (by omega)
        rw[h2,Option.bind_eq_some_iff]at h1;obtain⟨ci,hci,_⟩:=h1;obtain⟨_,U,Y⟩:=World.cells?_some hci;have h3:=Y 0 (by omega)
        have hl1:len=0:=by omega
        subst hl1;rw[gEE (by omega)]at h3
        exact⟨_,by simpa [Addr.add]using h3⟩
      obtain⟨v,A⟩:=hcell;unfold World.cell? at A;split at A
      .split at A
       .cases A
       .rename_i hns;simpa using hns
      .cases A
    cases hs:a.spot with
    |some sp=>
     have h0:cap=0:=hsp0.resolve_left (by rw[hs];simp)
     have hl0:len=0:=by omega
     subst h0;subst hl0;refine .inl ⟨hxl,rfl,.inr ⟨rfl,some a,rfl,λx L=>?_⟩,λ_ h=>h⟩
     cases L;rw[hs];simp
    |none=>
     obtain⟨b,o,sp⟩:=a;have hs:sp=none:=hs;subst hs
     have cell:∀i k,i<len->k<le.length->∃v,w.cell? ⟨b,o+i*le.length+k,none⟩=some v/\∀R,Rel (λb=>b<w.heap.size) w R ((tyV (BV le) 0 (xs.getD i (BV le).dflt)).getD k .dead) v noF:=by
      intro i k F hk;obtain⟨v,A,hr⟩:=(hxs i F).2 k hk;have e:∀n,(⟨b,o,none⟩:Addr).add n=⟨b,o+n,none⟩:=λn=>A9 (ad:=⟨b,o,none⟩) rfl n
      have e':∀n,(⟨b,o+i*le.length,none⟩:Addr).add n=⟨b,o+i*le.length+n,none⟩:=λn=>A9 (ad:=⟨b,o+i*le.length,none⟩) rfl n
      rw[e,e']at A;exact⟨v,A,hr⟩
     refine .inr ⟨b,o,cap,λ_ _=>noF,by rw[hxl];rfl,by omega,by omega,(λh=>by cases h),λi k F hk=>?_,λ_=>⟨λhp=>?_,λ_ _ _ _ _ h=>h,λ_ h=>h⟩,λh=>by cases h⟩
     .rw[hw]at hk⊢
      obtain⟨v,A,hr⟩:=cell i k (by omega) hk
      exact⟨v,A,hr noR⟩
     .have hp1:0<xs.length:=Nat.pos_of_mul_pos_right hp
      obtain⟨v,A,_⟩:=cell 0 0 (by omega) hc.2
      show b<w.heap.size;unfold World.cell? at A;rcases Nat.lt_or_ge b w.heap.size with h|h
      .exact h
      .simp only[Array.getElem?_eq_none h]at A
       cases A
  .rename_i fs M
   split at h
   case h_2=>cases h
   rename_i l1 hl1;split at h
   case isFalse=>cases h
   rename_i hc;cases h;obtain⟨xs,n,_,_,U,hxl,hf⟩:=DataW.trod_struct M L
   have go:∀(gs:List Field) (off:Nat) (l:List Ty),Acz P (lvs P d) gs off=some l->(∀f∈gs,∃y,DataW.trod enc P w 0 (λ_=>true) Z n f.type ((cs.drop f.offset).take (P.cellsOf f.type))=some y)->off+l.length<=cs.length->Nj w l ((cs.drop off).take l.length):=by
    intro gs
    induction gs with
    |nil=>
     intro off l E _ _;cases E;exact⟨[],rfl,by simp,λi F=>by simp at F,λ_ h=>by cases h⟩
    |cons f gs ih=>
     intro off l E hfs O;unfold Acz at E;split at E
     case h_2=>cases E
     rename_i l1 h1;split at E
     case isFalse=>cases E
     rename_i hfo;split at E
     case h_2=>cases E
     rename_i m2 h2;cases E;obtain⟨y,hy⟩:=hfs f (List.mem_cons_self ..);rw[hfo.1,hfo.2]at hy;have r1:=Ip d f.type l1 h1 n _ _ hy;rw[List.length_append]at O;have r2:=ih (off+l1.length) m2 h2 (λg hg=>hfs g (mCM _ hg)) (by omega)
     have:=WD r1 r2;rw[List.length_append]
     have e:(cs.drop off).take (l1.length+m2.length)=(cs.drop off).take l1.length++(cs.drop (off+l1.length)).take m2.length:=by
      rw[List.take_add,List.drop_drop]
     rw[e];exact this
   have:=go fs.toList 0 l hl1 (λf hf'=>by
    obtain⟨i,F⟩:=List.getElem?_of_mem hf';have hi':fs[i]? =some f:=by simpa using F
    have hlt:=(Array.getElem?_eq_some_iff.1 hi').1;refine⟨xs[i]'(by omega),?_⟩
    rw[hf i f hi',gEE (by omega)]) (by omega)
   rw[<-hc,<-U]at this;simpa using this
  .cases h
end
end Go.Ve


namespace Go.Ve
open Go Go.ChangeShapes Go.WideShapes Go.RowKit
variable{p:List MemPlace}{l:List Ty}{base:Nat}{v:Value}
def aggU(P:Program)(t:TypeId):Bool:=match P.underlying t with
 |some (.struct _)=>true
 |_=>false
def parP(P:Program)(t:TypeId):Bool×Option Ty:=(aggU P t,(lvs P 12 t).map BV)
section
variable {H:Type}{enc:TypeId×Value->H}{P:Program}{W:World}
theorem WE{cs:Array Value}(A:(l.all λt=>t.one)=true)(h:Nj W l cs.toList):∃x:(BV l).T,okT _ x/\∀R,Rel (λb=>b<W.heap.size) W R (Aj (tyV (BV l) 0 x)) (.agg cs) noF:=by
 obtain⟨ys,g1,g2,F,B⟩:=h;have e:(ys.all λy=>y.t.one)=true:=by grind
 obtain⟨x,k1,k2⟩:=PZ ys e B;subst g1;refine⟨x,k1,λR=>⟨cs,λ_=>noF,rfl,?_,λk E=>?_,λ_ _ _ _ _ _ h=>h.elim,λb=>⟨λh=>h.elim,fun⟨_,_,h⟩=>h⟩⟩⟩
 .grind
 simp_all
theorem WC(h:Nj W l [v])(e:(l.all λt=>t.one)=true):∃x:(BV l).T,okT _ x/\(BV l).one=true/\∀R,Rel (λb=>b<W.heap.size) W R (cV (BV l) 0 x) v noF:=by
 obtain⟨ys,g1,g2,E,B⟩:=h;cases ys with
 |nil=>grind
 |cons y ys=>
  cases ys with
  |cons z F=>grind
  |nil=>
   subst g1;have A:=by simpa using e
   refine⟨y.x,B y (List.mem_cons_self ..),A,λR=>?_⟩
   exact E 0 (by simp) R
theorem O4{t:TypeId}{d:DataW H}{ty:Ty}{b:Bool}(O:parP P t=(b,some ty))(F:Value.okWide P W .any base t v)(h:DataW.Trod enc P W 0 (λ_=>true) true t v d p):
  ∃x:ty.T,okT ty x/\∀R,Rel (λb=>b<W.heap.size) W R (vOf b ty 0 x) v noF:=by
 unfold parP at O;simp only[Prod.mk.injEq,Option.map_eq_some_iff]at O;obtain⟨J,l,U,rfl⟩:=O;obtain⟨L,hf⟩:=h;have M:=Ip 12 t l U L _ _ hf;have A:=PO _ _ _ U;cases b with
 |true=>
  unfold aggU at J;split at J
  case h_2=>cases J
  rename_i fs e;simp only[Value.okWide,e]at F;obtain⟨cs,rfl,_,_⟩:=F;obtain⟨x,Y,Z⟩:=WE A M;exact⟨x,Y,λR=>Z R⟩
 |false=>
  have E:v.cells= #[v]:=by
   have B:=U;unfold lvs at B;unfold aggU at J;split at B
   .rename_i e;obtain⟨b,rfl⟩:=okWide_bool e F;rfl
   .rename_i e
    simp only[Value.okWide,e,Cell.okWide]at F;cases v<;>simp_all[Cell.ok,Value.cells]
   .rename_i e
    simp only[Value.okWide,e,Cell.okWide]at F;cases v<;>simp_all[Cell.ok,Value.cells]
   .rename_i e
    simp only[Value.okWide,e,Cell.okWide]at F;cases v<;>simp_all[Cell.ok,Value.cells]
   .rename_i e;rw[e]at J;cases J
   .cases B
  rw[E]at M;obtain⟨x,Y,Z,h3⟩:=WC M A;exact⟨x,Y,λR=>h3 R⟩
def LX{base:Nat}:∀(ps:List (Bool×Ty)) (ts:List TypeId) (e:List Value) (ds:List (DataW H)) (p:List MemPlace),ts.map (parP P)=ps.map (λp=>(p.1,some p.2))->
  DataW.TrodAll enc P W 0 (λ_=>true) true ts e ds p->(∀(j:Nat) t v,ts[j]? =some t->e[j]? =some v->Value.okWide P W .any base t v)->
  ∃x:(PT ps).T,okT (PT ps) x/\e.length=(CC ps x).length/\∀i,i<e.length->∀R,Rel (λb=>b<W.heap.size) W R ((CC ps x).getD i .dead) (e.getD i undef) noF
 |[],ts,e,ds,p,hp,h,_=>by
  cases ts with
  |cons=>cases hp
  |nil=>
   obtain⟨rfl,rfl,rfl⟩:=trodAll_nil h;exact⟨(),trivial,rfl,λi B=>by simp at B⟩
 |[q],ts,e,ds,p,hp,h,hv=>by
  cases ts with
  |nil=>cases hp
  |cons t ts=>
   cases ts with
   |cons=>simp at hp
   |nil=>
    obtain⟨v,A,d,J,p1,p2,rfl,rfl,rfl,F,E⟩:=trodAll_cons h;obtain⟨rfl,rfl,rfl⟩:=trodAll_nil E;simp only[List.map_cons,List.map_nil,List.cons.injEq,and_true]at hp;obtain⟨x,k1,k2⟩:=O4 (base:=base) hp (hv 0 t v rfl rfl) F;refine⟨x,k1,rfl,λi B R=>?_⟩
    obtain rfl:i=0:=by simpa using B
    exact k2 R
 |q::L::ps,ts,e,ds,p,hp,h,hv=>by
  cases ts with
  |nil=>cases hp
  |cons t ts=>
   obtain⟨v,A,d,J,p1,p2,rfl,rfl,rfl,F,E⟩:=trodAll_cons h;rw[List.map_cons,List.map_cons,List.cons.injEq]at hp;obtain⟨x,k1,k2⟩:=O4 (base:=base) hp.1 (hv 0 t v rfl rfl) F;obtain⟨z,U,O,M⟩:=LX (base:=base) (L::ps) ts A J p2 hp.2 E λj t v F E=>hv (j+1) t v F E
   refine⟨(x,z),⟨k1,U⟩,?_,λi B R=>?_⟩
   .show _=(vOf q.1 q.2 0 x::CC (L::ps) z).length
    simp[O]
   .show Rel _ _ _ ((vOf q.1 q.2 0 x::CC (L::ps) z).getD i .dead) _ _
    cases i with
    |zero=>exact k2 R
    |succ i=>exact M i (by simpa using B) R
theorem HF(J:laidOutB P=true){W':World}{F:Nat->Bool}:∀(ts:List TypeId) (B:List Value) (ds:List (DataW H)) (p:List MemPlace),(ts.all λt=>P.readableRec t&&decide (t<P.types.size))=true->
  DataW.TrodAll enc P W 0 (λ_=>true) true ts B ds p->(∀x∈p,W.sameAt W' x)->(∀x∈p,F x.block=true)->DataW.TrodAll enc P W' 0 F true ts B ds p
 |[],_,_,_,_,h,_,_=>by obtain⟨rfl,rfl,rfl⟩:=trodAll_nil h;rfl
 |t::ts,B,ds,p,hr,h,h1,h2=>by
  obtain⟨v,A,d,E,p1,p2,rfl,rfl,rfl,g1,g2⟩:=trodAll_cons h;rw[List.all_cons,bAE,bAE,decide_eq_true_eq]at hr
  exact⟨p1,p2,WideElems.Trod_stays J hr.1.1 hr.1.2 g1 (λx e=>h1 x (List.mem_append_left _ e)) (λx e=>h2 x (List.mem_append_left _ e)),
   HF J ts A E p2 hr.2 g2 (λx e=>h1 x (List.mem_append_right _ e)) (λx e=>h2 x (List.mem_append_right _ e)),rfl⟩
theorem Xe{f:FuncId}{ps:List (Bool×Ty)}{g:(PT ps).T->Option Bool}(L:FT P f ⟨ps,[(false,0,.bool)]⟩ g)(J:∀x,okT (PT ps) x->g x=some true){base:Nat}{ts:List TypeId}{args:Array Value}{ds:List (DataW H)}(E:ts.map (parP P)=ps.map (λp=>(p.1,some p.2)))
  (O:DataW.TrodAll enc P W 0 (λ_=>true) true ts args.toList ds p) (A:∀(j:Nat) t v,ts[j]? =some t->args[j]? =some v->Value.okWide P W .any base t v) (F:Wok W):
  Calls P f args W λe W'=>e=.returned (.bool true)/\RowKit.Below W.heap.size W W':=by
 obtain⟨x,U,h2,Z⟩:=LX ps ts args.toList ds p E O (λj t v h h'=>A j t v h (by grind))
 have:=L x true (J x U) W (λb=>b<W.heap.size) args F (λ_ h=>h) (by omega) λi Y=>by
  simp_all
 refine this.mono λe W'=>?_
 rintro ⟨cv,fp,D',rfl,M,B,_⟩
 rw[B.1];exact⟨rfl,M.row⟩
theorem Y5{f:Func}{s:ChangeSpec}{J Z handsOn again:Bool}{W':World}{args:Array Value}{ds gs:List (DataW H)}{O:List MemPlace}{tb:TypeId}
  (hW:DataW.Whole enc P f.params.toList s.vars J W args.toList ds gs O) (hs:s.vars=[])
  (hfn:s.fn H ds= {results:=[.lit (.bool true)],args:=ds}) (U:f.resultTypes= #[tb]) (htb:P.underlying tb=some .bool)
  (hl:laidOutB P=true) (hr:(f.params.toList.all λt=>P.readableRec t&&decide (t<P.types.size))=true) (hb:RowKit.Below W.heap.size W W'):
  s.post enc P f J Z handsOn again W args (.bool true) W':=by
 have M:=hW.lt;have hW':=hW;obtain⟨p,q,hA,hV,rfl,hz,hn⟩:=hW';rw[hs]at hV;obtain⟨rfl,rfl⟩:=trodVars_none hV;rw[List.append_nil]at hW M hz hn;have E:s.fn H (ds++[])= {results:=[.lit (.bool true)],args:=ds}:=by rw[List.append_nil];exact hfn
 have Y:∀x∈p,W.sameAt W' x:=λx e=>hb.same (M x e)
 have B:∀(b:Nat) (L:Nat->Bool) (hd:Bool),DataW.TrodAll enc P W' b L hd f.resultTypes.toList ((Value.bool true).resultList f.resultTypes.size) (s.fn H (ds++[])).results []:=λb L hd=>by
  rw[E,U];exact trodAll_mk1 (shut_bool htb true)
 have F:∀L:Nat->Bool,(∀x∈p,L x.block=true)->DataW.TrodAll enc P W' 0 L true f.params.toList args.toList (s.fn H (ds++[])).args p:=λL hsp=>by
  rw[E];exact HF hl _ _ _ _ hr hA Y hsp
 have A:∀L:Nat->Bool,DataW.TrodVars enc P W' L s.vars (s.fn H (ds++[])).vars []:=λL=>by
  rw[E,hs];rfl
 have hold:∀x∈p,(λb=>decide (b<W.heap.size)) x.block=true:=λx e=>by simpa using M x e
 have hok:=ok_one (P:=P) (W':=W') (f:=f) U rfl (okWide_bool_mk htb true);refine⟨ds,[],p,[],p,[],hW,B _ _ _,F _ hold,A _,World.keptBut_mono (λx e=>⟨e,?_⟩) (hb.frame (· ∈p)),λ_=>?_⟩
 .exact Or.inr (by simpa using e)
 .refine⟨hok,_,_,([]++p)++[],⟨[]++p,[],trodAll_append (F _ (λ_ _=>rfl)) (B _ _ _),A _,rfl,?_,?_⟩,?_⟩
  .intro b off e
   have e:MemPlace.cell b off∈p:=by simpa using e
   rw[hb.frozen (p:=⟨b,off,none⟩) (M _ e)];exact hz b off e
  .grind
  .intro x e _
   simpa using e
end
end Go.Ve

