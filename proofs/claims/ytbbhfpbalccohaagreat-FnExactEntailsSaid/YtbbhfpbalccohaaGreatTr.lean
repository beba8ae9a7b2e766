/- The bridge: what a statement's input reads as is data of the typed machine. -/
import Derived.Test.YtbbhfpbalccohaaGreatTq
import Derived.ChangeArms
import Derived.ChangeShapes
namespace Go.Ve
open Go
def okT:(t:Ty)->t.T->Prop
 | .int k,n=>(Lit.int k n).wf=true
 | .bool,_=>True
 | .str,s=>s.size<=maxLen
 | .sl t,xs=>xs.length<=maxLen/\∀x∈xs,okT t x
 | .ptr t,x=>okT t x
 | .clo _ _,_=>True
 | .osl _,_=>True
 | .unit,_=>True
 | .pair a b,x=>okT a x.1/\okT b x.2
def Aa0(P:Program)(g:TypeId->Option (List Ty)):List Field->Nat->Option (List Ty)
 | [],_=>some []
 |f::fs,off=>match g f.type with
  |some l=>if f.offset=off/\P.cellsOf f.type=l.length then(match Aa0 P g fs (off+l.length)with
   |some m=>some (l++m)
   |none=>none)else none
  |none=>none
def lvs(P:Program):Nat->TypeId->Option (List Ty)
 |0,_=>none
 |d+1,t=>match P.underlying t with
  |some .bool=>some [.bool]
  |some (.int k)=>some [.int k]
  |some .string=>some [.str]
  |some (.slice e)=>match lvs P d e with
   |some l=>if P.cellsOf e=l.length/\0<l.length then some [.sl (A9 l)]else none
   |none=>none
  |some (.struct fs)=>match Aa0 P (lvs P d) fs.toList 0 with
   |some l=>if P.cellsOf t=l.length then some l else none
   |none=>none
  |_=>none
def dyV(y:Dy):V:=cV y.t 0 y.x
theorem OH: ∀ (ys:List Dy),(ys.all fun y=>y.t.one)=true->(∀y∈ys,okT y.t y.x)->∃x:(A9 (ys.map (·.t))).T,okT _ x/\tyV (A9 (ys.map (·.t))) 0 x=ys.map dyV
 | [],_,_=>⟨(),trivial,rfl⟩
 | [y],h,hk=>by
  simp only [List.all_cons,List.all_nil,Bool.and_true]at h;exact⟨y.x,hk y (List.mem_cons_self ..),BU h 0 y.x⟩
 |y::z::l,h,hk=>by
  rw [List.all_cons,bAE]at h;obtain⟨x,h1,h2⟩:=OH (z::l) h.2 fun a ha=>hk a (mCM _ ha)
  refine⟨(y.x,x),⟨hk y (List.mem_cons_self ..),h1⟩,?_⟩;show tyV y.t 0 y.x++tyV (A9 ((z::l).map (·.t))) 0 x=_
  rw [h2,BU h.1];rfl
theorem Y1: ∀ (l:List Ty),(l.all fun t=>t.one)=true->(A9 l).w=l.length
 | [],_=>rfl
 | [t],h=>by
  simp only [List.all_cons,List.all_nil,Bool.and_true]at h;show t.w=1;have:=Av t 0 t.dflt;rw [BU h]at this;exact this.symm
 |t::u::l,h=>by
  rw [List.all_cons,bAE]at h;show t.w+(A9 (u::l)).w=_;rw [Y1 (u::l) h.2];have:=Av t 0 t.dflt;rw [BU h.1]at this;rw [<-this];simp [Nat.add_comm]
theorem PG{P:Program}{g:TypeId->Option (List Ty)}(hg: ∀t l,g t=some l->(l.all fun t=>t.one)=true): ∀ (fs:List Field) (off:Nat) (l:List Ty),Aa0 P g fs off=some l->(l.all fun t=>t.one)=true
 | [],off,l,h=>by cases h;rfl
 |f::fs,off,l,h=>by
  unfold Aa0 at h;split at h
  case h_2=>cases h
  rename_i l1 h1;split at h
  case isFalse=>cases h
  split at h
  case h_2=>cases h
  rename_i m h2;cases h;rw [List.all_append,hg _ _ h1,PG hg fs _ _ h2];rfl
theorem Ot{P:Program}: ∀ (d:Nat) (t:TypeId) (l:List Ty),lvs P d t=some l->(l.all fun t=>t.one)=true
 |0,_,_,h=>by cases h
 |d+1,t,l,h=>by
  unfold lvs at h;split at h
  ·cases h;rfl
  ·cases h;rfl
  ·cases h;rfl
  ·split at h
   ·split at h<;>cases h;rfl
   ·cases h
  ·split at h
   case h_2=>cases h
   rename_i fs _ _ l1 h1;split at h
   case isFalse=>cases h
   cases h;exact PG (Ot d) _ _ _ h1
  ·cases h
theorem exL{α:Type}(d:α)(Q:Nat->α->Prop): ∀n:Nat,(∀i,i<n->∃x,Q i x)->∃xs:List α,xs.length=n/\∀i,i<n->Q i (xs.getD i d)
 |0,_=>⟨[],rfl,fun i h=>by omega⟩
 |n+1,h=>by
  obtain⟨xs,h1,h2⟩:=exL d Q n fun i hi=>h i (by omega)
  obtain⟨x,hx⟩:=h n (by omega)
  refine⟨xs++ [x],by simp [h1],fun i hi=>?_⟩
  by_cases e:i<n
  ·rw [gDE,gAL (by omega),<-gDE]
   exact h2 i e
  ·obtain rfl:i=n:=by omega
   have:(xs++ [x]).getD i d=x:=by simp [gDE,h1.symm]
   rw [this];exact hx
section
variable {H:Type} {enc:TypeId×Value->H} {P:Program} {w:World}
def Mh(w:World)(l:List Ty)(cs:List Value):Prop:=∃ys:List Dy,ys.map (·.t)=l/\cs.length=l.length/\(∀i,i<l.length->∀R,Rel (fun b=>b<w.heap.size) w R ((ys.map dyV).getD i .dead) (cs.getD i undef) noF)/\∀y∈ys,okT y.t y.x
theorem I2{t:Ty}{x:t.T}{v:Value}(hk:okT t x)(h: ∀R,Rel (fun b=>b<w.heap.size) w R (cV t 0 x) v noF):Mh w [t] [v]:=by
 refine⟨[⟨t,x⟩],rfl,rfl,fun i hi R=>?_,fun y hy=>?_⟩
 ·obtain rfl:i=0:=by simpa using hi
  exact h R
 ·rw [List.mem_singleton.1 hy];exact hk
theorem N7{t:Ty}{x:t.T}{v:Value}(hk:okT t x)(h:cV t 0 x= .c v)(ho:v.oneCell'=true):Mh w [t] [v]:=
 I2 hk fun R=>by rw [h];exact⟨rfl,ho,fun _ h=>h⟩
theorem Vn{l m:List Ty}{cs ds:List Value}(h1:Mh w l cs)(h2:Mh w m ds):Mh w (l++m) (cs++ds):=by
 obtain⟨ys,a1,a2,a3,a4⟩:=h1;obtain⟨zs,b1,b2,b3,b4⟩:=h2;have hy:ys.length=l.length:=by rw [<-a1,List.length_map]
 refine⟨ys++zs,by rw [List.map_append,a1,b1],by simp [a2,b2],fun i hi R=>?_,fun y h=>(List.mem_append.1 h).elim (a4 y) (b4 y)⟩
 simp only [List.length_append]at hi;rw [List.map_append];by_cases e:i<l.length
 ·have e1:(ys.map dyV++zs.map dyV).getD i .dead=(ys.map dyV).getD i .dead:=by
   rw [gDE,gAL (by simpa [hy]using e),<-gDE]
  have e2:(cs++ds).getD i undef=cs.getD i undef:=by
   rw [gDE,gAL (by omega),<-gDE]
  rw [e1,e2];exact a3 i e R
 ·have e1:(ys.map dyV++zs.map dyV).getD i .dead=(zs.map dyV).getD (i-l.length) .dead:=by
   rw [gDE,gAR (by simp [hy];omega),<-gDE,List.length_map,hy]
  have e2:(cs++ds).getD i undef=ds.getD (i-l.length) undef:=by
   rw [gDE,gAR (by omega),<-gDE,a2]
  rw [e1,e2];exact b3 _ (by omega) R
theorem HH{held:Bool}: ∀ (d:Nat) (t:TypeId) (l:List Ty),lvs P d t=some l->∀ (m:Nat) (cs:List Value) (x:DataW H×List MemPlace),DataW.trod enc P w 0 (fun _=>true) held m t cs=some x->Mh w l cs
 |0,_,_,h=>by cases h
 |d+1,t,l,h=>by
  intro m cs x hx;unfold lvs at h;split at h
  ·rename_i hu
   cases h;obtain⟨b,rfl,_⟩:=DataW.trod_bool hu hx;exact N7 (t:=.bool) (x:=b) trivial rfl rfl
  ·rename_i k hu
   cases h;obtain⟨n,rfl,_,hw⟩:=DataW.trod_int hu hx;exact N7 (t:=.int k) (x:=n) hw rfl rfl
  ·rename_i hu
   cases h;obtain⟨s,rfl,_,hw⟩:=DataW.trod_string hu hx;exact N7 (t:=.str) (x:=s) hw rfl rfl
  ·rename_i e hu
   split at h
   case h_2=>cases h
   rename_i le hle;split at h
   case isFalse=>cases h
   rename_i hc;cases h;have hone:=Ot _ _ _ hle;rcases DataW.trod_slice hu hx with⟨rfl,_⟩|⟨a,len,cap,elems,rest,n,_,rfl,_,_,hl,hm,hlen,hel,hsp,_⟩
   ·exact I2 (t:=.sl (A9 le)) (x:=[]) ⟨Nat.zero_le _,fun _ h=>by cases h⟩ fun R=>.inl ⟨rfl,rfl,.inl rfl,fun _ h=>h⟩
   ·-- the elements
    have each: ∀i,i<len->∃x:(A9 le).T,okT _ x/\∀k,k<le.length->∃v,w.cell? ((a.add (i*le.length)).add k)=some v/\∀R,Rel (fun b=>b<w.heap.size) w R ((tyV (A9 le) 0 x).getD k .dead) v noF:=by
     intro i hi;have h1:=hel i hi;have h2:elems[i]? =some (elems[i]'(by omega)):=gEE (by omega)
     rw [h2,Option.bind_eq_some_iff]at h1;obtain⟨ci,hci,hti⟩:=h1;obtain⟨_,hcl,hcc⟩:=World.cells?_some hci;obtain⟨ys,g1,g2,g3,g4⟩:=HH d e le hle n ci _ hti
     have hone':(ys.all fun y=>y.t.one)=true:=by
      rw [<-g1,List.all_map]at hone;exact hone
     obtain⟨x,k1,k2⟩:=OH ys hone' g4;subst g1;refine⟨x,k1,fun k hk=>⟨ci.getD k undef,?_,fun R=>?_⟩⟩
     ·rw [hc.1]at hcc hcl
      rw [hcc k hk];rw [gDE,gEE (by omega)];rfl
     ·rw [k2];exact g3 k hk R
    obtain⟨xs,hxl,hxs⟩:=exL (A9 le).dflt _ len each;have hw:(A9 le).w=le.length:=Y1 le hone
    have hok:okT (.sl (A9 le)) xs:=by
     refine⟨by omega,fun x hx=>?_⟩
     obtain⟨i,hi⟩:=List.getElem?_of_mem hx;have hil:=(List.getElem?_eq_some_iff.1 hi).1;have:=(hxs i (by omega)).1
     rw [gDE,hi]at this;exact this
    refine I2 hok fun R=>?_
    -- where it lies
    have hsp0:a.spot=none\/cap=0:=by
     by_cases h0:cap=0
     ·exact .inr h0
     ·left
      have hcell: ∃v,w.cell? a=some v:=by
       by_cases hl0:0<len
       ·obtain⟨v,hv,_⟩:=(hxs 0 hl0).2 0 hc.2
        exact⟨v,by simpa [Addr.add]using hv⟩
       ·obtain⟨hr1,hr2⟩:=hsp rfl
        have h1:=hr2 0 (by omega)
        have h2:rest[0]? =some (rest[0]'(by omega)):=gEE (by omega)
        rw [h2,Option.bind_eq_some_iff]at h1;obtain⟨ci,hci,_⟩:=h1;obtain⟨_,hcl,hcc⟩:=World.cells?_some hci;have h3:=hcc 0 (by omega)
        have hl1:len=0:=by omega
        subst hl1;rw [gEE (by omega)]at h3
        exact⟨_,by simpa [Addr.add]using h3⟩
      obtain⟨v,hv⟩:=hcell;unfold World.cell? at hv;split at hv
      ·split at hv
       ·cases hv
       ·rename_i hns;simpa using hns
      ·cases hv
    cases hs:a.spot with
    |some sp=>
     have h0:cap=0:=hsp0.resolve_left (by rw [hs];simp)
     have hl0:len=0:=by omega
     subst h0;subst hl0;refine .inl ⟨hxl,rfl,.inr ⟨rfl,some a,rfl,fun x hx=>?_⟩,fun _ h=>h⟩
     cases hx;rw [hs];simp
    |none=>
     obtain⟨b,o,sp⟩:=a;have hs:sp=none:=hs;subst hs
     have cell: ∀i k,i<len->k<le.length->∃v,w.cell? ⟨b,o+i*le.length+k,none⟩=some v/\∀R,Rel (fun b=>b<w.heap.size) w R ((tyV (A9 le) 0 (xs.getD i (A9 le).dflt)).getD k .dead) v noF:=by
      intro i k hi hk;obtain⟨v,hv,hr⟩:=(hxs i hi).2 k hk;have e: ∀n,(⟨b,o,none⟩:Addr).add n=⟨b,o+n,none⟩:=fun n=>AX (ad:=⟨b,o,none⟩) rfl n
      have e': ∀n,(⟨b,o+i*le.length,none⟩:Addr).add n=⟨b,o+i*le.length+n,none⟩:=fun n=>AX (ad:=⟨b,o+i*le.length,none⟩) rfl n
      rw [e,e']at hv;exact⟨v,hv,hr⟩
     refine .inr ⟨b,o,cap,fun _ _=>noF,by rw [hxl];rfl,by omega,by omega,(fun h=>by cases h),fun i k hi hk=>?_,fun _=>⟨fun hp=>?_,fun _ _ _ _ _ h=>h,fun _ h=>h⟩,fun h=>by cases h⟩
     ·rw [hw]at hk⊢
      obtain⟨v,hv,hr⟩:=cell i k (by omega) hk
      exact⟨v,hv,hr noR⟩
     ·have hp1:0<xs.length:=Nat.pos_of_mul_pos_right hp
      obtain⟨v,hv,_⟩:=cell 0 0 (by omega) hc.2
      show b<w.heap.size;unfold World.cell? at hv;rcases Nat.lt_or_ge b w.heap.size with h|h
      ·exact h
      ·simp only [Array.getElem?_eq_none h]at hv
       cases hv
  ·rename_i fs hu
   split at h
   case h_2=>cases h
   rename_i l1 hl1;split at h
   case isFalse=>cases h
   rename_i hc;cases h;obtain⟨xs,n,_,_,hcl,hxl,hf⟩:=DataW.trod_struct hu hx
   have go: ∀ (gs:List Field) (off:Nat) (l:List Ty),Aa0 P (lvs P d) gs off=some l->(∀f∈gs,∃y,DataW.trod enc P w 0 (fun _=>true) held n f.type ((cs.drop f.offset).take (P.cellsOf f.type))=some y)->off+l.length<=cs.length->Mh w l ((cs.drop off).take l.length):=by
    intro gs
    induction gs with
    |nil=>
     intro off l hl _ _;cases hl;exact⟨[],rfl,by simp,fun i hi=>by simp at hi,fun _ h=>by cases h⟩
    |cons f gs ih=>
     intro off l hl hfs hle;unfold Aa0 at hl;split at hl
     case h_2=>cases hl
     rename_i l1 h1;split at hl
     case isFalse=>cases hl
     rename_i hfo;split at hl
     case h_2=>cases hl
     rename_i m2 h2;cases hl;obtain⟨y,hy⟩:=hfs f (List.mem_cons_self ..);rw [hfo.1,hfo.2]at hy;have r1:=HH d f.type l1 h1 n _ _ hy;rw [List.length_append]at hle;have r2:=ih (off+l1.length) m2 h2 (fun g hg=>hfs g (mCM _ hg)) (by omega)
     have:=Vn r1 r2;rw [List.length_append]
     have e:(cs.drop off).take (l1.length+m2.length)=(cs.drop off).take l1.length++(cs.drop (off+l1.length)).take m2.length:=by
      rw [List.take_add,List.drop_drop]
     rw [e];exact this
   have:=go fs.toList 0 l hl1 (fun f hf'=>by
    obtain⟨i,hi⟩:=List.getElem?_of_mem hf';have hi':fs[i]? =some f:=by simpa using hi
    have hlt:=(Array.getElem?_eq_some_iff.1 hi').1;refine⟨xs[i]'(by omega),?_⟩
    rw [hf i f hi',gEE (by omega)]) (by omega)
   rw [<-hc,<-hcl]at this;simpa using this
  ·cases h
end
end Go.Ve

