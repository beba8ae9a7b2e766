/- The quiet operations of the small machine: structs, boxes, make; calls by contract. -/
import Derived.Laws.IdiomStrings
import Derived.Laws.AppendOwn
import Derived.Test.YtcpgmjbppfdjbaaDoorVg
namespace Go.Ve
variable{D:Nat->Prop}{x:Operand}{P:Program}{d s t:TypeId}{v:V}{w:World}
def Bp:V->Prop
 | .c _=>True
 | .dead=>True
 | .many t n f=>t≠.bx/\∀k,k<n->Bp (f k)
 | .nd _ own sz n f=>own=true/\∀i k,i<n->k<sz->Bp (f i k)
 |_=>False
theorem Rel.ownOnly'{D':Nat->Prop}: ∀ (v:V) (R R':V->Value->Prop) (cv:Value) (fp:Nat->Prop),Bp v->Rel D w R v cv fp->Rel D' w R' v cv fp:=by
 intro v
 induction v with
 |c v=>intro R R' cv fp _ h;exact h
 |dead=>intro R R' cv fp _ h;exact h
 |many t n f ih=>
  intro R R' cv fp ho h;obtain⟨cs,F,hcv,hn,hr,hd,hf⟩:=h;have hcv':KD D' w t cs cv:=by
   cases t with
   |ag=>trivial
   |tu=>trivial
   |cl g=>trivial
   |bx=>exact absurd rfl ho.1
  exact⟨cs,F,hcv',hn,λk hk=>ih k _ _ _ _ (ho.2 k hk) (hr k hk),hd,hf⟩
 |nd s own sz n f ih=>
  intro R R' cv fp ho h;rcases h with h|⟨b,o,cap,F,hcv,hcap,hmax,hs,hr,hi,ho'⟩
  ·exact .inl h
  refine .inr ⟨b,o,cap,F,hcv,hcap,hmax,hs,λi k hin hk=>?_,(λh=>by rw [ho.1]at h;grind),ho'⟩
  obtain⟨x,hx,hrx⟩:=hr i k hin hk;exact⟨x,hx,ih i k _ _ _ _ (ho.2 i k hin hk) hrx⟩
 |rs=>intro R R' cv fp ho h;trivial
 |rp=>intro R R' cv fp ho h;trivial
def FC(P:Program)(f:FuncId)(args:List V)(r:V):Prop:=
 ∀ (w:World) (D:Nat->Prop) (cvs:Array Value),Wok w->(∀b,D b->b<w.heap.size)->cvs.size=args.length->
  (∀i,i<args.length->Rel D w noR (args.getD i .dead) (cvs.getD i undef) noF)->
  Calls P f cvs w λe w'=>∃cv fp D',e= .returned cv/\Below w.heap.size w w'/\Rel D' w' noR r cv fp/\(∀b,fp b->w.heap.size<=b)/\
   (∀b,D b->D' b)/\(∀b,D' b->D b\/w.heap.size<=b)/\∀b,D' b->b<w'.heap.size/\¬fp b
section ops
variable {P:Program} {o:Oper} {a:Act} {w:World} {σ:List V} {D:Nat->Prop} {ρ:Nat->Value} {F:Nat->Nat->Prop} {K:V->Prop}
def arI(P:Program)(t:TypeId):Nat:=match P.underlying t with
 |some (.array m e)=>match P.info? e,P.underlying e with
  |some i,some d=>if i.size=1/\Iv d=false then m else 0
  |_,_=>0
 |_=>0
theorem Qj(h:0<arI P t): ∃e i d,P.underlying t=some (.array (arI P t) e)/\P.info? e=some i/\i.size=1/\P.underlying e=some d/\Iv d=false:=by
 generalize hm:arI P t=m at h;unfold arI at hm;split at hm
 ·rename_i m' e hu
  split at hm
  ·rename_i i d hi hd
   split at hm
   ·rename_i hc
    subst hm;exact⟨e,i,d,hu,hi,hc.1,hd,hc.2⟩
   ·omega
  ·omega
 ·omega
def Zc(P:Program)(t:TypeId):Option (List (Nat×Nat)×List Value):=
 match P.info? t,P.underlying t with
 |some it,some (.struct fields)=>
  match it.zero,fields.toList.mapM (λf=>(P.info? f.type).map λi=>(f.offset,i.size))with
  |some z,some places=>if z.cells.toList.all (·.oneCell')=true then some (places,z.cells.toList)else none
  |_,_=>none
 |some it,some (.array _ _)=>
  match it.zero with
  |some z=>if 0<arI P t/\z.cells.toList.all (·.oneCell')=true then some ((List.range (arI P t)).map λk=>(k,1),z.cells.toList)else none
  |none=>none
 |_,_=>none
theorem NL{pl pl':Nat->Option (Nat×Nat)}(h: ∀i p,pl i=some p->pl' i=some p): ∀ (parts:List (Nat×Value)) (cells r:Array Value),Instr.fill pl cells parts=some r->Instr.fill pl' cells parts=some r
 | [],_,_,hf=>hf
 |(i,v)::rest,cells,r,hf=>by
  unfold Instr.fill at hf⊢;cases hp:pl i with
  |none=>rw [hp]at hf;cases hf
  |some p=>
   rw [hp]at hf;rw [h i p hp];simp only at hf⊢;split at hf
   ·cases hf
   ·rename_i hc
    rw [if_neg hc];exact NL h rest _ _ hf
def HR(m:Nat)(x ix:V)(K:V->Prop):Prop:=
 match x,ix with
 | .many .ag n f,.c (.int _ i)=>n=m/\(0<=i/\i<(m:Int))/\AE (f i.toNat)=false/\K (f i.toNat)
 |_,_=>False
theorem LF(wr:Bj σ w D ρ F){vi:V}{ix:Operand}(ht:0<arI P t)(ho:o.op= .index t x ix)(hv:OpR σ w D ρ F v (a.eval x))(hvi:OpR σ w D ρ F vi (a.eval ix))(h:HR (arI P t) v vi K): ∃r,K r/\Ak P o a w σ D ρ r:=by
 obtain⟨e,ie,d,hu,hie,hs,hd,hag⟩:=Qj ht;generalize arI P t=m at*;unfold HR at h;obtain⟨fp,hr,_⟩:=hv;obtain⟨_,hri,_⟩:=hvi;split at h<;>try (exact h.elim)
 rename_i n f k i;obtain⟨rfl,⟨h1,h2⟩,hto,hK⟩:=h;obtain⟨cs,F',hcv,hn,hr,_,_⟩:=hr;have hcv:a.eval x= .agg cs:=hcv;have h3:i.toNat<cs.size:=by omega
 have h4:=hr i.toNat (by omega)
 have e1:=AY (Au _ _ _ hto h4);rw [e1]at h4
 have hget:cs[i.toNat]? =some (cs.getD i.toNat undef):=by
  rw [Array.getD_eq_getD_getElem?,getElem?_pos cs i.toNat h3];rfl
 refine⟨_,hK,Ak.pure wr ?_ h4⟩
 have hagg: ∀w,(isAgg e).run P w= .ok false w:=λw=>by
  unfold isAgg;simp only [Sem.run_bind,run_underlying hd];cases d<;>first|rfl|cases hag
 have hsz: ∀w,(sizeOf e).run P w= .ok ie.size w:=λw=>by
  simp [sizeOf,typeInfo,hie]
 have hpart: ∀w,(part e cs i.toNat).run P w= .ok (cs.getD i.toNat undef) w:=λw=>by
  simp only [part,Sem.run_bind,hagg,hget];rfl
 unfold execOp;rw [ho];simp only [Instr.index];simp [run_underlying hu,hcv,hri.1,asIntOf,h1,h2,hsz,hs,hpart]
theorem K9{places:List (Nat×Nat)}{zero:List Value}(hbi:Zc P t=some (places,zero)): ∃z:Value,z.cells.toList=zero/\(∀v∈zero,v.oneCell'=true)/\∀parts cells,Instr.fill (λi=>places[i]?) z.cells parts=some cells->P.built t parts=some cells:=by
 unfold Zc at hbi;split at hbi
 ·rename_i it fields hit hu
  split at hbi<;>try (cases hbi;done)
  rename_i z places' hz hpl;split at hbi<;>try (cases hbi;done)
  rename_i hone;simp only [Option.some.injEq,Prod.mk.injEq]at hbi;obtain⟨rfl,rfl⟩:=hbi;refine⟨z,rfl,aET.1 hone,λparts cells hf=>?_⟩
  unfold Program.built;simp only [hit,hu,hz,hpl];simpa using hf
 ·rename_i it m e hit hu
  split at hbi<;>try (cases hbi;done)
  rename_i z hz;split at hbi<;>try (cases hbi;done)
  rename_i hone;simp only [Option.some.injEq,Prod.mk.injEq]at hbi;obtain⟨rfl,rfl⟩:=hbi;obtain⟨e',ie,_,hu',hie,hs,_⟩:=Qj hone.1;rw [hu]at hu';simp only [Option.some.injEq,TypeDesc.array.injEq]at hu';obtain⟨_,rfl⟩:=hu';refine⟨z,rfl,aET.1 hone.2,λparts cells hf=>?_⟩
  unfold Program.built;simp only [hit,hu,hz,hie];refine NL (λi p hp=>?_) _ _ _ hf
  rw [List.getElem?_map]at hp;cases hi:(List.range (arI P t))[i]? with
  |none=>rw [hi]at hp;cases hp
  |some j=>
   rw [hi]at hp;have hj:i=j:=by
    rw [List.getElem?_eq_some_iff]at hi;obtain⟨h1,h2⟩:=hi;rw [List.getElem_range]at h2;exact h2
   subst hj;simp only [Option.map_some,Option.some.injEq]at hp;rw [<-hp,hs,Nat.mul_one]
 ·cases hbi
def Ky(bi:Option (List (Nat×Nat)×List Value))(parts:List (Nat×V))(K:V->Prop):Prop:=
 match bi with
 |some (places,zero)=>parts.all (λp=>Bo p.2)=true/\match BX (λi=>places[i]?) (zero.map .c) parts with
  |some l=>K (Ac l)
  |none=>False
 |none=>False
theorem Nh(wr:Bj σ w D ρ F){ps:Array (Nat×Operand)}{vs:List (Nat×V)}(ho:o.op= .build t ps)(hv:Lf σ w D ρ F vs (ps.toList.map λp=>(p.1,a.eval p.2)))
  (h:Ky (Zc P t) vs K): ∃r,K r/\Ak P o a w σ D ρ r:=by
 unfold Ky at h;split at h
 case h_2=>exact h.elim
 rename_i places zero hbi;obtain⟨hp,h⟩:=h;split at h
 case h_2=>exact h.elim
 rename_i l hl;obtain⟨z,rfl,hz1,hbuilt⟩:=K9 hbi
 have hzero:Qn D w (Ag σ ρ w) (z.cells.toList.map .c) z.cells:=by
  refine⟨by simp,λj hj=>?_⟩
  simp at hj;simp [hj];exact⟨rfl,hz1 _ (by simp),λ_ h=>h⟩
 obtain⟨cs',hfill,hrel⟩:=H7 hl hp hv hzero;have hrun:=run_build w t (ps.map λp=>(p.1,a.eval p.2)) cs' (hbuilt _ _ (by simpa using hfill))
 refine⟨_,h,Ak.pure wr (v':=.agg cs') ?_ ?_⟩
 ·unfold execOp;simp_all
 ·exact⟨cs',λ_=>noF,rfl,hrel.1,λk hk=>hrel.2 k hk,λ_ _ _ _ _ _ h=>h.elim,λb=>⟨λh=>h.elim,fun⟨_,_,h⟩=>h⟩⟩
def Nj(ti:Option TyI)(K:V->Prop):Prop:=
 match ti with
 |some ⟨_,size,zero⟩=>0<size/\K (A7 true (zero.map .c))
 |none=>False
theorem Ni(wr:Bj σ w D ρ F)(ho:o.op= .alloc t)(h:Nj (tyI P t) K): ∃r,K r/\Ak P o a w σ D ρ r:=by
 unfold Nj at h;split at h
 case h_2=>exact h.elim
 rename_i ag size zero hti;obtain⟨d,i,z,hd,hi,hz,his,hzl,hzs,hz1,_⟩:=Cz hti;simp only at his hzl hzs hz1;obtain⟨hpos,hK⟩:=h;refine⟨_,hK,Ak.new (ob:=.cells z.cells t) (v':=.pointer (some ⟨w.heap.size,0,none⟩)) wr ?_ ⟨_,Rel.eqv _ _ _ _ (show Eqv (.nd false true size 1 λ_ k=>.c (zero.getD k undef)) (A7 true (zero.map .c))from ?_) (Hi wr.Dlt (s:=false) (cap:=1) (by omega) (Nat.le_refl _) (by unfold maxLen;omega) (λ_=>rfl) λi k hi hk=>?_),λb h=>h⟩⟩
 ·unfold execOp;rw [ho];simp [Instr.alloc,zeroValue,typeInfo,hi,hz,newVar,newRow]
 ·have hzl':zero.length=size:=by rw [<-hzs,<-hzl];simp
  refine⟨λi k=>([zero.map V.c].getD i []).getD k .dead,by unfold A7;rw [List.length_map,hzl'],λi k hi hk=>?_⟩
  obtain rfl:i=0:=by omega
  have hk2:k<zero.length:=by omega
  have e:([zero.map V.c].getD 0 []).getD k .dead= .c (zero.getD k undef):=by simp [hk2]
  show Eqv _ (([zero.map V.c].getD 0 []).getD k .dead);rw [e];exact Eqv.refl _
 ·obtain rfl:i=0:=by omega
  have hk':k<z.cells.size:=by omega
  have e1:zero.getD k undef=z.cells.getD k undef:=by rw [<-hzl];simp
  simp only [Nat.zero_mul,Nat.zero_add];refine⟨e1.symm,hz1 _ ?_,λ_ h=>h⟩
  grind
def boxL(l:List V):V:=.many .bx l.length λk=>l.getD k .dead
def qBox(v:V)(K:V->Prop):Prop:=Bo v=true/\(((cellsV v).all BW=true/\K (A7 true (cellsV v)))\/K (boxL (cellsV v)))
theorem Q4(wr:Bj σ w D ρ F)(ho:o.op= .box t x)(hv:OpR σ w D ρ F v (a.eval x))(h:qBox v K): ∃r,K r/\Ak P o a w σ D ρ r:=by
 obtain⟨hp,hK⟩:=h;obtain⟨fp,hr,_⟩:=hv;obtain⟨⟨hs,hrel⟩,_⟩:=Ci (λv cv h=>Ag.one h) hp hr
 rcases hK with⟨himm,hK⟩|hK
 rotate_left
 ·refine⟨_,hK,λnext Q hn=>?_⟩
  have hrun:(execOp a.eval o).run P w= .ok (.value (.pointer (some ⟨w.heap.size,0,none⟩))) (w.alloc (.cells (a.eval x).cells t)):=by
   unfold execOp;rw [ho];simp [Instr.box,newVar,newRow]
  unfold Oper.wp;rw [hrun];have hsame: ∀b,b<w.heap.size->(w.alloc (.cells (a.eval x).cells t)).heap[b]? =w.heap[b]?:=λb hb=>Below.heap_alloc _ _ _ hb
  refine hn _ _ (λb=>D b\/b=w.heap.size) noF ((Below.refl _ _).alloc (Nat.le_refl _) _) ?_ (λ_ h=>h.elim) (λ_ h=>.inl h) (λb h=>h.imp id λh=>by omega) (λb h=>⟨?_,λh=>h⟩)
  ·refine⟨(a.eval x).cells,λ_=>noF,⟨w.heap.size,0,rfl,λ_=>.inr rfl,λk hk=>?_⟩,hs,λk hk=>?_,λ_ _ _ _ _ _ h=>h.elim,λb=>⟨λh=>h.elim,fun⟨_,_,h⟩=>h⟩⟩
   ·simp_all
   ·exact Rel.mono (λb hb=>.inl hb) (λv cv hv=>Ag.same wr (λi b hb=>hsame b (wr.lt i b hb)) v cv hv) _ _ _ (λb hb=>hb.elim (λhb=>hsame b (wr.Dlt b hb)) λh=>h.elim) (hrel k hk)
  ·rcases h with h|h
   ·have:=wr.Dlt b h;simp;omega
   ·simp;omega
 refine⟨_,hK,Ak.new (ob:=.cells (a.eval x).cells t) (v':=.pointer (some ⟨w.heap.size,0,none⟩)) wr ?_ ⟨_,Hi wr.Dlt (s:=false) (cap:=1) (by omega) (Nat.le_refl _) (by unfold maxLen;omega) (λ_=>rfl) λi k hi hk=>?_,λb h=>h⟩⟩
 ·unfold execOp;rw [ho];simp [Instr.box,newVar,newRow]
 ·obtain rfl:i=0:=by omega
  simp only [Nat.zero_mul,Nat.zero_add];show Rel D w noR ((cellsV v).getD k .dead) _ noF;refine Cs (aET.1 himm _ ?_) (hrel k hk);rw [gDE,gEE hk];exact List.getElem_mem hk
def V7(_deep:Bool)(sz n:Nat)(zero:List Value):V:=arr true sz (λx=>x) [] (List.replicate n (zero.map .c))
theorem Ug{R:V->Value->Prop}(deep:Bool)(sz n:Nat)(zero:List Value)(hz:zero.length=sz){cv:Value}{fp:Nat->Prop}(h:Rel D w R (.nd true true sz n λ_ k=>.c (zero.getD k undef)) cv fp):Rel D w R (V7 deep sz n zero) cv fp:=by
 have gen:Rel D w R (arr true sz (λx=>x) [] (List.replicate n (zero.map .c))) cv fp:=by
  refine Rel.eqv _ _ _ _ ?_ h;refine⟨λi k=>((List.replicate n (zero.map V.c)).getD i []).getD k .dead,by simp [arr],λi k hi hk=>?_⟩
  have:((List.replicate n (zero.map V.c)).getD i []).getD k .dead= .c (zero.getD k undef):=by
   grind
  trivial
 trivial
def VQ(si:Option SlI)(deep:Bool)(l c:V)(K:V->Prop):Prop:=
 match si,l,c with
 |some ⟨_,size,bytes,zero⟩,.c (.int _ l),.c (.int _ c)=>0<size/\(0<=l/\l<=c/\(bytes:Int)*c<=281474976710656/\c<=9223372036854775807)/\K (V7 deep size l.toNat zero)
 |_,_,_=>False
theorem OA(wr:Bj σ w D ρ F){vl vc:V}{l c:Operand}(ho:o.op= .makeSlice t l c)(hl:OpR σ w D ρ F vl (a.eval l))(hc:OpR σ w D ρ F vc (a.eval c)){deep:Bool}(h:VQ (slI P t) deep vl vc K): ∃r,K r/\Ak P o a w σ D ρ r:=by
 unfold VQ at h;split at h
 case h_2=>exact h.elim
 rename_i e size bytes zero kl li kc ci hsi;obtain⟨hu,i0,z,hi0,hz,his,hib,hzl,hzs,hz1⟩:=CB hsi;simp only at hu hi0 his hib hzl hzs hz1;obtain⟨hpos,⟨h1,h2,h3,h4⟩,hK⟩:=h;obtain⟨_,hl,_⟩:=hl;obtain⟨_,hc,_⟩:=hc;have hrun:=run_make (P:=P) w t e i0 z hu hi0 hz kl kc li ci h1 h2 (by rw [hib];exact h3) h4
 refine⟨_,hK,Ak.new (ob:=.cells (madeCells z.cells (ci.toNat*i0.size)) e) (v':=.slice (some ⟨w.heap.size,0,none⟩) li.toNat ci.toNat) wr ?_ ⟨_,Ug deep size li.toNat zero (by rw [<-hzs,<-hzl];simp) (Hi wr.Dlt (s:=true) (cap:=ci.toNat) ?_ (by omega) (by unfold maxLen;omega) (λh=>by cases h) λi k hi hk=>?_),λb h=>h⟩⟩
 ·have e1:a.eval l= .int kl li:=hl.1
  have e2:a.eval c= .int kc ci:=hc.1;unfold execOp;rw [ho];simp [e1,e2,hrun]
 ·rw [size_madeCells,his];exact Nat.le_refl _
 ·have hlt:i*size+k<ci.toNat*i0.size:=by
   rw [his];have:(i+1)*size<=ci.toNat*size:=Nat.mul_le_mul_right _ (by omega)
   rw [Nat.add_mul]at this;omega
  have hk':k<z.cells.size:=by omega
  have hm:(i*size+k) % z.cells.size=k:=by rw [hzs,Nat.mul_comm,Nat.mul_add_mod,Nat.mod_eq_of_lt hk]
  have e1:(madeCells z.cells (ci.toNat*i0.size)).getD (i*size+k) undef=zero.getD k undef:=by
   unfold madeCells;simp only [Array.getD_eq_getD_getElem?,Array.getElem?_map,Array.getElem?_range,hlt,if_true,Option.map_some,Option.getD_some,hm];rw [<-hzl,getElem!_pos z.cells k hk'];simp [hk']
  rw [e1];refine⟨rfl,hz1 _ ?_,λ_ h=>h⟩
  grind
def DM(b:ByteArray):List Int:=b.data.toList.map λx=>(x.toNat:Int)
theorem C0(b:ByteArray):(DM b).length=b.size:=by
 unfold DM;simp
def bytesV(b:ByteArray):V:=.nd true true 1 (DM b).length λi k=>([V.c (.int .u8 ((DM b).getD i 0))]:List V).getD k .dead
def cvB(P:Program)(s d:TypeId):Option TypeId:=
 match P.underlying s,P.underlying d with
 |some .string,some (.slice e)=>match P.underlying e with
  |some (.int .u8)=>some e
  |_=>none
 |_,_=>none
theorem Yn{e:TypeId}(h:cvB P s d=some e):P.underlying s=some .string/\P.underlying d=some (.slice e)/\P.underlying e=some (.int .u8):=by
 unfold cvB at h
 grind
def C9(P:Program)(σ:List V)(s d:TypeId)(x:V)(K:V->Prop):Prop:=
 match cvB P s d,x with
 |some _,.c (.string b)=>b.size<=9223372036854775807/\K (bytesV b)
 |some _,_=>False
 |none,x=>Nb P σ s d x K
theorem Yo(h:cvI P s d≠.other):cvB P s d=none:=by
 unfold cvB;split
 ·unfold cvI at h
  grind
 rfl
theorem Jq{σ:List V}{x:V}{K:V->Prop}(h:cvI P s d≠.other):C9 P σ s d x K=Nb P σ s d x K:=by
 unfold C9;rw [Yo h]
theorem Na(wr:Bj σ w D ρ F)(ho:o.op= .convert s d x)(hv:OpR σ w D ρ F v (a.eval x))(h:C9 P σ s d v K): ∃r,K r/\Ak P o a w σ D ρ r:=by
 unfold C9 at h;split at h
 case h_2=>exact h.elim
 case h_3=>exact OC wr ho hv h
 rename_i e b hc;obtain⟨hs,hd,he⟩:=Yn hc;obtain⟨hsz,hK⟩:=h;obtain⟨_,hv,_⟩:=hv;have e1:a.eval x= .string b:=hv.1;have hrun:=run_bytes_of_string (P:=P) w s d e b hs hd he;have hge:b.size<=grownCap w b.size 0 e:=grownCap_ge w b.size 0 e
 have hrow: ∀i,i<b.size->(bytesRow b (grownCap w b.size 0 e))[i]? =some (.int .u8 ((DM b).getD i 0)):=λi hi=>by
  have h2:i<b.data.size:=hi;unfold bytesRow DM;rw [Array.getElem?_append_left (by simpa using h2),Array.getElem?_map,Array.getElem?_eq_getElem h2,Option.map_some,gDE,List.getElem?_map,gEE (by simpa using h2)]
  rfl
 have hrs:(bytesRow b (grownCap w b.size 0 e)).size=grownCap w b.size 0 e:=by
  have h2:b.data.size=b.size:=rfl;unfold bytesRow;rw [Array.size_append,Array.size_map,Array.size_replicate,h2];omega
 refine⟨_,hK,λnext Q hn=>?_⟩
 unfold Oper.wp;obtain⟨C,hC⟩: ∃C,C=bytesRow b (grownCap w b.size 0 e):=⟨_,rfl⟩;rw [<-hC]at hrun hrow hrs
 have hex:(execOp a.eval o).run P w= .ok (.value (.slice (some ⟨w.heap.size,0,none⟩) b.size (grownCap w b.size 0 e))) (w.drew.alloc (.cells C e (C.size,C.size+1))):=by
  unfold execOp;rw [ho];simp [e1,hrun]
 rw [hex];have hblk:(w.drew.alloc (.cells C e (C.size,C.size+1))).heap[w.heap.size]? =some (.cells C e (C.size,C.size+1)):=heap_alloc_new w.drew _;have hlt:w.heap.size<(w.drew.alloc (.cells C e (C.size,C.size+1))).heap.size:=(Array.getElem?_eq_some_iff.1 hblk).1
 refine hn _ _ D (λc=>c=w.heap.size) ⟨rfl,rfl,rfl,by omega,λk hk=>heap_alloc_old w.drew _ hk,Nat.le_refl _⟩ (.inr ⟨w.heap.size,0,grownCap w b.size 0 e,λ_ _=>noF,by rw [C0];rfl,by rw [C0];exact hge,by rw [C0];exact hsz,(λh=>by cases h),λi k hi hk=>?_,(λh=>by cases h),
   λ_=>⟨⟨C,e,⟨_,hblk,.inr (Nat.le_refl _)⟩,by omega⟩,λ_ _ _ _ h=>h,λ_ _ _ _ _ _ _ _ _ _ h=>h.elim,λx=>⟨λh=>.inl h,λh=>h.elim id fun⟨_,_,_,_,h⟩=>h.elim⟩⟩⟩) (λc hc=>by
   have:c=w.heap.size:=hc;omega) (λ_ h=>h) (λ_ h=>.inl h) (λc hc=>⟨by have:=wr.Dlt c hc;omega,λh=>by have:=wr.Dlt c hc;have h2:c=w.heap.size:=h;omega⟩)
 rw [C0]at hi;obtain rfl:k=0:=by omega
 refine⟨_,?_,rfl,rfl,λ_ h=>h⟩
 unfold World.cell?;simp only [hblk,Option.isSome_none,Bool.false_eq_true,if_false];rw [show 0+i*1+0=i by omega]
 exact hrow i hi
def BE(σ:List V):V->V
 | .rs id p off len=>match sub p (σ.getD id .dead)with
  | .nd _ _ sz _ f=>.nd true false sz len λi k=>frz (f (off+i) k)
  |_=>.dead
 | .rp id p i k=>match sub p (σ.getD id .dead)with
  | .nd _ _ sz _ f=>.nd false false (sz-k) 1 λi' j=>if i'=0 then frz (f i (k+j))else .dead
  |_=>.dead
 | .many t n f=>if t= .bx then .nd false false n 1 λi k=>if i=0 then BE σ (f k)else .dead else .many t n λk=>BE σ (f k)
 |v=>frz v
def AG:V->Bool
 | .rs ..=>true
 | .rp ..=>true
 | .nd _ own _ _ _=>own
 | .many _ n f=>(List.range n).any λk=>AG (f k)
 |_=>false
theorem XY(wr:Bj σ w D ρ F): ∀ (v:V) (cv:Value) (fp:Nat->Prop),Rel D w (Ag σ ρ w) v cv fp->(AG v=true\/∀b,¬fp b)->
  Rel (λb=>D b\/(AG v=true/\(fp b\/∃i,F i b))) w noR (BE σ v) cv noF:=by
 intro v
 induction v with
 |c v=>intro cv fp h _;exact⟨h.1,h.2.1,λ_ h=>h⟩
 |dead=>intro cv fp h _;exact λ_ h=>h
 |many t n f ih=>
  intro cv fp h hl;obtain⟨cs,F',hcv,hn,hr,hd,hf⟩:=h
  have hcell: ∀k,k<n->Rel (λb=>D b\/(AG (.many t n f)=true/\(fp b\/∃i,F i b))) w noR (BE σ (f k)) (cs.getD k undef) noF:=by
   intro k hk
   have hla:AG (f k)=true->AG (.many t n f)=true:=λh=>by
    unfold AG;rw [List.any_eq_true];exact⟨k,List.mem_range.2 hk,h⟩
   have hl':AG (f k)=true\/∀b,¬F' k b:=by
    cases hlk:AG (f k)with
    |true=>exact .inl rfl
    |false=>
     right;refine Au (f k) _ _ ?_ (hr k hk);have: ∀v:V,AG v=false->AE v=false:=by
      intro v
      induction v with
      |many t n f ih=>
       intro h;unfold AG at h;unfold AE;rw [List.any_eq_false]at h⊢;intro k hk;simpa using ih k (by simpa using h k hk)
      |nd s own sz n f _=>intro h;exact h
      |_=>intro _;rfl
     exact this _ hlk
   exact Rel.mono (λb hb=>hb.imp id fun⟨h1,h2⟩=>⟨hla h1,h2.imp (λh=>(hf b).2 ⟨k,hk,h⟩) id⟩) (λ_ _ h=>h) _ _ _ (λ_ _=>rfl) (ih k _ _ (hr k hk) hl')
  unfold BE;split
  ·rename_i ht
   subst ht;obtain⟨b,o,h1,h2,h3⟩:=hcv;refine .inr ⟨b,o,1,λ_ _=>noF,h1,Nat.le_refl _,by unfold maxLen;omega,λ_=>rfl,λi k hi hk=>?_,λ_=>⟨λhp=>.inl (h2 (by omega)),λ_ _ _ _ _ h=>h,λ_ h=>h⟩,λh=>by cases h⟩
   obtain rfl:i=0:=by omega
   exact⟨cs.getD k undef,by simpa using h3 k (by omega),hcell k hk⟩
  ·exact⟨cs,λ_=>noF,hcv.mono (λ_ h=>.inl h) (λ_ _=>rfl),hn,hcell,λ_ _ _ _ _ _ h=>h.elim,λb=>⟨λh=>h.elim,fun⟨_,_,h⟩=>h⟩⟩
 |nd s own sz n f ih=>
  intro cv fp h hl;have h1:=Rel.frz _ _ _ (show Rel D w noR (.nd s own sz n f) cv fp from h)
  refine Rel.mono (λb hb=>hb.imp id λh=>?_) (λ_ _ h=>h) _ _ _ (λ_ _=>rfl) h1
  rcases hl with hl|hl
  ·exact⟨hl,.inl h⟩
  ·exact absurd h (hl b)
 |rs rid p off len=>
  intro cv fp h _;obtain⟨⟨hid,sz,n,f,cn,ha,hle,hcv⟩,_⟩:=h;obtain⟨fp1,hr1,hsub,_⟩:=Dt (w':=w) p _ _ _ _ _ (wr.rel rid hid) (λb hb h=>wr.dD rid b h hb) ha
  have hz:=Rel.frz _ _ _ hr1;unfold BE;rw [<-At.sub ha];simp only [Go.Ve.frz]at hz;obtain⟨ad,cap,hcn,hcap,hmax,hc⟩:=NH hz;have hD: ∀b,(D b\/fp1 b)->D b\/(AG (.rs rid p off len)=true/\(fp b\/∃i,F i b)):=λb hb=>hb.imp id λh=>⟨rfl,.inr ⟨rid,hsub b h⟩⟩
  rcases hcv with⟨b,o',cap',rfl,rfl⟩|⟨rfl,ad',rfl,_⟩
  ·simp only [As,if_true,Value.slice.injEq]at hcn
   obtain⟨rfl,-,rfl⟩:=hcn;rcases hc with⟨_,hc0,a0,h,hn0⟩|⟨b2,o2,h,hc⟩
   ·simp only [Value.slice.injEq]at h
    exact absurd rfl (hn0 _ h.1.symm)
   ·simp only [Option.some.injEq,Addr.mk.injEq,and_true]at h
    obtain⟨rfl,rfl⟩:=h;refine .inr ⟨b,o'+off*sz,cap'-off,λ_ _=>noF,by simp [As],by omega,by omega,(λh=>by cases h),λi k hi hk=>?_,λ_=>⟨λhp=>?_,λ_ _ _ _ _ h=>h,λ_ h=>h⟩,λh=>by cases h⟩
    ·obtain⟨_,y,hy,hry⟩:=hc (off+i) k (by omega) hk
     exact⟨y,by rw [<-hy];congr 2;rw [Nat.add_mul];omega,Rel.mono hD (λ_ _ h=>h) _ _ _ (λ_ _=>rfl) hry⟩
    ·have hp1:0<len:=Nat.pos_of_mul_pos_right hp
     have hp2:0<sz:=Nat.pos_of_mul_pos_left hp;exact hD b (hc off 0 (by omega) hp2).1
  ·cases ad' with
   |none=>exact .inl ⟨rfl,rfl,.inl rfl,λ_ h=>h⟩
   |some ad'=>exact .inr ⟨ad'.1,ad'.2,0,λ_ _=>noF,rfl,Nat.le_refl _,Nat.zero_le _,(λh=>by cases h),λi k hi hk=>by omega,λ_=>⟨λhp=>by simp at hp,λ_ _ _ _ _ h=>h,λ_ h=>h⟩,λh=>by cases h⟩
 |rp rid p i k=>
  intro cv fp h _;obtain⟨⟨hid,s,sz,n,f,b,o',cap,ha,hi,hk,rfl⟩,_⟩:=h;obtain⟨fp1,hr1,hsub,_⟩:=Dt (w':=w) p _ _ _ _ _ (wr.rel rid hid) (λb hb h=>wr.dD rid b h hb) ha
  have hz:=Rel.frz _ _ _ hr1;unfold BE;rw [<-At.sub ha];simp only [Go.Ve.frz]at hz;obtain⟨b2,o2,cap2,hcv,hcap,hc⟩:=JC hz (by omega)
  obtain⟨rfl,rfl,_⟩:=Ap hcv;have hD: ∀b,(D b\/fp1 b)->D b\/(AG (.rp rid p i k)=true/\(fp b\/∃i,F i b)):=λb hb=>hb.imp id λh=>⟨rfl,.inr ⟨rid,hsub b h⟩⟩
  refine .inr ⟨b,o'+i*sz+k,1,λ_ _=>noF,by simp [As],Nat.le_refl _,by unfold maxLen;omega,λ_=>rfl,λj l hj hl=>?_,λ_=>⟨λ_=>hD b (hc i k hi hk).1,λ_ _ _ _ _ h=>h,λ_ h=>h⟩,λh=>by cases h⟩
  obtain rfl:j=0:=by omega
  obtain⟨_,y,hy,hry⟩:=hc i (k+l) hi (by omega)
  exact⟨y,by simpa [Nat.add_assoc]using hy,Rel.mono hD (λ_ _ h=>h) _ _ _ (λ_ _=>rfl) hry⟩
end ops
end Go.Ve

