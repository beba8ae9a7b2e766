/- The quiet operations of the small machine: structs, boxes, make; calls by contract. -/
import Derived.Laws.IdiomStrings
import Derived.Laws.AppendOwn
import Derived.Test.YtpaekmpjbalnfabVg
namespace Go.Ve
def BD:V->Prop
 | .c _=>True
 | .dead=>True
 | .many t n f=>t≠.bx/\∀k,k<n->BD (f k)
 | .nd _ own sz n f=>own=true/\∀i k,i<n->k<sz->BD (f i k)
 |_=>False
theorem Rel.ownOnly'{D D':Nat->Prop}{w:World}: ∀ (v:V) (R R':V->Value->Prop) (cv:Value) (fp:Nat->Prop),BD v->Rel D w R v cv fp->Rel D' w R' v cv fp:=by
 intro v
 induction v with
 |c v=>intro R R' cv fp _ h;exact h
 |dead=>intro R R' cv fp _ h;exact h
 |many t n f ih=>
  intro R R' cv fp ho h;obtain⟨cs,F,hcv,hn,hr,hd,hf⟩:=h;have hcv':KH D' w t cs cv:=by
   cases t with
   |ag=>exact hcv
   |tu=>exact hcv
   |cl g=>exact hcv
   |bx=>exact absurd rfl ho.1
  exact⟨cs,F,hcv',hn,fun k hk=>ih k _ _ _ _ (ho.2 k hk) (hr k hk),hd,hf⟩
 |nd s own sz n f ih=>
  intro R R' cv fp ho h;rcases h with h|⟨b,o,cap,F,hcv,hcap,hmax,hs,hr,hi,ho'⟩
  ·exact .inl h
  refine .inr ⟨b,o,cap,F,hcv,hcap,hmax,hs,fun i k hin hk=>?_,(fun h=>by rw [ho.1]at h;cases h),ho'⟩
  obtain⟨x,hx,hrx⟩:=hr i k hin hk;exact⟨x,hx,ih i k _ _ _ _ (ho.2 i k hin hk) hrx⟩
 |rs=>intro R R' cv fp ho h;exact ho.elim
 |rp=>intro R R' cv fp ho h;exact ho.elim
def FC(P:Program)(f:FuncId)(args:List V)(r:V):Prop:=
 ∀ (w:World) (D:Nat->Prop) (cvs:Array Value),Wok w->(∀b,D b->b<w.heap.size)->cvs.size=args.length->
  (∀i,i<args.length->Rel D w noR (args.getD i .dead) (cvs.getD i undef) noF)->
  Calls P f cvs w fun e w'=>∃cv fp D',e= .returned cv/\Below w.heap.size w w'/\Rel D' w' noR r cv fp/\(∀b,fp b->w.heap.size<=b)/\
   (∀b,D b->D' b)/\(∀b,D' b->D b\/w.heap.size<=b)/\∀b,D' b->b<w'.heap.size/\¬fp b
section ops
variable {P:Program} {o:Oper} {a:Act} {w:World} {σ:List V} {D:Nat->Prop} {ρ:Nat->Value} {F:Nat->Nat->Prop} {K:V->Prop}
def Zg(P:Program)(t:TypeId):Option (List (Nat×Nat)×List Value):=
 match P.info? t,P.underlying t with
 |some it,some (.struct fields)=>
  match it.zero,fields.toList.mapM (fun f=>(P.info? f.type).map fun i=>(f.offset,i.size))with
  |some z,some places=>if z.cells.toList.all (·.oneCell')=true then some (places,z.cells.toList)else none
  |_,_=>none
 |_,_=>none
def KC(bi:Option (List (Nat×Nat)×List Value))(parts:List (Nat×V))(K:V->Prop):Prop:=
 match bi with
 |some (places,zero)=>parts.all (fun p=>Bz p.2)=true/\match Cf (fun i=>places[i]?) (zero.map .c) parts with
  |some l=>K (Ai l)
  |none=>False
 |none=>False
theorem Nt(wr:Bt σ w D ρ F){t:TypeId}{ps:Array (Nat×Operand)}{vs:List (Nat×V)}(ho:o.op= .build t ps)(hv:Lj σ w D ρ F vs (ps.toList.map fun p=>(p.1,a.eval p.2)))
  (h:KC (Zg P t) vs K): ∃r,K r/\Au P o a w σ D ρ r:=by
 unfold KC at h;split at h
 case h_2=>exact h.elim
 rename_i places zero hbi;obtain⟨hp,h⟩:=h;split at h
 case h_2=>exact h.elim
 rename_i l hl
 have hb: ∃z:Value,z.cells.toList=zero/\(∀v∈zero,v.oneCell'=true)/\∀parts cells,Instr.fill (fun i=>places[i]?) z.cells parts=some cells->P.built t parts=some cells:=by
  unfold Zg at hbi;split at hbi<;>try (cases hbi;done)
  rename_i it fields hit hu;split at hbi<;>try (cases hbi;done)
  rename_i z places' hz hpl;split at hbi<;>try (cases hbi;done)
  rename_i hone;simp only [Option.some.injEq,Prod.mk.injEq]at hbi;obtain⟨rfl,rfl⟩:=hbi;refine⟨z,rfl,aET.1 hone,fun parts cells hf=>?_⟩
  unfold Program.built;simp only [hit,hu,hz,hpl];simpa using hf
 obtain⟨z,rfl,hz1,hbuilt⟩:=hb
 have hzero:Pk D w (An σ ρ w) (z.cells.toList.map .c) z.cells:=by
  refine⟨by simp,fun j hj=>?_⟩
  simp at hj;simp [hj];exact⟨rfl,hz1 _ (by simp),fun _ h=>h⟩
 obtain⟨cs',hfill,hrel⟩:=Ix hl hp hv hzero;have hrun:=run_build w t (ps.map fun p=>(p.1,a.eval p.2)) cs' (hbuilt _ _ (by simpa using hfill))
 refine⟨_,h,Au.pure wr (v':=.agg cs') ?_ ?_⟩
 ·unfold execOp;rw [ho]
  simp only [Sem.run_bind];rw [show(Array.map (fun x=>match x with|(i,x)=>(i,a.eval x)) ps)=ps.map (fun p=>(p.1,a.eval p.2))from rfl,hrun]
  rfl
 ·exact⟨cs',fun _=>noF,rfl,hrel.1,fun k hk=>hrel.2 k hk,fun _ _ _ _ _ _ h=>h.elim,fun b=>⟨fun h=>h.elim,fun⟨_,_,h⟩=>h⟩⟩
def Nv(ti:Option TyI)(K:V->Prop):Prop:=
 match ti with
 |some ⟨_,size,zero⟩=>0<size/\K (Bk true (zero.map .c))
 |none=>False
theorem Nu(wr:Bt σ w D ρ F){t:TypeId}(ho:o.op= .alloc t)(h:Nv (tyI P t) K): ∃r,K r/\Au P o a w σ D ρ r:=by
 unfold Nv at h;split at h
 case h_2=>exact h.elim
 rename_i ag size zero hti;obtain⟨d,i,z,hd,hi,hz,his,hzl,hzs,hz1,_⟩:=Dh hti;simp only at his hzl hzs hz1;obtain⟨hpos,hK⟩:=h;refine⟨_,hK,Au.new (ob:=.cells z.cells t) (v':=.pointer (some ⟨w.heap.size,0,none⟩)) wr ?_ ⟨_,Rel.eqv _ _ _ _ (show Eqv (.nd false true size 1 fun _ k=>.c (zero.getD k undef)) (Bk true (zero.map .c))from ?_) (HH wr.Dlt (s:=false) (cap:=1) (by omega) (Nat.le_refl _) (by unfold maxLen;omega) (fun _=>rfl) fun i k hi hk=>?_),fun b h=>h⟩⟩
 ·unfold execOp;rw [ho];simp [Instr.alloc,zeroValue,typeInfo,hi,hz,newVar,newRow]
 ·have hzl':zero.length=size:=by rw [<-hzs,<-hzl];simp
  refine⟨fun i k=>([zero.map V.c].getD i []).getD k .dead,by unfold Bk;rw [List.length_map,hzl'],fun i k hi hk=>?_⟩
  obtain rfl:i=0:=by omega
  have hk2:k<zero.length:=by omega
  have e:([zero.map V.c].getD 0 []).getD k .dead= .c (zero.getD k undef):=by simp [hk2]
  show Eqv _ (([zero.map V.c].getD 0 []).getD k .dead);rw [e];exact Eqv.refl _
 ·obtain rfl:i=0:=by omega
  have hk':k<z.cells.size:=by omega
  have e1:zero.getD k undef=z.cells.getD k undef:=by rw [<-hzl];simp
  simp only [Nat.zero_mul,Nat.zero_add];refine⟨e1.symm,hz1 _ ?_,fun _ h=>h⟩
  have hl0:k<zero.length:=by rw [<-hzl];simpa using hk'
  rw [gDE,gEE hl0];exact List.getElem_mem hl0
def AaT(l:List V):V:=.many .bx l.length fun k=>l.getD k .dead
def qBox(v:V)(K:V->Prop):Prop:=Bz v=true/\(((cellsV v).all BX=true/\K (Bk true (cellsV v)))\/K (AaT (cellsV v)))
theorem Uc(wr:Bt σ w D ρ F){t:TypeId}{v:V}{x:Operand}(ho:o.op= .box t x)(hv:OpR σ w D ρ F v (a.eval x))(h:qBox v K): ∃r,K r/\Au P o a w σ D ρ r:=by
 obtain⟨hp,hK⟩:=h;obtain⟨fp,hr,_⟩:=hv;obtain⟨⟨hs,hrel⟩,_⟩:=Cg (fun v cv h=>An.one h) hp hr
 rcases hK with⟨himm,hK⟩|hK
 rotate_left
 ·refine⟨_,hK,fun next Q hn=>?_⟩
  have hrun:(execOp a.eval o).run P w= .ok (.value (.pointer (some ⟨w.heap.size,0,none⟩))) (w.alloc (.cells (a.eval x).cells t)):=by
   unfold execOp;rw [ho];simp [Instr.box,newVar,newRow]
  unfold Oper.wp;rw [hrun];have hsame: ∀b,b<w.heap.size->(w.alloc (.cells (a.eval x).cells t)).heap[b]? =w.heap[b]?:=fun b hb=>Below.heap_alloc _ _ _ hb
  refine hn _ _ (fun b=>D b\/b=w.heap.size) noF ((Below.refl _ _).alloc (Nat.le_refl _) _) ?_ (fun _ h=>h.elim) (fun _ h=>.inl h) (fun b h=>h.imp id fun h=>by omega) (fun b h=>⟨?_,fun h=>h⟩)
  ·refine⟨(a.eval x).cells,fun _=>noF,⟨w.heap.size,0,rfl,fun _=>.inr rfl,fun k hk=>?_⟩,hs,fun k hk=>?_,fun _ _ _ _ _ _ h=>h.elim,fun b=>⟨fun h=>h.elim,fun⟨_,_,h⟩=>h⟩⟩
   ·have hb:(w.alloc (.cells (a.eval x).cells t)).heap[w.heap.size]? =some (.cells (a.eval x).cells t (0,0)):=by
     show(w.heap.push _)[w.heap.size]? =_;simp
    unfold World.cell?;rw [hb];simp [hk]
   ·exact Rel.mono (fun b hb=>.inl hb) (fun v cv hv=>An.same wr (fun i b hb=>hsame b (wr.lt i b hb)) v cv hv) _ _ _ (fun b hb=>hb.elim (fun hb=>hsame b (wr.Dlt b hb)) fun h=>h.elim) (hrel k hk)
  ·rcases h with h|h
   ·have:=wr.Dlt b h;simp;omega
   ·simp;omega
 refine⟨_,hK,Au.new (ob:=.cells (a.eval x).cells t) (v':=.pointer (some ⟨w.heap.size,0,none⟩)) wr ?_ ⟨_,HH wr.Dlt (s:=false) (cap:=1) (by omega) (Nat.le_refl _) (by unfold maxLen;omega) (fun _=>rfl) fun i k hi hk=>?_,fun b h=>h⟩⟩
 ·unfold execOp;rw [ho];simp [Instr.box,newVar,newRow]
 ·obtain rfl:i=0:=by omega
  simp only [Nat.zero_mul,Nat.zero_add];show Rel D w noR ((cellsV v).getD k .dead) _ noF;refine CL (aET.1 himm _ ?_) (hrel k hk);rw [gDE,gEE hk];exact List.getElem_mem hk
def V8(_deep:Bool)(sz n:Nat)(zero:List Value):V:=arr true sz (fun x=>x) [] (List.replicate n (zero.map .c))
theorem Um{D:Nat->Prop}{w:World}{R:V->Value->Prop}(deep:Bool)(sz n:Nat)(zero:List Value)(hz:zero.length=sz){cv:Value}{fp:Nat->Prop}(h:Rel D w R (.nd true true sz n fun _ k=>.c (zero.getD k undef)) cv fp):Rel D w R (V8 deep sz n zero) cv fp:=by
 have gen:Rel D w R (arr true sz (fun x=>x) [] (List.replicate n (zero.map .c))) cv fp:=by
  refine Rel.eqv _ _ _ _ ?_ h;refine⟨fun i k=>((List.replicate n (zero.map V.c)).getD i []).getD k .dead,by simp [arr],fun i k hi hk=>?_⟩
  have:((List.replicate n (zero.map V.c)).getD i []).getD k .dead= .c (zero.getD k undef):=by
   have hk':k<zero.length:=by omega
   simp [hi,List.getElem?_replicate,hk']
  show Eqv _ (((List.replicate n (zero.map V.c)).getD i []).getD k .dead);rw [this];exact Eqv.refl _
 exact gen
def VX(si:Option SlI)(deep:Bool)(l c:V)(K:V->Prop):Prop:=
 match si,l,c with
 |some ⟨_,size,bytes,zero⟩,.c (.int _ l),.c (.int _ c)=>0<size/\(0<=l/\l<=c/\(bytes:Int)*c<=281474976710656/\c<=9223372036854775807)/\K (V8 deep size l.toNat zero)
 |_,_,_=>False
theorem OF(wr:Bt σ w D ρ F){t:TypeId}{vl vc:V}{l c:Operand}(ho:o.op= .makeSlice t l c)(hl:OpR σ w D ρ F vl (a.eval l))(hc:OpR σ w D ρ F vc (a.eval c)){deep:Bool}(h:VX (slI P t) deep vl vc K): ∃r,K r/\Au P o a w σ D ρ r:=by
 unfold VX at h;split at h
 case h_2=>exact h.elim
 rename_i e size bytes zero kl li kc ci hsi;obtain⟨hu,i0,z,hi0,hz,his,hib,hzl,hzs,hz1⟩:=CW hsi;simp only at hu hi0 his hib hzl hzs hz1;obtain⟨hpos,⟨h1,h2,h3,h4⟩,hK⟩:=h;obtain⟨_,hl,_⟩:=hl;obtain⟨_,hc,_⟩:=hc;have hrun:=run_make (P:=P) w t e i0 z hu hi0 hz kl kc li ci h1 h2 (by rw [hib];exact h3) h4
 refine⟨_,hK,Au.new (ob:=.cells (madeCells z.cells (ci.toNat*i0.size)) e) (v':=.slice (some ⟨w.heap.size,0,none⟩) li.toNat ci.toNat) wr ?_ ⟨_,Um deep size li.toNat zero (by rw [<-hzs,<-hzl];simp) (HH wr.Dlt (s:=true) (cap:=ci.toNat) ?_ (by omega) (by unfold maxLen;omega) (fun h=>by cases h) fun i k hi hk=>?_),fun b h=>h⟩⟩
 ·have e1:a.eval l= .int kl li:=hl.1
  have e2:a.eval c= .int kc ci:=hc.1;unfold execOp;rw [ho];simp [e1,e2,hrun]
 ·rw [size_madeCells,his];exact Nat.le_refl _
 ·have hlt:i*size+k<ci.toNat*i0.size:=by
   rw [his];have:(i+1)*size<=ci.toNat*size:=Nat.mul_le_mul_right _ (by omega)
   rw [Nat.add_mul]at this;omega
  have hk':k<z.cells.size:=by omega
  have hm:(i*size+k) % z.cells.size=k:=by rw [hzs,Nat.mul_comm,Nat.mul_add_mod,Nat.mod_eq_of_lt hk]
  have e1:(madeCells z.cells (ci.toNat*i0.size)).getD (i*size+k) undef=zero.getD k undef:=by
   unfold madeCells;simp only [Array.getD_eq_getD_getElem?,Array.getElem?_map,Array.getElem?_range,hlt,if_true,Option.map_some,Option.getD_some,hm];rw [<-hzl,getElem!_pos z.cells k hk'];simp [hk']
  rw [e1];refine⟨rfl,hz1 _ ?_,fun _ h=>h⟩
  have hl0:k<zero.length:=by rw [<-hzl];simpa using hk'
  rw [gDE,gEE hl0];exact List.getElem_mem hl0
def He(b:ByteArray):List Int:=b.data.toList.map fun x=>(x.toNat:Int)
theorem Dk(b:ByteArray):(He b).length=b.size:=by
 unfold He;rw [List.length_map];rfl
def bytesV(b:ByteArray):V:=.nd true true 1 (He b).length fun i k=>([V.c (.int .u8 ((He b).getD i 0))]:List V).getD k .dead
def cvB(P:Program)(s d:TypeId):Option TypeId:=
 match P.underlying s,P.underlying d with
 |some .string,some (.slice e)=>match P.underlying e with
  |some (.int .u8)=>some e
  |_=>none
 |_,_=>none
theorem Yu{s d e:TypeId}(h:cvB P s d=some e):P.underlying s=some .string/\P.underlying d=some (.slice e)/\P.underlying e=some (.int .u8):=by
 unfold cvB at h;split at h
 ·rename_i e' hs hd
  split at h
  ·rename_i he;cases h;exact⟨hs,hd,he⟩
  ·cases h
 ·cases h
def Du(P:Program)(σ:List V)(s d:TypeId)(x:V)(K:V->Prop):Prop:=
 match cvB P s d,x with
 |some _,.c (.string b)=>b.size<=9223372036854775807/\K (bytesV b)
 |some _,_=>False
 |none,x=>Nn P σ s d x K
theorem Yv{s d:TypeId}(h:cvI P s d≠.other):cvB P s d=none:=by
 unfold cvB;split
 ·rename_i e hs hd
  unfold cvI at h;rw [hs,hd]at h;exact absurd rfl h
 ·rfl
theorem Jw{σ:List V}{s d:TypeId}{x:V}{K:V->Prop}(h:cvI P s d≠.other):Du P σ s d x K=Nn P σ s d x K:=by
 unfold Du;rw [Yv h]
theorem Nm(wr:Bt σ w D ρ F){s d:TypeId}{v:V}{x:Operand}(ho:o.op= .convert s d x)(hv:OpR σ w D ρ F v (a.eval x))(h:Du P σ s d v K): ∃r,K r/\Au P o a w σ D ρ r:=by
 unfold Du at h;split at h
 case h_2=>exact h.elim
 case h_3=>exact OH wr ho hv h
 rename_i e b hc;obtain⟨hs,hd,he⟩:=Yu hc;obtain⟨hsz,hK⟩:=h;obtain⟨_,hv,_⟩:=hv;have e1:a.eval x= .string b:=hv.1;have hrun:=run_bytes_of_string (P:=P) w s d e b hs hd he;have hge:b.size<=grownCap w b.size 0 e:=grownCap_ge w b.size 0 e
 have hrow: ∀i,i<b.size->(bytesRow b (grownCap w b.size 0 e))[i]? =some (.int .u8 ((He b).getD i 0)):=fun i hi=>by
  have h2:i<b.data.size:=hi;unfold bytesRow He;rw [Array.getElem?_append_left (by simpa using h2),Array.getElem?_map,Array.getElem?_eq_getElem h2,Option.map_some,gDE,List.getElem?_map,gEE (by simpa using h2)]
  rfl
 have hrs:(bytesRow b (grownCap w b.size 0 e)).size=grownCap w b.size 0 e:=by
  have h2:b.data.size=b.size:=rfl;unfold bytesRow;rw [Array.size_append,Array.size_map,Array.size_replicate,h2];omega
 refine⟨_,hK,fun next Q hn=>?_⟩
 unfold Oper.wp;obtain⟨C,hC⟩: ∃C,C=bytesRow b (grownCap w b.size 0 e):=⟨_,rfl⟩;rw [<-hC]at hrun hrow hrs
 have hex:(execOp a.eval o).run P w= .ok (.value (.slice (some ⟨w.heap.size,0,none⟩) b.size (grownCap w b.size 0 e))) (w.drew.alloc (.cells C e (C.size,C.size+1))):=by
  unfold execOp;rw [ho];simp [e1,hrun]
 rw [hex];have hblk:(w.drew.alloc (.cells C e (C.size,C.size+1))).heap[w.heap.size]? =some (.cells C e (C.size,C.size+1)):=heap_alloc_new w.drew _;have hlt:w.heap.size<(w.drew.alloc (.cells C e (C.size,C.size+1))).heap.size:=(Array.getElem?_eq_some_iff.1 hblk).1
 refine hn _ _ D (fun c=>c=w.heap.size) ⟨rfl,rfl,rfl,by omega,fun k hk=>heap_alloc_old w.drew _ hk,Nat.le_succ _⟩ (.inr ⟨w.heap.size,0,grownCap w b.size 0 e,fun _ _=>noF,by rw [Dk];rfl,by rw [Dk];exact hge,by rw [Dk];exact hsz,(fun h=>by cases h),fun i k hi hk=>?_,(fun h=>by cases h),
   fun _=>⟨⟨C,e,⟨_,hblk,.inr (Nat.le_refl _)⟩,by omega⟩,fun _ _ _ _ h=>h,fun _ _ _ _ _ _ _ _ _ _ h=>h.elim,fun x=>⟨fun h=>.inl h,fun h=>h.elim id fun⟨_,_,_,_,h⟩=>h.elim⟩⟩⟩) (fun c hc=>by
   have:c=w.heap.size:=hc;omega) (fun _ h=>h) (fun _ h=>.inl h) (fun c hc=>⟨by have:=wr.Dlt c hc;omega,fun h=>by have:=wr.Dlt c hc;have h2:c=w.heap.size:=h;omega⟩)
 rw [Dk]at hi;obtain rfl:k=0:=by omega
 refine⟨_,?_,rfl,rfl,fun _ h=>h⟩
 unfold World.cell?;simp only [hblk,Option.isSome_none,Bool.false_eq_true,if_false];rw [show 0+i*1+0=i by omega]
 exact hrow i hi
def BQ(σ:List V):V->V
 | .rs id p off len=>match sub p (σ.getD id .dead)with
  | .nd _ _ sz _ f=>.nd true false sz len fun i k=>frz (f (off+i) k)
  |_=>.dead
 | .rp id p i k=>match sub p (σ.getD id .dead)with
  | .nd _ _ sz _ f=>.nd false false (sz-k) 1 fun i' j=>if i'=0 then frz (f i (k+j))else .dead
  |_=>.dead
 | .many t n f=>if t= .bx then .nd false false n 1 fun i k=>if i=0 then BQ σ (f k)else .dead else .many t n fun k=>BQ σ (f k)
 |v=>frz v
def AP:V->Bool
 | .rs ..=>true
 | .rp ..=>true
 | .nd _ own _ _ _=>own
 | .many _ n f=>(List.range n).any fun k=>AP (f k)
 |_=>false
theorem Yc(wr:Bt σ w D ρ F): ∀ (v:V) (cv:Value) (fp:Nat->Prop),Rel D w (An σ ρ w) v cv fp->(AP v=true\/∀b,¬fp b)->
  Rel (fun b=>D b\/(AP v=true/\(fp b\/∃i,F i b))) w noR (BQ σ v) cv noF:=by
 intro v
 induction v with
 |c v=>intro cv fp h _;exact⟨h.1,h.2.1,fun _ h=>h⟩
 |dead=>intro cv fp h _;exact fun _ h=>h
 |many t n f ih=>
  intro cv fp h hl;obtain⟨cs,F',hcv,hn,hr,hd,hf⟩:=h
  have hcell: ∀k,k<n->Rel (fun b=>D b\/(AP (.many t n f)=true/\(fp b\/∃i,F i b))) w noR (BQ σ (f k)) (cs.getD k undef) noF:=by
   intro k hk
   have hla:AP (f k)=true->AP (.many t n f)=true:=fun h=>by
    unfold AP;rw [List.any_eq_true];exact⟨k,List.mem_range.2 hk,h⟩
   have hl':AP (f k)=true\/∀b,¬F' k b:=by
    cases hlk:AP (f k)with
    |true=>exact .inl rfl
    |false=>
     right;refine AG (f k) _ _ ?_ (hr k hk);have: ∀v:V,AP v=false->AS v=false:=by
      intro v
      induction v with
      |many t n f ih=>
       intro h;unfold AP at h;unfold AS;rw [List.any_eq_false]at h⊢;intro k hk;simpa using ih k (by simpa using h k hk)
      |nd s own sz n f _=>intro h;exact h
      |_=>intro _;rfl
     exact this _ hlk
   exact Rel.mono (fun b hb=>hb.imp id fun⟨h1,h2⟩=>⟨hla h1,h2.imp (fun h=>(hf b).2 ⟨k,hk,h⟩) id⟩) (fun _ _ h=>h) _ _ _ (fun _ _=>rfl) (ih k _ _ (hr k hk) hl')
  unfold BQ;split
  ·rename_i ht
   subst ht;obtain⟨b,o,h1,h2,h3⟩:=hcv;refine .inr ⟨b,o,1,fun _ _=>noF,h1,Nat.le_refl _,by unfold maxLen;omega,fun _=>rfl,fun i k hi hk=>?_,fun _=>⟨fun hp=>.inl (h2 (by omega)),fun _ _ _ _ _ h=>h,fun _ h=>h⟩,fun h=>by cases h⟩
   obtain rfl:i=0:=by omega
   exact⟨cs.getD k undef,by simpa using h3 k (by omega),hcell k hk⟩
  ·exact⟨cs,fun _=>noF,hcv.mono (fun _ h=>.inl h) (fun _ _=>rfl),hn,hcell,fun _ _ _ _ _ _ h=>h.elim,fun b=>⟨fun h=>h.elim,fun⟨_,_,h⟩=>h⟩⟩
 |nd s own sz n f ih=>
  intro cv fp h hl;have h1:=Rel.frz _ _ _ (show Rel D w noR (.nd s own sz n f) cv fp from h)
  refine Rel.mono (fun b hb=>hb.imp id fun h=>?_) (fun _ _ h=>h) _ _ _ (fun _ _=>rfl) h1
  rcases hl with hl|hl
  ·exact⟨hl,.inl h⟩
  ·exact absurd h (hl b)
 |rs rid p off len=>
  intro cv fp h _;obtain⟨⟨hid,sz,n,f,cn,ha,hle,hcv⟩,_⟩:=h;obtain⟨fp1,hr1,hsub,_⟩:=Hl (w':=w) p _ _ _ _ _ (wr.rel rid hid) (fun b hb h=>wr.dD rid b h hb) ha
  have hz:=Rel.frz _ _ _ hr1;unfold BQ;rw [<-At.sub ha];simp only [Go.Ve.frz]at hz;obtain⟨ad,cap,hcn,hcap,hmax,hc⟩:=NO hz;have hD: ∀b,(D b\/fp1 b)->D b\/(AP (.rs rid p off len)=true/\(fp b\/∃i,F i b)):=fun b hb=>hb.imp id fun h=>⟨rfl,.inr ⟨rid,hsub b h⟩⟩
  rcases hcv with⟨b,o',cap',rfl,rfl⟩|⟨rfl,ad',rfl,_⟩
  ·simp only [AD,if_true,Value.slice.injEq]at hcn
   obtain⟨rfl,-,rfl⟩:=hcn;rcases hc with⟨_,hc0,a0,h,hn0⟩|⟨b2,o2,h,hc⟩
   ·simp only [Value.slice.injEq]at h
    exact absurd rfl (hn0 _ h.1.symm)
   ·simp only [Option.some.injEq,Addr.mk.injEq,and_true]at h
    obtain⟨rfl,rfl⟩:=h;refine .inr ⟨b,o'+off*sz,cap'-off,fun _ _=>noF,by simp [AD],by omega,by omega,(fun h=>by cases h),fun i k hi hk=>?_,fun _=>⟨fun hp=>?_,fun _ _ _ _ _ h=>h,fun _ h=>h⟩,fun h=>by cases h⟩
    ·obtain⟨_,y,hy,hry⟩:=hc (off+i) k (by omega) hk
     exact⟨y,by rw [<-hy];congr 2;rw [Nat.add_mul];omega,Rel.mono hD (fun _ _ h=>h) _ _ _ (fun _ _=>rfl) hry⟩
    ·have hp1:0<len:=Nat.pos_of_mul_pos_right hp
     have hp2:0<sz:=Nat.pos_of_mul_pos_left hp;exact hD b (hc off 0 (by omega) hp2).1
  ·cases ad' with
   |none=>exact .inl ⟨rfl,rfl,.inl rfl,fun _ h=>h⟩
   |some ad'=>exact .inr ⟨ad'.1,ad'.2,0,fun _ _=>noF,rfl,Nat.le_refl _,Nat.zero_le _,(fun h=>by cases h),fun i k hi hk=>by omega,fun _=>⟨fun hp=>by simp at hp,fun _ _ _ _ _ h=>h,fun _ h=>h⟩,fun h=>by cases h⟩
 |rp rid p i k=>
  intro cv fp h _;obtain⟨⟨hid,s,sz,n,f,b,o',cap,ha,hi,hk,rfl⟩,_⟩:=h;obtain⟨fp1,hr1,hsub,_⟩:=Hl (w':=w) p _ _ _ _ _ (wr.rel rid hid) (fun b hb h=>wr.dD rid b h hb) ha
  have hz:=Rel.frz _ _ _ hr1;unfold BQ;rw [<-At.sub ha];simp only [Go.Ve.frz]at hz;obtain⟨b2,o2,cap2,hcv,hcap,hc⟩:=JH hz (by omega)
  obtain⟨rfl,rfl,_⟩:=AC hcv;have hD: ∀b,(D b\/fp1 b)->D b\/(AP (.rp rid p i k)=true/\(fp b\/∃i,F i b)):=fun b hb=>hb.imp id fun h=>⟨rfl,.inr ⟨rid,hsub b h⟩⟩
  refine .inr ⟨b,o'+i*sz+k,1,fun _ _=>noF,by simp [AD],Nat.le_refl _,by unfold maxLen;omega,fun _=>rfl,fun j l hj hl=>?_,fun _=>⟨fun _=>hD b (hc i k hi hk).1,fun _ _ _ _ _ h=>h,fun _ h=>h⟩,fun h=>by cases h⟩
  obtain rfl:j=0:=by omega
  obtain⟨_,y,hy,hry⟩:=hc i (k+l) hi (by omega)
  exact⟨y,by simpa [Nat.add_assoc]using hy,Rel.mono hD (fun _ _ h=>h) _ _ _ (fun _ _=>rfl) hry⟩
end ops
end Go.Ve

