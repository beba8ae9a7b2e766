/- The quiet operations of the small machine that make memory. -/
import Derived.Test.YtojjlnbnneemaaaVf
open List(range)
set_option linter.all false
namespace Go.Ve
variable{ps:Array (Nat×Operand)}{vs:List (Nat×V)}{len:Nat}{fp:Nat->Prop}{t:TypeId}{v:V}{R:V->Value->Prop}{cv:Value}
section ops
variable {P:Program}{o:Oper}{a:Act}{w:World}{σ:List V}{D:Nat->Prop}{ρ:Nat->Value}{F:Nat->Nat->Prop}{K:V->Prop}
theorem HF(Dlt:∀b,D b->b<w.heap.size){R:V->Value->Prop}{T:TypeId}{cs:Array Value}{s:Bool}{sz n cap:Nat}{f:Nat->Nat->V}(W:cap*sz<=cs.size)(E:n<=cap)(u:n<=maxLen)(B:s=false->n=1)
  (Y:∀i k,i<n->k<sz->Rel D w noR (f i k) (cs.getD (i*sz+k) undef) noF):
  Rel D (w.alloc (.cells cs T)) R (.nd s true sz n f) (AC s w.heap.size 0 n cap) (λb=>b=w.heap.size):=by
 have A:(w.alloc (.cells cs T)).heap[w.heap.size]? =some (.cells cs T (0,0)):=by show(w.heap.push _)[w.heap.size]? =_;simp
 refine .inr ⟨w.heap.size,0,cap,λ_ _=>noF,rfl,E,u,B,λi k U O=>?_,(λh=>by grind),λ_=>⟨⟨cs,T,.plain A,by omega⟩,λ_ _ _ _ h=>h,λ_ _ _ _ _ _ _ _ _ _ h=>h.elim,λx=>⟨λh=>.inl h,λh=>h.elim id fun⟨_,_,_,_,h⟩=>h.elim⟩⟩⟩
 have J:i*sz+k<cs.size:=by
  have:(i+1)*sz<=cap*sz:=Nat.mul_le_mul_right _ (by omega)
  grind
 refine⟨cs.getD (i*sz+k) undef,?_,Rel.mono (λ_ h=>h) (λ_ _ h=>h) _ _ _ (λb A=>Below.heap_alloc _ _ _ (A.elim (Dlt b) λh=>h.elim)) (Y i k U O)⟩
 simp_all
def PC(D:Nat->Prop)(w:World)(R:V->Value->Prop)(l:List V)(cs:Array Value):Prop:=
 cs.size=l.length/\∀j,j<l.length->Rel D w R (l.getD j .dead) (cs.getD j undef) noF
def cellsV:V->List V
 |.many .ag n f=>(range n).map f
 |v=>[v]
def Yw(cells:List V)(off:Nat)(l:List V):List V:=(l.zipIdx.foldl (λcs (c,j)=>cs.set (off+j) c) cells)
def Cg(place:Nat->Option (Nat×Nat))(cells:List V):List (Nat×V)->Option (List V)
 |[]=>some cells
 |(i,v)::rest=>match place i with
  |none=>none
  |some (off,size)=>if(cellsV v).length≠size\/cells.length<off+(cellsV v).length then none else Cg place (Yw cells off (cellsV v)) rest
def Bv:V->Bool
 |.many .tu _ _=>false
 |.many .bx _ _=>false
 |.many .ag n f=>(range n).all λk=>match f k with|.many ..=>false|.dead=>false|v=>!AN v
 |.dead=>false
 |v=>!AN v
def X3:V->Bool
 |.many (.cl _) _ _=>true
 |.many .. |.dead=>false
 |_=>true
theorem Rel.cells1(h:Rel D w R v cv fp)(B:∀v cv,R v cv->cv.oneCell'=true)(J:X3 v=true):cv.cells= #[cv]/\cv.oneCell'=true:=by
 have E:cv.oneCell'=true:=by
  cases v with
  |c v=>rw[h.1];exact h.2.1
  |dead=>trivial
  |many t n f=>
   cases t with
   |cl g=>
    obtain⟨cs,_,A,_⟩:=h;rw[A];exact Zj
   |_=>trivial
  |nd s own sz n f=>
   rcases h with⟨_,_,u,_⟩|⟨b,o,cap,F,rfl,_⟩
   .obtain⟨a,rfl⟩:=Dd u;rfl
   .cases s<;>rfl
  |rs id p off len=>exact B _ _ h.1
  |rp id p i k=>exact B _ _ h.1
  |rm id p=>exact B _ _ h.1
  |mp own l=>obtain⟨b,rfl,_⟩:=h;rfl
 refine⟨?_,E⟩;cases cv<;>first|rfl|trivial
theorem Aq.one(h:Aq σ ρ w v cv):cv.oneCell'=true:=by
 cases v with
 |rs id p off len=>
  obtain⟨_,sz,n,f,cn,_,_,h⟩:=h;rcases h with⟨_,_,_,_,rfl⟩|⟨_,_,rfl,_⟩<;>rfl
 |rp id p i k=>
  obtain⟨_,s,sz,n,f,b,o,cap,_,_,_,rfl⟩:=h;rfl
 |rm id p=>obtain⟨_,l,b,_,rfl⟩:=h;rfl
 |mp=>exact h.elim
 |c _=>trivial
 |dead=>trivial
 |many=>trivial
 |nd=>trivial
theorem Ch(hR:∀v cv,R v cv->cv.oneCell'=true)(A:Bv v=true)(h:Rel D w R v cv fp):PC D w R (cellsV v) cv.cells/\∀b,¬fp b:=by
 have u:∀v:V,X3 v=true->AN v=false->cellsV v=[v]->Rel D w R v cv fp->PC D w R (cellsV v) cv.cells/\∀b,¬fp b:=by
  intro v hm Y J h;have W:=AF _ _ _ Y h;obtain⟨hc,_⟩:=Rel.cells1 h hR hm;rw[J,hc];refine⟨⟨rfl,λj E=>?_⟩,W⟩
  obtain rfl:j=0:=by simp at E;omega
  have:=A7 W;subst this;exact h
 cases v with
 |c v=>exact u _ rfl rfl rfl h
 |dead=>cases A
 |nd s own sz n f=>exact u _ rfl (by simpa [Bv]using A) rfl h
 |rs id p off len=>exact u _ rfl rfl rfl h
 |rp id p i k=>exact u _ rfl rfl rfl h
 |rm id p=>exact u _ rfl rfl rfl h
 |mp own l=>exact u _ rfl (by simpa [Bv]using A) rfl h
 |many t n f=>
  cases t with
  |bx=>cases A
  |tu=>cases A
  |cl g=>
   have A:(!AN (V.many (.cl g) n f))=true:=A;exact u _ rfl (by simpa using A) rfl h
  |ag=>
   obtain⟨cs,F',rfl,Z,O,_,hfp⟩:=h;have B:∀k,k<n->∀b,¬F' k b:=by
    intro k U;have h1:=aET.1 (show(range n).all _=true from A) k (List.mem_range.2 U)
    refine AF (f k) _ _ ?_ (O k U)
    grind
   refine⟨⟨by simp[cellsV,Value.cells,Z],λj E=>?_⟩,λb hb=>?_⟩
   .simp[cellsV]at E
    have e:(cellsV (.many .ag n f)).getD j .dead=f j:=by simp[cellsV,E]
    rw[e];have:=O j E;rw[A7 (B j E)]at this;exact this
   grind
theorem Yv(l:List V):∀(vs:List Value) (k off:Nat) (cells:List V) (cs:Array Value),vs.length=l.length->(∀j,j<l.length->Rel D w R (l.getD j .dead) (vs.getD j undef) noF)->PC D w R cells cs->
  PC D w R ((l.zipIdx k).foldl (λcs (c,j)=>cs.set (off+j) c) cells) ((vs.zipIdx k).foldl (λcs (c,j)=>cs.setIfInBounds (off+j) c) cs):=by
 induction l with
 |nil=>intro vs k off cells cs A _ h;cases vs<;>first|exact h|cases A
 |cons v l E=>
  intro vs k off cells cs A B h;cases vs with
  |nil=>cases A
  |cons x vs=>
   refine E vs (k+1) off _ _ (by simpa using A) (λj u=>by simpa using B (j+1) (by simp;omega)) ?_
   refine⟨by simp[h.1],λj u=>?_⟩
   simp only[List.length_set]at u;by_cases J:off+k=j
   .subst J
    have U:Rel D w R v x noF:=by simpa using B 0 (by simp)
    have O:off+k<cs.size:=by rw[h.1];exact u
    simp[u,O];exact U
   .have:=h.2 j u
    simp_all
def Zf(hR:∀v cv,R v cv->cv.oneCell'=true)(place:Nat->Option (Nat×Nat)):∀(A:List (Nat×V)) (u:List (Nat×Value)) (cells B:List V) (cs:Array Value),Cg place cells A=some B->PC D w R cells cs->
  A.length=u.length->(∀(j i:Nat) (v:V),A[j]? =some (i,v)->Bv v=true/\∃x fp,u[j]? =some (i,x)/\Rel D w R v x fp)->∃U,Instr.fill place cs u=some U/\PC D w R B U:=by
 intro A
 induction A with
 |nil=>
  intro u cells B cs h W Y _;cases u with
  |nil=>simp[Cg]at h;subst h;exact⟨cs,rfl,W⟩
  |cons=>cases Y
 |cons p A ih=>
  intro u cells B cs h W Y hp;obtain⟨i,v⟩:=p;cases u with
  |nil=>cases Y
  |cons c u=>
   obtain⟨hpl,x,fp,hx,Z⟩:=hp 0 i v rfl;simp at hx;subst hx;unfold Cg at h;split at h
   .cases h
   rename_i off size J;split at h
   .cases h
   rename_i hcond;obtain⟨O,_⟩:=Ch hR hpl Z;have h1:x.cells.size=(cellsV v).length:=O.1;have h2:cs.size=cells.length:=W.1
   have hn:¬ ((decide (x.cells.size≠size)||decide (off+x.cells.size>cs.size))=true):=by
    simp only[Bool.or_eq_true,decide_eq_true_eq];rw[h1,h2];omega
   unfold Instr.fill;simp only[J];rw[if_neg hn]
   have E:PC D w R (Yw cells off (cellsV v)) (x.cells.zipIdx.foldl (λcs (c,j)=>cs.setIfInBounds (off+j) c) cs):=by
    have:=Yv (cellsV v) x.cells.toList 0 off cells cs (by simpa using h1) (λj hj=>by simpa using O.2 j hj) W
    rw[<-Array.foldl_toList];simpa [Yw]using this
   exact ih u _ B _ h E (by simpa using Y) (λj i v hj=>by simpa using hp (j+1) i v (by simpa using hj))
def Cf:V->Bool
 |.c _=>true
 |.nd _ own _ _ _=>!own
 |.many (.cl _) n f=>(range n).all λk=>Cf (f k)
 |_=>false
theorem CM:∀{cv:Value}{fp:Nat->Prop} (_:Cf v=true) (_:Rel D w R v cv fp),Rel D w noR v cv fp:=by
 induction v with
 |many t n f E=>
  intro cv fp h u;cases t with
  |cl g=>
   obtain⟨cs,F,A,J,u,hd,O⟩:=u;exact⟨cs,F,A,J,λk B=>E k (aET.1 h k (List.mem_range.2 B)) (u k B),hd,O⟩
  |_=>cases h
 |_=>intro cv fp h u;trivial
def J5:List V->Option (List Int)
 |[]=>some []
 |.c (.int .i64 n)::l=>(J5 l).map (n:: ·)
 |_=>none
def Kr(sz:Nat)(l:List V):Nat->List (List V)
 |0=>[]
 |n+1=>Kr sz l n++[(l.drop (n*sz)).take sz]
def slOf(u:Bool)(sz n:Nat)(l:List V):V:=
 if u=true/\sz=1/\n=0 then rows true []else
 match J5 l with
 |some xs=>if sz=1/\xs.length=n then ints true xs else arr true sz (λx=>x) [] (Kr sz l n)
 |none=>arr true sz (λx=>x) [] (Kr sz l n)
def C3(sz:Nat)(l:List V):∀n,(Kr sz l n).length=n
 |0=>rfl
 |n+1=>by unfold Kr;simp[C3 sz l n]
def Ld(sz:Nat)(l:List V):∀n i,i<n->(Kr sz l n).getD i []=(l.drop (i*sz)).take sz
 |0,_,h=>by omega
 |n+1,i,h=>by
  unfold Kr;by_cases u:i<n
  .rw[gDE,gAL (by rw[C3];grind),<-gDE,Ld sz l n i u]
  .obtain rfl:i=n:=by omega
   simp[C3]
def J4:∀(l:List V) (xs:List Int),J5 l=some xs->l=xs.map λn=>.c (.int .i64 n)
 |[],xs,h=>by simp[J5]at h;grind
 |v::l,xs,h=>by
  unfold J5 at h;split at h
  .grind
  .rename_i n B A
   cases A;cases u:J5 l with
   |none=>grind
   |some ys=>
    simp[u]at h;subst h;rw[J4 l ys u];rfl
  grind
theorem LJ(u:Bool)(sz n:Nat)(l:List V):Eqv (.nd true true sz n λi k=>l.getD (i*sz+k) .dead) (slOf u sz n l):=by
 unfold slOf;split
 .rename_i h
  obtain⟨_,rfl,rfl⟩:=h;exact⟨_,rfl,λi k A B=>by omega⟩
 have gen:Eqv (.nd true true sz n λi k=>l.getD (i*sz+k) .dead) (arr true sz (λx=>x) [] (Kr sz l n)):=by
  refine⟨λi k=>((Kr sz l n).getD i []).getD k .dead,by unfold arr;rw[C3],λi k A B=>?_⟩
  show Eqv _ (((Kr sz l n).getD i []).getD k .dead);rw[Ld sz l n i A]
  have:((l.drop (i*sz)).take sz).getD k .dead=l.getD (i*sz+k) .dead:=by
   grind
  rw[this];exact Eqv.refl _
 cases E:J5 l with
 |none=>exact gen
 |some xs=>
  simp only;split
  .rename_i J
   obtain⟨rfl,rfl⟩:=J;refine⟨_,rfl,λi k A B=>?_⟩
   obtain rfl:k=0:=by omega
   rw[J4 l xs E];simp[A,Eqv]
  grind
def Bs(P:Program)(t:TypeId):Bool:=
 match P.underlying t with
 |some (.slice e)=>match P.underlying e with
  |some (.slice e2)=>match P.info? e2 with
   |some i=>match i.zero with
    |some (.int .i64 0)=>true
    |_=>false
   |none=>false
  |_=>false
 |_=>false
def Cb(B:Option SlI)(A:Bool)(len:Nat)(u:List (Nat×V))(K:V->Prop):Prop:=
 match B with
 |some ⟨_,size,_,zero⟩=>u.all (λp=>Bv p.2)=true/\(0<size/\len*size<=16777216)/\
   match Cg (λi=>some (i*size,size)) ((range (len*size)).map λj=>.c (zero.getD (j % size) undef)) u with
   |some l=>l.all Cf=true/\K (slOf A size len l)
   |none=>False
 |none=>False
def Lq(σ:List V)(w:World)(D:Nat->Prop)(ρ:Nat->Value)(F:Nat->Nat->Prop)(vs:List (Nat×V))(cs:List (Nat×Value)):Prop:=
 vs.length=cs.length/\∀(j i:Nat) (v:V),vs[j]? =some (i,v)->∃x,cs[j]? =some (i,x)/\OpR σ w D ρ F v x
theorem Ip{place:Nat->Option (Nat×Nat)}{cs:List (Nat×Value)}{cells A:List V}{B:Array Value}(W:Cg place cells vs=some A)(U:vs.all (λp=>Bv p.2)=true)(E:Lq σ w D ρ F vs cs)
  (Y:PC D w (Aq σ ρ w) cells B):∃u,Instr.fill place B cs=some u/\PC D w (Aq σ ρ w) A u:=by
 refine Zf (λv cv h=>Aq.one h) place vs cs cells A B W Y E.1 λj i v J=>?_
 refine⟨aET.1 U (i,v) (List.mem_of_getElem? J),?_⟩;obtain⟨x,Z,fp,O,_⟩:=E.2 j i v J
 grind
theorem Ic(wr:Bu σ w D ρ F)(ho:o.op=.buildSlice t len ps)(hv:Lq σ w D ρ F vs (ps.toList.map λp=>(p.1,a.eval p.2)))
  {O:Bool} (h:Cb (slI P t) O len vs K):∃r,K r/\Av P o a w σ D ρ r:=by
 unfold Cb at h;split at h
 case h_2=>exact h.elim
 rename_i e size bytes zero hsi;obtain⟨hu,i0,z,hi0,hz,his,_,W,U,hz1⟩:=Dn hsi;simp only at hu hi0 his W U hz1;obtain⟨hp,⟨hs00,hlen⟩,h⟩:=h;split at h
 case h_2=>exact h.elim
 rename_i l hl;obtain⟨himm,hK⟩:=h
 have Y:PC D w (Aq σ ρ w) ((range (len*size)).map λj=>.c (zero.getD (j % size) undef)) ((Array.range (len*size)).map (z.cells[· % z.cells.size]!)):=by
  refine⟨by simp,λj hj=>?_⟩
  simp at hj;have hs0:0<size:=by rcases Nat.eq_zero_or_pos size with h|h;subst h;simp at hj;exact h
  have hm:j % size<z.cells.size:=by rw[U];exact Nat.mod_lt _ hs0
  have e1:(zero.getD (j % size) undef)=z.cells[j % z.cells.size]!:=by
   rw[<-W,U,getElem!_pos z.cells (j % size) hm];simp[hm]
  simp[hj];refine⟨?_,?_,λ_ h=>h⟩
  .have:=e1.symm
   simpa using this
  .refine hz1 _ ?_
   have hl0:j % size<zero.length:=by rw[<-W];simpa using hm
   simp[gEE hl0]
 obtain⟨cs',E,A⟩:=Ip hl hp hv Y;refine⟨_,hK,Av.new (ob:=.cells cs' e) (v':=.slice (some ⟨w.heap.size,0,none⟩) len len) wr ?_ ⟨_,?_,λb h=>h⟩⟩
 .have hn:¬ (16777216<len*size):=by omega
  unfold execOp;rw[ho];by_cases h0:len*size=0
  .have J:Instr.fill (λi=>some (i*size,size)) #[] (ps.toList.map λp=>(p.1,a.eval p.2))=some cs':=by
    have:(Array.range (len*size)).map (z.cells[· % z.cells.size]!)= #[]:=by rw[h0];simp
    rw[<-this];exact E
   simp[Instr.buildSlice,run_underlying hu,sizeOf,typeInfo,hi0,his,hn,h0,newRow];simp[Array.range_zero',J]
  .simp[Instr.buildSlice,run_underlying hu,sizeOf,typeInfo,zeroValue,hi0,hz,his,hn,h0,newRow]
   simp[E]
 .refine Rel.eqv _ _ _ _ (LJ O size len l) ?_
  have B:l.length=len*size:=by
   have h1:=A.1
   have h2:∀(u:List (Nat×V)) (cells l':List V),Cg (λi=>some (i*size,size)) cells u=some l'->l'.length=cells.length:=by
    intro u
    induction u with
    |nil=>intro cells l' h;simp[Cg]at h;rw[h]
    |cons p u ih=>
     intro cells l' h;obtain⟨i,v⟩:=p;simp only[Cg]at h;split at h
     .cases h
     .rw[ih _ _ h]
      have:∀(l:List V) (k:Nat) (c:List V),((l.zipIdx k).foldl (λcs (c,j)=>cs.set (i*size+j) c) c).length=c.length:=by
       intro l
       induction l with
       |nil=>intro k c;rfl
       |cons v l ih=>intro k c;simp only[List.zipIdx_cons,List.foldl_cons];rw[ih];simp
      exact this _ 0 _
   have:=h2 _ _ _ hl;simpa using this
  have Z:len<=maxLen:=by have:=Nat.le_mul_of_pos_right len hs00;unfold maxLen;omega
  exact HF wr.Dlt (T:=e) (s:=true) (cap:=len) (by rw[A.1,B];exact Nat.le_refl _) (Nat.le_refl _) Z (λh=>by cases h) λi k hi hk=>by
   have hlt:i*size+k<l.length:=by
    rw[B];have:(i+1)*size<=len*size:=Nat.mul_le_mul_right _ (by omega)
    rw[Nat.add_mul]at this;omega
   have h1:=A.2 _ hlt;refine CM (aET.1 himm _ ?_) h1;rw[gDE,gEE hlt];exact List.getElem_mem hlt
theorem bs_run(ho:o.op=.buildSlice t len ps)(hv:Lq σ w D ρ F vs (ps.toList.map λp=>(p.1,a.eval p.2)))
  {e:TypeId}{size bytes:Nat}{zero:List Value} (hsi:slI P t=some ⟨e,size,bytes,zero⟩) (hp:vs.all (λp=>Bv p.2)=true) (hs00:0<size) (hlen:len*size<=16777216) {l:List V}
  (hl:Cg (λi=>some (i*size,size)) ((range (len*size)).map λj=>.c (zero.getD (j % size) undef)) vs=some l):
  ∃B,(execOp a.eval o).run P w=.ok (.value (.slice (some ⟨w.heap.size,0,none⟩) len len)) (w.alloc (.cells B e))/\PC D w (Aq σ ρ w) l B/\l.length=len*size:=by
 obtain⟨hu,i0,z,Z,hz,Y,_,U,O,hz1⟩:=Dn hsi;simp only at hu Z Y U O hz1
 have W:PC D w (Aq σ ρ w) ((range (len*size)).map λj=>.c (zero.getD (j % size) undef)) ((Array.range (len*size)).map (z.cells[· % z.cells.size]!)):=by
  refine⟨by simp,λj hj=>?_⟩
  simp at hj;have hs0:0<size:=by rcases Nat.eq_zero_or_pos size with h|h;subst h;simp at hj;exact h
  have hm:j % size<z.cells.size:=by rw[O];exact Nat.mod_lt _ hs0
  have e1:(zero.getD (j % size) undef)=z.cells[j % z.cells.size]!:=by
   rw[<-U,O,getElem!_pos z.cells (j % size) hm];simp[hm]
  simp[hj];refine⟨?_,?_,λ_ h=>h⟩
  .have:=e1.symm
   simpa using this
  .refine hz1 _ ?_
   have hl0:j % size<zero.length:=by rw[<-U];simpa using hm
   simp[gEE hl0]
 obtain⟨B,A,J⟩:=Ip hl hp hv W;refine⟨B,?_,J,?_⟩
 .have hn:¬ (16777216<len*size):=by omega
  unfold execOp;rw[ho];by_cases h0:len*size=0
  .have E:Instr.fill (λi=>some (i*size,size)) #[] (ps.toList.map λp=>(p.1,a.eval p.2))=some B:=by
    have:(Array.range (len*size)).map (z.cells[· % z.cells.size]!)= #[]:=by rw[h0];simp
    rw[<-this];exact A
   simp[Instr.buildSlice,run_underlying hu,sizeOf,typeInfo,Z,Y,hn,h0,newRow];simp[Array.range_zero',E]
  .simp[Instr.buildSlice,run_underlying hu,sizeOf,typeInfo,zeroValue,Z,hz,Y,hn,h0,newRow]
   simp[A]
 .have h1:=J.1
  have h2:∀(u:List (Nat×V)) (cells l':List V),Cg (λi=>some (i*size,size)) cells u=some l'->l'.length=cells.length:=by
   intro u
   induction u with
   |nil=>intro cells l' h;simp[Cg]at h;rw[h]
   |cons p u ih=>
    intro cells l' h;obtain⟨i,v⟩:=p;simp only[Cg]at h;split at h
    .cases h
    .rw[ih _ _ h]
     have:∀(l:List V) (k:Nat) (c:List V),((l.zipIdx k).foldl (λcs (c,j)=>cs.set (i*size+j) c) c).length=c.length:=by
      intro l
      induction l with
      |nil=>intro k c;rfl
      |cons v l ih=>intro k c;simp only[List.zipIdx_cons,List.foldl_cons];rw[ih];simp
     exact this _ 0 _
  have:=h2 _ _ _ hl;simpa using this
end ops
end Go.Ve

