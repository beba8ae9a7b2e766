/- The quiet operations of the small machine that make memory. -/
import Derived.Test.YtojjlnbnneemaaaVf
set_option linter.all false
namespace Go.Ve
variable{ps:Array (Nat×Operand)}{vs:List (Nat×V)}{len:Nat}{fp:Nat->Prop}{t:TypeId}{v:V}{R:V->Value->Prop}{cv:Value}
section ops
variable {P:Program}{o:Oper}{a:Act}{w:World}{σ:List V}{D:Nat->Prop}{ρ:Nat->Value}{F:Nat->Nat->Prop}{K:V->Prop}
theorem HX(Dlt:∀b,D b->b<w.heap.size){R:V->Value->Prop}{T:TypeId}{cs:Array Value}{s:Bool}{sz n cap:Nat}{f:Nat->Nat->V}(M:cap*sz<=cs.size)(hn:n<=cap)(e:n<=maxLen)(B:s=false->n=1)
  (O:∀i k,i<n->k<sz->Rel D w noR (f i k) (cs.getD (i*sz+k) undef) noF):
  Rel D (w.alloc (.cells cs T)) R (.nd s true sz n f) (AD s w.heap.size 0 n cap) (λb=>b=w.heap.size):=by
 have A:(w.alloc (.cells cs T)).heap[w.heap.size]? =some (.cells cs T (0,0)):=by show(w.heap.push _)[w.heap.size]? =_;simp
 refine .inr ⟨w.heap.size,0,cap,λ_ _=>noF,rfl,hn,e,B,λi k L J=>?_,(λh=>by grind),λ_=>⟨⟨cs,T,.plain A,by omega⟩,λ_ _ _ _ h=>h,λ_ _ _ _ _ _ _ _ _ _ h=>h.elim,λx=>⟨λh=>.inl h,λh=>h.elim id fun⟨_,_,_,_,h⟩=>h.elim⟩⟩⟩
 have E:i*sz+k<cs.size:=by
  have:(i+1)*sz<=cap*sz:=Nat.mul_le_mul_right _ (by omega)
  grind
 refine⟨cs.getD (i*sz+k) undef,?_,Rel.mono (λ_ h=>h) (λ_ _ h=>h) _ _ _ (λb A=>Below.heap_alloc _ _ _ (A.elim (Dlt b) λh=>h.elim)) (O i k L J)⟩
 simp_all
def Qa(D:Nat->Prop)(w:World)(R:V->Value->Prop)(l:List V)(cs:Array Value):Prop:=
 cs.size=l.length/\∀j,j<l.length->Rel D w R (l.getD j .dead) (cs.getD j undef) noF
def cellsV:V->List V
 |.many .ag n f=>(List.range n).map f
 |v=>[v]
def Yz(cells:List V)(off:Nat)(l:List V):List V:=(l.zipIdx.foldl (λcs (c,j)=>cs.set (off+j) c) cells)
def Cd(place:Nat->Option (Nat×Nat))(cells:List V):List (Nat×V)->Option (List V)
 |[]=>some cells
 |(i,v)::rest=>match place i with
  |none=>none
  |some (off,size)=>if(cellsV v).length≠size\/cells.length<off+(cellsV v).length then none else Cd place (Yz cells off (cellsV v)) rest
def Bw:V->Bool
 |.many .tu _ _=>false
 |.many .bx _ _=>false
 |.many .ag n f=>(List.range n).all λk=>match f k with|.many ..=>false|.dead=>false|v=>!AS v
 |.dead=>false
 |v=>!AS v
def X6:V->Bool
 |.many (.cl _) _ _=>true
 |.many .. |.dead=>false
 |_=>true
theorem Rel.cells1(h:Rel D w R v cv fp)(B:∀v cv,R v cv->cv.oneCell'=true)(J:X6 v=true):cv.cells= #[cv]/\cv.oneCell'=true:=by
 have E:cv.oneCell'=true:=by
  cases v with
  |c v=>rw[h.1];exact h.2.1
  |dead=>trivial
  |many t n f=>
   cases t with
   |cl g=>
    obtain⟨cs,_,A,_⟩:=h;rw[A];exact Zt
   |_=>trivial
  |nd s own sz n f=>
   rcases h with⟨_,_,e,_⟩|⟨b,o,cap,F,rfl,_⟩
   .obtain⟨a,rfl⟩:=Dk e;rfl
   .cases s<;>rfl
  |rs id p off len=>exact B _ _ h.1
  |rp id p i k=>exact B _ _ h.1
  |rm id p=>exact B _ _ h.1
  |mp own l=>obtain⟨b,rfl,_⟩:=h;rfl
 refine⟨?_,E⟩;cases cv<;>first|rfl|trivial
theorem Am.one(h:Am σ ρ w v cv):cv.oneCell'=true:=by
 cases v with
 |rs id p off len=>
  obtain⟨_,sz,n,f,e,_,_,h⟩:=h;rcases h with⟨_,_,_,_,rfl⟩|⟨_,_,rfl,_⟩<;>rfl
 |rp id p i k=>
  obtain⟨_,s,sz,n,f,b,o,cap,_,_,_,rfl⟩:=h;rfl
 |rm id p=>obtain⟨_,l,b,_,rfl⟩:=h;rfl
 |mp=>exact h.elim
 |c _=>trivial
 |dead=>trivial
 |many=>trivial
 |nd=>trivial
theorem Ce(hR:∀v cv,R v cv->cv.oneCell'=true)(B:Bw v=true)(h:Rel D w R v cv fp):Qa D w R (cellsV v) cv.cells/\∀b,¬fp b:=by
 have A:∀v:V,X6 v=true->AS v=false->cellsV v=[v]->Rel D w R v cv fp->Qa D w R (cellsV v) cv.cells/\∀b,¬fp b:=by
  intro v Y W L h;have U:=AF _ _ _ W h;obtain⟨hc,_⟩:=Rel.cells1 h hR Y;rw[L,hc];refine⟨⟨rfl,λj J=>?_⟩,U⟩
  obtain rfl:j=0:=by simp at J;omega
  have:=Bb U;subst this;exact h
 cases v with
 |c v=>exact A _ rfl rfl rfl h
 |dead=>cases B
 |nd s own sz n f=>exact A _ rfl (by simpa [Bw]using B) rfl h
 |rs id p off len=>exact A _ rfl rfl rfl h
 |rp id p i k=>exact A _ rfl rfl rfl h
 |rm id p=>exact A _ rfl rfl rfl h
 |mp own l=>exact A _ rfl (by simpa [Bw]using B) rfl h
 |many t n f=>
  cases t with
  |bx=>cases B
  |tu=>cases B
  |cl g=>
   have B:(!AS (V.many (.cl g) n f))=true:=B;exact A _ rfl (by simpa using B) rfl h
  |ag=>
   obtain⟨cs,F',rfl,hn,M,_,Z⟩:=h;have E:∀k,k<n->∀b,¬F' k b:=by
    intro k O;have h1:=aET.1 (show(List.range n).all _=true from B) k (List.mem_range.2 O)
    refine AF (f k) _ _ ?_ (M k O)
    grind
   refine⟨⟨by simp[cellsV,Value.cells,hn],λj J=>?_⟩,λb hb=>?_⟩
   .simp[cellsV]at J
    have e:(cellsV (.many .ag n f)).getD j .dead=f j:=by simp[cellsV,J]
    rw[e];have:=M j J;rw[Bb (E j J)]at this;exact this
   grind
theorem Yy(l:List V):∀(vs:List Value) (k off:Nat) (cells:List V) (cs:Array Value),vs.length=l.length->(∀j,j<l.length->Rel D w R (l.getD j .dead) (vs.getD j undef) noF)->Qa D w R cells cs->
  Qa D w R ((l.zipIdx k).foldl (λcs (c,j)=>cs.set (off+j) c) cells) ((vs.zipIdx k).foldl (λcs (c,j)=>cs.setIfInBounds (off+j) c) cs):=by
 induction l with
 |nil=>intro vs k off cells cs A _ h;cases vs<;>first|exact h|cases A
 |cons v l E=>
  intro vs k off cells cs A B h;cases vs with
  |nil=>cases A
  |cons x vs=>
   refine E vs (k+1) off _ _ (by simpa using A) (λj e=>by simpa using B (j+1) (by simp;omega)) ?_
   refine⟨by simp[h.1],λj e=>?_⟩
   simp only[List.length_set]at e;by_cases J:off+k=j
   .subst J
    have M:Rel D w R v x noF:=by simpa using B 0 (by simp)
    have L:off+k<cs.size:=by rw[h.1];exact e
    simp[e,L];exact M
   .have:=h.2 j e
    simp_all
def Zl(hR:∀v cv,R v cv->cv.oneCell'=true)(place:Nat->Option (Nat×Nat)):∀(A:List (Nat×V)) (e:List (Nat×Value)) (cells B:List V) (cs:Array Value),Cd place cells A=some B->Qa D w R cells cs->
  A.length=e.length->(∀(j i:Nat) (v:V),A[j]? =some (i,v)->Bw v=true/\∃x fp,e[j]? =some (i,x)/\Rel D w R v x fp)->∃M,Instr.fill place cs e=some M/\Qa D w R B M:=by
 intro A
 induction A with
 |nil=>
  intro e cells B cs h O U _;cases e with
  |nil=>simp[Cd]at h;subst h;exact⟨cs,rfl,O⟩
  |cons=>cases U
 |cons p A ih=>
  intro e cells B cs h O U hp;obtain⟨i,v⟩:=p;cases e with
  |nil=>cases U
  |cons c e=>
   obtain⟨Y,x,fp,hx,W⟩:=hp 0 i v rfl;simp at hx;subst hx;unfold Cd at h;split at h
   .cases h
   rename_i off size J;split at h
   .cases h
   rename_i hcond;obtain⟨L,_⟩:=Ce hR Y W;have h1:x.cells.size=(cellsV v).length:=L.1;have h2:cs.size=cells.length:=O.1
   have hn:¬ ((decide (x.cells.size≠size)||decide (off+x.cells.size>cs.size))=true):=by
    simp only[Bool.or_eq_true,decide_eq_true_eq];rw[h1,h2];omega
   unfold Instr.fill;simp only[J];rw[if_neg hn]
   have E:Qa D w R (Yz cells off (cellsV v)) (x.cells.zipIdx.foldl (λcs (c,j)=>cs.setIfInBounds (off+j) c) cs):=by
    have:=Yy (cellsV v) x.cells.toList 0 off cells cs (by simpa using h1) (λj Z=>by simpa using L.2 j Z) O
    rw[<-Array.foldl_toList];simpa [Yz]using this
   exact ih e _ B _ h E (by simpa using U) (λj i v Z=>by simpa using hp (j+1) i v (by simpa using Z))
def Cc:V->Bool
 |.c _=>true
 |.nd _ own _ _ _=>!own
 |.many (.cl _) n f=>(List.range n).all λk=>Cc (f k)
 |_=>false
theorem CX:∀{cv:Value}{fp:Nat->Prop} (_:Cc v=true) (_:Rel D w R v cv fp),Rel D w noR v cv fp:=by
 induction v with
 |many t n f E=>
  intro cv fp h e;cases t with
  |cl g=>
   obtain⟨cs,F,A,hn,e,hd,J⟩:=e;exact⟨cs,F,A,hn,λk B=>E k (aET.1 h k (List.mem_range.2 B)) (e k B),hd,J⟩
  |_=>cases h
 |_=>intro cv fp h e;trivial
def KB:List V->Option (List Int)
 |[]=>some []
 |.c (.int .i64 n)::l=>(KB l).map (n:: ·)
 |_=>none
def KY(sz:Nat)(l:List V):Nat->List (List V)
 |0=>[]
 |n+1=>KY sz l n++[(l.drop (n*sz)).take sz]
def slOf(e:Bool)(sz n:Nat)(l:List V):V:=
 if e=true/\sz=1/\n=0 then rows true []else
 match KB l with
 |some xs=>if sz=1/\xs.length=n then ints true xs else arr true sz (λx=>x) [] (KY sz l n)
 |none=>arr true sz (λx=>x) [] (KY sz l n)
def Db(sz:Nat)(l:List V):∀n,(KY sz l n).length=n
 |0=>rfl
 |n+1=>by unfold KY;simp[Db sz l n]
def LF(sz:Nat)(l:List V):∀n i,i<n->(KY sz l n).getD i []=(l.drop (i*sz)).take sz
 |0,_,h=>by omega
 |n+1,i,h=>by
  unfold KY;by_cases e:i<n
  .rw[gDE,gAL (by rw[Db];grind),<-gDE,LF sz l n i e]
  .obtain rfl:i=n:=by omega
   simp[Db]
def KA:∀(l:List V) (xs:List Int),KB l=some xs->l=xs.map λn=>.c (.int .i64 n)
 |[],xs,h=>by simp[KB]at h;grind
 |v::l,xs,h=>by
  unfold KB at h;split at h
  .grind
  .rename_i n B A
   cases A;cases e:KB l with
   |none=>grind
   |some ys=>
    simp[e]at h;subst h;rw[KA l ys e];rfl
  grind
theorem Mk(e:Bool)(sz n:Nat)(l:List V):Eqv (.nd true true sz n λi k=>l.getD (i*sz+k) .dead) (slOf e sz n l):=by
 unfold slOf;split
 .rename_i h
  obtain⟨_,rfl,rfl⟩:=h;exact⟨_,rfl,λi k A E=>by omega⟩
 have B:Eqv (.nd true true sz n λi k=>l.getD (i*sz+k) .dead) (arr true sz (λx=>x) [] (KY sz l n)):=by
  refine⟨λi k=>((KY sz l n).getD i []).getD k .dead,by unfold arr;rw[Db],λi k A E=>?_⟩
  show Eqv _ (((KY sz l n).getD i []).getD k .dead);rw[LF sz l n i A]
  have:((l.drop (i*sz)).take sz).getD k .dead=l.getD (i*sz+k) .dead:=by
   grind
  rw[this];exact Eqv.refl _
 cases J:KB l with
 |none=>exact B
 |some xs=>
  simp only;split
  .rename_i hn
   obtain⟨rfl,rfl⟩:=hn;refine⟨_,rfl,λi k A E=>?_⟩
   obtain rfl:k=0:=by omega
   rw[KA l xs J];simp[A,Eqv]
  grind
def Abc(P:Program)(t:TypeId):Bool:=
 match P.underlying t with
 |some (.slice e)=>match P.underlying e with
  |some (.slice e2)=>match P.info? e2 with
   |some i=>match i.zero with
    |some (.int .i64 0)=>true
    |_=>false
   |none=>false
  |_=>false
 |_=>false
def B8(B:Option SlI)(A:Bool)(len:Nat)(e:List (Nat×V))(K:V->Prop):Prop:=
 match B with
 |some ⟨_,size,_,zero⟩=>e.all (λp=>Bw p.2)=true/\(0<size/\len*size<=16777216)/\
   match Cd (λi=>some (i*size,size)) ((List.range (len*size)).map λj=>.c (zero.getD (j % size) undef)) e with
   |some l=>l.all Cc=true/\K (slOf A size len l)
   |none=>False
 |none=>False
def LY(σ:List V)(w:World)(D:Nat->Prop)(ρ:Nat->Value)(F:Nat->Nat->Prop)(vs:List (Nat×V))(cs:List (Nat×Value)):Prop:=
 vs.length=cs.length/\∀(j i:Nat) (v:V),vs[j]? =some (i,v)->∃x,cs[j]? =some (i,x)/\OpR σ w D ρ F v x
theorem IN{place:Nat->Option (Nat×Nat)}{cs:List (Nat×Value)}{cells A:List V}{B:Array Value}(O:Cd place cells vs=some A)(M:vs.all (λp=>Bw p.2)=true)(E:LY σ w D ρ F vs cs)
  (U:Qa D w (Am σ ρ w) cells B):∃e,Instr.fill place B cs=some e/\Qa D w (Am σ ρ w) A e:=by
 refine Zl (λv cv h=>Am.one h) place vs cs cells A B O U E.1 λj i v J=>?_
 refine⟨aET.1 M (i,v) (List.mem_of_getElem? J),?_⟩;obtain⟨x,W,fp,L,_⟩:=E.2 j i v J
 grind
theorem Iz(wr:Bs σ w D ρ F)(ho:o.op=.buildSlice t len ps)(hv:LY σ w D ρ F vs (ps.toList.map λp=>(p.1,a.eval p.2)))
  {M:Bool} (h:B8 (slI P t) M len vs K):∃r,K r/\Av P o a w σ D ρ r:=by
 unfold B8 at h;split at h
 case h_2=>exact h.elim
 rename_i e size bytes zero hsi;obtain⟨hu,i0,z,hi0,hz,his,_,U,O,hz1⟩:=C8 hsi;simp only at hu hi0 his U O hz1;obtain⟨hp,⟨hs00,hlen⟩,h⟩:=h;split at h
 case h_2=>exact h.elim
 rename_i l hl;obtain⟨himm,hK⟩:=h
 have W:Qa D w (Am σ ρ w) ((List.range (len*size)).map λj=>.c (zero.getD (j % size) undef)) ((Array.range (len*size)).map (z.cells[· % z.cells.size]!)):=by
  refine⟨by simp,λj hj=>?_⟩
  simp at hj;have hs0:0<size:=by rcases Nat.eq_zero_or_pos size with h|h;subst h;simp at hj;exact h
  have hm:j % size<z.cells.size:=by rw[O];exact Nat.mod_lt _ hs0
  have e1:(zero.getD (j % size) undef)=z.cells[j % z.cells.size]!:=by
   rw[<-U,O,getElem!_pos z.cells (j % size) hm];simp[hm]
  simp[hj];refine⟨?_,?_,λ_ h=>h⟩
  .have:=e1.symm
   simpa using this
  .refine hz1 _ ?_
   have hl0:j % size<zero.length:=by rw[<-U];simpa using hm
   simp[gEE hl0]
 obtain⟨cs',J,B⟩:=IN hl hp hv W;refine⟨_,hK,Av.new (ob:=.cells cs' e) (v':=.slice (some ⟨w.heap.size,0,none⟩) len len) wr ?_ ⟨_,?_,λb h=>h⟩⟩
 .have hn:¬ (16777216<len*size):=by omega
  unfold execOp;rw[ho];by_cases h0:len*size=0
  .have L:Instr.fill (λi=>some (i*size,size)) #[] (ps.toList.map λp=>(p.1,a.eval p.2))=some cs':=by
    have:(Array.range (len*size)).map (z.cells[· % z.cells.size]!)= #[]:=by rw[h0];simp
    rw[<-this];exact J
   simp[Instr.buildSlice,run_underlying hu,sizeOf,typeInfo,hi0,his,hn,h0,newRow];simp[Array.range_zero',L]
  .simp[Instr.buildSlice,run_underlying hu,sizeOf,typeInfo,zeroValue,hi0,hz,his,hn,h0,newRow]
   simp[J]
 .refine Rel.eqv _ _ _ _ (Mk M size len l) ?_
  have E:l.length=len*size:=by
   have h1:=B.1
   have h2:∀(A:List (Nat×V)) (cells l':List V),Cd (λi=>some (i*size,size)) cells A=some l'->l'.length=cells.length:=by
    intro A
    induction A with
    |nil=>intro cells l' h;simp[Cd]at h;rw[h]
    |cons p A ih=>
     intro cells l' h;obtain⟨i,v⟩:=p;simp only[Cd]at h;split at h
     .cases h
     .rw[ih _ _ h]
      have:∀(l:List V) (k:Nat) (c:List V),((l.zipIdx k).foldl (λcs (c,j)=>cs.set (i*size+j) c) c).length=c.length:=by
       intro l
       induction l with
       |nil=>intro k c;rfl
       |cons v l ih=>intro k c;simp only[List.zipIdx_cons,List.foldl_cons];rw[ih];simp
      exact this _ 0 _
   have:=h2 _ _ _ hl;simpa using this
  have Y:len<=maxLen:=by have:=Nat.le_mul_of_pos_right len hs00;unfold maxLen;omega
  exact HX wr.Dlt (T:=e) (s:=true) (cap:=len) (by rw[B.1,E];exact Nat.le_refl _) (Nat.le_refl _) Y (λh=>by cases h) λi k hi hk=>by
   have Z:i*size+k<l.length:=by
    rw[E];have:(i+1)*size<=len*size:=Nat.mul_le_mul_right _ (by omega)
    rw[Nat.add_mul]at this;omega
   have h1:=B.2 _ Z;refine CX (aET.1 himm _ ?_) h1;rw[gDE,gEE Z];exact List.getElem_mem Z
theorem bs_run(ho:o.op=.buildSlice t len ps)(hv:LY σ w D ρ F vs (ps.toList.map λp=>(p.1,a.eval p.2)))
  {e:TypeId}{size bytes:Nat}{zero:List Value} (hsi:slI P t=some ⟨e,size,bytes,zero⟩) (hp:vs.all (λp=>Bw p.2)=true) (hs00:0<size) (hlen:len*size<=16777216) {l:List V}
  (hl:Cd (λi=>some (i*size,size)) ((List.range (len*size)).map λj=>.c (zero.getD (j % size) undef)) vs=some l):
  ∃E,(execOp a.eval o).run P w=.ok (.value (.slice (some ⟨w.heap.size,0,none⟩) len len)) (w.alloc (.cells E e))/\Qa D w (Am σ ρ w) l E/\l.length=len*size:=by
 obtain⟨hu,i0,z,Y,hz,W,_,O,M,Z⟩:=C8 hsi;simp only at hu Y W O M Z
 have U:Qa D w (Am σ ρ w) ((List.range (len*size)).map λj=>.c (zero.getD (j % size) undef)) ((Array.range (len*size)).map (z.cells[· % z.cells.size]!)):=by
  refine⟨by simp,λj hj=>?_⟩
  simp at hj;have hs0:0<size:=by rcases Nat.eq_zero_or_pos size with h|h;subst h;simp at hj;exact h
  have hm:j % size<z.cells.size:=by rw[M];exact Nat.mod_lt _ hs0
  have e1:(zero.getD (j % size) undef)=z.cells[j % z.cells.size]!:=by
   rw[<-O,M,getElem!_pos z.cells (j % size) hm];simp[hm]
  simp[hj];refine⟨?_,?_,λ_ h=>h⟩
  .have:=e1.symm
   simpa using this
  .refine Z _ ?_
   have hl0:j % size<zero.length:=by rw[<-O];simpa using hm
   simp[gEE hl0]
 obtain⟨E,B,L⟩:=IN hl hp hv U;refine⟨E,?_,L,?_⟩
 .have hn:¬ (16777216<len*size):=by omega
  unfold execOp;rw[ho];by_cases h0:len*size=0
  .have J:Instr.fill (λi=>some (i*size,size)) #[] (ps.toList.map λp=>(p.1,a.eval p.2))=some E:=by
    have:(Array.range (len*size)).map (z.cells[· % z.cells.size]!)= #[]:=by rw[h0];simp
    rw[<-this];exact B
   simp[Instr.buildSlice,run_underlying hu,sizeOf,typeInfo,Y,W,hn,h0,newRow];simp[Array.range_zero',J]
  .simp[Instr.buildSlice,run_underlying hu,sizeOf,typeInfo,zeroValue,Y,hz,W,hn,h0,newRow]
   simp[B]
 .have h1:=L.1
  have h2:∀(A:List (Nat×V)) (cells l':List V),Cd (λi=>some (i*size,size)) cells A=some l'->l'.length=cells.length:=by
   intro A
   induction A with
   |nil=>intro cells l' h;simp[Cd]at h;rw[h]
   |cons p A ih=>
    intro cells l' h;obtain⟨i,v⟩:=p;simp only[Cd]at h;split at h
    .cases h
    .rw[ih _ _ h]
     have:∀(l:List V) (k:Nat) (c:List V),((l.zipIdx k).foldl (λcs (c,j)=>cs.set (i*size+j) c) c).length=c.length:=by
      intro l
      induction l with
      |nil=>intro k c;rfl
      |cons v l ih=>intro k c;simp only[List.zipIdx_cons,List.foldl_cons];rw[ih];simp
     exact this _ 0 _
  have:=h2 _ _ _ hl;simpa using this
end ops
end Go.Ve

