/- The quiet operations of the small machine that make memory. -/
import Derived.Test.YtdhfaeiafmlhlaaVf
set_option linter.all false
namespace Go.Ve
variable{ps:Array (Nat×Operand)}{vs:List (Nat×V)}{len:Nat}{fp:Nat->Prop}{t:TypeId}{v:V}{R:V->Value->Prop}{cv:Value}
section ops
variable {P:Program}{o:Oper}{a:Act}{w:World}{σ:List V}{D:Nat->Prop}{ρ:Nat->Value}{F:Nat->Nat->Prop}{K:V->Prop}
theorem HT(Dlt:∀b,D b->b<w.heap.size){R:V->Value->Prop}{T:TypeId}{cs:Array Value}{s:Bool}{sz n cap:Nat}{f:Nat->Nat->V}(U:cap*sz<=cs.size)(E:n<=cap)(e:n<=maxLen)(B:s=false->n=1)
  (W:∀i k,i<n->k<sz->Rel D w noR (f i k) (cs.getD (i*sz+k) undef) noF):
  Rel D (w.alloc (.cells cs T)) R (.nd s true sz n f) (AA s w.heap.size 0 n cap) (λb=>b=w.heap.size):=by
 have A:(w.alloc (.cells cs T)).heap[w.heap.size]? =some (.cells cs T (0,0)):=by show(w.heap.push _)[w.heap.size]? =_;simp
 refine .inr ⟨w.heap.size,0,cap,λ_ _=>noF,rfl,E,e,B,λi k hi O=>?_,(λh=>by grind),λ_=>⟨⟨cs,T,.plain A,by omega⟩,λ_ _ _ _ h=>h,λ_ _ _ _ _ _ _ _ _ _ h=>h.elim,λx=>⟨λh=>.inl h,λh=>h.elim id fun⟨_,_,_,_,h⟩=>h.elim⟩⟩⟩
 have J:i*sz+k<cs.size:=by
  have:(i+1)*sz<=cap*sz:=Nat.mul_le_mul_right _ (by omega)
  grind
 refine⟨cs.getD (i*sz+k) undef,?_,Rel.mono (λ_ h=>h) (λ_ _ h=>h) _ _ _ (λb A=>Below.heap_alloc _ _ _ (A.elim (Dlt b) λh=>h.elim)) (W i k hi O)⟩
 simp_all
def Qv(D:Nat->Prop)(w:World)(R:V->Value->Prop)(l:List V)(cs:Array Value):Prop:=
 cs.size=l.length/\∀j,j<l.length->Rel D w R (l.getD j .dead) (cs.getD j undef) noF
def cellsV:V->List V
 |.many .ag n f=>(List.range n).map f
 |v=>[v]
def ZA(cells:List V)(off:Nat)(l:List V):List V:=(l.zipIdx.foldl (λcs (c,j)=>cs.set (off+j) c) cells)
def Cd(place:Nat->Option (Nat×Nat))(cells:List V):List (Nat×V)->Option (List V)
 |[]=>some cells
 |(i,v)::rest=>match place i with
  |none=>none
  |some (off,size)=>if(cellsV v).length≠size\/cells.length<off+(cellsV v).length then none else Cd place (ZA cells off (cellsV v)) rest
def Bu:V->Bool
 |.many .tu _ _=>false
 |.many .bx _ _=>false
 |.many .ag n f=>(List.range n).all λk=>match f k with|.many ..=>false|.dead=>false|v=>!AM v
 |.dead=>false
 |v=>!AM v
def Za:V->Bool
 |.many (.cl _) _ _=>true
 |.many .. |.dead=>false
 |_=>true
theorem Rel.cells1(h:Rel D w R v cv fp)(B:∀v cv,R v cv->cv.oneCell'=true)(J:Za v=true):cv.cells= #[cv]/\cv.oneCell'=true:=by
 have E:cv.oneCell'=true:=by
  cases v with
  |c v=>rw[h.1];exact h.2.1
  |dead=>trivial
  |many t n f=>
   cases t with
   |cl g=>
    obtain⟨cs,_,A,_⟩:=h;rw[A];exact Aax
   |_=>trivial
  |nd s own sz n f=>
   rcases h with⟨_,_,e,_⟩|⟨b,o,cap,F,rfl,_⟩
   .obtain⟨a,rfl⟩:=Dc e;rfl
   .cases s<;>rfl
  |rs id p off len=>exact B _ _ h.1
  |rp id p i k=>exact B _ _ h.1
  |rm id p=>exact B _ _ h.1
  |mp own l=>obtain⟨b,rfl,_⟩:=h;rfl
 refine⟨?_,E⟩;cases cv<;>first|rfl|trivial
theorem Ak.one(h:Ak σ ρ w v cv):cv.oneCell'=true:=by
 cases v with
 |rs id p off len=>
  obtain⟨_,sz,n,f,e,_,_,h⟩:=h;rcases h with⟨_,_,_,_,rfl⟩|⟨_,_,rfl,_⟩<;>rfl
 |rp id p i k=>
  obtain⟨_,s,sz,n,f,b,o,cap,_,_,_,rfl⟩:=h;rfl
 |rm id p=>obtain⟨_,l,b,_,rfl⟩:=h;rfl
 |mp=>exact h.elim
 |c _=>trivial
 |dead=>trivial
 |many=>trivial
 |nd=>trivial
theorem Ce(hR:∀v cv,R v cv->cv.oneCell'=true)(B:Bu v=true)(h:Rel D w R v cv fp):Qv D w R (cellsV v) cv.cells/\∀b,¬fp b:=by
 have A:∀v:V,Za v=true->AM v=false->cellsV v=[v]->Rel D w R v cv fp->Qv D w R (cellsV v) cv.cells/\∀b,¬fp b:=by
  intro v hm Y J h;have W:=AB _ _ _ Y h;obtain⟨hc,_⟩:=Rel.cells1 h hR hm;rw[J,hc];refine⟨⟨rfl,λj hj=>?_⟩,W⟩
  obtain rfl:j=0:=by simp at hj;omega
  have:=A6 W;subst this;exact h
 cases v with
 |c v=>exact A _ rfl rfl rfl h
 |dead=>cases B
 |nd s own sz n f=>exact A _ rfl (by simpa [Bu]using B) rfl h
 |rs id p off len=>exact A _ rfl rfl rfl h
 |rp id p i k=>exact A _ rfl rfl rfl h
 |rm id p=>exact A _ rfl rfl rfl h
 |mp own l=>exact A _ rfl (by simpa [Bu]using B) rfl h
 |many t n f=>
  cases t with
  |bx=>cases B
  |tu=>cases B
  |cl g=>
   have B:(!AM (V.many (.cl g) n f))=true:=B;exact A _ rfl (by simpa using B) rfl h
  |ag=>
   obtain⟨cs,F',rfl,Z,O,_,hfp⟩:=h;have E:∀k,k<n->∀b,¬F' k b:=by
    intro k U;have h1:=aET.1 (show(List.range n).all _=true from B) k (List.mem_range.2 U)
    refine AB (f k) _ _ ?_ (O k U)
    grind
   refine⟨⟨by simp[cellsV,Value.cells,Z],λj hj=>?_⟩,λb hb=>?_⟩
   .simp[cellsV]at hj
    have e:(cellsV (.many .ag n f)).getD j .dead=f j:=by simp[cellsV,hj]
    rw[e];have:=O j hj;rw[A6 (E j hj)]at this;exact this
   grind
theorem Zz(l:List V):∀(vs:List Value) (k off:Nat) (cells:List V) (cs:Array Value),vs.length=l.length->(∀j,j<l.length->Rel D w R (l.getD j .dead) (vs.getD j undef) noF)->Qv D w R cells cs->
  Qv D w R ((l.zipIdx k).foldl (λcs (c,j)=>cs.set (off+j) c) cells) ((vs.zipIdx k).foldl (λcs (c,j)=>cs.setIfInBounds (off+j) c) cs):=by
 induction l with
 |nil=>intro vs k off cells cs e _ h;cases vs<;>first|exact h|cases e
 |cons v l B=>
  intro vs k off cells cs e A h;cases vs with
  |nil=>cases e
  |cons x vs=>
   refine B vs (k+1) off _ _ (by simpa using e) (λj hj=>by simpa using A (j+1) (by simp;omega)) ?_
   refine⟨by simp[h.1],λj hj=>?_⟩
   simp only[List.length_set]at hj;by_cases E:off+k=j
   .subst E
    have O:Rel D w R v x noF:=by simpa using A 0 (by simp)
    have J:off+k<cs.size:=by rw[h.1];exact hj
    simp[hj,J];exact O
   .have:=h.2 j hj
    simp_all
def Aat(hR:∀v cv,R v cv->cv.oneCell'=true)(place:Nat->Option (Nat×Nat)):∀(A:List (Nat×V)) (e:List (Nat×Value)) (cells B:List V) (cs:Array Value),Cd place cells A=some B->Qv D w R cells cs->
  A.length=e.length->(∀(j i:Nat) (v:V),A[j]? =some (i,v)->Bu v=true/\∃x fp,e[j]? =some (i,x)/\Rel D w R v x fp)->∃U,Instr.fill place cs e=some U/\Qv D w R B U:=by
 intro A
 induction A with
 |nil=>
  intro e cells B cs h W Y _;cases e with
  |nil=>simp[Cd]at h;subst h;exact⟨cs,rfl,W⟩
  |cons=>cases Y
 |cons p A ih=>
  intro e cells B cs h W Y hp;obtain⟨i,v⟩:=p;cases e with
  |nil=>cases Y
  |cons c e=>
   obtain⟨hpl,x,fp,hx,Z⟩:=hp 0 i v rfl;simp at hx;subst hx;unfold Cd at h;split at h
   .cases h
   rename_i off size J;split at h
   .cases h
   rename_i hcond;obtain⟨O,_⟩:=Ce hR hpl Z;have h1:x.cells.size=(cellsV v).length:=O.1;have h2:cs.size=cells.length:=W.1
   have hn:¬ ((decide (x.cells.size≠size)||decide (off+x.cells.size>cs.size))=true):=by
    simp only[Bool.or_eq_true,decide_eq_true_eq];rw[h1,h2];omega
   unfold Instr.fill;simp only[J];rw[if_neg hn]
   have E:Qv D w R (ZA cells off (cellsV v)) (x.cells.zipIdx.foldl (λcs (c,j)=>cs.setIfInBounds (off+j) c) cs):=by
    have:=Zz (cellsV v) x.cells.toList 0 off cells cs (by simpa using h1) (λj hj=>by simpa using O.2 j hj) W
    rw[<-Array.foldl_toList];simpa [ZA]using this
   exact ih e _ B _ h E (by simpa using Y) (λj i v hj=>by simpa using hp (j+1) i v (by simpa using hj))
def Cc:V->Bool
 |.c _=>true
 |.nd _ own _ _ _=>!own
 |.many (.cl _) n f=>(List.range n).all λk=>Cc (f k)
 |_=>false
theorem CF:∀{cv:Value}{fp:Nat->Prop} (_:Cc v=true) (_:Rel D w R v cv fp),Rel D w noR v cv fp:=by
 induction v with
 |many t n f E=>
  intro cv fp h e;cases t with
  |cl g=>
   obtain⟨cs,F,A,J,e,hd,O⟩:=e;exact⟨cs,F,A,J,λk B=>E k (aET.1 h k (List.mem_range.2 B)) (e k B),hd,O⟩
  |_=>cases h
 |_=>intro cv fp h e;trivial
def KJ:List V->Option (List Int)
 |[]=>some []
 |.c (.int .i64 n)::l=>(KJ l).map (n:: ·)
 |_=>none
def K9(sz:Nat)(l:List V):Nat->List (List V)
 |0=>[]
 |n+1=>K9 sz l n++[(l.drop (n*sz)).take sz]
def slOf(e:Bool)(sz n:Nat)(l:List V):V:=
 if e=true/\sz=1/\n=0 then rows true []else
 match KJ l with
 |some xs=>if sz=1/\xs.length=n then ints true xs else arr true sz (λx=>x) [] (K9 sz l n)
 |none=>arr true sz (λx=>x) [] (K9 sz l n)
def CY(sz:Nat)(l:List V):∀n,(K9 sz l n).length=n
 |0=>rfl
 |n+1=>by unfold K9;simp[CY sz l n]
def L8(sz:Nat)(l:List V):∀n i,i<n->(K9 sz l n).getD i []=(l.drop (i*sz)).take sz
 |0,_,h=>by omega
 |n+1,i,h=>by
  unfold K9;by_cases hi:i<n
  .rw[gDE,gAL (by rw[CY];grind),<-gDE,L8 sz l n i hi]
  .obtain rfl:i=n:=by omega
   simp[CY]
def KI:∀(l:List V) (xs:List Int),KJ l=some xs->l=xs.map λn=>.c (.int .i64 n)
 |[],xs,h=>by simp[KJ]at h;grind
 |v::l,xs,h=>by
  unfold KJ at h;split at h
  .grind
  .rename_i n B A
   cases A;cases e:KJ l with
   |none=>grind
   |some ys=>
    simp[e]at h;subst h;rw[KI l ys e];rfl
  grind
theorem MF(e:Bool)(sz n:Nat)(l:List V):Eqv (.nd true true sz n λi k=>l.getD (i*sz+k) .dead) (slOf e sz n l):=by
 unfold slOf;split
 .rename_i h
  obtain⟨_,rfl,rfl⟩:=h;exact⟨_,rfl,λi k hi A=>by omega⟩
 have gen:Eqv (.nd true true sz n λi k=>l.getD (i*sz+k) .dead) (arr true sz (λx=>x) [] (K9 sz l n)):=by
  refine⟨λi k=>((K9 sz l n).getD i []).getD k .dead,by unfold arr;rw[CY],λi k hi A=>?_⟩
  show Eqv _ (((K9 sz l n).getD i []).getD k .dead);rw[L8 sz l n i hi]
  have:((l.drop (i*sz)).take sz).getD k .dead=l.getD (i*sz+k) .dead:=by
   grind
  rw[this];exact Eqv.refl _
 cases B:KJ l with
 |none=>exact gen
 |some xs=>
  simp only;split
  .rename_i E
   obtain⟨rfl,rfl⟩:=E;refine⟨_,rfl,λi k hi A=>?_⟩
   obtain rfl:k=0:=by omega
   rw[KI l xs B];simp[hi,Eqv]
  grind
def Ach(P:Program)(t:TypeId):Bool:=
 match P.underlying t with
 |some (.slice e)=>match P.underlying e with
  |some (.slice e2)=>match P.info? e2 with
   |some i=>match i.zero with
    |some (.int .i64 0)=>true
    |_=>false
   |none=>false
  |_=>false
 |_=>false
def B8(B:Option SlI)(A:Bool)(len:Nat)(e:List (Nat×V))(K:V->Prop):Prop:=
 match B with
 |some ⟨_,size,_,zero⟩=>e.all (λp=>Bu p.2)=true/\(0<size/\len*size<=16777216)/\
   match Cd (λi=>some (i*size,size)) ((List.range (len*size)).map λj=>.c (zero.getD (j % size) undef)) e with
   |some l=>l.all Cc=true/\K (slOf A size len l)
   |none=>False
 |none=>False
def Ml(σ:List V)(w:World)(D:Nat->Prop)(ρ:Nat->Value)(F:Nat->Nat->Prop)(vs:List (Nat×V))(cs:List (Nat×Value)):Prop:=
 vs.length=cs.length/\∀(j i:Nat) (v:V),vs[j]? =some (i,v)->∃x,cs[j]? =some (i,x)/\OpR σ w D ρ F v x
theorem IL{place:Nat->Option (Nat×Nat)}{cs:List (Nat×Value)}{cells A:List V}{B:Array Value}(U:Cd place cells vs=some A)(O:vs.all (λp=>Bu p.2)=true)(E:Ml σ w D ρ F vs cs)
  (W:Qv D w (Ak σ ρ w) cells B):∃e,Instr.fill place B cs=some e/\Qv D w (Ak σ ρ w) A e:=by
 refine Aat (λv cv h=>Ak.one h) place vs cs cells A B U W E.1 λj i v hj=>?_
 refine⟨aET.1 O (i,v) (List.mem_of_getElem? hj),?_⟩;obtain⟨x,Y,fp,J,_⟩:=E.2 j i v hj
 grind
theorem Iv(wr:Bl σ w D ρ F)(ho:o.op=.buildSlice t len ps)(hv:Ml σ w D ρ F vs (ps.toList.map λp=>(p.1,a.eval p.2)))
  {U:Bool} (h:B8 (slI P t) U len vs K):∃r,K r/\Au P o a w σ D ρ r:=by
 unfold B8 at h;split at h
 case h_2=>exact h.elim
 rename_i e size bytes zero hsi;obtain⟨hu,i0,z,hi0,hz,his,_,Y,W,hz1⟩:=CS hsi;simp only at hu hi0 his Y W hz1;obtain⟨hp,⟨hs00,hlen⟩,h⟩:=h;split at h
 case h_2=>exact h.elim
 rename_i l hl;obtain⟨himm,hK⟩:=h
 have Z:Qv D w (Ak σ ρ w) ((List.range (len*size)).map λj=>.c (zero.getD (j % size) undef)) ((Array.range (len*size)).map (z.cells[· % z.cells.size]!)):=by
  refine⟨by simp,λj hj=>?_⟩
  simp at hj;have hs0:0<size:=by rcases Nat.eq_zero_or_pos size with h|h;subst h;simp at hj;exact h
  have hm:j % size<z.cells.size:=by rw[W];exact Nat.mod_lt _ hs0
  have e1:(zero.getD (j % size) undef)=z.cells[j % z.cells.size]!:=by
   rw[<-Y,W,getElem!_pos z.cells (j % size) hm];simp[hm]
  simp[hj];refine⟨?_,?_,λ_ h=>h⟩
  .have:=e1.symm
   simpa using this
  .refine hz1 _ ?_
   have hl0:j % size<zero.length:=by rw[<-Y];simpa using hm
   simp[gEE hl0]
 obtain⟨cs',J,B⟩:=IL hl hp hv Z;refine⟨_,hK,Au.new (ob:=.cells cs' e) (v':=.slice (some ⟨w.heap.size,0,none⟩) len len) wr ?_ ⟨_,?_,λb h=>h⟩⟩
 .have hn:¬ (16777216<len*size):=by omega
  unfold execOp;rw[ho];by_cases h0:len*size=0
  .have O:Instr.fill (λi=>some (i*size,size)) #[] (ps.toList.map λp=>(p.1,a.eval p.2))=some cs':=by
    have:(Array.range (len*size)).map (z.cells[· % z.cells.size]!)= #[]:=by rw[h0];simp
    rw[<-this];exact J
   simp[Instr.buildSlice,run_underlying hu,sizeOf,typeInfo,hi0,his,hn,h0,newRow];simp[Array.range_zero',O]
  .simp[Instr.buildSlice,run_underlying hu,sizeOf,typeInfo,zeroValue,hi0,hz,his,hn,h0,newRow]
   simp[J]
 .refine Rel.eqv _ _ _ _ (MF U size len l) ?_
  have E:l.length=len*size:=by
   have h1:=B.1
   have h2:∀(A:List (Nat×V)) (cells l':List V),Cd (λi=>some (i*size,size)) cells A=some l'->l'.length=cells.length:=by
    intro A
    induction A with
    |nil=>intro cells l' h;simp[Cd]at h;rw[h]
    |cons p A ih=>
     intro cells l' h;obtain⟨i,v⟩:=p;simp only[Cd]at h;split at h
     .cases h
     .rw[ih _ _ h]
      have:∀(l:List V) (k:Nat) (c:List V),((l.zipIdx k).foldl (λcs (c,j)=>cs.set (i*size+j) c) c).length=c.length:=by
       intro l
       induction l with
       |nil=>intro k c;rfl
       |cons v l ih=>intro k c;simp only[List.zipIdx_cons,List.foldl_cons];rw[ih];simp
      exact this _ 0 _
   have:=h2 _ _ _ hl;simpa using this
  have hmax':len<=maxLen:=by have:=Nat.le_mul_of_pos_right len hs00;unfold maxLen;omega
  exact HT wr.Dlt (T:=e) (s:=true) (cap:=len) (by rw[B.1,E];exact Nat.le_refl _) (Nat.le_refl _) hmax' (λh=>by cases h) λi k hi hk=>by
   have hlt:i*size+k<l.length:=by
    rw[E];have:(i+1)*size<=len*size:=Nat.mul_le_mul_right _ (by omega)
    rw[Nat.add_mul]at this;omega
   have h1:=B.2 _ hlt;refine CF (aET.1 himm _ ?_) h1;rw[gDE,gEE hlt];exact List.getElem_mem hlt
theorem bs_run(ho:o.op=.buildSlice t len ps)(hv:Ml σ w D ρ F vs (ps.toList.map λp=>(p.1,a.eval p.2)))
  {e:TypeId}{size bytes:Nat}{zero:List Value} (hsi:slI P t=some ⟨e,size,bytes,zero⟩) (hp:vs.all (λp=>Bu p.2)=true) (hs00:0<size) (hlen:len*size<=16777216) {l:List V}
  (hl:Cd (λi=>some (i*size,size)) ((List.range (len*size)).map λj=>.c (zero.getD (j % size) undef)) vs=some l):
  ∃E,(execOp a.eval o).run P w=.ok (.value (.slice (some ⟨w.heap.size,0,none⟩) len len)) (w.alloc (.cells E e))/\Qv D w (Ak σ ρ w) l E/\l.length=len*size:=by
 obtain⟨hu,i0,z,hi0,hz,Z,_,W,U,hz1⟩:=CS hsi;simp only at hu hi0 Z W U hz1
 have Y:Qv D w (Ak σ ρ w) ((List.range (len*size)).map λj=>.c (zero.getD (j % size) undef)) ((Array.range (len*size)).map (z.cells[· % z.cells.size]!)):=by
  refine⟨by simp,λj hj=>?_⟩
  simp at hj;have hs0:0<size:=by rcases Nat.eq_zero_or_pos size with h|h;subst h;simp at hj;exact h
  have hm:j % size<z.cells.size:=by rw[U];exact Nat.mod_lt _ hs0
  have e1:(zero.getD (j % size) undef)=z.cells[j % z.cells.size]!:=by
   rw[<-W,U,getElem!_pos z.cells (j % size) hm];simp[hm]
  simp[hj];refine⟨?_,?_,λ_ h=>h⟩
  .have:=e1.symm
   simpa using this
  .refine hz1 _ ?_
   have hl0:j % size<zero.length:=by rw[<-W];simpa using hm
   simp[gEE hl0]
 obtain⟨E,B,O⟩:=IL hl hp hv Y;refine⟨E,?_,O,?_⟩
 .have hn:¬ (16777216<len*size):=by omega
  unfold execOp;rw[ho];by_cases h0:len*size=0
  .have J:Instr.fill (λi=>some (i*size,size)) #[] (ps.toList.map λp=>(p.1,a.eval p.2))=some E:=by
    have:(Array.range (len*size)).map (z.cells[· % z.cells.size]!)= #[]:=by rw[h0];simp
    rw[<-this];exact B
   simp[Instr.buildSlice,run_underlying hu,sizeOf,typeInfo,hi0,Z,hn,h0,newRow];simp[Array.range_zero',J]
  .simp[Instr.buildSlice,run_underlying hu,sizeOf,typeInfo,zeroValue,hi0,hz,Z,hn,h0,newRow]
   simp[B]
 .have h1:=O.1
  have h2:∀(A:List (Nat×V)) (cells l':List V),Cd (λi=>some (i*size,size)) cells A=some l'->l'.length=cells.length:=by
   intro A
   induction A with
   |nil=>intro cells l' h;simp[Cd]at h;rw[h]
   |cons p A ih=>
    intro cells l' h;obtain⟨i,v⟩:=p;simp only[Cd]at h;split at h
    .cases h
    .rw[ih _ _ h]
     have:∀(l:List V) (k:Nat) (c:List V),((l.zipIdx k).foldl (λcs (c,j)=>cs.set (i*size+j) c) c).length=c.length:=by
      intro l
      induction l with
      |nil=>intro k c;rfl
      |cons v l ih=>intro k c;simp only[List.zipIdx_cons,List.foldl_cons];rw[ih];simp
     exact this _ 0 _
  have:=h2 _ _ _ hl;simpa using this
end ops
end Go.Ve

