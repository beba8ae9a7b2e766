/- The quiet operations of the small machine that make memory. -/
import Derived.Test.YteakdlfnmhlifaaVf
open List(range)
set_option linter.all false
namespace Go.Ve
variable{ps:Array (Nat×Operand)}{vs:List (Nat×V)}{len:Nat}{fp:Nat->Prop}{t:TypeId}{v:V}{R:V->Value->Prop}{cv:Value}
section ops
variable {P:Program}{o:Oper}{a:Act}{w:World}{σ:List V}{D:Nat->Prop}{ρ:Nat->Value}{F:Nat->Nat->Prop}{K:V->Prop}
theorem HP(Dlt:∀b,D b->b<w.heap.size){R:V->Value->Prop}{T:TypeId}{cs:Array Value}{s:Bool}{sz n cap:Nat}{f:Nat->Nat->V}(Z:cap*sz<=cs.size)(U:n<=cap)(A:n<=maxLen)(H:s=false->n=1)
  (hc:∀i k,i<n->k<sz->Rel D w noR (f i k) (cs.getD (i*sz+k) undef) noF):
  Rel D (w.alloc (.cells cs T)) R (.nd s true sz n f) (Av s w.heap.size 0 n cap) (λb=>b=w.heap.size):=by
 have B:(w.alloc (.cells cs T)).heap[w.heap.size]? =some (.cells cs T (0,0)):=by show(w.heap.push _)[w.heap.size]? =_;simp
 refine .inr ⟨w.heap.size,0,cap,λ_ _=>noF,rfl,U,A,H,λi k hi Y=>?_,(λh=>by grind),λ_=>⟨⟨cs,T,.plain B,by omega⟩,λ_ _ _ _ h=>h,λ_ _ _ _ _ _ _ _ _ _ h=>h.elim,λx=>⟨λh=>.inl h,λh=>h.elim id fun⟨_,_,_,_,h⟩=>h.elim⟩⟩⟩
 have W:i*sz+k<cs.size:=by
  have:(i+1)*sz<=cap*sz:=Nat.mul_le_mul_right _ (by omega)
  grind
 refine⟨cs.getD (i*sz+k) undef,?_,Rel.mono (λ_ h=>h) (λ_ _ h=>h) _ _ _ (λb B=>Below.heap_alloc _ _ _ (B.elim (Dlt b) λh=>h.elim)) (hc i k hi Y)⟩
 simp_all
def Qn(D:Nat->Prop)(w:World)(R:V->Value->Prop)(l:List V)(cs:Array Value):Prop:=
 cs.size=l.length/\∀j,j<l.length->Rel D w R (l.getD j .dead) (cs.getD j undef) noF
def cellsV:V->List V
 |.many .ag n f=>(range n).map f
 |v=>[v]
def Zo(cells:List V)(off:Nat)(l:List V):List V:=(l.zipIdx.foldl (λcs (c,j)=>cs.set (off+j) c) cells)
def B8(place:Nat->Option (Nat×Nat))(cells:List V):List (Nat×V)->Option (List V)
 |[]=>some cells
 |(i,v)::rest=>match place i with
  |none=>none
  |some (off,size)=>if(cellsV v).length≠size\/cells.length<off+(cellsV v).length then none else B8 place (Zo cells off (cellsV v)) rest
def Bs:V->Bool
 |.many .tu _ _=>false
 |.many .bx _ _=>false
 |.many .ag n f=>(range n).all λk=>match f k with|.many ..=>false|.dead=>false|v=>!AJ v
 |.dead=>false
 |v=>!AJ v
def YX:V->Bool
 |.many (.cl _) _ _=>true
 |.many .. |.dead=>false
 |_=>true
theorem Rel.cells1(h:Rel D w R v cv fp)(H:∀v cv,R v cv->cv.oneCell'=true)(hv:YX v=true):cv.cells= #[cv]/\cv.oneCell'=true:=by
 have U:cv.oneCell'=true:=by
  cases v with
  |c v=>rw[h.1];exact h.2.1
  |dead=>trivial
  |many t n f=>
   cases t with
   |cl g=>
    obtain⟨cs,_,B,_⟩:=h;rw[B];exact Aap
   |_=>trivial
  |nd s own sz n f=>
   rcases h with⟨_,_,A,_⟩|⟨b,o,cap,F,rfl,_⟩
   .obtain⟨a,rfl⟩:=B5 A;rfl
   .cases s<;>rfl
  |rs id p off len=>exact H _ _ h.1
  |rp id p i k=>exact H _ _ h.1
  |rm id p=>exact H _ _ h.1
  |mp own l=>obtain⟨b,rfl,_⟩:=h;rfl
 refine⟨?_,U⟩;cases cv<;>first|rfl|trivial
theorem Ae.one(h:Ae σ ρ w v cv):cv.oneCell'=true:=by
 cases v with
 |rs id p off len=>
  obtain⟨_,sz,n,f,A,_,_,h⟩:=h;rcases h with⟨_,_,_,_,rfl⟩|⟨_,_,rfl,_⟩<;>rfl
 |rp id p i k=>
  obtain⟨_,s,sz,n,f,b,o,cap,_,_,_,rfl⟩:=h;rfl
 |rm id p=>obtain⟨_,l,b,_,rfl⟩:=h;rfl
 |mp=>exact h.elim
 |c _=>trivial
 |dead=>trivial
 |many=>trivial
 |nd=>trivial
theorem B9(hR:∀v cv,R v cv->cv.oneCell'=true)(B:Bs v=true)(h:Rel D w R v cv fp):Qn D w R (cellsV v) cv.cells/\∀b,¬fp b:=by
 have A:∀v:V,YX v=true->AJ v=false->cellsV v=[v]->Rel D w R v cv fp->Qn D w R (cellsV v) cv.cells/\∀b,¬fp b:=by
  intro v hm ht U h;have Z:=AB _ _ _ ht h;obtain⟨hc,_⟩:=Rel.cells1 h hR hm;rw[U,hc];refine⟨⟨rfl,λj hj=>?_⟩,Z⟩
  obtain rfl:j=0:=by simp at hj;omega
  have:=A2 Z;subst this;exact h
 cases v with
 |c v=>exact A _ rfl rfl rfl h
 |dead=>cases B
 |nd s own sz n f=>exact A _ rfl (by simpa [Bs]using B) rfl h
 |rs id p off len=>exact A _ rfl rfl rfl h
 |rp id p i k=>exact A _ rfl rfl rfl h
 |rm id p=>exact A _ rfl rfl rfl h
 |mp own l=>exact A _ rfl (by simpa [Bs]using B) rfl h
 |many t n f=>
  cases t with
  |bx=>cases B
  |tu=>cases B
  |cl g=>
   have B:(!AJ (V.many (.cl g) n f))=true:=B;exact A _ rfl (by simpa using B) rfl h
  |ag=>
   obtain⟨cs,F',rfl,hn,W,_,hfp⟩:=h;have H:∀k,k<n->∀b,¬F' k b:=by
    intro k Y;have h1:=aET.1 (show(range n).all _=true from B) k (List.mem_range.2 Y)
    refine AB (f k) _ _ ?_ (W k Y)
    grind
   refine⟨⟨by simp[cellsV,Value.cells,hn],λj hj=>?_⟩,λb hb=>?_⟩
   .simp[cellsV]at hj
    have e:(cellsV (.many .ag n f)).getD j .dead=f j:=by simp[cellsV,hj]
    rw[e];have:=W j hj;rw[A2 (H j hj)]at this;exact this
   grind
theorem Zn(l:List V):∀(vs:List Value) (k off:Nat) (cells:List V) (cs:Array Value),vs.length=l.length->(∀j,j<l.length->Rel D w R (l.getD j .dead) (vs.getD j undef) noF)->Qn D w R cells cs->
  Qn D w R ((l.zipIdx k).foldl (λcs (c,j)=>cs.set (off+j) c) cells) ((vs.zipIdx k).foldl (λcs (c,j)=>cs.setIfInBounds (off+j) c) cs):=by
 induction l with
 |nil=>intro vs k off cells cs A _ h;cases vs<;>first|exact h|cases A
 |cons v l H=>
  intro vs k off cells cs A B h;cases vs with
  |nil=>cases A
  |cons x vs=>
   refine H vs (k+1) off _ _ (by simpa using A) (λj hj=>by simpa using B (j+1) (by simp;omega)) ?_
   refine⟨by simp[h.1],λj hj=>?_⟩
   simp only[List.length_set]at hj;by_cases U:off+k=j
   .subst U
    have Y:Rel D w R v x noF:=by simpa using B 0 (by simp)
    have W:off+k<cs.size:=by rw[h.1];exact hj
    simp[hj,W];exact Y
   .have:=h.2 j hj
    simp_all
def Aaf(hR:∀v cv,R v cv->cv.oneCell'=true)(place:Nat->Option (Nat×Nat)):∀(B:List (Nat×V)) (A:List (Nat×Value)) (cells H:List V) (cs:Array Value),B8 place cells B=some H->Qn D w R cells cs->
  B.length=A.length->(∀(j i:Nat) (v:V),B[j]? =some (i,v)->Bs v=true/\∃x fp,A[j]? =some (i,x)/\Rel D w R v x fp)->∃Z,Instr.fill place cs A=some Z/\Qn D w R H Z:=by
 intro B
 induction B with
 |nil=>
  intro A cells H cs h hr hl _;cases A with
  |nil=>simp[B8]at h;subst h;exact⟨cs,rfl,hr⟩
  |cons=>cases hl
 |cons p B ih=>
  intro A cells H cs h hr hl hp;obtain⟨i,v⟩:=p;cases A with
  |nil=>cases hl
  |cons c A=>
   obtain⟨hpl,x,fp,hx,hrx⟩:=hp 0 i v rfl;simp at hx;subst hx;unfold B8 at h;split at h
   .cases h
   rename_i off size W;split at h
   .cases h
   rename_i hcond;obtain⟨Y,_⟩:=B9 hR hpl hrx;have h1:x.cells.size=(cellsV v).length:=Y.1;have h2:cs.size=cells.length:=hr.1
   have hn:¬ ((decide (x.cells.size≠size)||decide (off+x.cells.size>cs.size))=true):=by
    simp only[Bool.or_eq_true,decide_eq_true_eq];rw[h1,h2];omega
   unfold Instr.fill;simp only[W];rw[if_neg hn]
   have U:Qn D w R (Zo cells off (cellsV v)) (x.cells.zipIdx.foldl (λcs (c,j)=>cs.setIfInBounds (off+j) c) cs):=by
    have:=Zn (cellsV v) x.cells.toList 0 off cells cs (by simpa using h1) (λj hj=>by simpa using Y.2 j hj) hr
    rw[<-Array.foldl_toList];simpa [Zo]using this
   exact ih A _ H _ h U (by simpa using hl) (λj i v hj=>by simpa using hp (j+1) i v (by simpa using hj))
def B7:V->Bool
 |.c _=>true
 |.nd _ own _ _ _=>!own
 |.many (.cl _) n f=>(range n).all λk=>B7 (f k)
 |_=>false
theorem CH:∀{cv:Value}{fp:Nat->Prop} (_:B7 v=true) (_:Rel D w R v cv fp),Rel D w noR v cv fp:=by
 induction v with
 |many t n f U=>
  intro cv fp h A;cases t with
  |cl g=>
   obtain⟨cs,F,B,W,A,hd,Y⟩:=A;exact⟨cs,F,B,W,λk H=>U k (aET.1 h k (List.mem_range.2 H)) (A k H),hd,Y⟩
  |_=>cases h
 |_=>intro cv fp h A;trivial
def KJ:List V->Option (List Int)
 |[]=>some []
 |.c (.int .i64 n)::l=>(KJ l).map (n:: ·)
 |_=>none
def K7(sz:Nat)(l:List V):Nat->List (List V)
 |0=>[]
 |n+1=>K7 sz l n++[(l.drop (n*sz)).take sz]
def slOf(A:Bool)(sz n:Nat)(l:List V):V:=
 if A=true/\sz=1/\n=0 then rows true []else
 match KJ l with
 |some xs=>if sz=1/\xs.length=n then ints true xs else arr true sz (λx=>x) [] (K7 sz l n)
 |none=>arr true sz (λx=>x) [] (K7 sz l n)
def CY(sz:Nat)(l:List V):∀n,(K7 sz l n).length=n
 |0=>rfl
 |n+1=>by unfold K7;simp[CY sz l n]
def L3(sz:Nat)(l:List V):∀n i,i<n->(K7 sz l n).getD i []=(l.drop (i*sz)).take sz
 |0,_,h=>by omega
 |n+1,i,h=>by
  unfold K7;by_cases hi:i<n
  .rw[gDE,gAL (by rw[CY];grind),<-gDE,L3 sz l n i hi]
  .obtain rfl:i=n:=by omega
   simp[CY]
def KI:∀(l:List V) (xs:List Int),KJ l=some xs->l=xs.map λn=>.c (.int .i64 n)
 |[],xs,h=>by simp[KJ]at h;grind
 |v::l,xs,h=>by
  unfold KJ at h;split at h
  .grind
  .rename_i n H B
   cases B;cases A:KJ l with
   |none=>grind
   |some ys=>
    simp[A]at h;subst h;rw[KI l ys A];rfl
  grind
theorem MB(A:Bool)(sz n:Nat)(l:List V):Eqv (.nd true true sz n λi k=>l.getD (i*sz+k) .dead) (slOf A sz n l):=by
 unfold slOf;split
 .rename_i h
  obtain⟨_,rfl,rfl⟩:=h;exact⟨_,rfl,λi k hi H=>by omega⟩
 have B:Eqv (.nd true true sz n λi k=>l.getD (i*sz+k) .dead) (arr true sz (λx=>x) [] (K7 sz l n)):=by
  refine⟨λi k=>((K7 sz l n).getD i []).getD k .dead,by unfold arr;rw[CY],λi k hi H=>?_⟩
  show Eqv _ (((K7 sz l n).getD i []).getD k .dead);rw[L3 sz l n i hi]
  have:((l.drop (i*sz)).take sz).getD k .dead=l.getD (i*sz+k) .dead:=by
   grind
  rw[this];exact Eqv.refl _
 cases U:KJ l with
 |none=>exact B
 |some xs=>
  simp only;split
  .rename_i W
   obtain⟨rfl,rfl⟩:=W;refine⟨_,rfl,λi k hi H=>?_⟩
   obtain rfl:k=0:=by omega
   rw[KI l xs U];simp[hi,Eqv]
  grind
def Ab3(P:Program)(t:TypeId):Bool:=
 match P.underlying t with
 |some (.slice e)=>match P.underlying e with
  |some (.slice e2)=>match P.info? e2 with
   |some i=>match i.zero with
    |some (.int .i64 0)=>true
    |_=>false
   |none=>false
  |_=>false
 |_=>false
def B2(H:Option SlI)(B:Bool)(len:Nat)(A:List (Nat×V))(K:V->Prop):Prop:=
 match H with
 |some ⟨_,size,_,zero⟩=>A.all (λp=>Bs p.2)=true/\(0<size/\len*size<=16777216)/\
   match B8 (λi=>some (i*size,size)) ((range (len*size)).map λj=>.c (zero.getD (j % size) undef)) A with
   |some l=>l.all B7=true/\K (slOf B size len l)
   |none=>False
 |none=>False
def Mh(σ:List V)(w:World)(D:Nat->Prop)(ρ:Nat->Value)(F:Nat->Nat->Prop)(vs:List (Nat×V))(cs:List (Nat×Value)):Prop:=
 vs.length=cs.length/\∀(j i:Nat) (v:V),vs[j]? =some (i,v)->∃x,cs[j]? =some (i,x)/\OpR σ w D ρ F v x
theorem II{place:Nat->Option (Nat×Nat)}{cs:List (Nat×Value)}{cells B:List V}{H:Array Value}(Z:B8 place cells vs=some B)(Y:vs.all (λp=>Bs p.2)=true)(U:Mh σ w D ρ F vs cs)
  (hc:Qn D w (Ae σ ρ w) cells H):∃A,Instr.fill place H cs=some A/\Qn D w (Ae σ ρ w) B A:=by
 refine Aaf (λv cv h=>Ae.one h) place vs cs cells B H Z hc U.1 λj i v hj=>?_
 refine⟨aET.1 Y (i,v) (List.mem_of_getElem? hj),?_⟩;obtain⟨x,hx,fp,W,_⟩:=U.2 j i v hj
 grind
theorem Iv(wr:Be σ w D ρ F)(ho:o.op=.buildSlice t len ps)(hv:Mh σ w D ρ F vs (ps.toList.map λp=>(p.1,a.eval p.2)))
  {Y:Bool} (h:B2 (slI P t) Y len vs K):∃r,K r/\Ap P o a w σ D ρ r:=by
 unfold B2 at h;split at h
 case h_2=>exact h.elim
 rename_i e size bytes zero hsi;obtain⟨hu,i0,z,hi0,hz,his,_,hzl,Z,hz1⟩:=D6 hsi;simp only at hu hi0 his hzl Z hz1;obtain⟨hp,⟨hs00,hlen⟩,h⟩:=h;split at h
 case h_2=>exact h.elim
 rename_i l hl;obtain⟨himm,hK⟩:=h
 have hzero:Qn D w (Ae σ ρ w) ((range (len*size)).map λj=>.c (zero.getD (j % size) undef)) ((Array.range (len*size)).map (z.cells[· % z.cells.size]!)):=by
  refine⟨by simp,λj hj=>?_⟩
  simp at hj;have hs0:0<size:=by rcases Nat.eq_zero_or_pos size with h|h;subst h;simp at hj;exact h
  have hm:j % size<z.cells.size:=by rw[Z];exact Nat.mod_lt _ hs0
  have e1:(zero.getD (j % size) undef)=z.cells[j % z.cells.size]!:=by
   rw[<-hzl,Z,getElem!_pos z.cells (j % size) hm];simp[hm]
  simp[hj];refine⟨?_,?_,λ_ h=>h⟩
  .have:=e1.symm
   simpa using this
  .refine hz1 _ ?_
   have hl0:j % size<zero.length:=by rw[<-hzl];simpa using hm
   simp[gEE hl0]
 obtain⟨cs',U,B⟩:=II hl hp hv hzero;refine⟨_,hK,Ap.new (ob:=.cells cs' e) (v':=.slice (some ⟨w.heap.size,0,none⟩) len len) wr ?_ ⟨_,?_,λb h=>h⟩⟩
 .have hn:¬ (16777216<len*size):=by omega
  unfold execOp;rw[ho];by_cases h0:len*size=0
  .have W:Instr.fill (λi=>some (i*size,size)) #[] (ps.toList.map λp=>(p.1,a.eval p.2))=some cs':=by
    have:(Array.range (len*size)).map (z.cells[· % z.cells.size]!)= #[]:=by rw[h0];simp
    rw[<-this];exact U
   simp[Instr.buildSlice,run_underlying hu,sizeOf,typeInfo,hi0,his,hn,h0,newRow];simp[Array.range_zero',W]
  .simp[Instr.buildSlice,run_underlying hu,sizeOf,typeInfo,zeroValue,hi0,hz,his,hn,h0,newRow]
   simp[U]
 .refine Rel.eqv _ _ _ _ (MB Y size len l) ?_
  have H:l.length=len*size:=by
   have h1:=B.1
   have h2:∀(A:List (Nat×V)) (cells l':List V),B8 (λi=>some (i*size,size)) cells A=some l'->l'.length=cells.length:=by
    intro A
    induction A with
    |nil=>intro cells l' h;simp[B8]at h;rw[h]
    |cons p A ih=>
     intro cells l' h;obtain⟨i,v⟩:=p;simp only[B8]at h;split at h
     .cases h
     .rw[ih _ _ h]
      have:∀(l:List V) (k:Nat) (c:List V),((l.zipIdx k).foldl (λcs (c,j)=>cs.set (i*size+j) c) c).length=c.length:=by
       intro l
       induction l with
       |nil=>intro k c;rfl
       |cons v l ih=>intro k c;simp only[List.zipIdx_cons,List.foldl_cons];rw[ih];simp
      exact this _ 0 _
   have:=h2 _ _ _ hl;simpa using this
  have hmax':len<=maxLen:=by have:=Nat.le_mul_of_pos_right len hs00;unfold maxLen;omega
  exact HP wr.Dlt (T:=e) (s:=true) (cap:=len) (by rw[B.1,H];exact Nat.le_refl _) (Nat.le_refl _) hmax' (λh=>by cases h) λi k hi hk=>by
   have hlt:i*size+k<l.length:=by
    rw[H];have:(i+1)*size<=len*size:=Nat.mul_le_mul_right _ (by omega)
    rw[Nat.add_mul]at this;omega
   have h1:=B.2 _ hlt;refine CH (aET.1 himm _ ?_) h1;rw[gDE,gEE hlt];exact List.getElem_mem hlt
theorem bs_run(ho:o.op=.buildSlice t len ps)(hv:Mh σ w D ρ F vs (ps.toList.map λp=>(p.1,a.eval p.2)))
  {e:TypeId}{size bytes:Nat}{zero:List Value} (hsi:slI P t=some ⟨e,size,bytes,zero⟩) (hp:vs.all (λp=>Bs p.2)=true) (hs00:0<size) (hlen:len*size<=16777216) {l:List V}
  (hl:B8 (λi=>some (i*size,size)) ((range (len*size)).map λj=>.c (zero.getD (j % size) undef)) vs=some l):
  ∃H,(execOp a.eval o).run P w=.ok (.value (.slice (some ⟨w.heap.size,0,none⟩) len len)) (w.alloc (.cells H e))/\Qn D w (Ae σ ρ w) l H/\l.length=len*size:=by
 obtain⟨hu,i0,z,hi0,hz,his,_,Z,Y,hz1⟩:=D6 hsi;simp only at hu hi0 his Z Y hz1
 have hzero:Qn D w (Ae σ ρ w) ((range (len*size)).map λj=>.c (zero.getD (j % size) undef)) ((Array.range (len*size)).map (z.cells[· % z.cells.size]!)):=by
  refine⟨by simp,λj hj=>?_⟩
  simp at hj;have hs0:0<size:=by rcases Nat.eq_zero_or_pos size with h|h;subst h;simp at hj;exact h
  have hm:j % size<z.cells.size:=by rw[Y];exact Nat.mod_lt _ hs0
  have e1:(zero.getD (j % size) undef)=z.cells[j % z.cells.size]!:=by
   rw[<-Z,Y,getElem!_pos z.cells (j % size) hm];simp[hm]
  simp[hj];refine⟨?_,?_,λ_ h=>h⟩
  .have:=e1.symm
   simpa using this
  .refine hz1 _ ?_
   have hl0:j % size<zero.length:=by rw[<-Z];simpa using hm
   simp[gEE hl0]
 obtain⟨H,B,W⟩:=II hl hp hv hzero;refine⟨H,?_,W,?_⟩
 .have hn:¬ (16777216<len*size):=by omega
  unfold execOp;rw[ho];by_cases h0:len*size=0
  .have U:Instr.fill (λi=>some (i*size,size)) #[] (ps.toList.map λp=>(p.1,a.eval p.2))=some H:=by
    have:(Array.range (len*size)).map (z.cells[· % z.cells.size]!)= #[]:=by rw[h0];simp
    rw[<-this];exact B
   simp[Instr.buildSlice,run_underlying hu,sizeOf,typeInfo,hi0,his,hn,h0,newRow];simp[Array.range_zero',U]
  .simp[Instr.buildSlice,run_underlying hu,sizeOf,typeInfo,zeroValue,hi0,hz,his,hn,h0,newRow]
   simp[B]
 .have h1:=W.1
  have h2:∀(A:List (Nat×V)) (cells l':List V),B8 (λi=>some (i*size,size)) cells A=some l'->l'.length=cells.length:=by
   intro A
   induction A with
   |nil=>intro cells l' h;simp[B8]at h;rw[h]
   |cons p A ih=>
    intro cells l' h;obtain⟨i,v⟩:=p;simp only[B8]at h;split at h
    .cases h
    .rw[ih _ _ h]
     have:∀(l:List V) (k:Nat) (c:List V),((l.zipIdx k).foldl (λcs (c,j)=>cs.set (i*size+j) c) c).length=c.length:=by
      intro l
      induction l with
      |nil=>intro k c;rfl
      |cons v l ih=>intro k c;simp only[List.zipIdx_cons,List.foldl_cons];rw[ih];simp
     exact this _ 0 _
  have:=h2 _ _ _ hl;simpa using this
end ops
end Go.Ve

