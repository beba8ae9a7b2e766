/- The quiet operations of the small machine that make memory. -/
import Derived.Test.YtmmmafnkggaknaaGreatVf
set_option linter.all false
namespace Go.Ve
variable{ps:Array (Nat×Operand)}{vs:List (Nat×V)}{len:Nat}{fp:Nat->Prop}{t:TypeId}{v:V}{R:V->Value->Prop}{cv:Value}
section ops
variable {P:Program}{o:Oper}{a:Act}{w:World}{σ:List V}{D:Nat->Prop}{ρ:Nat->Value}{F:Nat->Nat->Prop}{K:V->Prop}
theorem Hy(Dlt:∀b,D b->b<w.heap.size){R:V->Value->Prop}{T:TypeId}{cs:Array Value}{s:Bool}{sz n cap:Nat}{f:Nat->Nat->V}(U:cap*sz<=cs.size)(A:n<=cap)(e:n<=maxLen)(hs:s=false->n=1)
  (W:∀i k,i<n->k<sz->Rel D w noR (f i k) (cs.getD (i*sz+k) undef) noF):
  Rel D (w.alloc (.cells cs T)) R (.nd s true sz n f) (AC s w.heap.size 0 n cap) (λb=>b=w.heap.size):=by
 have u:(w.alloc (.cells cs T)).heap[w.heap.size]? =some (.cells cs T (0,0)):=by show(w.heap.push _)[w.heap.size]? =_;simp
 refine .inr ⟨w.heap.size,0,cap,λ_ _=>noF,rfl,A,e,hs,λi k J E=>?_,(λh=>by grind),λ_=>⟨⟨cs,T,.plain u,by omega⟩,λ_ _ _ _ h=>h,λ_ _ _ _ _ _ _ _ _ _ h=>h.elim,λx=>⟨λh=>.inl h,λh=>h.elim id fun⟨_,_,_,_,h⟩=>h.elim⟩⟩⟩
 have B:i*sz+k<cs.size:=by
  have:(i+1)*sz<=cap*sz:=Nat.mul_le_mul_right _ (by omega)
  grind
 refine⟨cs.getD (i*sz+k) undef,?_,Rel.mono (λ_ h=>h) (λ_ _ h=>h) _ _ _ (λb u=>Below.heap_alloc _ _ _ (u.elim (Dlt b) λh=>h.elim)) (W i k J E)⟩
 simp_all
def OI(D:Nat->Prop)(w:World)(R:V->Value->Prop)(l:List V)(cs:Array Value):Prop:=
 cs.size=l.length/\∀j,j<l.length->Rel D w R (l.getD j .dead) (cs.getD j undef) noF
def cellsV:V->List V
 |.many .ag n f=>(List.range n).map f
 |v=>[v]
def W8(cells:List V)(off:Nat)(l:List V):List V:=(l.zipIdx.foldl (λcs (c,j)=>cs.set (off+j) c) cells)
def Cd(place:Nat->Option (Nat×Nat))(cells:List V):List (Nat×V)->Option (List V)
 |[]=>some cells
 |(i,v)::rest=>match place i with
  |none=>none
  |some (off,size)=>if(cellsV v).length≠size\/cells.length<off+(cellsV v).length then none else Cd place (W8 cells off (cellsV v)) rest
def By:V->Bool
 |.many .tu _ _=>false
 |.many .bx _ _=>false
 |.many .ag n f=>(List.range n).all λk=>match f k with|.many ..=>false|.dead=>false|v=>!AL v
 |.dead=>false
 |v=>!AL v
def WD:V->Bool
 |.many (.cl _) _ _=>true
 |.many .. |.dead=>false
 |_=>true
theorem Rel.cells1(h:Rel D w R v cv fp)(A:∀v cv,R v cv->cv.oneCell'=true)(E:WD v=true):cv.cells= #[cv]/\cv.oneCell'=true:=by
 have B:cv.oneCell'=true:=by
  cases v with
  |c v=>rw[h.1];exact h.2.1
  |dead=>trivial
  |many t n f=>
   cases t with
   |cl g=>
    obtain⟨cs,_,u,_⟩:=h;rw[u];exact XT
   |_=>trivial
  |nd s own sz n f=>
   rcases h with⟨_,_,e,_⟩|⟨b,o,cap,F,rfl,_⟩
   .obtain⟨a,rfl⟩:=C2 e;rfl
   .cases s<;>rfl
  |rs id p off len=>exact A _ _ h.1
  |rp id p i k=>exact A _ _ h.1
 refine⟨?_,B⟩;cases cv<;>first|rfl|trivial
theorem Au.one(h:Au σ ρ w v cv):cv.oneCell'=true:=by
 cases v with
 |rs id p off len=>
  obtain⟨_,sz,n,f,cn,_,_,h⟩:=h;rcases h with⟨_,_,_,_,rfl⟩|⟨_,_,rfl,_⟩<;>rfl
 |rp id p i k=>
  obtain⟨_,s,sz,n,f,b,o,cap,_,_,_,rfl⟩:=h;rfl
 |c _=>trivial
 |dead=>trivial
 |many=>trivial
 |nd=>trivial
theorem Ce(hR:∀v cv,R v cv->cv.oneCell'=true)(A:By v=true)(h:Rel D w R v cv fp):OI D w R (cellsV v) cv.cells/\∀b,¬fp b:=by
 have u:∀v:V,WD v=true->AL v=false->cellsV v=[v]->Rel D w R v cv fp->OI D w R (cellsV v) cv.cells/\∀b,¬fp b:=by
  intro v hm ht J h;have Z:=AE _ _ _ ht h;obtain⟨hc,_⟩:=Rel.cells1 h hR hm;rw[J,hc];refine⟨⟨rfl,λj E=>?_⟩,Z⟩
  obtain rfl:j=0:=by simp at E;omega
  have:=A6 Z;subst this;exact h
 cases v with
 |c v=>exact u _ rfl rfl rfl h
 |dead=>cases A
 |nd s own sz n f=>exact u _ rfl (by simpa [By]using A) rfl h
 |rs id p off len=>exact u _ rfl rfl rfl h
 |rp id p i k=>exact u _ rfl rfl rfl h
 |many t n f=>
  cases t with
  |bx=>cases A
  |tu=>cases A
  |cl g=>
   have A:(!AL (V.many (.cl g) n f))=true:=A;exact u _ rfl (by simpa using A) rfl h
  |ag=>
   obtain⟨cs,F',rfl,hn,U,_,hfp⟩:=h;have B:∀k,k<n->∀b,¬F' k b:=by
    intro k W;have h1:=aET.1 (show(List.range n).all _=true from A) k (List.mem_range.2 W)
    refine AE (f k) _ _ ?_ (U k W)
    grind
   refine⟨⟨by simp[cellsV,Value.cells,hn],λj E=>?_⟩,λb hb=>?_⟩
   .simp[cellsV]at E
    have e:(cellsV (.many .ag n f)).getD j .dead=f j:=by simp[cellsV,E]
    rw[e];have:=U j E;rw[A6 (B j E)]at this;exact this
   grind
theorem W7(l:List V):∀(vs:List Value) (k off:Nat) (cells:List V) (cs:Array Value),vs.length=l.length->(∀j,j<l.length->Rel D w R (l.getD j .dead) (vs.getD j undef) noF)->OI D w R cells cs->
  OI D w R ((l.zipIdx k).foldl (λcs (c,j)=>cs.set (off+j) c) cells) ((vs.zipIdx k).foldl (λcs (c,j)=>cs.setIfInBounds (off+j) c) cs):=by
 induction l with
 |nil=>intro vs k off cells cs u _ h;cases vs<;>first|exact h|cases u
 |cons v l B=>
  intro vs k off cells cs u A h;cases vs with
  |nil=>cases u
  |cons x vs=>
   refine B vs (k+1) off _ _ (by simpa using u) (λj e=>by simpa using A (j+1) (by simp;omega)) ?_
   refine⟨by simp[h.1],λj e=>?_⟩
   simp only[List.length_set]at e;by_cases E:off+k=j
   .subst E
    have U:Rel D w R v x noF:=by simpa using A 0 (by simp)
    have J:off+k<cs.size:=by rw[h.1];exact e
    simp[e,J];exact U
   .have:=h.2 j e
    simp_all
def XN(hR:∀v cv,R v cv->cv.oneCell'=true)(place:Nat->Option (Nat×Nat)):∀(u:List (Nat×V)) (e:List (Nat×Value)) (cells A:List V) (cs:Array Value),Cd place cells u=some A->OI D w R cells cs->
  u.length=e.length->(∀(j i:Nat) (v:V),u[j]? =some (i,v)->By v=true/\∃x fp,e[j]? =some (i,x)/\Rel D w R v x fp)->∃U,Instr.fill place cs e=some U/\OI D w R A U:=by
 intro u
 induction u with
 |nil=>
  intro e cells A cs h W Z _;cases e with
  |nil=>simp[Cd]at h;subst h;exact⟨cs,rfl,W⟩
  |cons=>cases Z
 |cons p u ih=>
  intro e cells A cs h W Z hp;obtain⟨i,v⟩:=p;cases e with
  |nil=>cases Z
  |cons c e=>
   obtain⟨hpl,x,fp,hx,hrx⟩:=hp 0 i v rfl;simp at hx;subst hx;unfold Cd at h;split at h
   .cases h
   rename_i off size E;split at h
   .cases h
   rename_i hcond;obtain⟨J,_⟩:=Ce hR hpl hrx;have h1:x.cells.size=(cellsV v).length:=J.1;have h2:cs.size=cells.length:=W.1
   have hn:¬ ((decide (x.cells.size≠size)||decide (off+x.cells.size>cs.size))=true):=by
    simp only[Bool.or_eq_true,decide_eq_true_eq];rw[h1,h2];omega
   unfold Instr.fill;simp only[E];rw[if_neg hn]
   have B:OI D w R (W8 cells off (cellsV v)) (x.cells.zipIdx.foldl (λcs (c,j)=>cs.setIfInBounds (off+j) c) cs):=by
    have:=W7 (cellsV v) x.cells.toList 0 off cells cs (by simpa using h1) (λj hj=>by simpa using J.2 j hj) W
    rw[<-Array.foldl_toList];simpa [W8]using this
   exact ih e _ A _ h B (by simpa using Z) (λj i v hj=>by simpa using hp (j+1) i v (by simpa using hj))
def Cc:V->Bool
 |.c _=>true
 |.nd _ own _ _ _=>!own
 |.many (.cl _) n f=>(List.range n).all λk=>Cc (f k)
 |_=>false
theorem CH:∀{cv:Value}{fp:Nat->Prop} (_:Cc v=true) (_:Rel D w R v cv fp),Rel D w noR v cv fp:=by
 induction v with
 |many t n f B=>
  intro cv fp h e;cases t with
  |cl g=>
   obtain⟨cs,F,u,E,e,hd,J⟩:=e;exact⟨cs,F,u,E,λk A=>B k (aET.1 h k (List.mem_range.2 A)) (e k A),hd,J⟩
  |_=>cases h
 |_=>intro cv fp h e;trivial
def JP:List V->Option (List Int)
 |[]=>some []
 |.c (.int .i64 n)::l=>(JP l).map (n:: ·)
 |_=>none
def J4(sz:Nat)(l:List V):Nat->List (List V)
 |0=>[]
 |n+1=>J4 sz l n++[(l.drop (n*sz)).take sz]
def slOf(e:Bool)(sz n:Nat)(l:List V):V:=
 if e=true/\sz=1/\n=0 then rows true []else
 match JP l with
 |some xs=>if sz=1/\xs.length=n then ints true xs else arr true sz (λx=>x) [] (J4 sz l n)
 |none=>arr true sz (λx=>x) [] (J4 sz l n)
def CT(sz:Nat)(l:List V):∀n,(J4 sz l n).length=n
 |0=>rfl
 |n+1=>by unfold J4;simp[CT sz l n]
def KI(sz:Nat)(l:List V):∀n i,i<n->(J4 sz l n).getD i []=(l.drop (i*sz)).take sz
 |0,_,h=>by omega
 |n+1,i,h=>by
  unfold J4;by_cases e:i<n
  .rw[gDE,gAL (by rw[CT];grind),<-gDE,KI sz l n i e]
  .obtain rfl:i=n:=by omega
   simp[CT]
def JO:∀(l:List V) (xs:List Int),JP l=some xs->l=xs.map λn=>.c (.int .i64 n)
 |[],xs,h=>by simp[JP]at h;grind
 |v::l,xs,h=>by
  unfold JP at h;split at h
  .grind
  .rename_i n A u
   cases u;cases e:JP l with
   |none=>grind
   |some ys=>
    simp[e]at h;subst h;rw[JO l ys e];rfl
  grind
theorem Lb(e:Bool)(sz n:Nat)(l:List V):Eqv (.nd true true sz n λi k=>l.getD (i*sz+k) .dead) (slOf e sz n l):=by
 unfold slOf;split
 .rename_i h
  obtain⟨_,rfl,rfl⟩:=h;exact⟨_,rfl,λi k u B=>by omega⟩
 have A:Eqv (.nd true true sz n λi k=>l.getD (i*sz+k) .dead) (arr true sz (λx=>x) [] (J4 sz l n)):=by
  refine⟨λi k=>((J4 sz l n).getD i []).getD k .dead,by unfold arr;rw[CT],λi k u B=>?_⟩
  show Eqv _ (((J4 sz l n).getD i []).getD k .dead);rw[KI sz l n i u]
  have:((l.drop (i*sz)).take sz).getD k .dead=l.getD (i*sz+k) .dead:=by
   grind
  rw[this];exact Eqv.refl _
 cases E:JP l with
 |none=>exact A
 |some xs=>
  simp only;split
  .rename_i J
   obtain⟨rfl,rfl⟩:=J;refine⟨_,rfl,λi k u B=>?_⟩
   obtain rfl:k=0:=by omega
   rw[JO l xs E];simp[u,Eqv]
  grind
def Zp(P:Program)(t:TypeId):Bool:=
 match P.underlying t with
 |some (.slice e)=>match P.underlying e with
  |some (.slice e2)=>match P.info? e2 with
   |some i=>match i.zero with
    |some (.int .i64 0)=>true
    |_=>false
   |none=>false
  |_=>false
 |_=>false
def B7(A:Option SlI)(u:Bool)(len:Nat)(e:List (Nat×V))(K:V->Prop):Prop:=
 match A with
 |some ⟨_,size,_,zero⟩=>e.all (λp=>By p.2)=true/\(0<size/\len*size<=16777216)/\
   match Cd (λi=>some (i*size,size)) ((List.range (len*size)).map λj=>.c (zero.getD (j % size) undef)) e with
   |some l=>l.all Cc=true/\K (slOf u size len l)
   |none=>False
 |none=>False
def KW(σ:List V)(w:World)(D:Nat->Prop)(ρ:Nat->Value)(F:Nat->Nat->Prop)(vs:List (Nat×V))(cs:List (Nat×Value)):Prop:=
 vs.length=cs.length/\∀(j i:Nat) (v:V),vs[j]? =some (i,v)->∃x,cs[j]? =some (i,x)/\OpR σ w D ρ F v x
theorem Ig{place:Nat->Option (Nat×Nat)}{cs:List (Nat×Value)}{cells u:List V}{A:Array Value}(W:Cd place cells vs=some u)(U:vs.all (λp=>By p.2)=true)(B:KW σ w D ρ F vs cs)
  (Z:OI D w (Au σ ρ w) cells A):∃e,Instr.fill place A cs=some e/\OI D w (Au σ ρ w) u e:=by
 refine XN (λv cv h=>Au.one h) place vs cs cells u A W Z B.1 λj i v E=>?_
 refine⟨aET.1 U (i,v) (List.mem_of_getElem? E),?_⟩;obtain⟨x,hx,fp,J,_⟩:=B.2 j i v E
 grind
theorem H1(wr:BG σ w D ρ F)(ho:o.op=.buildSlice t len ps)(hv:KW σ w D ρ F vs (ps.toList.map λp=>(p.1,a.eval p.2)))
  {U:Bool} (h:B7 (slI P t) U len vs K):∃r,K r/\Aw P o a w σ D ρ r:=by
 unfold B7 at h;split at h
 case h_2=>exact h.elim
 rename_i e size bytes zero hsi;obtain⟨hu,i0,z,hi0,hz,his,_,Z,W,hz1⟩:=DN hsi;simp only at hu hi0 his Z W hz1;obtain⟨hp,⟨hs00,hlen⟩,h⟩:=h;split at h
 case h_2=>exact h.elim
 rename_i l hl;obtain⟨himm,hK⟩:=h
 have hzero:OI D w (Au σ ρ w) ((List.range (len*size)).map λj=>.c (zero.getD (j % size) undef)) ((Array.range (len*size)).map (z.cells[· % z.cells.size]!)):=by
  refine⟨by simp,λj hj=>?_⟩
  simp at hj;have hs0:0<size:=by rcases Nat.eq_zero_or_pos size with h|h;subst h;simp at hj;exact h
  have hm:j % size<z.cells.size:=by rw[W];exact Nat.mod_lt _ hs0
  have e1:(zero.getD (j % size) undef)=z.cells[j % z.cells.size]!:=by
   rw[<-Z,W,getElem!_pos z.cells (j % size) hm];simp[hm]
  simp[hj];refine⟨?_,?_,λ_ h=>h⟩
  .have:=e1.symm
   simpa using this
  .refine hz1 _ ?_
   have hl0:j % size<zero.length:=by rw[<-Z];simpa using hm
   simp[gEE hl0]
 obtain⟨cs',E,A⟩:=Ig hl hp hv hzero;refine⟨_,hK,Aw.new (ob:=.cells cs' e) (v':=.slice (some ⟨w.heap.size,0,none⟩) len len) wr ?_ ⟨_,?_,λb h=>h⟩⟩
 .have hn:¬ (16777216<len*size):=by omega
  unfold execOp;rw[ho];by_cases h0:len*size=0
  .have J:Instr.fill (λi=>some (i*size,size)) #[] (ps.toList.map λp=>(p.1,a.eval p.2))=some cs':=by
    have:(Array.range (len*size)).map (z.cells[· % z.cells.size]!)= #[]:=by rw[h0];simp
    rw[<-this];exact E
   simp[Instr.buildSlice,run_underlying hu,sizeOf,typeInfo,hi0,his,hn,h0,newRow];simp[Array.range_zero',J]
  .simp[Instr.buildSlice,run_underlying hu,sizeOf,typeInfo,zeroValue,hi0,hz,his,hn,h0,newRow]
   simp[E]
 .refine Rel.eqv _ _ _ _ (Lb U size len l) ?_
  have B:l.length=len*size:=by
   have h1:=A.1
   have h2:∀(u:List (Nat×V)) (cells l':List V),Cd (λi=>some (i*size,size)) cells u=some l'->l'.length=cells.length:=by
    intro u
    induction u with
    |nil=>intro cells l' h;simp[Cd]at h;rw[h]
    |cons p u ih=>
     intro cells l' h;obtain⟨i,v⟩:=p;simp only[Cd]at h;split at h
     .cases h
     .rw[ih _ _ h]
      have:∀(l:List V) (k:Nat) (c:List V),((l.zipIdx k).foldl (λcs (c,j)=>cs.set (i*size+j) c) c).length=c.length:=by
       intro l
       induction l with
       |nil=>intro k c;rfl
       |cons v l ih=>intro k c;simp only[List.zipIdx_cons,List.foldl_cons];rw[ih];simp
      exact this _ 0 _
   have:=h2 _ _ _ hl;simpa using this
  have hmax':len<=maxLen:=by have:=Nat.le_mul_of_pos_right len hs00;unfold maxLen;omega
  exact Hy wr.Dlt (T:=e) (s:=true) (cap:=len) (by rw[A.1,B];exact Nat.le_refl _) (Nat.le_refl _) hmax' (λh=>by cases h) λi k hi hk=>by
   have hlt:i*size+k<l.length:=by
    rw[B];have:(i+1)*size<=len*size:=Nat.mul_le_mul_right _ (by omega)
    rw[Nat.add_mul]at this;omega
   have h1:=A.2 _ hlt;refine CH (aET.1 himm _ ?_) h1;rw[gDE,gEE hlt];exact List.getElem_mem hlt
theorem bs_run(ho:o.op=.buildSlice t len ps)(hv:KW σ w D ρ F vs (ps.toList.map λp=>(p.1,a.eval p.2)))
  {e:TypeId}{size bytes:Nat}{zero:List Value} (hsi:slI P t=some ⟨e,size,bytes,zero⟩) (hp:vs.all (λp=>By p.2)=true) (hs00:0<size) (hlen:len*size<=16777216) {l:List V}
  (hl:Cd (λi=>some (i*size,size)) ((List.range (len*size)).map λj=>.c (zero.getD (j % size) undef)) vs=some l):
  ∃B,(execOp a.eval o).run P w=.ok (.value (.slice (some ⟨w.heap.size,0,none⟩) len len)) (w.alloc (.cells B e))/\OI D w (Au σ ρ w) l B/\l.length=len*size:=by
 obtain⟨hu,i0,z,hi0,hz,his,_,W,U,hz1⟩:=DN hsi;simp only at hu hi0 his W U hz1
 have Z:OI D w (Au σ ρ w) ((List.range (len*size)).map λj=>.c (zero.getD (j % size) undef)) ((Array.range (len*size)).map (z.cells[· % z.cells.size]!)):=by
  refine⟨by simp,λj hj=>?_⟩
  simp at hj;have hs0:0<size:=by rcases Nat.eq_zero_or_pos size with h|h;subst h;simp at hj;exact h
  have hm:j % size<z.cells.size:=by rw[U];exact Nat.mod_lt _ hs0
  have e1:(zero.getD (j % size) undef)=z.cells[j % z.cells.size]!:=by
   rw[<-W,U,getElem!_pos z.cells (j % size) hm];simp[hm]
  simp[hj];refine⟨?_,?_,λ_ h=>h⟩
  .have:=e1.symm
   simpa using this
  .refine hz1 _ ?_
   have hl0:j % size<zero.length:=by rw[<-W];simpa using hm
   simp[gEE hl0]
 obtain⟨B,A,J⟩:=Ig hl hp hv Z;refine⟨B,?_,J,?_⟩
 .have hn:¬ (16777216<len*size):=by omega
  unfold execOp;rw[ho];by_cases h0:len*size=0
  .have E:Instr.fill (λi=>some (i*size,size)) #[] (ps.toList.map λp=>(p.1,a.eval p.2))=some B:=by
    have:(Array.range (len*size)).map (z.cells[· % z.cells.size]!)= #[]:=by rw[h0];simp
    rw[<-this];exact A
   simp[Instr.buildSlice,run_underlying hu,sizeOf,typeInfo,hi0,his,hn,h0,newRow];simp[Array.range_zero',E]
  .simp[Instr.buildSlice,run_underlying hu,sizeOf,typeInfo,zeroValue,hi0,hz,his,hn,h0,newRow]
   simp[A]
 .have h1:=J.1
  have h2:∀(u:List (Nat×V)) (cells l':List V),Cd (λi=>some (i*size,size)) cells u=some l'->l'.length=cells.length:=by
   intro u
   induction u with
   |nil=>intro cells l' h;simp[Cd]at h;rw[h]
   |cons p u ih=>
    intro cells l' h;obtain⟨i,v⟩:=p;simp only[Cd]at h;split at h
    .cases h
    .rw[ih _ _ h]
     have:∀(l:List V) (k:Nat) (c:List V),((l.zipIdx k).foldl (λcs (c,j)=>cs.set (i*size+j) c) c).length=c.length:=by
      intro l
      induction l with
      |nil=>intro k c;rfl
      |cons v l ih=>intro k c;simp only[List.zipIdx_cons,List.foldl_cons];rw[ih];simp
     exact this _ 0 _
  have:=h2 _ _ _ hl;simpa using this
end ops
end Go.Ve

