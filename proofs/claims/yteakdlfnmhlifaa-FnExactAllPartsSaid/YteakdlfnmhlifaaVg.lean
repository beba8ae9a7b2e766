/- The quiet operations of the small machine that make memory. -/
import Derived.Test.YteakdlfnmhlifaaVf
open List(range)
set_option linter.all false
namespace Go.Ve
variable{ps:Array (Nat×Operand)}{vs:List (Nat×V)}{len:Nat}{fp:Nat->Prop}{t:TypeId}{v:V}{R:V->Value->Prop}{cv:Value}
section ops
variable {P:Program}{o:Oper}{a:Act}{w:World}{σ:List V}{D:Nat->Prop}{ρ:Nat->Value}{F:Nat->Nat->Prop}{K:V->Prop}
theorem H3(Dlt:∀b,D b->b<w.heap.size){R:V->Value->Prop}{T:TypeId}{cs:Array Value}{s:Bool}{sz n cap:Nat}{f:Nat->Nat->V}(J:cap*sz<=cs.size)(B:n<=cap)(e:n<=maxLen)(A:s=false->n=1)
  (O:∀i k,i<n->k<sz->Rel D w noR (f i k) (cs.getD (i*sz+k) undef) noF):
  Rel D (w.alloc (.cells cs T)) R (.nd s true sz n f) (Ay s w.heap.size 0 n cap) (λb=>b=w.heap.size):=by
 have u:(w.alloc (.cells cs T)).heap[w.heap.size]? =some (.cells cs T (0,0)):=by show(w.heap.push _)[w.heap.size]? =_;simp
 refine .inr ⟨w.heap.size,0,cap,λ_ _=>noF,rfl,B,e,A,λi k hi H=>?_,(λh=>by grind),λ_=>⟨⟨cs,T,.plain u,by omega⟩,λ_ _ _ _ h=>h,λ_ _ _ _ _ _ _ _ _ _ h=>h.elim,λx=>⟨λh=>.inl h,λh=>h.elim id fun⟨_,_,_,_,h⟩=>h.elim⟩⟩⟩
 have E:i*sz+k<cs.size:=by
  have:(i+1)*sz<=cap*sz:=Nat.mul_le_mul_right _ (by omega)
  grind
 refine⟨cs.getD (i*sz+k) undef,?_,Rel.mono (λ_ h=>h) (λ_ _ h=>h) _ _ _ (λb u=>Below.heap_alloc _ _ _ (u.elim (Dlt b) λh=>h.elim)) (O i k hi H)⟩
 simp_all
def QR(D:Nat->Prop)(w:World)(R:V->Value->Prop)(l:List V)(cs:Array Value):Prop:=
 cs.size=l.length/\∀j,j<l.length->Rel D w R (l.getD j .dead) (cs.getD j undef) noF
def cellsV:V->List V
 |.many .ag n f=>(range n).map f
 |v=>[v]
def ZX(cells:List V)(off:Nat)(l:List V):List V:=(l.zipIdx.foldl (λcs (c,j)=>cs.set (off+j) c) cells)
def Cb(place:Nat->Option (Nat×Nat))(cells:List V):List (Nat×V)->Option (List V)
 |[]=>some cells
 |(i,v)::rest=>match place i with
  |none=>none
  |some (off,size)=>if(cellsV v).length≠size\/cells.length<off+(cellsV v).length then none else Cb place (ZX cells off (cellsV v)) rest
def Bv:V->Bool
 |.many .tu _ _=>false
 |.many .bx _ _=>false
 |.many .ag n f=>(range n).all λk=>match f k with|.many ..=>false|.dead=>false|v=>!AK v
 |.dead=>false
 |v=>!AK v
def Zs:V->Bool
 |.many (.cl _) _ _=>true
 |.many .. |.dead=>false
 |_=>true
theorem Rel.cells1(h:Rel D w R v cv fp)(A:∀v cv,R v cv->cv.oneCell'=true)(E:Zs v=true):cv.cells= #[cv]/\cv.oneCell'=true:=by
 have B:cv.oneCell'=true:=by
  cases v with
  |c v=>rw[h.1];exact h.2.1
  |dead=>trivial
  |many t n f=>
   cases t with
   |cl g=>
    obtain⟨cs,_,u,_⟩:=h;rw[u];exact AaT
   |_=>trivial
  |nd s own sz n f=>
   rcases h with⟨_,_,e,_⟩|⟨b,o,cap,F,rfl,_⟩
   .obtain⟨a,rfl⟩:=CF e;rfl
   .cases s<;>rfl
  |rs id p off len=>exact A _ _ h.1
  |rp id p i k=>exact A _ _ h.1
  |rm id p=>exact A _ _ h.1
  |mp own l=>obtain⟨b,rfl,_⟩:=h;rfl
 refine⟨?_,B⟩;cases cv<;>first|rfl|trivial
theorem Ai.one(h:Ai σ ρ w v cv):cv.oneCell'=true:=by
 cases v with
 |rs id p off len=>
  obtain⟨_,sz,n,f,e,_,_,h⟩:=h;rcases h with⟨_,_,_,_,rfl⟩|⟨_,_,rfl,_⟩<;>rfl
 |rp id p i k=>
  obtain⟨_,s,sz,n,f,b,o,cap,_,_,_,rfl⟩:=h;rfl
 |rm id p=>obtain⟨_,l,b,_,rfl⟩:=h;rfl
 |mp=>exact h.elim
 |c _=>trivial
 |dead=>trivial
 |many=>trivial
 |nd=>trivial
theorem Cc(hR:∀v cv,R v cv->cv.oneCell'=true)(A:Bv v=true)(h:Rel D w R v cv fp):QR D w R (cellsV v) cv.cells/\∀b,¬fp b:=by
 have u:∀v:V,Zs v=true->AK v=false->cellsV v=[v]->Rel D w R v cv fp->QR D w R (cellsV v) cv.cells/\∀b,¬fp b:=by
  intro v Y U E h;have O:=AC _ _ _ U h;obtain⟨hc,_⟩:=Rel.cells1 h hR Y;rw[E,hc];refine⟨⟨rfl,λj hj=>?_⟩,O⟩
  obtain rfl:j=0:=by simp at hj;omega
  have:=A4 O;subst this;exact h
 cases v with
 |c v=>exact u _ rfl rfl rfl h
 |dead=>cases A
 |nd s own sz n f=>exact u _ rfl (by simpa [Bv]using A) rfl h
 |rs id p off len=>exact u _ rfl rfl rfl h
 |rp id p i k=>exact u _ rfl rfl rfl h
 |rm id p=>exact u _ rfl rfl rfl h
 |mp own l=>exact u _ rfl (by simpa [Bv]using A) rfl h
 |many t n f=>
  cases t with
  |bx=>cases A
  |tu=>cases A
  |cl g=>
   have A:(!AK (V.many (.cl g) n f))=true:=A;exact u _ rfl (by simpa using A) rfl h
  |ag=>
   obtain⟨cs,F',rfl,W,H,_,Z⟩:=h;have B:∀k,k<n->∀b,¬F' k b:=by
    intro k J;have h1:=aET.1 (show(range n).all _=true from A) k (List.mem_range.2 J)
    refine AC (f k) _ _ ?_ (H k J)
    grind
   refine⟨⟨by simp[cellsV,Value.cells,W],λj hj=>?_⟩,λb hb=>?_⟩
   .simp[cellsV]at hj
    have e:(cellsV (.many .ag n f)).getD j .dead=f j:=by simp[cellsV,hj]
    rw[e];have:=H j hj;rw[A4 (B j hj)]at this;exact this
   grind
theorem ZW(l:List V):∀(vs:List Value) (k off:Nat) (cells:List V) (cs:Array Value),vs.length=l.length->(∀j,j<l.length->Rel D w R (l.getD j .dead) (vs.getD j undef) noF)->QR D w R cells cs->
  QR D w R ((l.zipIdx k).foldl (λcs (c,j)=>cs.set (off+j) c) cells) ((vs.zipIdx k).foldl (λcs (c,j)=>cs.setIfInBounds (off+j) c) cs):=by
 induction l with
 |nil=>intro vs k off cells cs e _ h;cases vs<;>first|exact h|cases e
 |cons v l A=>
  intro vs k off cells cs e u h;cases vs with
  |nil=>cases e
  |cons x vs=>
   refine A vs (k+1) off _ _ (by simpa using e) (λj hj=>by simpa using u (j+1) (by simp;omega)) ?_
   refine⟨by simp[h.1],λj hj=>?_⟩
   simp only[List.length_set]at hj;by_cases B:off+k=j
   .subst B
    have H:Rel D w R v x noF:=by simpa using u 0 (by simp)
    have E:off+k<cs.size:=by rw[h.1];exact hj
    simp[hj,E];exact H
   .have:=h.2 j hj
    simp_all
def AaO(hR:∀v cv,R v cv->cv.oneCell'=true)(place:Nat->Option (Nat×Nat)):∀(u:List (Nat×V)) (e:List (Nat×Value)) (cells A:List V) (cs:Array Value),Cb place cells u=some A->QR D w R cells cs->
  u.length=e.length->(∀(j i:Nat) (v:V),u[j]? =some (i,v)->Bv v=true/\∃x fp,e[j]? =some (i,x)/\Rel D w R v x fp)->∃J,Instr.fill place cs e=some J/\QR D w R A J:=by
 intro u
 induction u with
 |nil=>
  intro e cells A cs h O U _;cases e with
  |nil=>simp[Cb]at h;subst h;exact⟨cs,rfl,O⟩
  |cons=>cases U
 |cons p u ih=>
  intro e cells A cs h O U hp;obtain⟨i,v⟩:=p;cases e with
  |nil=>cases U
  |cons c e=>
   obtain⟨Y,x,fp,hx,W⟩:=hp 0 i v rfl;simp at hx;subst hx;unfold Cb at h;split at h
   .cases h
   rename_i off size E;split at h
   .cases h
   rename_i Z;obtain⟨H,_⟩:=Cc hR Y W;have h1:x.cells.size=(cellsV v).length:=H.1;have h2:cs.size=cells.length:=O.1
   have hn:¬ ((decide (x.cells.size≠size)||decide (off+x.cells.size>cs.size))=true):=by
    simp only[Bool.or_eq_true,decide_eq_true_eq];rw[h1,h2];omega
   unfold Instr.fill;simp only[E];rw[if_neg hn]
   have B:QR D w R (ZX cells off (cellsV v)) (x.cells.zipIdx.foldl (λcs (c,j)=>cs.setIfInBounds (off+j) c) cs):=by
    have:=ZW (cellsV v) x.cells.toList 0 off cells cs (by simpa using h1) (λj hj=>by simpa using H.2 j hj) O
    rw[<-Array.foldl_toList];simpa [ZX]using this
   exact ih e _ A _ h B (by simpa using U) (λj i v hj=>by simpa using hp (j+1) i v (by simpa using hj))
def B9:V->Bool
 |.c _=>true
 |.nd _ own _ _ _=>!own
 |.many (.cl _) n f=>(range n).all λk=>B9 (f k)
 |_=>false
theorem CO:∀{cv:Value}{fp:Nat->Prop} (_:B9 v=true) (_:Rel D w R v cv fp),Rel D w noR v cv fp:=by
 induction v with
 |many t n f B=>
  intro cv fp h e;cases t with
  |cl g=>
   obtain⟨cs,F,u,E,e,hd,H⟩:=e;exact⟨cs,F,u,E,λk A=>B k (aET.1 h k (List.mem_range.2 A)) (e k A),hd,H⟩
  |_=>cases h
 |_=>intro cv fp h e;trivial
def KV:List V->Option (List Int)
 |[]=>some []
 |.c (.int .i64 n)::l=>(KV l).map (n:: ·)
 |_=>none
def Lg(sz:Nat)(l:List V):Nat->List (List V)
 |0=>[]
 |n+1=>Lg sz l n++[(l.drop (n*sz)).take sz]
def slOf(e:Bool)(sz n:Nat)(l:List V):V:=
 if e=true/\sz=1/\n=0 then rows true []else
 match KV l with
 |some xs=>if sz=1/\xs.length=n then ints true xs else arr true sz (λx=>x) [] (Lg sz l n)
 |none=>arr true sz (λx=>x) [] (Lg sz l n)
def C6(sz:Nat)(l:List V):∀n,(Lg sz l n).length=n
 |0=>rfl
 |n+1=>by unfold Lg;simp[C6 sz l n]
def Mc(sz:Nat)(l:List V):∀n i,i<n->(Lg sz l n).getD i []=(l.drop (i*sz)).take sz
 |0,_,h=>by omega
 |n+1,i,h=>by
  unfold Lg;by_cases hi:i<n
  .rw[gDE,gAL (by rw[C6];grind),<-gDE,Mc sz l n i hi]
  .obtain rfl:i=n:=by omega
   simp[C6]
def KU:∀(l:List V) (xs:List Int),KV l=some xs->l=xs.map λn=>.c (.int .i64 n)
 |[],xs,h=>by simp[KV]at h;grind
 |v::l,xs,h=>by
  unfold KV at h;split at h
  .grind
  .rename_i n A u
   cases u;cases e:KV l with
   |none=>grind
   |some ys=>
    simp[e]at h;subst h;rw[KU l ys e];rfl
  grind
theorem MJ(e:Bool)(sz n:Nat)(l:List V):Eqv (.nd true true sz n λi k=>l.getD (i*sz+k) .dead) (slOf e sz n l):=by
 unfold slOf;split
 .rename_i h
  obtain⟨_,rfl,rfl⟩:=h;exact⟨_,rfl,λi k hi u=>by omega⟩
 have gen:Eqv (.nd true true sz n λi k=>l.getD (i*sz+k) .dead) (arr true sz (λx=>x) [] (Lg sz l n)):=by
  refine⟨λi k=>((Lg sz l n).getD i []).getD k .dead,by unfold arr;rw[C6],λi k hi u=>?_⟩
  show Eqv _ (((Lg sz l n).getD i []).getD k .dead);rw[Mc sz l n i hi]
  have:((l.drop (i*sz)).take sz).getD k .dead=l.getD (i*sz+k) .dead:=by
   grind
  rw[this];exact Eqv.refl _
 cases A:KV l with
 |none=>exact gen
 |some xs=>
  simp only;split
  .rename_i B
   obtain⟨rfl,rfl⟩:=B;refine⟨_,rfl,λi k hi u=>?_⟩
   obtain rfl:k=0:=by omega
   rw[KU l xs A];simp[hi,Eqv]
  grind
def Acz(P:Program)(t:TypeId):Bool:=
 match P.underlying t with
 |some (.slice e)=>match P.underlying e with
  |some (.slice e2)=>match P.info? e2 with
   |some i=>match i.zero with
    |some (.int .i64 0)=>true
    |_=>false
   |none=>false
  |_=>false
 |_=>false
def B6(A:Option SlI)(u:Bool)(len:Nat)(e:List (Nat×V))(K:V->Prop):Prop:=
 match A with
 |some ⟨_,size,_,zero⟩=>e.all (λp=>Bv p.2)=true/\(0<size/\len*size<=16777216)/\
   match Cb (λi=>some (i*size,size)) ((range (len*size)).map λj=>.c (zero.getD (j % size) undef)) e with
   |some l=>l.all B9=true/\K (slOf u size len l)
   |none=>False
 |none=>False
def Mr(σ:List V)(w:World)(D:Nat->Prop)(ρ:Nat->Value)(F:Nat->Nat->Prop)(vs:List (Nat×V))(cs:List (Nat×Value)):Prop:=
 vs.length=cs.length/\∀(j i:Nat) (v:V),vs[j]? =some (i,v)->∃x,cs[j]? =some (i,x)/\OpR σ w D ρ F v x
theorem IP{place:Nat->Option (Nat×Nat)}{cs:List (Nat×Value)}{cells u:List V}{A:Array Value}(J:Cb place cells vs=some u)(H:vs.all (λp=>Bv p.2)=true)(B:Mr σ w D ρ F vs cs)
  (O:QR D w (Ai σ ρ w) cells A):∃e,Instr.fill place A cs=some e/\QR D w (Ai σ ρ w) u e:=by
 refine AaO (λv cv h=>Ai.one h) place vs cs cells u A J O B.1 λj i v hj=>?_
 refine⟨aET.1 H (i,v) (List.mem_of_getElem? hj),?_⟩;obtain⟨x,U,fp,E,_⟩:=B.2 j i v hj
 grind
theorem IA(wr:Bg σ w D ρ F)(ho:o.op=.buildSlice t len ps)(hv:Mr σ w D ρ F vs (ps.toList.map λp=>(p.1,a.eval p.2)))
  {J:Bool} (h:B6 (slI P t) J len vs K):∃r,K r/\Ar P o a w σ D ρ r:=by
 unfold B6 at h;split at h
 case h_2=>exact h.elim
 rename_i e size bytes zero hsi;obtain⟨hu,i0,z,hi0,hz,his,_,U,O,hz1⟩:=Hj hsi;simp only at hu hi0 his U O hz1;obtain⟨hp,⟨hs00,hlen⟩,h⟩:=h;split at h
 case h_2=>exact h.elim
 rename_i l hl;obtain⟨himm,hK⟩:=h
 have W:QR D w (Ai σ ρ w) ((range (len*size)).map λj=>.c (zero.getD (j % size) undef)) ((Array.range (len*size)).map (z.cells[· % z.cells.size]!)):=by
  refine⟨by simp,λj hj=>?_⟩
  simp at hj;have hs0:0<size:=by rcases Nat.eq_zero_or_pos size with h|h;subst h;simp at hj;exact h
  have hm:j % size<z.cells.size:=by rw[O];exact Nat.mod_lt _ hs0
  have e1:(zero.getD (j % size) undef)=z.cells[j % z.cells.size]!:=by
   rw[<-U,O,getElem!_pos z.cells (j % size) hm];simp[hm]
  simp[hj];refine⟨?_,?_,λ_ h=>h⟩
  .have:=e1.symm
   simpa using this
  .refine hz1 _ ?_
   have hl0:j % size<zero.length:=by rw[<-U];simpa using hm
   simp[gEE hl0]
 obtain⟨cs',E,A⟩:=IP hl hp hv W;refine⟨_,hK,Ar.new (ob:=.cells cs' e) (v':=.slice (some ⟨w.heap.size,0,none⟩) len len) wr ?_ ⟨_,?_,λb h=>h⟩⟩
 .have hn:¬ (16777216<len*size):=by omega
  unfold execOp;rw[ho];by_cases h0:len*size=0
  .have H:Instr.fill (λi=>some (i*size,size)) #[] (ps.toList.map λp=>(p.1,a.eval p.2))=some cs':=by
    have:(Array.range (len*size)).map (z.cells[· % z.cells.size]!)= #[]:=by rw[h0];simp
    rw[<-this];exact E
   simp[Instr.buildSlice,run_underlying hu,sizeOf,typeInfo,hi0,his,hn,h0,newRow];simp[Array.range_zero',H]
  .simp[Instr.buildSlice,run_underlying hu,sizeOf,typeInfo,zeroValue,hi0,hz,his,hn,h0,newRow]
   simp[E]
 .refine Rel.eqv _ _ _ _ (MJ J size len l) ?_
  have B:l.length=len*size:=by
   have h1:=A.1
   have h2:∀(u:List (Nat×V)) (cells l':List V),Cb (λi=>some (i*size,size)) cells u=some l'->l'.length=cells.length:=by
    intro u
    induction u with
    |nil=>intro cells l' h;simp[Cb]at h;rw[h]
    |cons p u ih=>
     intro cells l' h;obtain⟨i,v⟩:=p;simp only[Cb]at h;split at h
     .cases h
     .rw[ih _ _ h]
      have:∀(l:List V) (k:Nat) (c:List V),((l.zipIdx k).foldl (λcs (c,j)=>cs.set (i*size+j) c) c).length=c.length:=by
       intro l
       induction l with
       |nil=>intro k c;rfl
       |cons v l ih=>intro k c;simp only[List.zipIdx_cons,List.foldl_cons];rw[ih];simp
      exact this _ 0 _
   have:=h2 _ _ _ hl;simpa using this
  have Y:len<=maxLen:=by have:=Nat.le_mul_of_pos_right len hs00;unfold maxLen;omega
  exact H3 wr.Dlt (T:=e) (s:=true) (cap:=len) (by rw[A.1,B];exact Nat.le_refl _) (Nat.le_refl _) Y (λh=>by cases h) λi k hi hk=>by
   have Z:i*size+k<l.length:=by
    rw[B];have:(i+1)*size<=len*size:=Nat.mul_le_mul_right _ (by omega)
    rw[Nat.add_mul]at this;omega
   have h1:=A.2 _ Z;refine CO (aET.1 himm _ ?_) h1;rw[gDE,gEE Z];exact List.getElem_mem Z
theorem bs_run(ho:o.op=.buildSlice t len ps)(hv:Mr σ w D ρ F vs (ps.toList.map λp=>(p.1,a.eval p.2)))
  {e:TypeId}{size bytes:Nat}{zero:List Value} (hsi:slI P t=some ⟨e,size,bytes,zero⟩) (hp:vs.all (λp=>Bv p.2)=true) (hs00:0<size) (hlen:len*size<=16777216) {l:List V}
  (hl:Cb (λi=>some (i*size,size)) ((range (len*size)).map λj=>.c (zero.getD (j % size) undef)) vs=some l):
  ∃B,(execOp a.eval o).run P w=.ok (.value (.slice (some ⟨w.heap.size,0,none⟩) len len)) (w.alloc (.cells B e))/\QR D w (Ai σ ρ w) l B/\l.length=len*size:=by
 obtain⟨hu,i0,z,Y,hz,W,_,O,J,Z⟩:=Hj hsi;simp only at hu Y W O J Z
 have U:QR D w (Ai σ ρ w) ((range (len*size)).map λj=>.c (zero.getD (j % size) undef)) ((Array.range (len*size)).map (z.cells[· % z.cells.size]!)):=by
  refine⟨by simp,λj hj=>?_⟩
  simp at hj;have hs0:0<size:=by rcases Nat.eq_zero_or_pos size with h|h;subst h;simp at hj;exact h
  have hm:j % size<z.cells.size:=by rw[J];exact Nat.mod_lt _ hs0
  have e1:(zero.getD (j % size) undef)=z.cells[j % z.cells.size]!:=by
   rw[<-O,J,getElem!_pos z.cells (j % size) hm];simp[hm]
  simp[hj];refine⟨?_,?_,λ_ h=>h⟩
  .have:=e1.symm
   simpa using this
  .refine Z _ ?_
   have hl0:j % size<zero.length:=by rw[<-O];simpa using hm
   simp[gEE hl0]
 obtain⟨B,A,H⟩:=IP hl hp hv U;refine⟨B,?_,H,?_⟩
 .have hn:¬ (16777216<len*size):=by omega
  unfold execOp;rw[ho];by_cases h0:len*size=0
  .have E:Instr.fill (λi=>some (i*size,size)) #[] (ps.toList.map λp=>(p.1,a.eval p.2))=some B:=by
    have:(Array.range (len*size)).map (z.cells[· % z.cells.size]!)= #[]:=by rw[h0];simp
    rw[<-this];exact A
   simp[Instr.buildSlice,run_underlying hu,sizeOf,typeInfo,Y,W,hn,h0,newRow];simp[Array.range_zero',E]
  .simp[Instr.buildSlice,run_underlying hu,sizeOf,typeInfo,zeroValue,Y,hz,W,hn,h0,newRow]
   simp[A]
 .have h1:=H.1
  have h2:∀(u:List (Nat×V)) (cells l':List V),Cb (λi=>some (i*size,size)) cells u=some l'->l'.length=cells.length:=by
   intro u
   induction u with
   |nil=>intro cells l' h;simp[Cb]at h;rw[h]
   |cons p u ih=>
    intro cells l' h;obtain⟨i,v⟩:=p;simp only[Cb]at h;split at h
    .cases h
    .rw[ih _ _ h]
     have:∀(l:List V) (k:Nat) (c:List V),((l.zipIdx k).foldl (λcs (c,j)=>cs.set (i*size+j) c) c).length=c.length:=by
      intro l
      induction l with
      |nil=>intro k c;rfl
      |cons v l ih=>intro k c;simp only[List.zipIdx_cons,List.foldl_cons];rw[ih];simp
     exact this _ 0 _
  have:=h2 _ _ _ hl;simpa using this
end ops
end Go.Ve

