/- The quiet operations of the small machine that make memory. -/
import Derived.Test.YtcpgmjbppfdjbaaDoorVf
namespace Go.Ve
variable{ps:Array (Nat×Operand)}{vs:List (Nat×V)}{len:Nat}{fp:Nat->Prop}{t:TypeId}{v:V}{R:V->Value->Prop}{cv:Value}
section ops
variable {P:Program} {o:Oper} {a:Act} {w:World} {σ:List V} {D:Nat->Prop} {ρ:Nat->Value} {F:Nat->Nat->Prop} {K:V->Prop}
theorem Hi(Dlt: ∀b,D b->b<w.heap.size){R:V->Value->Prop}{T:TypeId}{cs:Array Value}{s:Bool}{sz n cap:Nat}{f:Nat->Nat->V}(hcs:cap*sz<=cs.size)(hn:n<=cap)(hmax:n<=maxLen)(hs:s=false->n=1)
  (hc: ∀i k,i<n->k<sz->Rel D w noR (f i k) (cs.getD (i*sz+k) undef) noF):
  Rel D (w.alloc (.cells cs T)) R (.nd s true sz n f) (As s w.heap.size 0 n cap) (λb=>b=w.heap.size):=by
 have hb:(w.alloc (.cells cs T)).heap[w.heap.size]? =some (.cells cs T (0,0)):=by show(w.heap.push _)[w.heap.size]? =_;simp
 refine .inr ⟨w.heap.size,0,cap,λ_ _=>noF,rfl,hn,hmax,hs,λi k hi hk=>?_,(λh=>by grind),λ_=>⟨⟨cs,T,.plain hb,by omega⟩,λ_ _ _ _ h=>h,λ_ _ _ _ _ _ _ _ _ _ h=>h.elim,λx=>⟨λh=>.inl h,λh=>h.elim id fun⟨_,_,_,_,h⟩=>h.elim⟩⟩⟩
 have hlt:i*sz+k<cs.size:=by
  have:(i+1)*sz<=cap*sz:=Nat.mul_le_mul_right _ (by omega)
  grind
 refine⟨cs.getD (i*sz+k) undef,?_,Rel.mono (λ_ h=>h) (λ_ _ h=>h) _ _ _ (λb hb=>Below.heap_alloc _ _ _ (hb.elim (Dlt b) λh=>h.elim)) (hc i k hi hk)⟩
 simp_all
def Qn(D:Nat->Prop)(w:World)(R:V->Value->Prop)(l:List V)(cs:Array Value):Prop:=
 cs.size=l.length/\∀j,j<l.length->Rel D w R (l.getD j .dead) (cs.getD j undef) noF
def cellsV:V->List V
 | .many .ag n f=>(List.range n).map f
 |v=>[v]
def XD(cells:List V)(off:Nat)(l:List V):List V:=(l.zipIdx.foldl (λcs (c,j)=>cs.set (off+j) c) cells)
def BX(place:Nat->Option (Nat×Nat))(cells:List V):List (Nat×V)->Option (List V)
 | []=>some cells
 |(i,v)::rest=>match place i with
  |none=>none
  |some (off,size)=>if(cellsV v).length≠size\/cells.length<off+(cellsV v).length then none else BX place (XD cells off (cellsV v)) rest
def Bo:V->Bool
 | .many .tu _ _=>false
 | .many .bx _ _=>false
 | .many .ag n f=>(List.range n).all λk=>match f k with| .many ..=>false| .dead=>false|v=>!AE v
 | .dead=>false
 |v=>!AE v
def Xa:V->Bool
 | .many (.cl _) _ _=>true
 | .many .. | .dead=>false
 |_=>true
theorem Rel.cells1(h:Rel D w R v cv fp)(hR: ∀v cv,R v cv->cv.oneCell'=true)(hv:Xa v=true):cv.cells= #[cv]/\cv.oneCell'=true:=by
 have h1:cv.oneCell'=true:=by
  cases v with
  |c v=>rw [h.1];exact h.2.1
  |dead=>trivial
  |many t n f=>
   cases t with
   |cl g=>
    obtain⟨cs,_,hcv,_⟩:=h;rw [hcv];exact Yr
   |_=>trivial
  |nd s own sz n f=>
   rcases h with⟨_,_,hn0,_⟩|⟨b,o,cap,F,rfl,_⟩
   ·obtain⟨a,rfl⟩:=Ch hn0;rfl
   ·cases s<;>rfl
  |rs id p off len=>exact hR _ _ h.1
  |rp id p i k=>exact hR _ _ h.1
 refine⟨?_,h1⟩;cases cv<;>first|rfl|trivial
theorem Ag.one(h:Ag σ ρ w v cv):cv.oneCell'=true:=by
 cases v with
 |rs id p off len=>
  obtain⟨_,sz,n,f,cn,_,_,h⟩:=h;rcases h with⟨_,_,_,_,rfl⟩|⟨_,_,rfl,_⟩<;>rfl
 |rp id p i k=>
  obtain⟨_,s,sz,n,f,b,o,cap,_,_,_,rfl⟩:=h;rfl
 |c _=>trivial
 |dead=>trivial
 |many=>trivial
 |nd=>trivial
theorem Ci(hR: ∀v cv,R v cv->cv.oneCell'=true)(hp:Bo v=true)(h:Rel D w R v cv fp):Qn D w R (cellsV v) cv.cells/\∀b,¬fp b:=by
 have single: ∀v:V,Xa v=true->AE v=false->cellsV v= [v]->Rel D w R v cv fp->Qn D w R (cellsV v) cv.cells/\∀b,¬fp b:=by
  intro v hm ht hcv h;have hf:=Au _ _ _ ht h;obtain⟨hc,_⟩:=Rel.cells1 h hR hm;rw [hcv,hc];refine⟨⟨rfl,λj hj=>?_⟩,hf⟩
  obtain rfl:j=0:=by simp at hj;omega
  have:=AY hf;subst this;exact h
 cases v with
 |c v=>exact single _ rfl rfl rfl h
 |dead=>cases hp
 |nd s own sz n f=>exact single _ rfl (by simpa [Bo]using hp) rfl h
 |rs id p off len=>exact single _ rfl rfl rfl h
 |rp id p i k=>exact single _ rfl rfl rfl h
 |many t n f=>
  cases t with
  |bx=>cases hp
  |tu=>cases hp
  |cl g=>
   have hp:(!AE (V.many (.cl g) n f))=true:=hp;exact single _ rfl (by simpa using hp) rfl h
  |ag=>
   obtain⟨cs,F',rfl,hn,hr,_,hfp⟩:=h;have hfree: ∀k,k<n->∀b,¬F' k b:=by
    intro k hk;have h1:=aET.1 (show(List.range n).all _=true from hp) k (List.mem_range.2 hk)
    refine Au (f k) _ _ ?_ (hr k hk)
    grind
   refine⟨⟨by simp [cellsV,Value.cells,hn],λj hj=>?_⟩,λb hb=>?_⟩
   ·simp [cellsV]at hj
    have e:(cellsV (.many .ag n f)).getD j .dead=f j:=by simp [cellsV,hj]
    rw [e];have:=hr j hj;rw [AY (hfree j hj)]at this;exact this
   grind
theorem XC(l:List V): ∀ (vs:List Value) (k off:Nat) (cells:List V) (cs:Array Value),vs.length=l.length->(∀j,j<l.length->Rel D w R (l.getD j .dead) (vs.getD j undef) noF)->Qn D w R cells cs->
  Qn D w R ((l.zipIdx k).foldl (λcs (c,j)=>cs.set (off+j) c) cells) ((vs.zipIdx k).foldl (λcs (c,j)=>cs.setIfInBounds (off+j) c) cs):=by
 induction l with
 |nil=>intro vs k off cells cs hl _ h;cases vs<;>first|exact h|cases hl
 |cons v l ih=>
  intro vs k off cells cs hl hr h;cases vs with
  |nil=>cases hl
  |cons x vs=>
   refine ih vs (k+1) off _ _ (by simpa using hl) (λj hj=>by simpa using hr (j+1) (by simp;omega)) ?_
   refine⟨by simp [h.1],λj hj=>?_⟩
   simp only [List.length_set]at hj;by_cases he:off+k=j
   ·subst he
    have h0:Rel D w R v x noF:=by simpa using hr 0 (by simp)
    have h1:off+k<cs.size:=by rw [h.1];exact hj
    simp [hj,h1];exact h0
   ·have:=h.2 j hj
    simp_all
theorem Yj(hR: ∀v cv,R v cv->cv.oneCell'=true)(place:Nat->Option (Nat×Nat)): ∀ (parts:List (Nat×V)) (cparts:List (Nat×Value)) (cells l':List V) (cs:Array Value),BX place cells parts=some l'->Qn D w R cells cs->
  parts.length=cparts.length->(∀ (j i:Nat) (v:V),parts[j]? =some (i,v)->Bo v=true/\∃x fp,cparts[j]? =some (i,x)/\Rel D w R v x fp)->∃cs',Instr.fill place cs cparts=some cs'/\Qn D w R l' cs':=by
 intro parts
 induction parts with
 |nil=>
  intro cparts cells l' cs h hr hl _;cases cparts with
  |nil=>simp [BX]at h;subst h;exact⟨cs,rfl,hr⟩
  |cons=>cases hl
 |cons p parts ih=>
  intro cparts cells l' cs h hr hl hp;obtain⟨i,v⟩:=p;cases cparts with
  |nil=>cases hl
  |cons c cparts=>
   obtain⟨hpl,x,fp,hx,hrx⟩:=hp 0 i v rfl;simp at hx;subst hx;unfold BX at h;split at h
   ·cases h
   rename_i off size hplc;split at h
   ·cases h
   rename_i hcond;obtain⟨hcr,_⟩:=Ci hR hpl hrx;have h1:x.cells.size=(cellsV v).length:=hcr.1;have h2:cs.size=cells.length:=hr.1
   have hn: ¬ ((decide (x.cells.size≠size)||decide (off+x.cells.size>cs.size))=true):=by
    simp only [Bool.or_eq_true,decide_eq_true_eq];rw [h1,h2];omega
   unfold Instr.fill;simp only [hplc];rw [if_neg hn]
   have hset:Qn D w R (XD cells off (cellsV v)) (x.cells.zipIdx.foldl (λcs (c,j)=>cs.setIfInBounds (off+j) c) cs):=by
    have:=XC (cellsV v) x.cells.toList 0 off cells cs (by simpa using h1) (λj hj=>by simpa using hcr.2 j hj) hr
    rw [<-Array.foldl_toList];simpa [XD]using this
   exact ih cparts _ l' _ h hset (by simpa using hl) (λj i v hj=>by simpa using hp (j+1) i v (by simpa using hj))
def BW:V->Bool
 | .c _=>true
 | .nd _ own _ _ _=>!own
 | .many (.cl _) n f=>(List.range n).all λk=>BW (f k)
 |_=>false
theorem Cs: ∀ {cv:Value} {fp:Nat->Prop} (_:BW v=true) (_:Rel D w R v cv fp),Rel D w noR v cv fp:=by
 induction v with
 |many t n f ih=>
  intro cv fp h hr;cases t with
  |cl g=>
   obtain⟨cs,F,hcv,hn,hr,hd,hf⟩:=hr;exact⟨cs,F,hcv,hn,λk hk=>ih k (aET.1 h k (List.mem_range.2 hk)) (hr k hk),hd,hf⟩
  |_=>cases h
 |_=>intro cv fp h hr;trivial
def JX:List V->Option (List Int)
 | []=>some []
 | .c (.int .i64 n)::l=>(JX l).map (n:: ·)
 |_=>none
def Ke(sz:Nat)(l:List V):Nat->List (List V)
 |0=>[]
 |n+1=>Ke sz l n++ [(l.drop (n*sz)).take sz]
def slOf(deep:Bool)(sz n:Nat)(l:List V):V:=
 if deep=true/\sz=1/\n=0 then rows true []else
 match JX l with
 |some xs=>if sz=1/\xs.length=n then ints true xs else arr true sz (λx=>x) [] (Ke sz l n)
 |none=>arr true sz (λx=>x) [] (Ke sz l n)
theorem CG(sz:Nat)(l:List V): ∀n,(Ke sz l n).length=n
 |0=>rfl
 |n+1=>by unfold Ke;simp [CG sz l n]
theorem K0(sz:Nat)(l:List V): ∀n i,i<n->(Ke sz l n).getD i []=(l.drop (i*sz)).take sz
 |0,_,h=>by omega
 |n+1,i,h=>by
  unfold Ke;by_cases hi:i<n
  ·rw [gDE,gAL (by rw [CG];grind),<-gDE,K0 sz l n i hi]
  ·obtain rfl:i=n:=by omega
   simp [CG]
theorem JW: ∀ (l:List V) (xs:List Int),JX l=some xs->l=xs.map λn=>.c (.int .i64 n)
 | [],xs,h=>by simp [JX]at h;grind
 |v::l,xs,h=>by
  unfold JX at h;split at h
  ·grind
  ·rename_i n l' he
   cases he;cases hl:JX l with
   |none=>grind
   |some ys=>
    simp [hl]at h;subst h;rw [JW l ys hl];rfl
  grind
theorem Lw(deep:Bool)(sz n:Nat)(l:List V):Eqv (.nd true true sz n λi k=>l.getD (i*sz+k) .dead) (slOf deep sz n l):=by
 unfold slOf;split
 ·rename_i h
  obtain⟨_,rfl,rfl⟩:=h;exact⟨_,rfl,λi k hi hk=>by omega⟩
 have gen:Eqv (.nd true true sz n λi k=>l.getD (i*sz+k) .dead) (arr true sz (λx=>x) [] (Ke sz l n)):=by
  refine⟨λi k=>((Ke sz l n).getD i []).getD k .dead,by unfold arr;rw [CG],λi k hi hk=>?_⟩
  show Eqv _ (((Ke sz l n).getD i []).getD k .dead);rw [K0 sz l n i hi]
  have:((l.drop (i*sz)).take sz).getD k .dead=l.getD (i*sz+k) .dead:=by
   grind
  rw [this];exact Eqv.refl _
 cases hx:JX l with
 |none=>exact gen
 |some xs=>
  simp only;split
  ·rename_i hn
   obtain⟨rfl,rfl⟩:=hn;refine⟨_,rfl,λi k hi hk=>?_⟩
   obtain rfl:k=0:=by omega
   rw [JW l xs hx];simp [hi,Eqv]
  grind
def ZJ(P:Program)(t:TypeId):Bool:=
 match P.underlying t with
 |some (.slice e)=>match P.underlying e with
  |some (.slice e2)=>match P.info? e2 with
   |some i=>match i.zero with
    |some (.int .i64 0)=>true
    |_=>false
   |none=>false
  |_=>false
 |_=>false
def BT(si:Option SlI)(deep:Bool)(len:Nat)(parts:List (Nat×V))(K:V->Prop):Prop:=
 match si with
 |some ⟨_,size,_,zero⟩=>parts.all (λp=>Bo p.2)=true/\(0<size/\len*size<=16777216)/\
   match BX (λi=>some (i*size,size)) ((List.range (len*size)).map λj=>.c (zero.getD (j % size) undef)) parts with
   |some l=>l.all BW=true/\K (slOf deep size len l)
   |none=>False
 |none=>False
def Lf(σ:List V)(w:World)(D:Nat->Prop)(ρ:Nat->Value)(F:Nat->Nat->Prop)(vs:List (Nat×V))(cs:List (Nat×Value)):Prop:=
 vs.length=cs.length/\∀ (j i:Nat) (v:V),vs[j]? =some (i,v)->∃x,cs[j]? =some (i,x)/\OpR σ w D ρ F v x
theorem H7{place:Nat->Option (Nat×Nat)}{cs:List (Nat×Value)}{cells l':List V}{cc:Array Value}(hf:BX place cells vs=some l')(hp:vs.all (λp=>Bo p.2)=true)(hr:Lf σ w D ρ F vs cs)
  (hc:Qn D w (Ag σ ρ w) cells cc): ∃cs',Instr.fill place cc cs=some cs'/\Qn D w (Ag σ ρ w) l' cs':=by
 refine Yj (λv cv h=>Ag.one h) place vs cs cells l' cc hf hc hr.1 λj i v hj=>?_
 refine⟨aET.1 hp (i,v) (List.mem_of_getElem? hj),?_⟩;obtain⟨x,hx,fp,hrx,_⟩:=hr.2 j i v hj
 grind
theorem HS(wr:Bj σ w D ρ F)(ho:o.op= .buildSlice t len ps)(hv:Lf σ w D ρ F vs (ps.toList.map λp=>(p.1,a.eval p.2)))
  {deep:Bool} (h:BT (slI P t) deep len vs K): ∃r,K r/\Ak P o a w σ D ρ r:=by
 unfold BT at h;split at h
 case h_2=>exact h.elim
 rename_i e size bytes zero hsi;obtain⟨hu,i0,z,hi0,hz,his,_,hzl,hzs,hz1⟩:=CB hsi;simp only at hu hi0 his hzl hzs hz1;obtain⟨hp,⟨hs00,hlen⟩,h⟩:=h;split at h
 case h_2=>exact h.elim
 rename_i l hl;obtain⟨himm,hK⟩:=h
 have hzero:Qn D w (Ag σ ρ w) ((List.range (len*size)).map λj=>.c (zero.getD (j % size) undef)) ((Array.range (len*size)).map (z.cells[· % z.cells.size]!)):=by
  refine⟨by simp,λj hj=>?_⟩
  simp at hj;have hs0:0<size:=by rcases Nat.eq_zero_or_pos size with h|h;subst h;simp at hj;exact h
  have hm:j % size<z.cells.size:=by rw [hzs];exact Nat.mod_lt _ hs0
  have e1:(zero.getD (j % size) undef)=z.cells[j % z.cells.size]!:=by
   rw [<-hzl,hzs,getElem!_pos z.cells (j % size) hm];simp [hm]
  simp [hj];refine⟨?_,?_,λ_ h=>h⟩
  ·have:=e1.symm
   simpa using this
  ·refine hz1 _ ?_
   have hl0:j % size<zero.length:=by rw [<-hzl];simpa using hm
   simp [gEE hl0]
 obtain⟨cs',hfill,hrel⟩:=H7 hl hp hv hzero;refine⟨_,hK,Ak.new (ob:=.cells cs' e) (v':=.slice (some ⟨w.heap.size,0,none⟩) len len) wr ?_ ⟨_,?_,λb h=>h⟩⟩
 ·have hn: ¬ (16777216<len*size):=by omega
  unfold execOp;rw [ho];by_cases h0:len*size=0
  ·have hfill':Instr.fill (λi=>some (i*size,size)) #[] (ps.toList.map λp=>(p.1,a.eval p.2))=some cs':=by
    have:(Array.range (len*size)).map (z.cells[· % z.cells.size]!)= #[]:=by rw [h0];simp
    rw [<-this];exact hfill
   simp [Instr.buildSlice,run_underlying hu,sizeOf,typeInfo,hi0,his,hn,h0,newRow];simp [Array.range_zero',hfill']
  ·simp [Instr.buildSlice,run_underlying hu,sizeOf,typeInfo,zeroValue,hi0,hz,his,hn,h0,newRow]
   simp [hfill]
 ·refine Rel.eqv _ _ _ _ (Lw deep size len l) ?_
  have hlenl:l.length=len*size:=by
   have h1:=hrel.1
   have h2: ∀ (parts:List (Nat×V)) (cells l':List V),BX (λi=>some (i*size,size)) cells parts=some l'->l'.length=cells.length:=by
    intro parts
    induction parts with
    |nil=>intro cells l' h;simp [BX]at h;rw [h]
    |cons p parts ih=>
     intro cells l' h;obtain⟨i,v⟩:=p;simp only [BX]at h;split at h
     ·cases h
     ·rw [ih _ _ h]
      have: ∀ (l:List V) (k:Nat) (c:List V),((l.zipIdx k).foldl (λcs (c,j)=>cs.set (i*size+j) c) c).length=c.length:=by
       intro l
       induction l with
       |nil=>intro k c;rfl
       |cons v l ih=>intro k c;simp only [List.zipIdx_cons,List.foldl_cons];rw [ih];simp
      exact this _ 0 _
   have:=h2 _ _ _ hl;simpa using this
  have hmax':len<=maxLen:=by have:=Nat.le_mul_of_pos_right len hs00;unfold maxLen;omega
  exact Hi wr.Dlt (T:=e) (s:=true) (cap:=len) (by rw [hrel.1,hlenl];exact Nat.le_refl _) (Nat.le_refl _) hmax' (λh=>by cases h) λi k hi hk=>by
   have hlt:i*size+k<l.length:=by
    rw [hlenl];have:(i+1)*size<=len*size:=Nat.mul_le_mul_right _ (by omega)
    rw [Nat.add_mul]at this;omega
   have h1:=hrel.2 _ hlt;refine Cs (aET.1 himm _ ?_) h1;rw [gDE,gEE hlt];exact List.getElem_mem hlt
theorem bs_run(ho:o.op= .buildSlice t len ps)(hv:Lf σ w D ρ F vs (ps.toList.map λp=>(p.1,a.eval p.2)))
  {e:TypeId} {size bytes:Nat} {zero:List Value} (hsi:slI P t=some ⟨e,size,bytes,zero⟩) (hp:vs.all (λp=>Bo p.2)=true) (hs00:0<size) (hlen:len*size<=16777216) {l:List V}
  (hl:BX (λi=>some (i*size,size)) ((List.range (len*size)).map λj=>.c (zero.getD (j % size) undef)) vs=some l):
  ∃cs',(execOp a.eval o).run P w= .ok (.value (.slice (some ⟨w.heap.size,0,none⟩) len len)) (w.alloc (.cells cs' e))/\Qn D w (Ag σ ρ w) l cs'/\l.length=len*size:=by
 obtain⟨hu,i0,z,hi0,hz,his,_,hzl,hzs,hz1⟩:=CB hsi;simp only at hu hi0 his hzl hzs hz1
 have hzero:Qn D w (Ag σ ρ w) ((List.range (len*size)).map λj=>.c (zero.getD (j % size) undef)) ((Array.range (len*size)).map (z.cells[· % z.cells.size]!)):=by
  refine⟨by simp,λj hj=>?_⟩
  simp at hj;have hs0:0<size:=by rcases Nat.eq_zero_or_pos size with h|h;subst h;simp at hj;exact h
  have hm:j % size<z.cells.size:=by rw [hzs];exact Nat.mod_lt _ hs0
  have e1:(zero.getD (j % size) undef)=z.cells[j % z.cells.size]!:=by
   rw [<-hzl,hzs,getElem!_pos z.cells (j % size) hm];simp [hm]
  simp [hj];refine⟨?_,?_,λ_ h=>h⟩
  ·have:=e1.symm
   simpa using this
  ·refine hz1 _ ?_
   have hl0:j % size<zero.length:=by rw [<-hzl];simpa using hm
   simp [gEE hl0]
 obtain⟨cs',hfill,hrel⟩:=H7 hl hp hv hzero;refine⟨cs',?_,hrel,?_⟩
 ·have hn: ¬ (16777216<len*size):=by omega
  unfold execOp;rw [ho];by_cases h0:len*size=0
  ·have hfill':Instr.fill (λi=>some (i*size,size)) #[] (ps.toList.map λp=>(p.1,a.eval p.2))=some cs':=by
    have:(Array.range (len*size)).map (z.cells[· % z.cells.size]!)= #[]:=by rw [h0];simp
    rw [<-this];exact hfill
   simp [Instr.buildSlice,run_underlying hu,sizeOf,typeInfo,hi0,his,hn,h0,newRow];simp [Array.range_zero',hfill']
  ·simp [Instr.buildSlice,run_underlying hu,sizeOf,typeInfo,zeroValue,hi0,hz,his,hn,h0,newRow]
   simp [hfill]
 ·have h1:=hrel.1
  have h2: ∀ (parts:List (Nat×V)) (cells l':List V),BX (λi=>some (i*size,size)) cells parts=some l'->l'.length=cells.length:=by
   intro parts
   induction parts with
   |nil=>intro cells l' h;simp [BX]at h;rw [h]
   |cons p parts ih=>
    intro cells l' h;obtain⟨i,v⟩:=p;simp only [BX]at h;split at h
    ·cases h
    ·rw [ih _ _ h]
     have: ∀ (l:List V) (k:Nat) (c:List V),((l.zipIdx k).foldl (λcs (c,j)=>cs.set (i*size+j) c) c).length=c.length:=by
      intro l
      induction l with
      |nil=>intro k c;rfl
      |cons v l ih=>intro k c;simp only [List.zipIdx_cons,List.foldl_cons];rw [ih];simp
     exact this _ 0 _
  have:=h2 _ _ _ hl;simpa using this
end ops
end Go.Ve

