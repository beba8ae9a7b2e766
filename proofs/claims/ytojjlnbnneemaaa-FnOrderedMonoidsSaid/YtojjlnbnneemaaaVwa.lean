/- In a region that draws its order: what is built out of trees of the call's own, in whatever order. -/
import Derived.Test.YtojjlnbnneemaaaVu
import Derived.Laws.IdiomCopy
set_option linter.all false
namespace Go.Ve
variable{ps:Array (Nat×Operand)}{xs:List Operand}{zero:List Value}{N d j size y:Nat}{fp:Nat->Prop}{t:Nat->V}{o:Oper}{x:Operand}{P:Program}{tk:Tk}{ty:TypeId}
structure Yc(D:Nat->Prop)(w:World)(R:V->Value->Prop)(l:List V)(cs:Array Value)(G:Nat->Nat->Prop):Prop where
 sz:cs.size=l.length
 rel:∀j,j<l.length->Rel D w R (l.getD j .dead) (cs.getD j undef) (G j)
 dis:∀i j b,i≠j->G i b->¬G j b
def I6:V->Bool
 |.many .tu _ _=>false
 |.many .bx _ _=>false
 |.many (.cl _) _ _=>false
 |.many .ag _ _=>true
 |.dead=>false
 |_=>true
section
variable {D:Nat->Prop}{w:World}{R:V->Value->Prop}
theorem Kv(hR:∀v cv,R v cv->cv.oneCell'=true){v:V}{cv:Value}(Y:I6 v=true)(h:Rel D w R v cv fp):∃H,Yc D w R (cellsV v) cv.cells H/\∀j b,H j b->fp b:=by
 have J:X6 v=true->cellsV v=[v]->∃H,Yc D w R (cellsV v) cv.cells H/\∀j b,H j b->fp b:=by
  intro hm hcv;obtain⟨hc,_⟩:=Rel.cells1 h hR hm;rw[hcv,hc];refine⟨λj=>if j=0 then fp else noF,⟨rfl,λj L=>?_,λi j b O W U=>?_⟩,λj b M=>?_⟩
  .simp_all
  .by_cases hi:i=0
   .have L:j≠0:=by omega
    simp only[L,if_false]at U;exact U
   .simp only[hi,if_false]at W
    exact W
  .have M:(if j=0 then fp else noF) b:=M
   split at M
   .exact M
   .exact M.elim
 cases v with
 |c v=>exact J rfl rfl
 |dead=>cases Y
 |nd s own sz n f=>exact J rfl rfl
 |rs id p off len=>exact J rfl rfl
 |rp id p i k=>exact J rfl rfl
 |rm id p=>exact J rfl rfl
 |mp own l=>exact J rfl rfl
 |many t n f=>
  cases t with
  |bx=>cases Y
  |tu=>cases Y
  |cl _=>cases Y
  |ag=>
   obtain⟨cs,F',rfl,hn,hr,hd,Z⟩:=h;refine⟨λj b=>j<n/\F' j b,⟨by simp[cellsV,Value.cells,hn],λj L=>?_,λi j b O W U=>hd i j b W.1 U.1 O W.2 U.2⟩,λj b M=>(Z b).2 ⟨j,M⟩⟩
   simp[cellsV]at L;have e:(cellsV (.many .ag n f)).getD j .dead=f j:=by simp[cellsV,L]
   rw[e];exact Rel.fp_congr (λb=>⟨λh=>⟨L,h⟩,λh=>h.2⟩) (hr j L)
theorem Wq(l:List V):∀(J:List Value) (k off:Nat) (cells:List V) (cs:Array Value) (G H:Nat->Nat->Prop),J.length=l.length->(∀j,j<l.length->Rel D w R (l.getD j .dead) (J.getD j undef) (H (k+j)))->(∀i j b,i≠j->H i b->¬H j b)->Yc D w R cells cs G->
  (∀j b i,k<=i->G j b->¬H i b)->∃G',Yc D w R ((l.zipIdx k).foldl (λcs (c,j)=>cs.set (off+j) c) cells) ((J.zipIdx k).foldl (λcs (c,j)=>cs.setIfInBounds (off+j) c) cs) G'/\∀j b,G' j b->G j b\/∃i,H i b:=by
 induction l with
 |nil=>intro J k off cells cs G H Y _ _ h _;cases J<;>first|exact⟨G,h,λ_ _ h=>.inl h⟩|cases Y
 |cons v l ih=>
  intro J k off cells cs G H Y hr hH h M;cases J with
  |nil=>cases Y
  |cons x J=>
   simp only[List.zipIdx_cons,List.foldl_cons];have h0:Rel D w R v x (H k):=by simpa using hr 0 (by simp)
   have g1:∀j,j<l.length->Rel D w R (l.getD j .dead) (J.getD j undef) (H (k+1+j)):=λj U=>by
    have:=hr (j+1) (by simp;omega)
    rw[show k+1+j=k+(j+1) by omega]
    simpa using this
   have g2:Yc D w R (cells.set (off+k) v) (cs.setIfInBounds (off+k) x) (λj=>if j=off+k then H k else G j):=by
    refine⟨by simp[h.sz],λj U=>?_,λi j b hij e L=>?_⟩
    .simp only[List.length_set]at U
     by_cases Z:off+k=j
     .subst Z
      have e:off+k<cs.size:=by rw[h.sz];exact U
      simp[U,e];exact h0
     .have:=h.rel j U
      have e:j<cs.size:=by rw[h.sz];exact U
      simp only[Ne.symm Z,if_false];simp only[gDE,List.getElem?_set_ne Z];simp only[Array.getD_eq_getD_getElem?,Array.getElem?_setIfInBounds_ne Z];simpa using this
    .have e:(if i=off+k then H k else G i) b:=e
     have L:(if j=off+k then H k else G j) b:=L
     split at e<;>split at L
     .omega
     .exact M j b k (Nat.le_refl _) L e
     .exact M i b k (Nat.le_refl _) e L
     .exact h.dis i j b hij e L
   have g3:∀j b i,k+1<=i->(if j=off+k then H k else G j) b->¬H i b:=λj b i hi W=>by
    split at W
    .exact hH k i b (by omega) W
    .exact M j b i (by omega) W
   obtain⟨G',e,L⟩:=ih J (k+1) off _ _ _ H (by simpa using Y) g1 hH g2 g3
   refine⟨G',e,λj b W=>?_⟩
   rcases L j b W with O|O
   .have O:(if j=off+k then H k else G j) b:=O
    split at O
    .exact .inr ⟨_,O⟩
    .exact .inl O
   .exact .inr O
theorem Q6(hR:∀v cv,R v cv->cv.oneCell'=true)(place:Nat->Option (Nat×Nat)):∀(L:List (Nat×V)) (J:List (Nat×Value)) (cells Y:List V) (cs:Array Value) (G Fp:Nat->Nat->Prop),Cd place cells L=some Y->Yc D w R cells cs G->
  L.length=J.length->(∀(j i:Nat) (v:V),L[j]? =some (i,v)->I6 v=true/\∃x,J[j]? =some (i,x)/\Rel D w R v x (Fp j))->(∀i j b,i≠j->Fp i b->¬Fp j b)->(∀j b i,G j b->¬Fp i b)->
  ∃M G',Instr.fill place cs J=some M/\Yc D w R Y M G'/\∀j b,G' j b->G j b\/∃i,Fp i b:=by
 intro L
 induction L with
 |nil=>
  intro J cells Y cs G Fp h hr hl _ _ _;cases J with
  |nil=>simp[Cd]at h;subst h;exact⟨cs,G,rfl,hr,λ_ _ h=>.inl h⟩
  |cons=>cases hl
 |cons p L ih=>
  intro J cells Y cs G Fp h hr hl hp hF hGF;obtain⟨i,v⟩:=p;cases J with
  |nil=>cases hl
  |cons c J=>
   obtain⟨hpl,x,hx,hrx⟩:=hp 0 i v rfl;simp at hx;subst hx;unfold Cd at h;split at h
   .cases h
   rename_i off size hplc;split at h
   .cases h
   rename_i hcond;obtain⟨H,O,U⟩:=Kv hR hpl hrx;have h1:x.cells.size=(cellsV v).length:=O.sz;have h2:cs.size=cells.length:=hr.sz
   have hn:¬ ((decide (x.cells.size≠size)||decide (off+x.cells.size>cs.size))=true):=by
    simp only[Bool.or_eq_true,decide_eq_true_eq];rw[h1,h2];omega
   unfold Instr.fill;simp only[hplc];rw[if_neg hn]
   obtain⟨G1,Z,hG1⟩:∃G1,Yc D w R (Yz cells off (cellsV v)) (x.cells.zipIdx.foldl (λcs (c,j)=>cs.setIfInBounds (off+j) c) cs) G1/\∀j b,G1 j b->G j b\/∃i,H i b:=by
    have:=Wq (cellsV v) x.cells.toList 0 off cells cs G H (by simpa using h1) (λj hj=>by simpa using O.rel j hj) O.dis hr (λj b i _ hb hh=>hGF j b 0 hb (U i b hh))
    rw[<-Array.foldl_toList];simpa [Yz]using this
   obtain⟨M,G',e,h3,h4⟩:=ih J _ Y _ G1 (λj=>Fp (j+1)) h Z (by simpa using hl) (λj i v hj=>by simpa using hp (j+1) i v (by simpa using hj)) (λi j b hij=>hF (i+1) (j+1) b (by omega)) (λj b i hb hh=>by
    rcases hG1 j b hb with W|⟨q,W⟩
    .exact hGF j b (i+1) W hh
    .exact hF 0 (i+1) b (by omega) (U q b W) hh)
   refine⟨M,G',e,h3,λj b hb=>?_⟩
   rcases h4 j b hb with W|⟨q,W⟩
   .rcases hG1 j b W with h6|⟨q,h6⟩
    .exact .inl h6
    .exact .inr ⟨0,U q b h6⟩
   .exact .inr ⟨q+1,W⟩
end
def IH(t:Nat->V):Operand->Option Nat
 |.tmp y=>if AS (t y)then some y else none
 |_=>none
def Dc:List (Option Nat)->Bool
 |[]=>true
 |none::l=>Dc l
 |some a::l=>l.all (λb=>match b with
  |some b=>!Nat.beq a b
  |none=>true)&&Dc l
theorem KC:∀{l:List (Option Nat)},Dc l=true->∀(i k a:Nat),i≠k->l[i]? =some (some a)->l[k]?≠some (some a)
 |none::l,h,i,k,a,hne,h1=>by
  cases i with
  |zero=>cases h1
  |succ i=>cases k with
   |zero=>intro e;cases e
   |succ k=>exact KC (l:=l) h i k a (by omega) (by simpa using h1)
 |some b::l,h,i,k,a,hne,h1=>by
  simp only[Dc,bAE]at h
  have key:∀k:Nat,l[k]?≠some (some b):=by
   intro k e;have J:=aET.1 h.1 (some b) (List.mem_of_getElem? e)
   simp_all
  cases i with
  |zero=>
   grind
  |succ i=>cases k with
   |zero=>
    grind
   |succ k=>exact KC (l:=l) h.2 i k a (by omega) (by simpa using h1)
 |[],_,_,_,_,_,h1=>by cases h1
def Bj(t:Nat->V)(xs:List Operand):List Nat:=xs.filterMap (IH t)
def Mz(h:AS (t y)=true):IH t (.tmp y)=some y:=if_pos h
theorem Ov(l:List Nat)(x:Nat):Bp (l.map λy=>(y,Tk.all)) x=if x∈l then some .all else none:=by
 induction l with
 |nil=>rfl
 |cons y l e=>
  show(if y=x then some Tk.all else Bp (l.map λy=>(y,Tk.all)) x)=_
  grind
def Dn(l:List Nat)(t:Nat->V)(x:Nat):AV (l.map λy=>(y,Tk.all)) t x=if x∈l then .dead else t x:=by
 unfold AV;rw[Ov];split<;>rfl
section
variable {C:Ctx}{N:Nat}{σ:List V}{ρ:Nat->Value}{F:Nat->Nat->Prop}{t:Nat->V}{a:Act}{w:World}{D:Nat->Prop}{T:Nat->Nat->Prop}
def opF(t:Nat->V)(T:Nat->Nat->Prop)(xs:List Operand)(j b:Nat):Prop:=∃y,xs[j]? =some (.tmp y)/\AS (t y)=true/\T y b
def D3{b:Nat}(h:opF t T xs j b):∃y,xs[j]? =some (.tmp y)/\AS (t y)=true/\y∈Bj t xs/\T y b:=by
 obtain⟨y,J,e,L⟩:=h;exact⟨y,J,e,List.mem_filterMap.2 ⟨.tmp y,List.mem_of_getElem? J,Mz e⟩,L⟩
theorem PR.opF_rel(h:PR C N σ ρ F t a w D T)(U:xs[j]? =some x):Rel D w (Am σ ρ w) (Ms.ev ⟨t,σ⟩ x) (a.eval x) (opF t T xs j):=by
 have plain:∀v cv,Rel D w (Am σ ρ w) v cv noF->(∀b,¬opF t T xs j b)->Rel D w (Am σ ρ w) v cv (opF t T xs j):=λv cv Z e=>by rw[Bb e];exact Z
 have J:(∀y,x≠.tmp y)->∀b,¬opF t T xs j b:=by
  rintro W b ⟨y,L,_⟩
  rw[U]at L;exact W y (Option.some.inj L)
 cases x with
 |tmp y=>
  by_cases Y:y<N
  .have L:=h.tm y Y
   cases ho:AS (t y)with
   |true=>
    refine Rel.fp_congr (λb=>⟨λhb=>⟨y,U,ho,hb⟩,fun⟨z,O,_,M⟩=>?_⟩) L
    grind
   |false=>
    refine plain _ _ (Bb (AF _ _ _ ho L)▸L) ?_
    rintro b ⟨z,O,M,_⟩
    grind
  .have hd:=h.dd y (Nat.le_of_not_lt Y)
   refine plain _ _ ?_ ?_
   .show Rel D w _ (t y) _ noF
    rw[hd];exact λ_ h=>h
   .rintro b ⟨z,O,M,_⟩
    rw[U]at O;cases O;rw[hd]at M;cases M
 |const v=>exact plain _ _ (IR v) (J λy e=>by cases e)
 |global g=>exact plain _ _ ⟨rfl,rfl,λ_ h=>h⟩ (J λy e=>by cases e)
 |func f=>exact plain _ _ PY (J λy e=>by cases e)
theorem PR.opF_dis(h:PR C N σ ρ F t a w D T)(L:Dc (xs.map (IH t))=true):∀i j b,i≠j->opF t T xs i b->¬opF t T xs j b:=by
 intro i j b J U O;obtain⟨y,Z,M,_,t1⟩:=D3 U;obtain⟨z,e2,o2,_,t2⟩:=D3 O;have e:y≠z:=by
  rintro rfl
  have Y:(xs.map (IH t))[i]? =some (some y):=by rw[List.getElem?_map,Z];exact congrArg some (Mz M)
  have W:(xs.map (IH t))[j]? =some (some y):=by grind
  exact KC L i j y J Y W
 exact h.tT y z b e t1 t2
theorem PR.take(h:PR C N σ ρ F t a w D T){r:V}{v':Value}{w':World}(hB:Below w.heap.size w w')(hr:Rel D w' (Am σ ρ w') r v' fp)(Z:∀b,fp b->(∃j,opF t T xs j b)\/w.heap.size<=b)(Y:d<N):
  ∃T',PR C N σ ρ F (AJ (AV ((Bj t xs).map λy=>(y,.all)) t) d r) (a.put (some d) v') w' D T'/\∀x b,T' x b->d=x\/∃b',T x b':=by
 refine⟨_,h.move (T1:=λx b=>x∉Bj t xs/\T x b) (λx L=>?_) (λx b e=>e.2) (λx L=>?_) hB hr (λb e=>?_) (λ_ h=>h) (λ_ h=>.inl h) (λb e=>⟨Nat.lt_of_lt_of_le (h.wr.Dlt b e) hB.size,λW=>?_⟩) Y,λx b e=>?_⟩
 .rw[Dn]
  by_cases M:x∈Bj t xs
  .rw[if_pos M];exact λb e=>e.1 M
  .rw[if_neg M]
   exact Rel.fp_congr (λb=>⟨λh=>⟨M,h⟩,λh=>h.2⟩) (h.tm x L)
 .rw[Dn]
  split
  .rfl
  .exact h.dd x L
 .rcases Z b e with⟨j,J⟩|J
  .obtain⟨y,_,_,M,O⟩:=D3 J
   refine .inl ⟨y,O,λx L=>?_⟩
   have U:x≠y:=by grind
   exact h.tT x y b U L.2 O
  .exact .inr J
 .rcases Z b W with⟨j,J⟩|J
  .obtain⟨y,_,_,_,O⟩:=D3 J
   exact h.tD y b O e
  .have:=h.wr.Dlt b e;omega
 .split at e
  .grind
  grind
end
theorem Du{e:Nat->V}(h:∀x∈xs,∀y,x=.tmp y->e y=t y):xs.map (IH e)=xs.map (IH t):=by
 refine List.map_congr_left λx J=>?_
 cases x with
 |tmp y=>show(if AS (e y)then some y else none)=if AS (t y)then some y else none;grind
 |const v=>rfl
 |global g=>rfl
 |func f=>rfl
def BW(t:Nat->V)(xs:List Operand):Bj t xs=(xs.map (IH t)).filterMap id:=by
 unfold Bj;simp
theorem DD{op:Op}(h:Operand.tmp y∈op.operands):y∈Hu op:=by
 exact List.mem_filterMap.2 ⟨.tmp y,by grind,rfl⟩
theorem ZF{Al:Nat->Nat->Prop}{σ:List V}{t:Nat->V}{places:List (Nat×Nat)}{l:List V}(ho:o.op=.build ty ps)(hd:o.dst=some d)(hdn:d<N)(hbi:Aax P ty=some (places,zero))
  (hap:Dc ((ps.toList.map (·.2)).map (IH t))=true) (hok:∀p∈ps.toList,I6 (Ms.ev ⟨t,σ⟩ p.2)=true) (hl:Cd (λi=>places[i]?) (zero.map .c) (ps.toList.map λp=>(p.1,Ms.ev ⟨t,σ⟩ p.2))=some l):
  LQ P N σ Al o t ((Bj t (ps.toList.map (·.2))).map λy=>(y,.all)) (Aj l):=by
 intro C ρ F a w D T t' hag hal hp next Q hn
 obtain⟨xs,Z⟩:∃xs,xs=ps.toList.map (·.2):=⟨_,rfl⟩
 rw[<-Z]at hap hn;have U:∀y,Operand.tmp y∈xs->t' y=t y:=λy hy=>hag y (.inl<|DD (by rw[ho];show _∈(ps.toList.map (·.2)).toArray;rw[Z]at hy;simpa using hy))
 have hev:∀x∈xs,Ms.ev ⟨t',σ⟩ x=Ms.ev ⟨t,σ⟩ x:=by
  intro x O;cases x with
  |tmp y=>exact U y O
  |const v=>rfl
  |global g=>rfl
  |func f=>rfl
 have W:xs.map (IH t')=xs.map (IH t):=Du λx O y e=>U y (e▸O)
 have hap':Dc (xs.map (IH t'))=true:=by rw[W];exact hap
 have htk:Bj t' xs=Bj t xs:=by rw[BW,BW,W]
 obtain⟨z,rfl,hz1,M⟩:=LU hbi
 have Y:Yc D w (Am σ ρ w) (z.cells.toList.map .c) z.cells λ_=>noF:=by
  refine⟨by simp,λj hj=>?_,λ_ _ _ _ h=>h.elim⟩
  simp at hj;simp[hj];exact⟨rfl,hz1 _ (by simp),λ_ h=>h⟩
 obtain⟨L,G',hfill,J,hG⟩:=Q6 (λv cv h=>Am.one h) (λi=>places[i]?) (ps.toList.map λp=>(p.1,Ms.ev ⟨t,σ⟩ p.2)) (ps.toList.map λp=>(p.1,a.eval p.2)) _ l _ _ (opF t' T xs) hl Y (by simp) (λj i v hj=>by
  simp only[List.getElem?_map]at hj⊢;cases hq:ps.toList[j]? with
  |none=>simp[hq]at hj
  |some q=>
   simp only[hq,Option.map_some,Option.some.injEq,Prod.mk.injEq]at hj⊢;obtain⟨rfl,rfl⟩:=hj;have hqm:=List.mem_of_getElem? hq;refine⟨hok q hqm,_,⟨rfl,rfl⟩,?_⟩;have O:xs[j]? =some q.2:=by rw[Z,List.getElem?_map,hq];rfl
   rw[<-hev q.2 (List.mem_of_getElem? O)];exact hp.opF_rel O) (hp.opF_dis hap') (λ_ _ _ h=>h.elim)
 have hrun:=run_build w ty (ps.map λp=>(p.1,a.eval p.2)) L (M _ _ (by simpa using hfill))
 have hex:(execOp a.eval o).run P w=.ok (.value (.agg L)) w:=by
  unfold execOp;rw[ho];simp only[Sem.run_bind];rw[show(Array.map (λx=>match x with|(i,x)=>(i,a.eval x)) ps)=ps.map (λp=>(p.1,a.eval p.2))from rfl,hrun]
  rfl
 unfold Oper.wp;rw[hex];show next (a.put o.dst (.agg L)) w
 rw[hd]at hn⊢;have hr:Rel D w (Am σ ρ w) (Aj l) (.agg L) (λb=>∃k,k<l.length/\G' k b):=⟨L,G',rfl,J.sz,λk hk=>J.rel k hk,λk k' b _ _ hne=>J.dis k k' b hne,λb=>Iff.rfl⟩
 obtain⟨T',hp',hT'⟩:=hp.take (xs:=xs) (d:=d) (Below.refl _ _) hr (λb ⟨k,_,hb⟩=>.inl ((hG k b hb).resolve_left λh=>h)) hdn
 rw[htk]at hp';exact hn _ _ _ _ hp' (λx b hb=>(hT' x b hb).imp (λe=>by rw[e]) λh=>h) λ_ O=>BM O
theorem Nk{Al:Nat->Nat->Prop}{σ:List V}{t:Nat->V}{len:Nat}{e:TypeId}{bytes:Nat}{l:List V}(ho:o.op=.buildSlice ty len ps)(hd:o.dst=some d)(hdn:d<N)(hsi:slI P ty=some ⟨e,size,bytes,zero⟩)
  (U:0<size) (hlen:len*size<=16777216) (hap:Dc ((ps.toList.map (·.2)).map (IH t))=true) (hok:∀p∈ps.toList,I6 (Ms.ev ⟨t,σ⟩ p.2)=true) (hl:Cd (λi=>some (i*size,size)) ((List.range (len*size)).map λj=>.c (zero.getD (j % size) undef)) (ps.toList.map λp=>(p.1,Ms.ev ⟨t,σ⟩ p.2))=some l)
  (himm:∀v∈l,Cc v=true\/∃s sz n f,v=.nd s true sz n f):
  LQ P N σ Al o t ((Bj t (ps.toList.map (·.2))).map λy=>(y,.all)) (.nd true true size len λi k=>l.getD (i*size+k) .dead):=by
 intro C ρ F a w D T t' hag hal hp next Q hn
 obtain⟨xs,hxs⟩:∃xs,xs=ps.toList.map (·.2):=⟨_,rfl⟩
 rw[<-hxs]at hap hn;have hopx:∀y,Operand.tmp y∈xs->t' y=t y:=λy hy=>hag y (.inl<|DD (by rw[ho];show _∈(ps.toList.map (·.2)).toArray;rw[hxs]at hy;simpa using hy))
 have hev:∀x∈xs,Ms.ev ⟨t',σ⟩ x=Ms.ev ⟨t,σ⟩ x:=by
  intro x hx;cases x with
  |tmp y=>exact hopx y hx
  |const v=>rfl
  |global g=>rfl
  |func f=>rfl
 have hmap:xs.map (IH t')=xs.map (IH t):=Du λx hx y e=>hopx y (e▸hx)
 have hap':Dc (xs.map (IH t'))=true:=by rw[hmap];exact hap
 have htk:Bj t' xs=Bj t xs:=by rw[BW,BW,hmap]
 obtain⟨hu,i0,z,hi0,hz,his,_,hzl,hzs,hz1⟩:=C8 hsi;simp only at hu hi0 his hzl hzs hz1
 have hzero:Yc D w (Am σ ρ w) ((List.range (len*size)).map λj=>.c (zero.getD (j % size) undef)) ((Array.range (len*size)).map (z.cells[· % z.cells.size]!)) λ_=>noF:=by
  refine⟨by simp,λj hj=>?_,λ_ _ _ _ h=>h.elim⟩
  simp at hj;have hm:j % size<z.cells.size:=by rw[hzs];exact Nat.mod_lt _ U
  have e1:(zero.getD (j % size) undef)=z.cells[j % z.cells.size]!:=by
   rw[<-hzl,hzs,getElem!_pos z.cells (j % size) hm];simp[hm]
  simp[hj];refine⟨?_,?_,λ_ h=>h⟩
  .have:=e1.symm
   simpa using this
  .refine hz1 _ ?_
   have hl0:j % size<zero.length:=by rw[<-hzl];simpa using hm
   simp[gEE hl0]
 obtain⟨J,G',Y,W,hG⟩:=Q6 (λv cv h=>Am.one h) (λi=>some (i*size,size)) (ps.toList.map λp=>(p.1,Ms.ev ⟨t,σ⟩ p.2)) (ps.toList.map λp=>(p.1,a.eval p.2)) _ l _ _ (opF t' T xs) hl hzero (by simp) (λj i v hj=>by
  simp only[List.getElem?_map]at hj⊢;cases hq:ps.toList[j]? with
  |none=>simp[hq]at hj
  |some q=>
   simp only[hq,Option.map_some,Option.some.injEq,Prod.mk.injEq]at hj⊢;obtain⟨rfl,rfl⟩:=hj;have hqm:=List.mem_of_getElem? hq;refine⟨hok q hqm,_,⟨rfl,rfl⟩,?_⟩;have hx:xs[j]? =some q.2:=by rw[hxs,List.getElem?_map,hq];rfl
   rw[<-hev q.2 (List.mem_of_getElem? hx)];exact hp.opF_rel hx) (hp.opF_dis hap') (λ_ _ _ h=>h.elim)
 have M:l.length=len*size:=by
  have h2:∀(L:List (Nat×V)) (cells l':List V),Cd (λi=>some (i*size,size)) cells L=some l'->l'.length=cells.length:=by
   intro L
   induction L with
   |nil=>intro cells l' h;simp[Cd]at h;rw[h]
   |cons p L ih=>
    intro cells l' h;obtain⟨i,v⟩:=p;simp only[Cd]at h;split at h
    .cases h
    .rw[ih _ _ h]
     have:∀(l:List V) (k:Nat) (c:List V),((l.zipIdx k).foldl (λcs (c,j)=>cs.set (i*size+j) c) c).length=c.length:=by
      intro l
      induction l with
      |nil=>intro k c;rfl
      |cons v l ih=>intro k c;simp only[List.zipIdx_cons,List.foldl_cons];rw[ih];simp
     exact this _ 0 _
  have:=h2 _ _ _ hl;simpa using this
 have hex:(execOp a.eval o).run P w=.ok (.value (.slice (some ⟨w.heap.size,0,none⟩) len len)) (w.alloc (.cells J e)):=by
  have hn:¬ (16777216<len*size):=by omega
  unfold execOp;rw[ho];by_cases h0:len*size=0
  .have hfill':Instr.fill (λi=>some (i*size,size)) #[] (ps.toList.map λp=>(p.1,a.eval p.2))=some J:=by
    have:(Array.range (len*size)).map (z.cells[· % z.cells.size]!)= #[]:=by rw[h0];simp
    rw[<-this];exact Y
   simp[Instr.buildSlice,run_underlying hu,sizeOf,typeInfo,hi0,his,hn,h0,newRow];simp[Array.range_zero',hfill']
  .simp[Instr.buildSlice,run_underlying hu,sizeOf,typeInfo,zeroValue,hi0,hz,his,hn,h0,newRow]
   simp[Y]
 have hB:Below w.heap.size w (w.alloc (.cells J e)):=(Below.refl _ _).alloc (Nat.le_refl _) _;have hblk:(w.alloc (.cells J e)).heap[w.heap.size]? =some (.cells J e (0,0)):=by show(w.heap.push _)[w.heap.size]? =_;simp
 have hold:∀k b,G' k b->b<w.heap.size:=by
  intro k b O;obtain⟨i,hi⟩:=(hG k b O).resolve_left λh=>h
  obtain⟨y,_,_,_,hT⟩:=D3 hi;by_cases hy:y<N
  .exact Rel.lt _ _ _ (hp.tm y hy) b hT
  .exact absurd hT (hp.tx y b (Nat.le_of_not_lt hy))
 have hsz:J.size=len*size:=by rw[W.sz];exact M
 have hcell:∀i k,i<len->k<size->i*size+k<l.length:=λi k hi hk=>by
  rw[M];have:(i+1)*size<=len*size:=Nat.mul_le_mul_right _ (by omega)
  rw[Nat.add_mul]at this;omega
 have hmax:len<=maxLen:=by have:=Nat.le_mul_of_pos_right len U;unfold maxLen;omega
 have hr:Rel D (w.alloc (.cells J e)) (Am σ ρ (w.alloc (.cells J e))) (.nd true true size len λi k=>l.getD (i*size+k) .dead) (.slice (some ⟨w.heap.size,0,none⟩) len len) (λb=>b=w.heap.size\/∃i k,i<len/\k<size/\G' (i*size+k) b):=by
  refine .inr ⟨w.heap.size,0,len,λi k=>G' (i*size+k),rfl,Nat.le_refl _,hmax,(λh=>by cases h),λi k hi hk=>?_,(λh=>by cases h),λ_=>⟨⟨J,e,.plain hblk,by rw[hsz,Nat.zero_add];exact Nat.le_refl _⟩,λi k hi hk hF=>?_,λi k i' k' b hi hk hi' hk' hne hF hF'=>?_,λ_=>Iff.rfl⟩⟩
  .have Z:=hcell i k hi hk
   refine⟨J.getD (i*size+k) undef,?_,?_⟩
   .unfold World.cell?
    have:i*size+k<J.size:=by rw[hsz,<-M];exact Z
    simp only[hblk,Option.isSome_none,Bool.false_eq_true,if_false,Nat.zero_add];simp[this]
   .have h5:=W.rel _ Z
    refine Rel.mono (λ_ h=>h) (λ_ _ h=>h) _ _ _ (λb O=>Below.heap_alloc _ _ _ ?_) (?_:Rel D w noR _ _ _)
    .rcases O with O|O
     .exact hp.wr.Dlt b O
     .exact hold _ b O
    .have hm:l.getD (i*size+k) .dead∈l:=by
      rw[gDE,gEE Z];exact List.getElem_mem Z
     rcases himm _ hm with h6|⟨s,sz,n,f,h6⟩
     .exact CX h6 h5
     .show Rel D w noR (l.getD (i*size+k) .dead) _ (G' (i*size+k))
      rw[h6]at h5⊢;exact h5
  .have:=hold _ _ hF
   omega
  .refine W.dis _ _ b ?_ hF hF'
   intro he;have e1:=congrArg (· /size) he
   have e2:=congrArg (· % size) he
   simp only[Nat.mul_comm i size,Nat.mul_comm i' size,Nat.mul_add_mod,Nat.mod_eq_of_lt hk,Nat.mod_eq_of_lt hk']at e2;subst e2;have:i*size=i'*size:=by omega
   have:=Nat.eq_of_mul_eq_mul_right U this;omega
 unfold Oper.wp;rw[hex];show next (a.put o.dst _) _
 rw[hd]at hn⊢
 obtain⟨T',hp',hT'⟩:=hp.take (xs:=xs) (d:=d) hB hr (λb O=>by
  rcases O with rfl|⟨i,k,_,_,O⟩
  .exact .inr (Nat.le_refl _)
  .exact .inl ((hG _ b O).resolve_left λh=>h)) hdn
 rw[htk]at hp';exact hn _ _ _ _ hp' (λx b O=>(hT' x b O).imp (λe=>by rw[e]) λh=>h) λ_ hx=>BM hx
def Hm(b:Nat):∀(e:List Value) (o:Nat) (w:World) (k:Nat),k≠b->(w.setCells b o e).heap[k]? =w.heap[k]?
 |[],_,_,_,_=>rfl
 |v::r,o,w,k,h=>by
  rw[World.setCells,Hm b r (o+1) _ k h];exact Below.heap_setCell w ⟨b,o,none⟩ v k h
theorem I5(b:Nat){T:TypeId}{fz:Nat×Nat}:∀(J:List Value) (o:Nat) (w:World) (cs:Array Value),w.heap[b]? =some (.cells cs T fz)->∃e,(w.setCells b o J).heap[b]? =some (.cells e T fz)/\e.size=cs.size
 |[],_,_,cs,h=>⟨cs,h,rfl⟩
 |v::r,o,w,cs,h=>by
  have M:(w.setCell ⟨b,o,none⟩ v).heap[b]? =some (.cells (cs.setIfInBounds o v) T fz):=by
   unfold World.setCell
   grind
  obtain⟨e,L,O⟩:=I5 b r (o+1) _ _ M;exact⟨e,L,by grind⟩
def HK(b:Nat):∀(e:List Value) (o:Nat) (w:World),(w.setCells b o e).os=w.os/\(w.setCells b o e).tape=w.tape/\(w.setCells b o e).output=w.output/\(w.setCells b o e).heap.size=w.heap.size/\(w.setCells b o e).drawn=w.drawn
 |[],_,_=>⟨rfl,rfl,rfl,rfl,rfl⟩
 |v::r,o,w=>by
  obtain⟨U,O,M,L,J⟩:=HK b r (o+1) (w.setCell ⟨b,o,none⟩ v);exact⟨U,O,M,by rw[World.setCells,L];simp,J⟩
def HY{x:Nat}{l:List (Nat×Tk)}(h:x≠y):Bp ((y,tk)::l) x=Bp l x:=if_neg (Ne.symm h)
def HZ{l:List (Nat×Tk)}:Bp ((y,tk)::l) y=some tk:=if_pos rfl
theorem ZE{Al:Nat->Nat->Prop}{N:Nat}{σ:List V}{t:Nat->V}{p:Nat}{agg:Bool}{lp:List V}(ho:o.op=.store ty (.tmp p) x)(hd:o.dst=none)(hti:tyI P ty=some ⟨agg,size,zero⟩)
  (htp:t p=Bi true lp) (hlp:lp.length=size) (hpn:p<N) (hxp:x≠.tmp p) (hok:I6 (Ms.ev ⟨t,σ⟩ x)=true) (hlen:(cellsV (Ms.ev ⟨t,σ⟩ x)).length=size) (himm:∀v∈cellsV (Ms.ev ⟨t,σ⟩ x),Cc v=true\/∃s sz n f,v=.nd s true sz n f)
  (hone:∀v∈cellsV (Ms.ev ⟨t,σ⟩ x),X6 v=true):
  LQ P N σ Al o t ((p,.put (Bi true (cellsV (Ms.ev ⟨t,σ⟩ x))))::(Bj t [x]).map λy=>(y,.all)) .dead:=by
 intro C ρ F a w D T t' hag hal M next Q hn
 rw[hd]at hn;have hopp:t' p=t p:=hag p (.inl<|DD (by rw[ho];simp[Op.operands]))
 have hopx:∀y,x=.tmp y->t' y=t y:=λy W=>hag y (.inl<|DD (by rw[ho,W];simp[Op.operands]))
 have hev:Ms.ev ⟨t',σ⟩ x=Ms.ev ⟨t,σ⟩ x:=by
  cases x with
  |tmp y=>exact hopx y rfl
  |const v=>rfl
  |global g=>rfl
  |func f=>rfl
 have hmap:[x].map (IH t')=[x].map (IH t):=Du λx' hx y e=>by rw[List.mem_singleton]at hx;subst hx;exact hopx y e
 have htk:Bj t' [x]=Bj t [x]:=by rw[BW,BW,hmap]
 have hnp:p∉Bj t [x]:=by
  intro hm;obtain⟨u,hu,he⟩:=List.mem_filterMap.1 hm;rw[List.mem_singleton]at hu;subst hu;cases u with
  |tmp z=>
   cases ho':AS (t z)with
   |true=>
    rw[Mz ho']at he;cases he;exact hxp rfl
   |false=>
    have:IH t (.tmp z)=none:=by show(if AS (t z)=true then some z else none)=none;rw[if_neg (by simp[ho'])]
    rw[this]at he;cases he
  |const v=>cases he
  |global g=>cases he
  |func f=>cases he
 -- the value's cells
 have hrx:=M.opF_rel (xs:=[x]) (j:=0) (x:=x) rfl;rw[hev]at hrx;obtain⟨H,hcr,hHF⟩:=Kv (λv cv h=>Am.one h) hok hrx
 obtain⟨L,hL⟩:∃L,L=cellsV (Ms.ev ⟨t,σ⟩ x):=⟨_,rfl⟩;rw[<-hL]at hcr hlen himm hone hn;obtain⟨U,hvs⟩:∃U,U=(a.eval x).cells.toList:=⟨_,rfl⟩;have hvl:U.length=L.length:=by rw[hvs];simpa using hcr.sz
 have hcell:∀j,j<L.length->Rel D w (Am σ ρ w) (L.getD j .dead) (U.getD j undef) (H j):=λj Y=>by
  have:=hcr.rel j Y;rw[hvs];simpa using this
 -- the struct's block
 have hrp:=M.tm p hpn;rw[hopp,htp]at hrp;rcases hrp with⟨h0,h1,_⟩|⟨b,of,cap,F0,hcv,hcap,hmax,hs1,hc,_,hown⟩
 .cases h1
 obtain⟨⟨cs,Tt,hb1,hb2⟩,hbF,hFd,hfp⟩:=hown rfl;have hTb:T p b:=(hfp b).2 (.inl rfl);have hcv:a.eval (.tmp p)=.pointer (some ⟨b,of,none⟩):=hcv;have hlt:b<w.heap.size:=hb1.lt;have hob:=hb1;obtain⟨fzz,hb1,hbz⟩:=hb1;have hcap1:cap*lp.length≥lp.length:=Nat.le_mul_of_pos_left _ (by omega)
 have Z:∀j,j<U.length->∃y,w.cell? ⟨b,of+j,none⟩=some y:=by
  intro j Y;have:of+j<cs.size:=by omega
  unfold World.cell?;simp only[hb1,Option.isSome_none,Bool.false_eq_true,if_false];exact⟨_,Array.getElem?_eq_getElem this⟩
 have hfz:∀j,j<U.length->w.frozen? ⟨b,of+j,none⟩=false:=λj Y=>by
  obtain⟨y,W⟩:=Z j Y;exact hob.frozen W
 have h1c:∀v∈U,v.oneCell'=true:=by
  intro v hv;obtain⟨j,Y,rfl⟩:=List.getElem_of_mem hv;have hj':j<L.length:=by omega
  have h1:=hcell j hj';have hm:L.getD j .dead∈L:=by
   rw[gDE,gEE hj'];exact List.getElem_mem hj'
  have:=(Rel.cells1 h1 (λv cv h=>Am.one h) (hone _ hm)).2
  simpa [Y]using this
 obtain⟨dd,tii,z,hdt,hit,hz,his,_⟩:=C5 hti;simp only at his;have hrun:=run_storeCells_cells (P:=P) b of U 0 w (λj Y=>by obtain⟨y,W⟩:=Z j Y;simp[W]) (λj Y=>by rw[Nat.add_zero];exact hfz j Y) h1c
 obtain⟨w',hw'⟩:∃w',w'=w.setCells b (of+0) U:=⟨_,rfl⟩;rw[<-hw']at hrun;obtain⟨g1,g2,g3,g4,g5⟩:=HK b U (of+0) w;obtain⟨cs2,hb3,hb4⟩:=I5 b U (of+0) w cs hb1;have hoth:∀k,k≠b->w'.heap[k]? =w.heap[k]?:=λk J=>by rw[hw'];exact Hm b U _ w k J
 rw[<-hw']at g1 g2 g3 g4 g5 hb3
 have hin:∀j (Y:j<U.length),w'.cell? ⟨b,of+j,none⟩=some U[j]:=by
  intro j Y;rw[hw'];exact World.cell?_setCells_in b U (of+0) w (λj Y=>by obtain⟨y,W⟩:=Z j Y;simp[W]) j Y
 have hsv:(storeVar ty ⟨b,of,none⟩ (a.eval x)).run P w=.ok () w':=by
  have e:(a.eval x).cells.size=size:=by rw[hcr.sz];exact hlen
  simp only[storeVar,Sem.run_bind,sizeOf,typeInfo];rw[<-hvs];simp[hit,his,hrun,e]
 have hex:(execOp a.eval o).run P w=.ok .skip w':=by
  unfold execOp;rw[ho];simp[Instr.storeAt,hcv,Instr.sureAddr,hsv]
 unfold Oper.wp;rw[hex,Oper.upon_skip,hd]
 -- nothing else lies in the block
 have hTn:∀y k,y≠p->T y k->k≠b:=λy k W J e=>M.tT y p k W J (e▸hTb)
 have hDn:∀k,D k->k≠b:=λk J e=>M.tD p b hTb (e▸J)
 have hFn:∀i k,F i k->k≠b:=λi k J e=>M.tF i p k J (e▸hTb)
 have hHT:∀j k,H j k->∃y,y∈Bj t [x]/\T y k:=λj k J=>by
  obtain⟨y,_,_,hm,hT⟩:=D3 (hHF j k J);exact⟨y,htk▸hm,hT⟩
 have hHn:∀j k,H j k->k≠b:=λj k J=>by
  obtain⟨y,hm,hT⟩:=hHT j k J;exact hTn y k (λe=>hnp (e▸hm)) hT
 have kM:∀y,AV ((p,.put (Bi true L))::(Bj t [x]).map λy=>(y,.all)) t' y=if y=p then Bi true L else if y∈Bj t [x]then .dead else t' y:=by
  intro y;unfold AV;by_cases W:y=p
  .subst W
   rw[HZ,if_pos rfl];rfl
  .rw[HY W,Ov,if_neg W]
   split<;>rfl
 have O:∀k,k≠b->w'.heap[k]? =w.heap[k]?:=hoth
 have hnew:Rel D w' (Am σ ρ w') (Bi true L) (a.tmps.getD p undef) (λk=>k=b\/∃j,j<L.length/\H j k):=by
  refine .inr ⟨b,of,cap,λi j=>H j,hcv,hcap,hmax,λ_=>rfl,λi k hi J=>?_,(λh=>by cases h),λ_=>⟨⟨cs2,Tt,⟨fzz,hb3,by rw[hb4];exact hbz⟩,?_⟩,λi k hi J hF=>hHn k b hF rfl,λi k i' k' c hi J hi' hk' hne hF hF'=>?_,λc=>?_⟩⟩
  .obtain rfl:i=0:=by omega
   have hk':k<U.length:=by omega
   refine⟨U[k],by simpa using hin k hk',?_⟩
   have h5:=hcell k J;have e5:U.getD k undef=U[k]:=by simp[hk']
   rw[e5]at h5;refine Rel.mono (λ_ h=>h) (λ_ _ h=>h) _ _ _ (λc hc=>O c ?_) (?_:Rel D w noR _ _ _)
   .rcases hc with hc|hc
    .exact hDn c hc
    .exact hHn k c hc
   .have hm:L.getD k .dead∈L:=by
     rw[gDE,gEE J];exact List.getElem_mem J
    show Rel D w noR (L.getD k .dead) U[k] (H k);rcases himm _ hm with h6|⟨s,sz,n,f,h6⟩
    .exact CX h6 h5
    .rw[h6]at h5⊢
     exact h5
  .rw[hb4,hlen,<-hlp];exact hb2
  .exact hcr.dis k k' c (by omega) hF hF'
  .constructor
   .rintro (h|⟨j,Y,h⟩)
    .exact .inl h
    .exact .inr ⟨0,j,by omega,Y,h⟩
   .rintro (h|⟨_,j,_,Y,h⟩)
    .exact .inl h
    .exact .inr ⟨j,Y,h⟩
 have wr':Bs σ w' D ρ F:=⟨λi hi=>Rel.mono (λ_ h=>h) (λ_ _ h=>h) _ _ _ (λk J=>O k (J.elim (hDn k) (hFn i k))) (M.wr.rel i hi),M.wr.disj,M.wr.dD,λk J=>by rw[g4];exact M.wr.Dlt k J,M.wr.out⟩
 have hsub:∀k,(k=b\/∃j,j<L.length/\H j k)->T p k\/∃y,y∈Bj t [x]/\T y k:=by
  rintro k (rfl|⟨j,_,h⟩)
  .exact .inl hTb
  .exact .inr (hHT j k h)
 refine hn a w' D (λy k=>if y=p then(k=b\/∃j,j<L.length/\H j k)else y∉Bj t [x]/\T y k) ⟨M.df,M.sz,λy W=>?_,wr',λy W=>?_,λy k J=>?_,λi y k J hT=>?_,λy y' k hyy h1 h2=>?_,λy k J=>?_,⟨g1.trans M.fr.os,g2.trans M.fr.tape,g3.trans M.fr.output,by rw[g4];exact M.fr.size,λk J hW=>?_,by rw[g5];exact M.fr.drawn⟩,M.Fn,M.D1,M.D2,M.rt,M.ml,λy k W J=>?_⟩ (λy k J=>?_) λ_ _=>rfl
 .show AV _ t' y=_
  rw[kM,if_neg (by omega)]
  split
  .rfl
  .exact M.dd y W
 .show Rel D w' (Am σ ρ w') (AV _ t' y) _ _
  rw[kM];by_cases hyp:y=p
  .subst hyp
   rw[if_pos rfl];exact Rel.fp_congr (λk=>by show _↔(if y=y then _ else _);rw[if_pos rfl]) hnew
  .rw[if_neg hyp]
   by_cases hm:y∈Bj t [x]
   .rw[if_pos hm]
    intro k J;have J:(if y=p then(k=b\/∃j,j<L.length/\H j k)else y∉Bj t [x]/\T y k):=J
    rw[if_neg hyp]at J;exact J.1 hm
   .rw[if_neg hm]
    refine Rel.fp_congr (fp:=T y) (λk=>by show _↔(if y=p then _ else _);rw[if_neg hyp];exact⟨λh=>⟨hm,h⟩,λh=>h.2⟩) ?_
    exact Rel.mono (λ_ h=>h) (λv cv hv=>Am.same M.wr (λi k J=>O k (hFn i k J)) v cv hv) _ _ _ (λk J=>O k (J.elim (hDn k) (hTn y k hyp))) (M.tm y W)
 .split at J
  .rcases hsub k J with h|⟨y',_,h⟩
   .exact M.tD p k h
   .exact M.tD y' k h
  .exact M.tD y k J.2
 .split at hT
  .rcases hsub k hT with h|⟨y',_,h⟩
   .exact M.tF i p k J h
   .exact M.tF i y' k J h
  .exact M.tF i y k J hT.2
 .have one:∀z,z≠p->z∉Bj t [x]->T z k->(k=b\/∃j,j<L.length/\H j k)->False:=by
   intro z hz hm hT h;rcases hsub k h with h|⟨y'',hm',h⟩
   .exact M.tT z p k hz hT h
   .exact M.tT z y'' k (λe=>hm (e▸hm')) hT h
  split at h1<;>split at h2
  .rename_i e1 e2;exact absurd (e1.trans e2.symm) hyy
  .rename_i e1 e2;exact one y' e2 h2.1 h2.2 h1
  .rename_i e1 e2;exact one y e1 h1.1 h1.2 h2
  .exact M.tT y y' k hyy h1.2 h2.2
 .split at J
  .rcases hsub k J with h|⟨y',_,h⟩
   .exact M.tn p k h
   .exact M.tn y' k h
  .exact M.tn y k J.2
 .have:k≠b:=λe=>by
   rcases M.tn p b hTb with h|h
   .exact hW (e▸h)
   .omega
  rw[O k this];exact M.fr.block k J hW
 .have J:(if y=p then(k=b\/∃j,j<L.length/\H j k)else y∉Bj t [x]/\T y k):=J
  rw[if_neg (by omega)]at J
  exact M.tx y k W J.2
 .have J:(if y=p then(k=b\/∃j,j<L.length/\H j k)else y∉Bj t [x]/\T y k):=J
  split at J
  .rename_i e;exact .inr ⟨b,e▸hTb⟩
  .exact .inr ⟨k,J.2⟩
end Go.Ve


namespace Go.Ve
def KH:List (Nat×Nat×Value)->Act->Act
 |[],a=>a
 |(_,d,u)::l,a=>KH l (a.put (some d) u)
theorem JX{d:Nat}{u:Value}:∀{l:List (Nat×Nat×Value)}{a:Act},(∀x∈l,x.2.1≠d)->KH l (a.put (some d) u)=(KH l a).put (some d) u
 |[],_,_=>rfl
 |(f,e,v)::l,a,h=>by
  have J:=h _ (List.mem_cons_self ..);show KH l ((a.put (some d) u).put (some e) v)=_;rw[Dz (λh=>J (by grind))]
  exact JX λx L=>h x (mCM _ L)
def Mw:∀(l e:List (Nat×Nat×Value)) (a:Act),KH (l++e) a=KH e (KH l a)
 |[],_,_=>rfl
 |(_,d,u)::l,e,a=>Mw l e (a.put (some d) u)
section
variable {P:Program}{ops:Array Oper}{n:Nat}{fs:List Nat}
def HT{o:Oper}(J:∀cs b,o.op≠.select cs b):∀{l:List (Nat×Nat×Value)}{a:Act},(∀x∈l,x.2.1∉o.looksAt ops)->execOp (KH l a).eval o=execOp a.eval o
 |[],_,_=>rfl
 |(f,d,u)::l,a,h=>by
  show execOp (KH l (a.put (some d) u)).eval o=_;rw[HT J λx L=>h x (mCM _ L),execOp_put o J a (some d) u λM e=>by cases e;exact h _ (List.mem_cons_self ..)]
def Jz{o:Oper}(h:AcD o.op=true):∀cs b,o.op≠.select cs b:=λcs b e=>by rw[e]at h;cases h
def FlH(P:Program)(ops:Array Oper)(n:Nat)(fs:List Nat)(a:Act)(w:World):Prop:=∀on,ops[n]? =some on->∃v w',(execOp a.eval on).run P w=.ok (.value v) w'/\
 ∀f∈fs,∀o,ops[f]? =some o->∀u,(execOp a.eval o).run P w=.ok (.value u) w->(execOp a.eval o).run P w'=.ok (.value u) w'
structure GI(P:Program)(ops:Array Oper)(Q:Exit->Act->World->Prop)(n:Nat)(fs:List Nat)(L:List (Nat×Nat×Value))(m:Nat)(listed:Array Bool)(a:Act)(w:World):Prop where
 sz:listed.size=ops.size
 ls:∀j,j<ops.size->listed.getD j true=decide (j<m/\∀x∈L,x.1≠j)
 nd:L.Pairwise λx y=>x.1≠y.1
 it:∀x∈L,x.1∈fs/\AK ops x.1=some x.2.1/\∀o,ops[x.1]? =some o->(execOp (KH L a).eval o).run P w=.ok (.value x.2.2) w
 wl:wpList P ops (QN Q) (ops.toList.drop m) (KH L a) w
 hH:m=n->FlH P ops n fs (KH L a) w
theorem GI.go{Q:Exit->Act->World->Prop}(hq:QOK ops n)(fl:FLS ops n fs):∀(fuel:Nat) (L:List (Nat×Nat×Value)) (m:Nat) (listed:Array Bool) (a:Act) (w:World),m=n\/m=n+1->(ops.size-m)+L.length<=fuel->GI P ops Q n fs L m listed a w->wpAny P .any ops Q fuel listed a w:=by
 have hsz:=fl.lt1;obtain⟨on,dn,hon,hog,hod,hos,hfl⟩:=fl.it;intro fuel
 induction fuel with
 |zero=>intro L m listed a w hm hf;omega
 |succ g ih=>
  intro L m listed a w hm hf h;cases hL:L with
  |nil=>
   subst hL;refine JF hq (.inr fl.chain) (g+1) m listed a w (by omega) (by omega) (by simpa using Nat.le_trans (by omega) (Nat.add_le_add_left hf m)) h.sz (λj hj=>?_) (JC m _ w (by omega) h.wl)
   rw[h.ls j hj];simp
  |cons x0 L0=>
  have hne:∃x,x∈L:=⟨x0,by rw[hL];exact List.mem_cons_self ..⟩
  -- what is known of the pending ones
  have hx:∀x∈L,x.1<n/\∃o,ops[x.1]? =some o/\o.guard=none/\AcD o.op=true/\o.dst=some x.2.1/\x.2.1∉on.looksAt ops/\dn≠x.2.1/\dn∉o.looksAt ops:=by
   intro x M;obtain⟨h1,Y,_⟩:=h.it x M;obtain⟨o,d,k1,k2,k3,k4,k5,k6,k7⟩:=hfl x.1 h1;have hd:d=x.2.1:=by
    unfold AK at Y;rw[k1]at Y;have Y:o.dst=some x.2.1:=Y;rw[k4]at Y;exact Option.some.inj Y
   subst hd;exact⟨(fl.lt x.1 h1).1,o,k1,k2,k3,k4,k5,k6,k7⟩
  have hdne:∀x∈L,∀y∈L,x.1≠y.1->x.2.1≠y.2.1:=by
   intro x M y hyL hxy e;obtain⟨h1,o,Y,_,_,h3,_⟩:=hx x M;obtain⟨h4,o',h5,_,_,h6,_⟩:=hx y hyL;have:=(hq.ne x.1 y.1 x.2.1 o' h1 h4 hxy (h.it x M).2.1 h5).1;rw[e]at this;exact this h6
  have hun:∀j,j<ops.size->(listed.getD j false=true↔(j<m/\∀x∈L,x.1≠j)):=by
   intro j hj;have h1:=Js h.sz hj (h.ls j hj);rw[h1,decide_eq_true_iff]
  refine⟨λh0=>?_,λi hi=>?_⟩
  .-- the Vc of them is ready
   exfalso;obtain⟨i,⟨x,M,rfl⟩,hmin⟩:=Vc (p:=λi=>∃x∈L,x.1=i) (let ⟨x,hx⟩:=hne;⟨x.1,x,hx,rfl⟩)
   obtain⟨h1,o,Y,_⟩:=hx x M;have:x.1∈Region.ready .any ops listed:=by
    refine mem_ready.2 ⟨by rw[h.ls x.1 (by omega)];exact dF λhh=>hh.2 x M rfl,o,Y,λe he hb=>?_⟩
    have h3:=hq.back x.1 o e Y he hb;exact(hun e.on (by omega)).2 ⟨by omega,λy J e'=>hmin e.on h3 ⟨y,J,e'⟩⟩
   rw[h0]at this;cases this
  .obtain⟨hiu,oi,U,hall⟩:=mem_ready.1 hi
   have his:i<ops.size:=(Array.getElem?_eq_some_iff.1 U).1;have hdep:∀j,Region.waitsFor .any ops i j=true->j<ops.size->j<m/\∀x∈L,x.1≠j:=by
    intro j hw hj;obtain⟨o',ho',e,he',hb,hon'⟩:=Region.waitsFor_spec hw;obtain rfl:o'=oi:=Option.some.inj (ho'.symm.trans U);have h3:=hall e he' hb;rw[hon']at h3;exact(hun j hj).1 h3
   by_cases hiL:∃x∈L,x.1=i
   .-- a pending one
    obtain⟨x,M,rfl⟩:=hiL;obtain⟨hxn,o,ho,hg,hex,hd,hlo,hdn,hdo⟩:=hx x M;obtain rfl:oi=o:=Option.some.inj (U.symm.trans ho);obtain⟨hfs,hdst,O⟩:=h.it x M;have O:=O oi ho;have hlook:∀y∈L,y.2.1∉oi.looksAt ops:=by
     intro y J hm';obtain⟨hyn,oy,hoy,_,_,hdy,_⟩:=hx y J;by_cases hxy:y.1=x.1
     .have e:y.2.1=x.2.1:=by
       have h1:=(h.it y J).2.1;rw[hxy,hdst]at h1;exact(Option.some.inj h1).symm
      obtain⟨oi',hoi',hnl⟩:=hq.dst x.1 hxn;obtain rfl:oi'=oi:=Option.some.inj (hoi'.symm.trans U);exact hnl x.2.1 hd (e▸hm')
     .obtain⟨e,he,hb,hon'⟩:=(hq.ne y.1 x.1 y.2.1 oi hyn hxn hxy (h.it y J).2.1 U).2 hm'
      have h3:=hall e he hb;rw[hon']at h3;exact((hun y.1 (by omega)).1 h3).2 y J rfl
    rw[HT (Jz hex) hlook]at O;unfold wpOp;simp only[U];have hw:Region.wanted oi (yielded ops a.tmps)=true:=by simp[Region.wanted,hg]
    rw[if_pos hw];left;unfold Oper.wp;rw[O,Oper.upon_value,hd];obtain⟨L1,L2,hsp⟩:=List.append_of_mem M;have hnd:=h.nd;rw[hsp,List.pairwise_append,List.pairwise_cons]at hnd;obtain⟨n1,⟨n2,n3⟩,n4⟩:=hnd
    have W:KH (L1++L2) (a.put (some x.2.1) x.2.2)=KH L a:=by
     rw[hsp,Mw,Mw];show _=KH L2 ((KH L1 a).put (some x.2.1) x.2.2);rw[JX λy J=>hdne y (by rw[hsp];simp[J]) x M (n4 y J x (List.mem_cons_self ..))]
    have hLm:∀y,y∈L1++L2↔y∈L/\y.1≠x.1:=by
     intro y;rw[hsp];simp only[List.mem_append,List.mem_cons];constructor
     .rintro (J|J)
      .exact⟨.inl J,n4 y J x (List.mem_cons_self ..)⟩
      .exact⟨.inr (.inr J),λe=>n2 y J e.symm⟩
     .rintro ⟨J|rfl|J,hyx⟩
      .exact .inl J
      .exact absurd rfl hyx
      .exact .inr J
    refine ih (L1++L2) m _ _ w hm ?_ ⟨by simpa using h.sz,λj hj=>?_,?_,λy J=>?_,by rw[W];exact h.wl,λe=>by rw[W];exact h.hH e⟩
    .rw[hsp]at hf
     simp only[List.length_append,List.length_cons]at hf⊢;omega
    .by_cases hij:x.1=j
     .subst hij
      have:x.1<listed.size:=by rw[h.sz];exact his
      rw[show(listed.setIfInBounds x.1 true).getD x.1 true=true by simp[this]]
      exact(dT ⟨by omega,λy J=>((hLm y).1 J).2⟩).symm
     .rw[getD_set_ne true hij,h.ls j hj]
      refine decide_eq_decide.2 ⟨fun⟨k1,k2⟩=>⟨k1,λy J=>k2 y ((hLm y).1 J).1⟩,fun⟨k1,k2⟩=>⟨k1,λy J=>?_⟩⟩
      by_cases hyx:y.1=x.1
      .rw[hyx];exact hij
      .exact k2 y ((hLm y).2 ⟨J,hyx⟩)
    .exact List.pairwise_append.2 ⟨n1,n3,λy J z hz=>n4 y J z (mCM _ hz)⟩
    .obtain⟨k1,k2,k3⟩:=h.it y ((hLm y).1 J).1
     rw[W];exact⟨k1,k2,k3⟩
   .have hnot:¬i<m:=λhlt=>by
     rw[h.ls i his]at hiu;exact of_decide_eq_false hiu ⟨hlt,λx hx e=>hiL ⟨x,hx,e⟩⟩
    have him:i=m:=by
     have Y:=aET.1 fl.chain i (List.mem_range.2 his);simp only[Bool.or_eq_true,decide_eq_true_eq]at Y;rcases Y with Y|Y
     .omega
     .have:=(hdep (i-1) Y (by omega)).1
      omega
    rcases hm with hmn|hmn
    case inr=>
     exfalso;obtain⟨x,M⟩:=hne;obtain⟨h1,_,_⟩:=h.it x M;have Y:=(fl.lt x.1 h1).2;rw[show n+1=i by omega]at Y
     exact(hdep x.1 Y (by have:=(fl.lt x.1 h1).1;omega)).2 x M rfl
    subst him;subst hmn;obtain rfl:oi=on:=Option.some.inj (U.symm.trans hon);obtain⟨v,w',O,hkeep⟩:=h.hH rfl oi U;have hlook:∀y∈L,y.2.1∉oi.looksAt ops:=λy J=>by
     obtain⟨_,_,_,_,_,_,h5,_⟩:=hx y J;exact h5
    have hrun0:=O;rw[HT hos hlook]at hrun0;have Z:=h.wl
    have hdrop:ops.toList.drop i=oi::ops.toList.drop (i+1):=by
     have h1:=List.drop_eq_getElem_cons (l:=ops.toList) (i:=i) (by simpa using his)
     rw[h1]
     congr 1
     have:ops[i]? =some ops[i]:=by simp[his]
     rw[U]at this;simpa using(Option.some.inj this).symm
    rw[hdrop]at Z;unfold wpList at Z;rw[if_pos (by simp[Region.wanted,hog])]at Z
    unfold wpOp;simp only[U];rw[if_pos (by simp[Region.wanted,hog])]
    left;unfold Oper.wp;rw[hrun0,Oper.upon_value,hod]
    have W:KH L (a.put (some dn) v)=(KH L a).put (some dn) v:=JX λy J=>by
     obtain⟨_,_,_,_,_,_,_,h6,_⟩:=hx y J;exact λe=>h6 e.symm
    refine ih L (i+1) _ _ w' (.inr (by omega)) (by omega) ⟨by simpa using h.sz,λj hj=>?_,h.nd,λy J=>?_,?_,λe=>by omega⟩
    .by_cases hij:i=j
     .subst hij
      have:i<listed.size:=by rw[h.sz];exact his
      rw[show(listed.setIfInBounds i true).getD i true=true by simp[this]]
      exact(dT ⟨by omega,λy J e=>hiL ⟨y,J,e⟩⟩).symm
     .rw[getD_set_ne true hij,h.ls j hj]
      exact decide_eq_decide.2 ⟨fun⟨k1,k2⟩=>⟨by omega,k2⟩,fun⟨k1,k2⟩=>⟨by omega,k2⟩⟩
    .obtain⟨k1,k2,k3⟩:=h.it y J
     refine⟨k1,k2,λo ho=>?_⟩
     obtain⟨_,o',ho',_,hex,_,_,_,h7⟩:=hx y J;obtain rfl:o'=o:=Option.some.inj (ho'.symm.trans ho);rw[W,execOp_put o' (Jz hex) _ (some dn) v λd hd=>by cases hd;exact h7]
     exact hkeep y.1 k1 o' ho _ (k3 o' ho)
    .rw[W]
     rcases Z with Z|⟨_,_,_,hno⟩
     .unfold Oper.wp at Z
      rw[O,Oper.upon_value,hod]at Z;exact Z
     .exact(Acm _ _ _ (by simp) hno).elim
end
end Go.Ve


namespace Go.Ve
open Go
variable{α E:Type}{w w':World}
def Je{α:Type}(s:Sem α):Prop:=∀(P:Program) (w e:World) (n:α),s.run P w=.ok n e->e=w
def Yb{α:Type}(w w':World)(s:Sem α):Prop:=∀(P:Program) (n:α),s.run P w=.ok n w->s.run P w'=.ok n w'
theorem Je.pure{α:Type}(x:α):Je (Pure.pure x:Sem α):=λP w e n h=>by simp_all
theorem Yb.pure{α:Type}{w w':World}(x:α):Yb w w' (Pure.pure x:Sem α):=λP n h=>by simp_all
theorem Je.bind{s:Sem α}{f:α->Sem E}(O:Je s)(U:∀x,Je (f x)):Je (s>>=f):=by
 intro P w M n h;rw[Sem.run_bind]at h;cases L:s.run P w with
 |ok x J=>
  rw[L]at h;have e:=O P w J x L;subst e;exact U x P _ M n h
 |halt x J=>simp_all
theorem Yb.bind{s:Sem α}{f:α->Sem E}(O:Je s)(M:Yb w w' s)(U:∀x,Yb w w' (f x)):Yb w w' (s>>=f):=by
 intro P n h;rw[Sem.run_bind]at h⊢;cases J:s.run P w with
 |ok x L=>
  rw[J]at h;have e:=O P w L x J;subst e;rw[M P x J];exact U x P n h
 |halt x L=>simp_all
def BC{α:Type}(s:Sem α):Prop:=∀(P:Program) (w e:World) (n:α),s.run P w≠.ok n e
theorem BC.keep{s:Sem α}(h:BC s):Je s:=λP w J n e=>(h P w J n e).elim
theorem BC.same{s:Sem α}(h:BC s):Yb w w' s:=λP n e=>(h P w w n e).elim
theorem BC.bind{s:Sem α}{f:α->Sem E}(h:BC s):BC (s>>=f):=by
 intro P w M n e;rw[Sem.run_bind]at e;cases L:s.run P w with
 |ok x J=>exact h P w J x L
 |halt x J=>simp_all
theorem BC.bindR{s:Sem α}{f:α->Sem E}(h:∀x,BC (f x)):BC (s>>=f):=by
 intro P w L n e;rw[Sem.run_bind]at e;cases M:s.run P w with
 |ok x J=>rw[M]at e;exact h x P J L n e
 |halt x J=>simp_all
theorem BC.stuck{α:Type}{m:String}:BC (stuck m:Sem α):=λP w J n e=>by cases e
def KS{α:Type}(w w':World)(s:Sem α):Prop:=Je s/\Yb w w' s
def KS.bind{α E:Type}{w w':World}{s:Sem α}{f:α->Sem E}(e:KS w w' s)(J:∀x,KS w w' (f x)):KS w w' (s>>=f):=⟨e.1.bind λx=>(J x).1,Yb.bind e.1 e.2 λx=>(J x).2⟩
def KS.pure{α:Type}{w w':World}(x:α):KS w w' (Pure.pure x:Sem α):=⟨Je.pure x,Yb.pure x⟩
def BC.ks{s:Sem α}(h:BC s):KS w w' s:=⟨h.keep,h.same⟩
def FlK(P:Program)(ops:Array Oper)(fs:List Nat):Prop:=∀f∈fs,∀o,ops[f]? =some o->∀ρ w n e,(execOp ρ o).run P w=.ok n e->∃u,n=.value u/\e=w
section
variable {X A:Nat->Prop}{B:Nat->Nat->Prop}{P:Program}{C:Ctx}{h:Cz}{ops:Array Oper}{σ:List V}{ρ:Nat->Value}{F:Nat->Nat->Prop}{t0 r:Nat->V}{m:Nat->List (Nat×Tk)}{n:Nat}{fs:List Nat}
theorem replay(hq:QOK ops n)(fl:FLS ops n fs)(hk:FlK P ops fs)(hm:MOK (isA h ops) (isB h ops) ops n m)
  (hst:∀j,j<n->∀o,ops[j]? =some o->Jl P h ops σ o (Ch ops r m t0 j) (r j) (m j)) {a0:Act}:∀(c:Nat) (listed:Array Bool) (a:Act) (w:World) (D:Nat->Prop) (T:Nat->Nat->Prop),unl listed n=c->HeadInv .any ops n listed->
   (∀i,i<n->listed.getD i true=false->i∈fs)->PR C h.n σ ρ F (pt ops n r m t0 listed) a w D T->(∀x b,T x b->P9 ops n X x)->(∀x,(∀i,i<n->AK ops i≠some x)->a.tmps[x]? =a0.tmps[x]?)->AlI h ops n listed a->
   ∃(L:List (Nat×Nat×Value)) (D':Nat->Prop) (T':Nat->Nat->Prop),PR C h.n σ ρ F (Ch ops r m t0 n) (KH L a) w D' T'/\(∀x b,T' x b->P9 ops n X x)/\(∀x,(∀i,i<n->AK ops i≠some x)->(KH L a).tmps[x]? =a0.tmps[x]?)/\
    L.Pairwise (λx y=>x.1≠y.1)/\(∀i,i<n->(listed.getD i true=false↔ ∃x∈L,x.1=i))/\(∀x∈L,x.1<n)/\
    ∀x∈L,x.1∈fs/\AK ops x.1=some x.2.1/\∀o,ops[x.1]? =some o->(execOp (KH L a).eval o).run P w=.ok (.value x.2.2) w:=by
 intro c
 induction c with
 |zero=>
  intro listed a w D T hc Y hfs hp hT hA hI;have hall:∀i,i<n->listed.getD i true=true:=by
   intro i hi;cases Z:listed.getD i true with
   |true=>rfl
   |false=>have:=Pf Z n hi;omega
  rw[WQ hq hm Y.size hall]at hp;exact⟨[],D,T,hp,hT,hA,List.Pairwise.nil,λi hi=>by rw[hall i hi];simp,λx M=>(by cases M),λx M=>(by cases M)⟩
 |succ c ih=>
  intro listed a w D T hc Y hfs hp hT hA hI;have hex:∃i,i<n/\listed.getD i true=false:=by
   apply Classical.byContradiction;intro hno;have:unl listed n=0:=by
    unfold unl;rw[List.countP_eq_zero];intro i hi;have hi:=List.mem_range.1 hi;cases Z:listed.getD i true with
    |true=>simp
    |false=>exact absurd ⟨i,hi,Z⟩ hno
   omega
  obtain⟨i,⟨O,hun⟩,hmin⟩:=Vc hex;have hle:=hq.le;have hminL:∀j,j<i->listed.getD j true=true:=λj hj=>by
   cases Z:listed.getD j true with
   |true=>rfl
   |false=>exact absurd ⟨by omega,Z⟩ (hmin j hj)
  have hif:=hfs i O hun;obtain⟨on,dn,hon,hog,hod,hos,hfl⟩:=fl.it;obtain⟨o,d,W,hg,hexo,hd,_,_,_⟩:=hfl i hif;have hdi:AK ops i=some d:=by unfold AK;rw[W];exact hd
  have hir:i∈Region.ready .any ops listed:=by
   refine mem_ready.2 ⟨hun,o,W,λe he hb=>?_⟩
   have h1:=hq.back i o e W he hb;have h2:=hminL e.on h1;have h3:e.on<listed.size:=by rw[Y.size];omega
   simp[h3]at h2⊢;exact h2
  have J:=JB (Q:=λ_ _ _=>False) (K:=λa' w'=>∃D' T',PR C h.n σ ρ F (pt ops n r m t0 (listed.setIfInBounds i true)) a' w' D' T'/\(∀x b,T' x b->P9 ops n X x)/\(∀x,(∀i,i<n->AK ops i≠some x)->a'.tmps[x]? =a0.tmps[x]?)/\AlI h ops n (listed.setIfInBounds i true) a')
   (H6 hq hm Y O hir hst hp hT (hI.at hq O hir) λa' w' D' T' hp' hT' htm' hmv=>⟨D',T',hp',hT',λx M=>(htm' x (M i O)).trans (hA x M),hI.set hq hst Y O hp.sz htm' hmv⟩)
  unfold wpOp at J;simp only[W]at J;have hw:Region.wanted o (yielded ops a.tmps)=true:=by simp[Region.wanted,hg]
  rw[if_pos hw]at J;rcases J with J|⟨_,_,_,hno⟩
  case inr=>exact hno.elim
  unfold Oper.wp at J;cases hrun:(execOp a.eval o).run P w with
  |halt x w2=>
   rw[hrun]at J;cases x<;>exact J.elim
  |ok nn w1=>
   obtain⟨u,rfl,rfl⟩:=hk i hif o W _ _ _ _ hrun;rw[hrun,Oper.upon_value,hd]at J;obtain⟨D1,T1,hp1,hT1,hA1,hI1⟩:=J;have hcount:=Pe (by rw[Y.size];omega) hun n
   rw[if_pos O]at hcount;have hset:∀j,i≠j->(listed.setIfInBounds i true).getD j true=listed.getD j true:=λj hj=>getD_set_ne true hj
   have hself:(listed.setIfInBounds i true).getD i true=true:=by
    have:i<listed.size:=by rw[Y.size];omega
    simp[this]
   obtain⟨L,D2,T2,h1,h2,h3,h4,h5,h6,h7⟩:=ih (listed.setIfInBounds i true) (a.put (some d) u) _ D1 T1 (by omega) (Y.set hir O) (λj hj Z=>by
    by_cases U:i=j
    .subst U;rw[hself]at Z;cases Z
    .rw[hset j U]at Z;exact hfs j hj Z) hp1 hT1 hA1 hI1
   have hLi:∀x∈L,x.1≠i/\listed.getD x.1 true=false:=by
    intro x M;have Z:=(h5 x.1 (h6 x M)).2 ⟨x,M,rfl⟩;by_cases U:i=x.1
    .rw[<-U,hself]at Z;cases Z
    .exact⟨Ne.symm U,by rw[hset _ U]at Z;exact Z⟩
   refine⟨(i,d,u)::L,D2,T2,h1,h2,h3,List.pairwise_cons.2 ⟨λx M e=>(hLi x M).1 e.symm,h4⟩,λj hj=>?_,λx M=>?_,λx M=>?_⟩
   .by_cases U:i=j
    .subst U
     exact⟨λ_=>⟨_,List.mem_cons_self ..,rfl⟩,λ_=>hun⟩
    .rw[<-hset j U,h5 j hj]
     constructor
     .rintro ⟨x,M,e⟩;exact⟨x,mCM _ M,e⟩
     .rintro ⟨x,M,e⟩
      rcases List.mem_cons.1 M with rfl|M
      .exact absurd e U
      .exact⟨x,M,e⟩
   .rcases List.mem_cons.1 M with rfl|M
    .exact O
    .exact h6 x M
   .rcases List.mem_cons.1 M with rfl|M
    .refine⟨hif,hdi,λo' ho'=>?_⟩
     obtain rfl:o'=o:=Option.some.inj (ho'.symm.trans W);show(execOp (KH L (a.put (some d) u)).eval o').run P _=_;rw[HT (ops:=ops) (Jz hexo) λy hy hm'=>?_,execOp_put (ops:=ops) o' (Jz hexo) a (some d) u λd' hd'=>?_]
     .exact hrun
     .cases hd'
      obtain⟨oi',hoi',hnl⟩:=hq.dst i O;obtain rfl:oi'=o':=Option.some.inj (hoi'.symm.trans W);exact hnl _ hd
     .obtain⟨k1,k2⟩:=hLi y hy
      obtain⟨e,he,hb,hon'⟩:=(hq.ne y.1 i y.2.1 o' (h6 y hy) O k1 (h7 y hy).2.1 W).2 hm';have h8:=hq.back i o' e W he hb;rw[hon']at h8;rw[hminL y.1 h8]at k2;cases k2
    .exact h7 x M
theorem On:∀(l e:List Nat),l.Nodup->(∀x∈l,x∈e)->l.length<=e.length
 |[],_,_,_=>Nat.zero_le _
 |a::l,e,hn,hs=>by
  have hn:=List.nodup_cons.1 hn;have L:=On l (e.erase a) hn.2 λx J=>(List.mem_erase_of_ne (by grind)).2 (hs x (mCM _ J))
  grind
theorem Y9{Q:Exit->Act->World->Prop}(hq:QOK ops n)(fl:FLS ops n fs)(hk:FlK P ops fs)(hm:MOK (isA h ops) (isB h ops) ops n m)
  (hst:∀j,j<n->∀o,ops[j]? =some o->Jl P h ops σ o (Ch ops r m t0 j) (r j) (m j))
  {a0:Act} (hend:∀a w D T,PR C h.n σ ρ F (Ch ops r m t0 n) a w D T->(∀x b,T x b->P9 ops n X x)->(∀x,(∀i,i<n->AK ops i≠some x)->a.tmps[x]? =a0.tmps[x]?)->wpList P ops Q (ops.toList.drop n) a w)
  (hend0:∀a w D T,PR C h.n σ ρ F (Ch ops r m t0 n) a w D T->(∀x b,T x b->P9 ops n X x)->(∀x,(∀i,i<n->AK ops i≠some x)->a.tmps[x]? =a0.tmps[x]?)->wpList P ops (QN Q) (ops.toList.drop n) a w)
  (hH:∀a w D T,PR C h.n σ ρ F (Ch ops r m t0 n) a w D T->(∀x b,T x b->P9 ops n X x)->(∀x,(∀i,i<n->AK ops i≠some x)->a.tmps[x]? =a0.tmps[x]?)->FlH P ops n fs a w):
  ∀(O:Nat) (listed:Array Bool) (a:Act) (w:World) (D:Nat->Prop) (T:Nat->Nat->Prop),HeadInv .any ops n listed->unl listed n+(ops.size-n)<=O->
   PR C h.n σ ρ F (pt ops n r m t0 listed) a w D T->(∀x b,T x b->P9 ops n X x)->(∀x,(∀i,i<n->AK ops i≠some x)->a.tmps[x]? =a0.tmps[x]?)->AlI h ops n listed a->wpAny P .any ops Q O listed a w:=by
 have hsz:=fl.lt1;intro O
 induction O with
 |zero=>intro listed a w D T J hf;omega
 |succ f ih=>
  intro listed a w D T J hf hp hT hA hI;have hle:=hq.le;by_cases Y:∀i,i<n->listed.getD i true=true
  .rw[WQ hq hm J.size Y]at hp
   refine JF hq (.inr fl.chain) (f+1) n listed a w (Nat.le_refl _) hle (by omega) J.size (λj hj=>?_) (hend _ _ _ _ hp hT hA)
   by_cases M:j<n
   .rw[Y j M];simp[M]
   .rw[J.tail j (by omega) hj];simp[M]
  .have hex:∃i,i<n/\listed.getD i true=false:=by
    apply Classical.byContradiction;intro hno;apply Y;intro i hi;cases U:listed.getD i true with
    |true=>rfl
    |false=>exact absurd ⟨i,hi,U⟩ hno
   obtain⟨i,⟨hin,hun⟩,hmin⟩:=Vc hex;have hoi:ops[i]? =some ops[i]:=by
    have:i<ops.size:=by omega
    simp[this]
   have hir:i∈Region.ready .any ops listed:=by
    refine mem_ready.2 ⟨hun,ops[i],hoi,λe he hb=>?_⟩
    have h1:=hq.back i ops[i] e hoi he hb;have Z:=hmin e.on h1;have h3:e.on<listed.size:=by rw[J.size];omega
    cases U:listed.getD e.on true with
    |false=>exact absurd ⟨by omega,U⟩ Z
    |true=>simp[h3]at U⊢;exact U
   refine⟨λh0=>(by rw[h0]at hir;cases hir),λj hj=>?_⟩
   have hjs:j<ops.size:=by
    obtain⟨_,o,ho,_⟩:=mem_ready.1 hj;exact(Array.getElem?_eq_some_iff.1 ho).1
   rcases Nat.lt_or_ge j n with M|M
   case inr=>
    obtain⟨hju,oj,hoj,W⟩:=mem_ready.1 hj;have hjn':j=n:=by
     have Z:=aET.1 fl.chain j (List.mem_range.2 hjs);simp only[Bool.or_eq_true,decide_eq_true_eq]at Z;rcases Z with Z|Z
     .omega
     .by_cases he:j=n
      .exact he
      .obtain⟨o',ho',e,he',hb,hon⟩:=Region.waitsFor_spec Z
       obtain rfl:o'=oj:=Option.some.inj (ho'.symm.trans hoj);have h3:=W e he' hb;rw[hon,getD_both (J.tail (j-1) (by omega) (by omega))]at h3
       cases h3
    subst hjn';have hlst:∀c k,j-k=c->k<j->k∉fs->listed.getD k false=true:=by
     intro c
     induction c using Nat.strongRecOn with
     |_ c ihc=>
      intro k hc hk hkf;obtain⟨j',g1,g2,g3,g4⟩:=fl.others k hk hkf;obtain⟨o',ho',e,he',hb,hon⟩:=Region.waitsFor_spec g4;rcases Nat.lt_or_ge j' j with h5|h5
      .have h6:=ihc (j-j') (by omega) j' rfl h5 g3
       have h7:=J.closed j' o' ho' h6 e he' hb;rwa [hon]at h7
      .obtain rfl:j'=j:=by omega
       obtain rfl:o'=oj:=Option.some.inj (ho'.symm.trans hoj);have h7:=W e he' hb;rwa [hon]at h7
    have hfs:∀k,k<j->listed.getD k true=false->k∈fs:=by
     intro k hk U;apply Classical.byContradiction;intro hkf;have h1:=hlst _ k rfl hk hkf;have Z:k<listed.size:=by rw[J.size];omega
     simp[Z]at h1 U;rw[h1]at U;cases U
    obtain⟨L,D2,T2,k1,k2,k3,k4,k5,k6,k7⟩:=replay (X:=X) hq fl hk hm hst (a0:=a0) _ listed a w D T rfl J hfs hp hT hA hI;have hLlen:L.length<=unl listed j:=by
     have h1:(L.map (·.1)).Nodup:=List.pairwise_map.2 k4
     have Z:∀x∈L.map (·.1),x∈(List.range j).filter λi=>!listed.getD i true:=by
      intro x hx;obtain⟨y,hy,rfl⟩:=List.mem_map.1 hx;refine List.mem_filter.2 ⟨List.mem_range.2 (k6 y hy),?_⟩;rw[(k5 y.1 (k6 y hy)).2 ⟨y,hy,rfl⟩];rfl
     have h3:=On _ _ h1 Z;rw[List.length_map,<-List.countP_eq_length_filter]at h3;exact h3
    have hgi:wpAny P .any ops Q (f+1) listed a w:=by
     refine GI.go hq fl (f+1) L j listed a w (.inl rfl) (by omega) ⟨J.size,λk hk=>?_,k4,k7,hend0 _ _ _ _ k1 k2 k3,λ_=>hH _ _ _ _ k1 k2 k3⟩
     by_cases hkj:k<j
     .cases U:listed.getD k true with
      |true=>exact(dT ⟨hkj,λx hx e=>by
        have:=(k5 k hkj).2 ⟨x,hx,e⟩;rw[U]at this;cases this⟩).symm
      |false=>
       obtain⟨x,hx,e⟩:=(k5 k hkj).1 U;exact(dF λhh=>hh.2 x hx e).symm
     .rw[J.tail k (by omega) hk]
      exact(dF λhh=>hkj hh.1).symm
    exact hgi.2 j hj
   have hju:=(mem_ready.1 hj).1;have hcount:=Pe (by rw[J.size];exact hjs) hju n
   rw[if_pos M]at hcount;refine JB (H6 hq hm J M hj hst hp hT (hI.at hq M hj) λa' w' D' T' hp' hT' htm' hmv=>ih _ a' w' D' T' (J.set hj M) (by omega) hp' hT' (λx hx=>(htm' x (hx j M)).trans (hA x hx)) (hI.set hq hst J M hp.sz htm' hmv))
end
end Go.Ve


namespace Go.Ve
open Go
variable{w w':World}
theorem KS.prog:KS w w' Go.program:=⟨λP w e n h=>by simp_all,λP n h=>by simp_all⟩
def KS.under(t:TypeId):KS w w' (underlying t):=by
 refine KS.prog.bind λp=>?_
 split
 .exact KS.pure _
 .exact BC.stuck.ks
def KS.info(t:TypeId):KS w w' (typeInfo t):=by
 refine KS.prog.bind λp=>?_
 split
 .exact KS.pure _
 .exact BC.stuck.ks
def KS.size(t:TypeId):KS w w' (sizeOf t):=by
 exact(KS.info t).bind λi=>KS.pure _
theorem KS.agg(t:TypeId):KS w w' (isAgg t):=by
 refine(KS.under t).bind λd=>?_
 split<;>exact KS.pure _
def KS.sure(v:Value):KS w w' (Instr.sureAddr v):=by
 unfold Instr.sureAddr;split
 .exact KS.pure _
 .exact BC.stuck.ks
theorem KS.int(v:Value):KS w w' (asIntOf v):=by
 unfold asIntOf;split
 .exact KS.pure _
 .exact BC.ks λP w J n e=>by cases e
 .exact BC.stuck.ks
theorem BC.goPanic{α:Type}(v:Value):BC (goPanic v:Sem α):=λP w J n e=>by cases e
theorem BC.bounds{α:Type}(k:IntKind)(x y:Int)(c:BoundsCode):BC (boundsPanic k x y c:Sem α):=by
 have h:∀s,BC (runtimePanic (RuntimeError.bounds (IntKind.i64.wrap x) y s c):Sem α):=λs=>by
  exact BC.bindR λp=>BC.goPanic _
 unfold boundsPanic;split
 .exact BC.bindR h
 grind
theorem Je.load(a:Addr)(m:Mode):Je (load a m):=by
 intro P w e n h;rw[run_load]at h
 grind
def Je.loadCells(a:Addr):∀(n i:Nat) (xs:Array Value),Je (loadCellsFrom a i n xs)
 |0,i,xs=>Je.pure _
 |n+1,i,xs=>(Je.load _ _).bind λv=>Je.loadCells a n (i+1) (xs.push v)
theorem Je.loadVar(t:TypeId)(a:Addr):Je (loadVar t a):=by
 refine(KS.agg (w:=default) (w':=default) t).1.bind λb=>?_
 split
 .refine(KS.size (w:=default) (w':=default) t).1.bind λk=>?_
  exact(Je.loadCells a k 0 #[]).bind λl=>Je.pure _
 .exact Je.load _ _
theorem BC.unsup{α:Type}(u:Unsupported):BC (unsupported u:Sem α):=λP w J n e=>by cases e
def KS.place(t:TypeId)(k:IntKind)(i:Int)(tiny:Bool)(base:Option Addr)(len:Nat):KS w w' (match base with
  |some a=>if 0<=i/\i<(len:Int)then(do
    let s<-Go.sizeOf t
    Pure.pure (Value.pointer (some (a.add (i.toNat * s)))))else if tiny = true then unsupported (Unsupported.noEntry "op/indexAddr.an index out of range at an array of length 0 or 1 (ledger 616)")else boundsPanic k i (len : Int) BoundsCode.index
  |none=>boundsPanic k i 0 BoundsCode.index):=by
 split
 .split
  .exact(KS.size t).bind λs=>KS.pure _
  .split
   .exact(BC.unsup _).ks
   .exact(BC.bounds _ _ _ _).ks
 .exact(BC.bounds _ _ _ _).ks
theorem KS.indexAt{w w':World}(t:TypeId)(x i:Value):KS w w' (Instr.indexAt t x i):=by
 unfold Instr.indexAt;refine(KS.int i).bind λJ=>?_
 refine(KS.under t).bind λd=>?_
 simp only;split
 .refine(KS.sure _).bind λa=>?_
  refine(KS.pure _).bind λz=>?_
  exact(KS.under t).bind λe=>KS.place _ _ _ _ _ _
 .exact(KS.under t).bind λe=>KS.place _ _ _ _ _ _
 .exact(BC.bind BC.stuck).ks
end Go.Ve
namespace Go.Ve
open Go
variable{a:Addr}{ops:Array Oper}{fs:List Nat}{P:Program}{t:TypeId}{w w':World}
theorem Km{k off sz:Nat}(h:Vm P t k=some (off,sz))(v:Value)(w:World):(∃a,v=.pointer (some a)/\(Instr.fieldAt t v k).run P w=.ok (.pointer (some (a.add off))) w)\/((∀a,v≠.pointer (some a))/\∃x,(Instr.fieldAt t v k).run P w=.halt x w):=by
 unfold Vm at h;split at h
 case h_2=>cases h
 rename_i fs hu;split at h
 case h_2=>cases h
 rename_i f W;split at h
 case h_2=>cases h
 rename_i i hi;split at h
 case isFalse=>cases h
 rename_i U;cases h
 have Z:(underlying t).run P w=.ok (.struct fs) w:=by
  unfold underlying
  simp_all
 have Y:(sizeOf f.type).run P w=.ok i.size w:=by
  unfold Go.sizeOf typeInfo
  simp_all
 unfold Instr.fieldAt;simp only[Sem.run_bind,Z,Result.andThen_ok,W]
 have key:∀a,((Instr.sureAddr v).run P w=.ok a w)->(fieldPlace a f).run P w=.ok (a.add f.offset) w:=λa _=>by
  unfold fieldPlace;have M:i.size≠0:=by omega
  simp only[Sem.run_bind,Y,Result.andThen_ok,if_neg M];rfl
 cases J:(Instr.sureAddr v).run P w with
 |halt x O=>
  right;unfold Instr.sureAddr at J;split at J
  .cases J
  .rename_i L
   cases J;exact⟨λa e=>L a e,_,rfl⟩
 |ok a O=>
  left
  have hv:v=.pointer (some a)/\O=w:=by
   unfold Instr.sureAddr at J;split at J
   .cases J;exact⟨rfl,rfl⟩
   .cases J
  simp_all
def FlT(P:Program)(ops:Array Oper)(fs:List Nat):Prop:=∀f∈fs,∀o,ops[f]? =some o->AcD o.op=true/\∀t x k,o.op=.fieldAddr t x k->∃off sz,Vm P t k=some (off,sz)
theorem FlT.keep(h:FlT P ops fs):FlK P ops fs:=by
 intro f hf o ho ρ w n w1 O;obtain⟨he,Y⟩:=h f hf o ho
 have U:∀{s:Sem Value},(∀u M,s.run P w=.ok u M->M=w)->((s>>=λv=>Pure.pure (Next.value v):Sem Next).run P w=.ok n w1)->∃u,n=.value u/\w1=w:=by
  intro s hk h;rw[Sem.run_bind]at h;cases L:s.run P w with
  |halt x M=>rw[L]at h;cases h
  |ok u M=>
   rw[L]at h;have:=hk u M L;cases h;exact⟨u,rfl,this⟩
 cases J:o.op with
 |fieldAddr t x k=>
  obtain⟨off,sz,W⟩:=Y t x k J;have e:execOp ρ o=(Instr.fieldAt t (ρ x) k>>=λv=>Pure.pure (Next.value v)):=by unfold execOp;rw[J]
  rw[e]at O;refine U (λu M L=>?_) O
  rcases Km W (ρ x) w with⟨a,_,Z⟩|⟨_,x,Z⟩
  .rw[Z]at L;cases L;rfl
  .rw[Z]at L;cases L
 |load t x=>
  have e:execOp ρ o=(Instr.loadAt t (ρ x)>>=λv=>Pure.pure (Next.value v)):=by unfold execOp;rw[J]
  rw[e]at O;refine U (λu M L=>?_) O
  refine Je.bind (KS.sure (w:=w) (w':=w) (ρ x)).1 (λa=>Je.loadVar t a) P w M u L
 |move x=>
  have e:execOp ρ o=Pure.pure (Next.value (ρ x)):=by unfold execOp;rw[J]
  rw[e]at O;cases O;exact⟨_,rfl,rfl⟩
 |indexAddr t x i=>
  have e:execOp ρ o=(Instr.indexAt t (ρ x) (ρ i)>>=λv=>Pure.pure (Next.value v)):=by unfold execOp;rw[J]
  rw[e]at O;exact U (λu M L=>(KS.indexAt (w:=w) (w':=w) t (ρ x) (ρ i)).1 P w M u L) O
 |_=>rw[J]at he;cases he
theorem O2(h:w'.heap[a.block]? =w.heap[a.block]?):w'.cell? a=w.cell? a:=by
 unfold World.cell?
 grind
theorem Vb{m:Mode}(h:w'.heap[a.block]? =w.heap[a.block]?)(L:∃y,w.cell? a=some y){n:Value}(J:(load a m).run P w=.ok n w):(load a m).run P w'=.ok n w':=by
 obtain⟨y,e⟩:=L;rw[run_load]at J⊢;rw[O2 h,e]
 grind
theorem XW{n:Nat}:(a.add n).block=a.block:=by
 unfold Addr.add
 grind
theorem Lr{P:Program}{w w':World}{a:Addr}(h:w'.heap[a.block]? =w.heap[a.block]?):∀(n i:Nat) (xs:Array Value) (r:Array Value),(∀k,i<=k->k<i+n->∃y,w.cell? (a.add k)=some y)->(loadCellsFrom a i n xs).run P w=.ok r w->(loadCellsFrom a i n xs).run P w'=.ok r w'
 |0,i,xs,r,_,hr=>by cases hr;rfl
 |n+1,i,xs,r,hc,hr=>by
  have e:∀w,(loadCellsFrom a i (n+1) xs).run P w=((load (a.add i)).run P w).andThen λv M=>(loadCellsFrom a (i+1) n (xs.push v)).run P M:=λw=>by
   show((load (a.add i))>>=λv=>loadCellsFrom a (i+1) n (xs.push v)).run P w=_
   simp
  rw[e]at hr⊢;obtain⟨y,L⟩:=hc i (Nat.le_refl _) (by simp)
  have J:∀{w:World},w.cell? (a.add i)=some y->(load (a.add i)).run P w=.ok y w:=λO=>by simp_all
  rw[J L]at hr;rw[J ((O2 (by rw[XW];omega)).trans L)]
  exact Lr h n (i+1) (xs.push y) r (λk J U=>hc k (by omega) (by omega)) hr
theorem Ox(h:w'.heap[a.block]? =w.heap[a.block]?)(U:∃y,w.cell? a=some y)(Z:∀s,(sizeOf t).run P w=.ok s w->∀k,k<s->∃y,w.cell? (a.add k)=some y){r:Value}(e:(loadVar t a).run P w=.ok r w):(loadVar t a).run P w'=.ok r w':=by
 unfold loadVar at e⊢;rw[Sem.run_bind]at e⊢;cases O:(isAgg t).run P w with
 |halt x J=>rw[O]at e;cases e
 |ok b J=>
  have e1:=(KS.agg (w:=w) (w':=w') t).1 P w J b O;subst e1;rw[(KS.agg (w:=J) (w':=w') t).2 P b O];rw[O]at e;simp only[Result.andThen_ok]at e⊢;cases b with
  |false=>exact Vb h U e
  |true=>
   simp only[if_true]at e⊢;rw[Sem.run_bind]at e⊢;cases M:(sizeOf t).run P J with
   |halt x L=>simp_all
   |ok s L=>
    have e2:=(KS.size (w:=J) (w':=w') t).1 P J L s M;subst e2;rw[(KS.size (w:=L) (w':=w') t).2 P s M];rw[M]at e;simp only[Result.andThen_ok]at e⊢;rw[Sem.run_bind]at e⊢;cases W:(loadCells a s).run P L with
    |halt x Y=>rw[W]at e;cases e
    |ok l Y=>
     have e3:=Je.loadCells a s 0 #[] P L Y l W;subst e3;rw[show(loadCells a s).run P w'=.ok l w' from Lr h s 0 #[] l (λk _ hk=>Z s M k (by omega)) W]
     simp_all
def FlL(P:Program)(ops:Array Oper)(fs:List Nat)(a:Act)(w w':World):Prop:=∀f∈fs,∀o,ops[f]? =some o->∀t x,o.op=.load t x->∀ad,a.eval x=.pointer (some ad)->
 w'.heap[ad.block]? =w.heap[ad.block]?/\(∃y,w.cell? ad=some y)/\∀s,(sizeOf t).run P w=.ok s w->∀k,k<s->∃y,w.cell? (ad.add k)=some y
theorem FlT.same(h:FlT P ops fs){a:Act}(hl:FlL P ops fs a w w'):∀f∈fs,∀o,ops[f]? =some o->∀u,(execOp a.eval o).run P w=.ok (.value u) w->(execOp a.eval o).run P w'=.ok (.value u) w':=by
 intro f hf o ho u O;obtain⟨he,hfl⟩:=h f hf o ho
 have kv:∀{s:Sem Value},(∀M,s.run P w=.ok u M->s.run P w'=.ok u w')->((s>>=λv=>Pure.pure (Next.value v):Sem Next).run P w=.ok (.value u) w)->((s>>=λv=>Pure.pure (Next.value v):Sem Next).run P w'=.ok (.value u) w'):=by
  intro s hk h;rw[Sem.run_bind]at h⊢;cases J:s.run P w with
  |halt x M=>rw[J]at h;cases h
  |ok u2 M=>
   rw[J]at h;have e:u2=u:=by cases h;rfl
   subst e;rw[hk M J];rfl
 cases L:o.op with
 |fieldAddr t x k=>
  obtain⟨off,sz,W⟩:=hfl t x k L;have e:execOp a.eval o=(Instr.fieldAt t (a.eval x) k>>=λv=>Pure.pure (Next.value v)):=by unfold execOp;rw[L]
  rw[e]at O⊢;refine kv (λM J=>?_) O
  rcases Km W (a.eval x) w with⟨ad,Z,Y⟩|⟨_,x,Y⟩
  .rw[Y]at J
   cases J;rcases Km W (a.eval x) w' with⟨ad',U,h4⟩|⟨U,y,h4⟩
   .rw[Z]at U;cases U;exact h4
   .exact absurd Z (U ad)
  .rw[Y]at J;cases J
 |load t x=>
  have e:execOp a.eval o=(Instr.loadAt t (a.eval x)>>=λv=>Pure.pure (Next.value v)):=by unfold execOp;rw[L]
  rw[e]at O⊢;refine kv (λM J=>?_) O
  unfold Instr.loadAt at J⊢;rw[Sem.run_bind]at J⊢;unfold Instr.sureAddr at J⊢;split at J
  .rename_i ad had
   obtain⟨Z,Y,U⟩:=hl f hf o ho t x L ad had;have J:(loadVar t ad).run P w=.ok u M:=J;have:=Je.loadVar t ad P w M u J;subst this;exact Ox Z Y U J
  .cases J
 |move x=>
  have e:execOp a.eval o=Pure.pure (Next.value (a.eval x)):=by unfold execOp;rw[L]
  rw[e]at O⊢;cases O;rfl
 |indexAddr t x i=>
  have e:execOp a.eval o=(Instr.indexAt t (a.eval x) (a.eval i)>>=λv=>Pure.pure (Next.value v)):=by unfold execOp;rw[L]
  rw[e]at O⊢;refine kv (λM J=>?_) O
  have:=(KS.indexAt (w:=w) (w':=w') t (a.eval x) (a.eval i)).1 P w M u J;subst this;exact(KS.indexAt (w:=M) (w':=w') t (a.eval x) (a.eval i)).2 P u J
 |_=>rw[L]at he;cases he
end Go.Ve


namespace Go.Ve
variable{a:Act}{C:Ctx}{σ:List V}{N d id y:Nat}{Al F T:Nat->Nat->Prop}{D:Nat->Prop}{t:Nat->V}{ρ:Nat->Value}{o:Oper}{P:Program}{c1 r:V}{w:World}
def FCU(P:Program)(f:FuncId)(k:Nat)(args:List V)(c0 r c1:V):Prop:=
 ∀(w:World) (D H:Nat->Prop) (cvs:Array Value),Wok w->(∀p,AaV=some p->¬H p.1)->(∀b,D b->b<w.heap.size)->(∀b,H b->¬D b)->cvs.size=args.length->
  Rel D w noR c0 (cvs.getD k undef) H->(∀i,i<args.length->i≠k->Rel D w noR (args.getD i .dead) (cvs.getD i undef) noF)->
  Calls P f cvs w λe w'=>∃cv fp D' H',e=.returned cv/\Fr w w' H/\Rel D' w' noR r cv fp/\Rel D' w' noR c1 (cvs.getD k undef) H'/\
   (∀b,fp b->H b\/w.heap.size<=b)/\(∀b,H' b->H b\/w.heap.size<=b)/\(∀b,fp b->¬H' b)/\
   (∀b,D b->D' b)/\(∀b,D' b->D b\/H b\/w.heap.size<=b)/\∀b,D' b->b<w'.heap.size/\¬fp b/\¬H' b
def clean:V->Prop
 |.many _ n f=>∀k,k<n->clean (f k)
 |.rs _ _ _ _=>False
 |.rp _ _ _ _=>False
 |.rm _ _=>False
 |_=>True
theorem Rel.clean{D:Nat->Prop}{w:World}:∀(v:V) (R R':V->Value->Prop) (cv:Value) (fp:Nat->Prop),Go.Ve.clean v->Rel D w R v cv fp->Rel D w R' v cv fp:=by
 intro v
 induction v with
 |c v=>intro R R' cv fp _ h;exact h
 |dead=>intro R R' cv fp _ h;exact h
 |many t n f L=>
  intro R R' cv fp e h;obtain⟨cs,F,J,hn,O,hd,U⟩:=h;exact⟨cs,F,J,hn,λk M=>L k R R' _ _ (e k M) (O k M),hd,U⟩
 |nd s own sz n f L=>intro R R' cv fp _ h;exact h
 |rs=>intro R R' cv fp e h;trivial
 |rp=>intro R R' cv fp e h;trivial
 |rm=>intro R R' cv fp e h;trivial
 |mp own l=>intro R R' cv fp e h;exact h
def Lu(c:V):Prop:=∃s sz n f,c=.nd s true sz n f/\(s=false\/0<n)
theorem Lu.some{R:V->Value->Prop}{c:V}{cv:Value}{H:Nat->Prop}(O:Lu c)(h:Rel D w R c cv H):∃b,H b:=by
 obtain⟨s,sz,n,f,rfl,U⟩:=O;rcases h with⟨h1,Z,_⟩|⟨b,o,cap,F,M,J,e,L,W,Y,ho⟩
 .grind
 .exact⟨b,((ho rfl).2.2.2 b).2 (.inl rfl)⟩
section
variable {C:Ctx}{N:Nat}{σ:List V}{ρ:Nat->Value}{F:Nat->Nat->Prop}{t:Nat->V}{a:Act}{w:World}{D:Nat->Prop}{T:Nat->Nat->Prop}
theorem PR.turn(h:PR C N σ ρ F t a w D T){v':Value}{fp H' D':Nat->Prop}{w':World}(hy:y<N)(hdn:d<N)(hyd:y≠d)(M:Fr w w' (T y))(hr:Rel D' w' noR r v' fp)(hc:Rel D' w' noR c1 (a.tmps.getD y undef) H')
  (hf:∀b,fp b->T y b\/w.heap.size<=b) (hH:∀b,H' b->T y b\/w.heap.size<=b) (hfH:∀b,fp b->¬H' b) (hd1:∀b,D b->D' b) (hd2:∀b,D' b->D b\/T y b\/w.heap.size<=b) (hd3:∀b,D' b->b<w'.heap.size/\¬fp b/\¬H' b):
  PR C N σ ρ F (AJ (AV [(y,.put c1)] t) d r) (a.put (some d) v') w' D' (λx b=>if x=d then fp b else if x=y then H' b else T x b):=by
 have hFlt:∀i b,F i b->b<w.heap.size:=h.wr.lt;have hTlt:∀x b,T x b->b<w.heap.size:=by
  intro x b e;by_cases L:x<N
  .exact Rel.lt _ _ _ (h.tm x L) b e
  .exact absurd e (h.tx x b (Nat.le_of_not_lt L))
 have kM:∀x,AV [(y,.put c1)] t x=if x=y then c1 else t x:=by
  intro x;unfold AV;by_cases L:x=y
  .subst L
   rw[if_pos rfl];show Im (if x=x then some (.put c1)else none) _=_
   rw[if_pos rfl];rfl
  .rw[if_neg L]
   show Im (if y=x then some (.put c1)else none) _=_
   rw[if_neg (Ne.symm L)];rfl
 have hD:∀b,D b->w'.heap[b]? =w.heap[b]?:=λb e=>M.block b (h.wr.Dlt b e) λZ=>h.tD y b Z e
 have hFs:∀i b,F i b->w'.heap[b]? =w.heap[b]?:=λi b e=>M.block b (hFlt i b e) λZ=>h.tF i y b e Z
 have hTs:∀x b,x≠y->T x b->w'.heap[b]? =w.heap[b]?:=λx b L e=>M.block b (hTlt x b e) λZ=>h.tT x y b L e Z
 have wr':Bs σ w' D' ρ F:=by
  refine⟨λi hi=>Rel.mono hd1 (λ_ _ h=>h) _ _ _ (λb e=>e.elim (hD b) (hFs i b)) (h.wr.rel i hi),h.wr.disj,λi b e Y=>?_,λb e=>(hd3 b e).1,h.wr.out⟩
  rcases hd2 b Y with J|J|J
  .exact h.wr.dD i b e J
  .exact h.tF i y b e J
  .have:=hFlt i b e;omega
 have hW:∀b,T y b\/w.heap.size<=b->C.W b\/C.w0.heap.size<=b:=λb e=>e.elim (h.tn y b) λe=>.inr (Nat.le_trans h.fr.size e)
 refine⟨h.df,by rw[BL];simpa using h.sz,λx L=>?_,wr',λx L=>?_,λx b e=>?_,λi x b e Z=>?_,λx z b hxz J O=>?_,λx b e=>?_,⟨M.os.trans h.fr.os,M.tape.trans h.fr.tape,M.output.trans h.fr.output,Nat.le_trans h.fr.size M.size,λb e hWb=>?_,Nat.le_trans h.fr.drawn M.drawn⟩,h.Fn,λb e=>hd1 b (h.D1 b e),λb e hlt=>?_,h.rt,h.ml,λx b L e=>?_⟩
 .have J:¬x=d:=by omega
  have O:¬x=y:=by omega
  simp only[AJ,J,if_false];rw[kM,if_neg O];exact h.dd x L
 .have hlt:x<a.tmps.size:=by rw[h.sz];exact L
  rw[BL];by_cases he:x=d
  .subst he
   simp only[AJ,if_true];have:Rel D' w' (Am σ ρ w') r v' (λb=>if x=x then fp b else if x=y then H' b else T x b):=Rel.fp_congr (λb=>by rw[if_pos rfl]) (Rel.noR_mono hr)
   simpa [hlt]using this
  .simp only[AJ,he,if_false]
   rw[Array.getD_eq_getD_getElem?,Array.getElem?_setIfInBounds_ne (Ne.symm he),<-Array.getD_eq_getD_getElem?,kM];by_cases U:x=y
   .subst U
    simp only[if_true];exact Rel.noR_mono hc
   .simp only[U,if_false]
    exact Rel.mono hd1 (λv cv hv=>Am.same h.wr hFs v cv hv) _ _ _ (λb e=>e.elim (hD b) (hTs x b U)) (h.tm x L)
 .split at e
  .exact λY=>(hd3 b Y).2.1 e
  .split at e
   .exact λY=>(hd3 b Y).2.2 e
   .rename_i U
    intro Y;rcases hd2 b Y with J|J|J
    .exact h.tD x b e J
    .exact h.tT x y b U e J
    .have:=hTlt x b e;omega
 .have key:T y b\/w.heap.size<=b->False:=λJ=>J.elim (h.tF i y b e) λJ=>by have:=hFlt i b e;omega
  split at Z
  .exact key (hf b Z)
  .split at Z
   .exact key (hH b Z)
   .exact h.tF i x b e Z
 .have key:∀x,x≠y->T x b->T y b\/w.heap.size<=b->False:=λx U L J=>J.elim (h.tT x y b U L) λJ=>by have:=hTlt x b L;omega
  split at J<;>split at O
  .omega
  .split at O
   .exact hfH b J O
   .rename_i _ _ hz;exact key z hz O (hf b J)
  .split at J
   .exact hfH b O J
   .rename_i L _;exact key x (by assumption) J (hf b O)
  .split at J<;>split at O
   .omega
   .exact key z (by assumption) O (hH b J)
   .exact key x (by assumption) J (hH b O)
   .exact h.tT x z b hxz J O
 .split at e
  .exact hW b (hf b e)
  .split at e
   .exact hW b (hH b e)
   .exact h.tn x b e
 .rw[M.block b (Nat.lt_of_lt_of_le e h.fr.size) λZ=>by
   rcases h.tn y b Z with J|J
   .exact hWb J
   .omega]
  exact h.fr.block b e hWb
 .rcases hd2 b e with J|J|J
  .exact h.D2 b J hlt
  .rcases h.tn y b J with O|O
   .exact .inr O
   .omega
  .have:=h.fr.size;omega
 .have J:¬x=d:=by omega
  have O:¬x=y:=by omega
  simp only[J,O,if_false]at e;exact h.tx x b L e
end
theorem Am.setD{u:V}(hd:σ.getD id .dead=.dead):∀v cv,Am σ ρ w v cv->Am (σ.set id u) ρ w v cv:=by
 have ne:∀{p:List (Nat×Nat)}{cv M:Value}{s o:Bool}{sz n:Nat}{f:Nat->Nat->V},¬At w p .dead cv (.nd s o sz n f) M:=by
  intro p cv M s o sz n f h;cases p with
  |nil=>cases h.1
  |cons _ _=>exact h
 have get:∀{i:Nat},i≠id->(σ.set id u).getD i .dead=σ.getD i .dead:=by
  grind
 intro v cv h;cases v with
 |rs i p off len=>
  obtain⟨L,sz,n,f,U,e,J⟩:=h;have O:i≠id:=by
   grind
  exact⟨by simpa using L,sz,n,f,U,by grind,J⟩
 |rp i p j k=>
  obtain⟨L,s,sz,n,f,b,o,cap,e,J⟩:=h;have O:i≠id:=by
   grind
  exact⟨by simpa using L,s,sz,n,f,b,o,cap,by grind,J⟩
 |rm i p=>
  obtain⟨L,l,b,e,J⟩:=h;have O:i≠id:=by
   rintro rfl
   rw[hd]at e;cases p with
   |nil=>cases e.1
   |cons _ _=>exact e
  exact⟨by simpa using L,l,b,by rw[get O];exact e,J⟩
 |_=>exact h
theorem PR.back(h:PR C N σ ρ F t a w D T){sz:Nat}{f:Nat->Nat->V}(hy:y<N)(Z:id<σ.length)(hd:σ.getD id .dead=.dead)(ht:t y=.nd false true sz 1 f)(hsz:0<sz)(hv:a.tmps.getD y undef=ρ id):
  PR C N (σ.set id (t y)) ρ (λi b=>if i=id then T y b else F i b) (AJ t y (.rp id [] 0 0)) a w D (λx b=>x≠y/\T x b):=by
 have get:∀{i:Nat},i≠id->(σ.set id (t y)).getD i .dead=σ.getD i .dead:=by
  intro i M;simp only[gDE];rw[List.getElem?_set_ne (Ne.symm M)]
 have O:(σ.set id (t y)).getD id .dead=t y:=by simp[Z]
 have J:Rel D w noR (t y) (ρ id) (T y):=by
  have L:=h.tm y hy;rw[hv,ht]at L;rw[ht];exact L
 refine⟨h.df,h.sz,λx Y=>?_,⟨λi M=>?_,λi j b hij L W=>?_,λi b e=>?_,h.wr.Dlt,λi b M e=>?_⟩,λx Y=>?_,λx b e=>h.tD x b e.2,λi x b e hT=>?_,λx z b hxz L W=>h.tT x z b hxz L.2 W.2,λx b e=>h.tn x b e.2,h.fr,λi b e=>?_,h.D1,h.D2,h.rt,by simpa using h.ml,λx b Y e=>h.tx x b Y e.2⟩
 .have:¬x=y:=by omega
  simp only[AJ,this,if_false];exact h.dd x Y
 .have M:i<σ.length:=by simpa using M
  by_cases U:i=id
  .subst U
   rw[O];exact Rel.fp_congr (λb=>by rw[if_pos rfl]) J
  .rw[get U]
   exact Rel.fp_congr (λb=>by rw[if_neg U]) (h.wr.rel i M)
 .split at L<;>split at W
  .omega
  .exact h.tF j y b W L
  .exact h.tF i y b L W
  .exact h.wr.disj i j b hij L W
 .split at e
  .exact h.tD y b e
  .exact h.wr.dD i b e
 .have M:σ.length<=i:=by simpa using M
  rw[if_neg (by omega)]at e
  exact h.wr.out i b M e
 .by_cases U:x=y
  .subst U
   simp only[AJ,if_true];refine⟨?_,λb e=>e.1 rfl⟩
   rw[ht]at J;rcases J with⟨L,_⟩|⟨b,o,cap,G,hcv,_⟩
   .omega
   .refine⟨by simpa using Z,false,sz,1,f,b,o,cap,⟨by rw[O,ht],hcv.symm⟩,by omega,hsz,?_⟩
    rw[hv,hcv];simp[AD]
  .simp only[AJ,U,if_false]
   exact Rel.fp_congr (λb=>⟨λh=>⟨U,h⟩,λh=>h.2⟩) (Rel.mono (λ_ h=>h) (Am.setD hd) _ _ _ (λ_ _=>rfl) (h.tm x Y))
 .split at e
  .exact h.tT x y b hT.1 hT.2 e
  .exact h.tF i x b e hT.2
 .split at e
  .exact h.tn y b e
  .exact h.Fn i b e
theorem ZD{Al:Nat->Nat->Prop}{σ:List V}{t:Nat->V}{f:FuncId}{xs:Array Operand}{ats:Array TypeId}{k z:Nat}{args:List V}{c0 r c1:V}(ho:o.op=.call ⟨.value (.func f),xs,ats⟩)(hd:o.dst=some d)(hdn:d<N)(hyn:y<N)(hyd:y≠d)(J:Ai P f=true)
  (hk:xs[k]? =some (.tmp z)) (hz:z=y\/Al z y) (ht:Sub (t y) c0) (hnd:∃s sz n f,c0=.nd s true sz n f) (Y:Lu c0\/c1=.dead) (hsz:xs.size=args.length) (hargs:∀i x,i≠k->xs[i]? =some x->AS (Ms.ev ⟨t,σ⟩ x)=false/\clean (Ms.ev ⟨t,σ⟩ x)/\Sub (Ms.ev ⟨t,σ⟩ x) (args.getD i .dead)) (hc:FCU P f k args c0 r c1):
  LQ P N σ Al o t [(y,.put c1)] r:=by
 intro C ρ F a w D T t' hag hal hp next Q hn
 have hopx:∀z,Operand.tmp z∈xs.toList->t' z=t z:=λz hz=>hag z (.inl<|DD (by rw[ho];simp[Op.operands,Call.operands]at hz⊢;simp[hz]))
 have hrun:(execOp a.eval o).run P w=.ok (.enter f (xs.map a.eval)) w:=by
  unfold Ai at J;split at J
  .rename_i fn hfn
   simp only[bAE,Bool.not_eq_true']at J;obtain⟨O,h2⟩:=J;have h2':fn.body.isNone=false:=by cases Y:fn.body<;>simp[Y]at h2⊢
   have e0:a.eval (.func f)=.func (.func f) #[] #[]:=rfl;unfold execOp;rw[ho];simp[resolve,e0,Deferred.ofValue,invoke,callFunc,hfn,h2'];simp at O;simp[O];intro Y;simp[Y]at h2
  .cases J
 have hks:k<xs.size:=(Array.getElem?_eq_some_iff.1 hk).1
 have hxk:(xs.map a.eval).getD k undef=a.tmps.getD y undef:=by
  have:xs[k]=.tmp z:=by
   have:=(Array.getElem?_eq_some_iff.1 hk).2;exact this
  have e:(xs.map a.eval).getD k undef=a.eval xs[k]:=by simp[hks]
  rw[e,this];show a.tmps.getD z undef=_;rcases hz with rfl|hz
  .rfl
  .exact hal z y hz
 have hty:t' y=t y:=hag y (.inr (by
  show(if y=y then some (Tk.put c1)else none)≠none
  rw[if_pos rfl];simp))
 have htm:=hp.tm y hyn;rw[hty]at htm;obtain⟨s0,sz0,n0,f0,hc0⟩:=hnd
 have Z:Rel D w noR c0 (a.tmps.getD y undef) (T y):=by
  have O:=Rel.sub ht htm;rw[hc0]at O⊢;exact O
 unfold Oper.wp;rw[hrun,Oper.upon_enter];refine(hc w D (T y) (xs.map a.eval) hp.ok (λp U hT=>?_) hp.wr.Dlt (hp.tD y) (by simp[hsz]) (by rw[hxk];exact Z) λi hi hik=>?_).mono λe w' hpost=>?_
 .rcases hp.tn y p.1 hT with O|O
  .exact C.ok.2 p U O
  .have:=C.ok.1.lt U;omega
 .have hi':i<xs.size:=by omega
  have hxi:xs[i]? =some xs[i]:=by simp[hi']
  obtain⟨O,h2,h3⟩:=hargs i xs[i] hik hxi;have hev:Ms.ev ⟨t',σ⟩ xs[i]=Ms.ev ⟨t,σ⟩ xs[i]:=by
   cases hx:xs[i]with
   |tmp z=>exact hopx z (by rw[<-hx];simp)
   |const v=>rfl
   |global g=>rfl
   |func f=>rfl
  obtain⟨fp,L,_⟩:=hp.ev xs[i];rw[hev]at L;rw[Bb (AF _ _ _ O L)]at L;have e:(xs.map a.eval).getD i undef=a.eval xs[i]:=by simp[hi']
  rw[e];exact Rel.sub h3 (Rel.clean _ _ _ _ _ h2 L)
 .obtain⟨cv,fp,D',H',rfl,hfr,hr',W,hf,hH,hfH,hd1,hd2,hd3⟩:=hpost
  rw[hxk]at W;have U:=hp.turn (d:=d) hyn hdn hyd hfr hr' W hf hH hfH hd1 hd2 hd3;rw[hd]at hn⊢;refine hn _ _ _ _ U (λx b M=>?_) λ_ hx=>BM hx
  by_cases hxd:x=d
  .exact .inl (by rw[hxd])
  .right
   simp only[hxd,if_false]at M;by_cases hxy:x=y
   .rw[if_pos hxy]at M
    rw[hxy];rcases Y with Y|Y
    .exact Lu.some Y Z
    .rw[Y]at W
     exact absurd M (W b)
   .simp only[hxy,if_false]at M
    exact⟨b,M⟩
theorem PR.freeze(h:PR C N σ ρ F t a w D T)(hd:d<N):
  PR C N σ ρ F (AJ t d (Go.Ve.frz (t d))) a w (λb=>D b\/T d b) (λx b=>x≠d/\T x b):=by
 have L:∀x b,T x b->b<w.heap.size:=by
  intro x b e;by_cases J:x<N
  .exact Rel.lt _ _ _ (h.tm x J) b e
  .exact absurd e (h.tx x b (Nat.le_of_not_lt J))
 refine⟨h.df,h.sz,λx J=>?_,⟨λi Z=>Rel.mono (λ_ h=>.inl h) (λ_ _ h=>h) _ _ _ (λ_ _=>rfl) (h.wr.rel i Z),h.wr.disj,λi b e W=>?_,λb e=>?_,h.wr.out⟩,λx J=>?_,λx b e W=>?_,λi x b e hT=>h.tF i x b e hT.2,λx z b M Y h2=>h.tT x z b M Y.2 h2.2,λx b e=>h.tn x b e.2,h.fr,h.Fn,λb e=>.inl (h.D1 b e),λb e O=>?_,h.rt,h.ml,λx b J e=>h.tx x b J e.2⟩
 .have:¬x=d:=by omega
  simp[AJ,this,if_false];exact h.dd x J
 .exact W.elim (h.wr.dD i b e) (h.tF i d b e)
 .exact e.elim (h.wr.Dlt b) (L d b)
 .by_cases U:x=d
  .subst U
   simp only[AJ,if_true];exact Rel.fp_congr (λb=>⟨λh=>h.elim,λh=>(h.1 rfl).elim⟩) (Rel.frz _ _ _ (h.tm x J))
  .simp only[AJ,U,if_false]
   exact Rel.fp_congr (λb=>⟨λh=>⟨U,h⟩,λh=>h.2⟩) (Rel.mono (λ_ h=>.inl h) (λ_ _ h=>h) _ _ _ (λ_ _=>rfl) (h.tm x J))
 .exact W.elim (h.tD x b e.2) (h.tT x d b e.1 e.2)
 .rcases e with e|e
  .exact h.D2 b e O
  .rcases h.tn d b e with Y|Y
   .grind
   grind
theorem LQ.frzR{ys:List (Nat×Tk)}(h:LQ P N σ Al o t ys r)(hd:o.dst=some d)(M:d<N):LQ P N σ Al o t ys (Go.Ve.frz r):=by
 intro C ρ F a w D T J U O Y next Q hn
 refine h C ρ F a w D T J U O Y next Q λa' w' D' T' L Z W=>?_
 have hf:=L.freeze M
 have e:AJ (I1 o.dst r (AV ys J)) d (Go.Ve.frz (I1 o.dst r (AV ys J) d))=I1 o.dst (Go.Ve.frz r) (AV ys J):=by
  rw[hd]
  funext x
  show(if x=d then Go.Ve.frz (if d=d then r else _)else(if x=d then r else AV ys J x))=(if x=d then Go.Ve.frz r else AV ys J x)
  rw[if_pos rfl];split<;>rfl
 grind
end Go.Ve


namespace Go.Ve
variable{s:Bool}{σ:List V}{id n sz:Nat}{f:Nat->Nat->V}{D:Nat->Prop}{ρ:Nat->Value}{w:World}
def Lf(id:Nat):V->V
 |.nd true _ _ n _=>.rs id [] 0 n
 |_=>.rp id [] 0 0
theorem Mo{ρ:Nat->Value}{w:World}{D:Nat->Prop}{H:Nat->Prop}(L:id<σ.length)(O:σ.getD id .dead=.nd s true sz n f)(M:s=false->0<sz/\n=1)
  (h:Rel D w noR (.nd s true sz n f) (ρ id) H):Rel D w (Am σ ρ w) (Lf id (.nd s true sz n f)) (ρ id) noF:=by
 cases s with
 |false=>
  obtain⟨Z,rfl⟩:=M rfl;refine⟨?_,λb U=>U⟩
  rcases h with⟨W,_⟩|⟨b,o,cap,G,J,_⟩
  .omega
  .refine⟨L,false,sz,1,f,b,o,cap,⟨O.symm,J.symm⟩,by simp,Z,?_⟩
   rw[J];simp[AD]
 |true=>
  refine⟨?_,λb U=>U⟩
  rcases h with⟨W,_,Y,_⟩|⟨b,o,cap,G,J,_⟩
  .subst W
   refine⟨L,sz,0,f,ρ id,⟨O.symm,rfl⟩,Nat.le_refl _,.inr ⟨rfl,none,?_,(λ_ _=>rfl),λp e=>by grind⟩⟩
   rw[D5 Y];rfl
  .refine⟨L,sz,n,f,ρ id,⟨O.symm,rfl⟩,by simp,.inl ⟨b,o,cap,J,?_⟩⟩
   rw[J];simp[AD]
theorem WB{ρ:Nat->Value}{w:World}{D D':Nat->Prop}{H fp:Nat->Prop}{v:V}{cv:Value}(h1:v=.nd s true sz n f)(h2:s=false->0<sz/\n=1)(Y:σ.getD id .dead=v)
  (U:Rel D w noR v (ρ id) H) (W:Rel D' w (Am σ ρ w) (Lf id v) cv fp):cv=ρ id:=by
 subst h1;cases s with
 |true=>
  obtain⟨⟨_,M,Z,f',cn,J,_,e⟩,_⟩:=W;obtain⟨L,O⟩:=J;rw[Y]at L;cases L;rw[<-O];rcases e with⟨b,o,cap,g1,g2⟩|⟨g1,ad,_,g3,_⟩
  .rw[g1,g2]
   show Value.slice (some ⟨b,o+0*sz,none⟩) n (cap-0)=Value.slice (some ⟨b,o,none⟩) n cap;simp
  grind
 |false=>
  obtain⟨⟨_,s',M,Z,f',b,o,cap,J,_,_,e⟩,_⟩:=W;obtain⟨L,O⟩:=J;rw[Y]at L;cases L;rw[<-O,e];simp[AD]
theorem PR.back2{C:Ctx}{N:Nat}{F:Nat->Nat->Prop}{t:Nat->V}{a:Act}{T:Nat->Nat->Prop}(h:PR C N σ ρ F t a w D T){y:Nat}(hy:y<N)(hid:id<σ.length)(hd:σ.getD id .dead=.dead)(Z:t y=.nd s true sz n f)(hsz:s=false->0<sz/\n=1)(hv:a.tmps.getD y undef=ρ id):
  PR C N (σ.set id (t y)) ρ (λi b=>if i=id then T y b else F i b) (AJ t y (Lf id (t y))) a w D (λx b=>x≠y/\T x b):=by
 have get:∀{i:Nat},i≠id->(σ.set id (t y)).getD i .dead=σ.getD i .dead:=by
  grind
 have M:(σ.set id (t y)).getD id .dead=t y:=by simp[hid]
 have O:Rel D w noR (t y) (ρ id) (T y):=by
  have L:=h.tm y hy;rw[hv,Z]at L;rw[Z];exact L
 refine⟨h.df,h.sz,λx Y=>?_,⟨λi U=>?_,λi j b hij L J=>?_,λi b e=>?_,h.wr.Dlt,λi b U e=>?_⟩,λx Y=>?_,λx b e=>h.tD x b e.2,λi x b e hT=>?_,λx z b hxz L J=>h.tT x z b hxz L.2 J.2,λx b e=>h.tn x b e.2,h.fr,λi b e=>?_,h.D1,h.D2,h.rt,by simpa using h.ml,λx b Y e=>h.tx x b Y e.2⟩
 .have:¬x=y:=by omega
  simp only[AJ,this,if_false];exact h.dd x Y
 .have U:i<σ.length:=by simpa using U
  by_cases W:i=id
  .subst W
   rw[M];exact Rel.fp_congr (λb=>by rw[if_pos rfl]) O
  .rw[get W]
   exact Rel.fp_congr (λb=>by rw[if_neg W]) (h.wr.rel i U)
 .split at L<;>split at J
  .omega
  .exact h.tF j y b J L
  .exact h.tF i y b L J
  .exact h.wr.disj i j b hij L J
 .split at e
  .exact h.tD y b e
  .exact h.wr.dD i b e
 .have U:σ.length<=i:=by simpa using U
  rw[if_neg (by omega)]at e
  exact h.wr.out i b U e
 .by_cases W:x=y
  .subst W
   simp only[AJ,if_true];rw[hv];have J:=Mo (σ:=σ.set id (t x)) (ρ:=ρ) (id:=id) (s:=s) (sz:=sz) (n:=n) (f:=f) (by simpa using hid) (by rw[M,Z]) hsz (by rw[<-Z];exact O)
   rw[<-Z]at J;exact Rel.fp_congr (λb=>⟨λh=>h.elim,λh=>(h.1 rfl).elim⟩) J
  .simp only[AJ,W,if_false]
   exact Rel.fp_congr (λb=>⟨λh=>⟨W,h⟩,λh=>h.2⟩) (Rel.mono (λ_ h=>h) (Am.setD hd) _ _ _ (λ_ _=>rfl) (h.tm x Y))
 .split at e
  .exact h.tT x y b hT.1 hT.2 e
  .exact h.tF i x b e hT.2
 .split at e
  .exact h.tn y b e
  .exact h.Fn i b e
end Go.Ve

