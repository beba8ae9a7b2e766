/- In a region that draws its order. -/
import Derived.Test.YteakdlfnmhlifaaVu
import Derived.Laws.IdiomCopy
open Nat(le_refl le_of_not_lt le_trans)
open List(mem_of_getElem? mem_filterMap getElem?_map getElem_mem mem_cons_self mem_cons mem_range)
set_option linter.all false
namespace Go.Ve
variable{ps:Array (Nat×Operand)}{xs:List Operand}{zero:List Value}{N d j size y:Nat}{fp:Nat->Prop}{t:Nat->V}{o:Oper}{x:Operand}{P:Program}{tk:Tk}{ty:TypeId}
structure Y0(D:Nat->Prop)(w:World)(R:V->Value->Prop)(l:List V)(cs:Array Value)(G:Nat->Nat->Prop):Prop where
 sz:cs.size=l.length
 rel:∀j,j<l.length->Rel D w R (l.getD j .dead) (cs.getD j undef) (G j)
 dis:∀i j b,i≠j->G i b->¬G j b
def I0:V->Bool
 |.many .tu _ _=>false
 |.many .bx _ _=>false
 |.many (.cl _) _ _=>false
 |.many .ag _ _=>true
 |.dead=>false
 |_=>true
section
variable {D:Nat->Prop}{w:World}{R:V->Value->Prop}
theorem KB(hR:∀v cv,R v cv->cv.oneCell'=true){v:V}{cv:Value}(hp:I0 v=true)(h:Rel D w R v cv fp):∃H,Y0 D w R (cellsV v) cv.cells H/\∀j b,H j b->fp b:=by
 have W:YX v=true->cellsV v=[v]->∃H,Y0 D w R (cellsV v) cv.cells H/\∀j b,H j b->fp b:=by
  intro hm hcv;obtain⟨hc,_⟩:=Rel.cells1 h hR hm;rw[hcv,hc];refine⟨λj=>if j=0 then fp else noF,⟨rfl,λj hj=>?_,λi j b Z h1 h2=>?_⟩,λj b Y=>?_⟩
  .simp_all
  .by_cases hi:i=0
   .have hj:j≠0:=by omega
    simp only[hj,if_false]at h2;exact h2
   .simp only[hi,if_false]at h1
    exact h1
  .have Y:(if j=0 then fp else noF) b:=Y
   split at Y
   .exact Y
   .exact Y.elim
 cases v with
 |c v=>exact W rfl rfl
 |dead=>cases hp
 |nd s own sz n f=>exact W rfl rfl
 |rs id p off len=>exact W rfl rfl
 |rp id p i k=>exact W rfl rfl
 |rm id p=>exact W rfl rfl
 |mp own l=>exact W rfl rfl
 |many t n f=>
  cases t with
  |bx=>cases hp
  |tu=>cases hp
  |cl _=>cases hp
  |ag=>
   obtain⟨cs,F',rfl,hn,hr,hd,hfp⟩:=h;refine⟨λj b=>j<n/\F' j b,⟨by simp[cellsV,Value.cells,hn],λj hj=>?_,λi j b Z h1 h2=>hd i j b h1.1 h2.1 Z h1.2 h2.2⟩,λj b Y=>(hfp b).2 ⟨j,Y⟩⟩
   simp[cellsV]at hj;have e:(cellsV (.many .ag n f)).getD j .dead=f j:=by simp[cellsV,hj]
   rw[e];exact Rel.fp_congr (λb=>⟨λh=>⟨hj,h⟩,λh=>h.2⟩) (hr j hj)
theorem W7(l:List V):∀(Y:List Value) (k off:Nat) (cells:List V) (cs:Array Value) (G H:Nat->Nat->Prop),Y.length=l.length->(∀j,j<l.length->Rel D w R (l.getD j .dead) (Y.getD j undef) (H (k+j)))->(∀i j b,i≠j->H i b->¬H j b)->Y0 D w R cells cs G->
  (∀j b i,k<=i->G j b->¬H i b)->∃G',Y0 D w R ((l.zipIdx k).foldl (λcs (c,j)=>cs.set (off+j) c) cells) ((Y.zipIdx k).foldl (λcs (c,j)=>cs.setIfInBounds (off+j) c) cs) G'/\∀j b,G' j b->G j b\/∃i,H i b:=by
 induction l with
 |nil=>intro Y k off cells cs G H hl _ _ h _;cases Y<;>first|exact⟨G,h,λ_ _ h=>.inl h⟩|cases hl
 |cons v l ih=>
  intro Y k off cells cs G H hl hr hH h hGH;cases Y with
  |nil=>cases hl
  |cons x Y=>
   simp only[List.zipIdx_cons,List.foldl_cons];have h0:Rel D w R v x (H k):=by simpa using hr 0 (by simp)
   have g1:∀j,j<l.length->Rel D w R (l.getD j .dead) (Y.getD j undef) (H (k+1+j)):=λj hj=>by
    have:=hr (j+1) (by simp;omega)
    rw[show k+1+j=k+(j+1) by omega]
    simpa using this
   have g2:Y0 D w R (cells.set (off+k) v) (cs.setIfInBounds (off+k) x) (λj=>if j=off+k then H k else G j):=by
    refine⟨by simp[h.sz],λj hj=>?_,λi j b hij W Z=>?_⟩
    .simp only[List.length_set]at hj
     by_cases he:off+k=j
     .subst he
      have W:off+k<cs.size:=by rw[h.sz];exact hj
      simp[hj,W];exact h0
     .have:=h.rel j hj
      have W:j<cs.size:=by rw[h.sz];exact hj
      simp only[Ne.symm he,if_false];simp only[gDE,List.getElem?_set_ne he];simp only[Array.getD_eq_getD_getElem?,Array.getElem?_setIfInBounds_ne he];simpa using this
    .have W:(if i=off+k then H k else G i) b:=W
     have Z:(if j=off+k then H k else G j) b:=Z
     split at W<;>split at Z
     .omega
     .exact hGH j b k (le_refl _) Z W
     .exact hGH i b k (le_refl _) W Z
     .exact h.dis i j b hij W Z
   have g3:∀j b i,k+1<=i->(if j=off+k then H k else G j) b->¬H i b:=λj b i hi hb=>by
    split at hb
    .exact hH k i b (by omega) hb
    .exact hGH j b i (by omega) hb
   obtain⟨G',W,Z⟩:=ih Y (k+1) off _ _ _ H (by simpa using hl) g1 hH g2 g3
   refine⟨G',W,λj b hb=>?_⟩
   rcases Z j b hb with h3|h3
   .have h3:(if j=off+k then H k else G j) b:=h3
    split at h3
    .exact .inr ⟨_,h3⟩
    .exact .inl h3
   .exact .inr h3
theorem UA(hR:∀v cv,R v cv->cv.oneCell'=true)(place:Nat->Option (Nat×Nat)):∀(Y:List (Nat×V)) (W:List (Nat×Value)) (cells l':List V) (cs:Array Value) (G Fp:Nat->Nat->Prop),B8 place cells Y=some l'->Y0 D w R cells cs G->
  Y.length=W.length->(∀(j i:Nat) (v:V),Y[j]? =some (i,v)->I0 v=true/\∃x,W[j]? =some (i,x)/\Rel D w R v x (Fp j))->(∀i j b,i≠j->Fp i b->¬Fp j b)->(∀j b i,G j b->¬Fp i b)->
  ∃Z G',Instr.fill place cs W=some Z/\Y0 D w R l' Z G'/\∀j b,G' j b->G j b\/∃i,Fp i b:=by
 intro Y
 induction Y with
 |nil=>
  intro W cells l' cs G Fp h hr hl _ _ _;cases W with
  |nil=>simp[B8]at h;subst h;exact⟨cs,G,rfl,hr,λ_ _ h=>.inl h⟩
  |cons=>cases hl
 |cons p Y ih=>
  intro W cells l' cs G Fp h hr hl hp hF hGF;obtain⟨i,v⟩:=p;cases W with
  |nil=>cases hl
  |cons c W=>
   obtain⟨hpl,x,hx,hrx⟩:=hp 0 i v rfl;simp at hx;subst hx;unfold B8 at h;split at h
   .cases h
   rename_i off size hplc;split at h
   .cases h
   rename_i hcond;obtain⟨H,hcr,hHF⟩:=KB hR hpl hrx;have h1:x.cells.size=(cellsV v).length:=hcr.sz;have h2:cs.size=cells.length:=hr.sz
   have hn:¬ ((decide (x.cells.size≠size)||decide (off+x.cells.size>cs.size))=true):=by
    simp only[Bool.or_eq_true,decide_eq_true_eq];rw[h1,h2];omega
   unfold Instr.fill;simp only[hplc];rw[if_neg hn]
   obtain⟨G1,hset,hG1⟩:∃G1,Y0 D w R (Zo cells off (cellsV v)) (x.cells.zipIdx.foldl (λcs (c,j)=>cs.setIfInBounds (off+j) c) cs) G1/\∀j b,G1 j b->G j b\/∃i,H i b:=by
    have:=W7 (cellsV v) x.cells.toList 0 off cells cs G H (by simpa using h1) (λj hj=>by simpa using hcr.rel j hj) hcr.dis hr (λj b i _ hb hh=>hGF j b 0 hb (hHF i b hh))
    rw[<-Array.foldl_toList];simpa [Zo]using this
   obtain⟨Z,G',e,h3,h4⟩:=ih W _ l' _ G1 (λj=>Fp (j+1)) h hset (by simpa using hl) (λj i v hj=>by simpa using hp (j+1) i v (by simpa using hj)) (λi j b hij=>hF (i+1) (j+1) b (by omega)) (λj b i hb hh=>by
    rcases hG1 j b hb with h5|⟨q,h5⟩
    .exact hGF j b (i+1) h5 hh
    .exact hF 0 (i+1) b (by omega) (hHF q b h5) hh)
   refine⟨Z,G',e,h3,λj b hb=>?_⟩
   rcases h4 j b hb with h5|⟨q,h5⟩
   .rcases hG1 j b h5 with h6|⟨q,h6⟩
    .exact .inl h6
    .exact .inr ⟨0,hHF q b h6⟩
   .exact .inr ⟨q+1,h5⟩
end
def IC(t:Nat->V):Operand->Option Nat
 |.tmp y=>if AJ (t y)then some y else none
 |_=>none
def CZ:List (Option Nat)->Bool
 |[]=>true
 |none::l=>CZ l
 |some a::l=>l.all (λb=>match b with
  |some b=>!Nat.beq a b
  |none=>true)&&CZ l
theorem KL:∀{l:List (Option Nat)},CZ l=true->∀(i k a:Nat),i≠k->l[i]? =some (some a)->l[k]?≠some (some a)
 |none::l,h,i,k,a,hne,h1=>by
  cases i with
  |zero=>cases h1
  |succ i=>cases k with
   |zero=>intro H;cases H
   |succ k=>exact KL (l:=l) h i k a (by omega) (by simpa using h1)
 |some b::l,h,i,k,a,hne,h1=>by
  simp only[CZ,bAE]at h
  have key:∀k:Nat,l[k]?≠some (some b):=by
   intro k H;have h3:=aET.1 h.1 (some b) (mem_of_getElem? H)
   simp_all
  cases i with
  |zero=>
   grind
  |succ i=>cases k with
   |zero=>
    grind
   |succ k=>exact KL (l:=l) h.2 i k a (by omega) (by simpa using h1)
 |[],_,_,_,_,_,h1=>by cases h1
def Bc(t:Nat->V)(xs:List Operand):List Nat:=xs.filterMap (IC t)
def MU(h:AJ (t y)=true):IC t (.tmp y)=some y:=if_pos h
theorem OJ(l:List Nat)(x:Nat):Bl (l.map λy=>(y,Tk.all)) x=if x∈l then some .all else none:=by
 induction l with
 |nil=>rfl
 |cons y l H=>
  show(if y=x then some Tk.all else Bl (l.map λy=>(y,Tk.all)) x)=_
  grind
def Df(l:List Nat)(t:Nat->V)(x:Nat):AL (l.map λy=>(y,Tk.all)) t x=if x∈l then .dead else t x:=by
 unfold AL;rw[OJ];split<;>rfl
section
variable {C:Ctx}{N:Nat}{σ:List V}{ρ:Nat->Value}{F:Nat->Nat->Prop}{t:Nat->V}{a:Act}{w:World}{D:Nat->Prop}{T:Nat->Nat->Prop}
def opF(t:Nat->V)(T:Nat->Nat->Prop)(xs:List Operand)(j b:Nat):Prop:=∃y,xs[j]? =some (.tmp y)/\AJ (t y)=true/\T y b
def DN{b:Nat}(h:opF t T xs j b):∃y,xs[j]? =some (.tmp y)/\AJ (t y)=true/\y∈Bc t xs/\T y b:=by
 obtain⟨y,W,H,h3⟩:=h;exact⟨y,W,H,mem_filterMap.2 ⟨.tmp y,mem_of_getElem? W,MU H⟩,h3⟩
theorem PR.opF_rel(h:PR C N σ ρ F t a w D T)(Z:xs[j]? =some x):Rel D w (Ae σ ρ w) (Ms.ev ⟨t,σ⟩ x) (a.eval x) (opF t T xs j):=by
 have plain:∀v cv,Rel D w (Ae σ ρ w) v cv noF->(∀b,¬opF t T xs j b)->Rel D w (Ae σ ρ w) v cv (opF t T xs j):=λv cv hr e=>by rw[A2 e];exact hr
 have H:(∀y,x≠.tmp y)->∀b,¬opF t T xs j b:=by
  rintro hne b ⟨y,W,_⟩
  rw[Z]at W;exact hne y (Option.some.inj W)
 cases x with
 |tmp y=>
  by_cases hy:y<N
  .have W:=h.tm y hy
   cases ho:AJ (t y)with
   |true=>
    refine Rel.fp_congr (λb=>⟨λhb=>⟨y,Z,ho,hb⟩,fun⟨z,Y,_,h3⟩=>?_⟩) W
    grind
   |false=>
    refine plain _ _ (A2 (AB _ _ _ ho W)▸W) ?_
    rintro b ⟨z,Y,h3,_⟩
    grind
  .have hd:=h.dd y (le_of_not_lt hy)
   refine plain _ _ ?_ ?_
   .show Rel D w _ (t y) _ noF
    rw[hd];exact λ_ h=>h
   .rintro b ⟨z,Y,h3,_⟩
    rw[Z]at Y;cases Y;rw[hd]at h3;cases h3
 |const v=>exact plain _ _ (IM v) (H λy e=>by cases e)
 |global g=>exact plain _ _ ⟨rfl,rfl,λ_ h=>h⟩ (H λy e=>by cases e)
 |func f=>exact plain _ _ Qe (H λy e=>by cases e)
theorem PR.opF_dis(h:PR C N σ ρ F t a w D T)(Y:CZ (xs.map (IC t))=true):∀i j b,i≠j->opF t T xs i b->¬opF t T xs j b:=by
 intro i j b W h1 h2;obtain⟨y,e1,Z,_,t1⟩:=DN h1;obtain⟨z,e2,o2,_,t2⟩:=DN h2;have H:y≠z:=by
  rintro rfl
  have f1:(xs.map (IC t))[i]? =some (some y):=by rw[getElem?_map,e1];exact congrArg some (MU Z)
  have f2:(xs.map (IC t))[j]? =some (some y):=by grind
  exact KL Y i j y W f1 f2
 exact h.tT y z b H t1 t2
theorem PR.take(h:PR C N σ ρ F t a w D T){r:V}{v':Value}{w':World}(hB:Below w.heap.size w w')(hr:Rel D w' (Ae σ ρ w') r v' fp)(hf:∀b,fp b->(∃j,opF t T xs j b)\/w.heap.size<=b)(hdn:d<N):
  ∃T',PR C N σ ρ F (AD (AL ((Bc t xs).map λy=>(y,.all)) t) d r) (a.put (some d) v') w' D T'/\∀x b,T' x b->d=x\/∃b',T x b':=by
 refine⟨_,h.move (T1:=λx b=>x∉Bc t xs/\T x b) (λx W=>?_) (λx b H=>H.2) (λx W=>?_) hB hr (λb H=>?_) (λ_ h=>h) (λ_ h=>.inl h) (λb H=>⟨Nat.lt_of_lt_of_le (h.wr.Dlt b H) hB.size,λhfb=>?_⟩) hdn,λx b H=>?_⟩
 .rw[Df]
  by_cases hm:x∈Bc t xs
  .rw[if_pos hm];exact λb H=>H.1 hm
  .rw[if_neg hm]
   exact Rel.fp_congr (λb=>⟨λh=>⟨hm,h⟩,λh=>h.2⟩) (h.tm x W)
 .rw[Df]
  split
  .rfl
  .exact h.dd x W
 .rcases hf b H with⟨j,hj⟩|hj
  .obtain⟨y,_,_,hm,Y⟩:=DN hj
   refine .inl ⟨y,Y,λx W=>?_⟩
   have Z:x≠y:=by grind
   exact h.tT x y b Z W.2 Y
  .exact .inr hj
 .rcases hf b hfb with⟨j,hj⟩|hj
  .obtain⟨y,_,_,_,Y⟩:=DN hj
   exact h.tD y b Y H
  .have:=h.wr.Dlt b H;omega
 .split at H
  .grind
  grind
end
theorem Dm{H:Nat->V}(h:∀x∈xs,∀y,x=.tmp y->H y=t y):xs.map (IC H)=xs.map (IC t):=by
 refine List.map_congr_left λx W=>?_
 cases x with
 |tmp y=>show(if AJ (H y)then some y else none)=if AJ (t y)then some y else none;grind
 |const v=>rfl
 |global g=>rfl
 |func f=>rfl
def BN(t:Nat->V)(xs:List Operand):Bc t xs=(xs.map (IC t)).filterMap id:=by
 unfold Bc;simp
theorem Dr{op:Op}(h:Operand.tmp y∈op.operands):y∈Hk op:=by
 exact mem_filterMap.2 ⟨.tmp y,by grind,rfl⟩
theorem AaA{Al:Nat->Nat->Prop}{σ:List V}{t:Nat->V}{places:List (Nat×Nat)}{l:List V}(ho:o.op=.build ty ps)(hd:o.dst=some d)(hdn:d<N)(hbi:Abo P ty=some (places,zero))
  (hap:CZ ((ps.toList.map (·.2)).map (IC t))=true) (hok:∀p∈ps.toList,I0 (Ms.ev ⟨t,σ⟩ p.2)=true) (hl:B8 (λi=>places[i]?) (zero.map .c) (ps.toList.map λp=>(p.1,Ms.ev ⟨t,σ⟩ p.2))=some l):
  LQ P N σ Al o t ((Bc t (ps.toList.map (·.2))).map λy=>(y,.all)) (Ah l):=by
 intro C ρ F a w D T t' hag hal hp next Q hn
 obtain⟨xs,hxs⟩:∃xs,xs=ps.toList.map (·.2):=⟨_,rfl⟩
 rw[<-hxs]at hap hn;have hopx:∀y,Operand.tmp y∈xs->t' y=t y:=λy hy=>hag y (.inl<|Dr (by rw[ho];show _∈(ps.toList.map (·.2)).toArray;rw[hxs]at hy;simpa using hy))
 have hev:∀x∈xs,Ms.ev ⟨t',σ⟩ x=Ms.ev ⟨t,σ⟩ x:=by
  intro x Z;cases x with
  |tmp y=>exact hopx y Z
  |const v=>rfl
  |global g=>rfl
  |func f=>rfl
 have hmap:xs.map (IC t')=xs.map (IC t):=Dm λx Z y e=>hopx y (e▸Z)
 have hap':CZ (xs.map (IC t'))=true:=by rw[hmap];exact hap
 have htk:Bc t' xs=Bc t xs:=by rw[BN,BN,hmap]
 obtain⟨z,rfl,hz1,Y⟩:=Mc hbi
 have hzero:Y0 D w (Ae σ ρ w) (z.cells.toList.map .c) z.cells λ_=>noF:=by
  refine⟨by simp,λj hj=>?_,λ_ _ _ _ h=>h.elim⟩
  simp at hj;simp[hj];exact⟨rfl,hz1 _ (by simp),λ_ h=>h⟩
 obtain⟨W,G',hfill,H,hG⟩:=UA (λv cv h=>Ae.one h) (λi=>places[i]?) (ps.toList.map λp=>(p.1,Ms.ev ⟨t,σ⟩ p.2)) (ps.toList.map λp=>(p.1,a.eval p.2)) _ l _ _ (opF t' T xs) hl hzero (by simp) (λj i v hj=>by
  simp only[getElem?_map]at hj⊢;cases hq:ps.toList[j]? with
  |none=>simp[hq]at hj
  |some q=>
   simp only[hq,Option.map_some,Option.some.injEq,Prod.mk.injEq]at hj⊢;obtain⟨rfl,rfl⟩:=hj;have hqm:=mem_of_getElem? hq;refine⟨hok q hqm,_,⟨rfl,rfl⟩,?_⟩;have Z:xs[j]? =some q.2:=by rw[hxs,getElem?_map,hq];rfl
   rw[<-hev q.2 (mem_of_getElem? Z)];exact hp.opF_rel Z) (hp.opF_dis hap') (λ_ _ _ h=>h.elim)
 have hrun:=run_build w ty (ps.map λp=>(p.1,a.eval p.2)) W (Y _ _ (by simpa using hfill))
 have hex:(execOp a.eval o).run P w=.ok (.value (.agg W)) w:=by
  unfold execOp;rw[ho];simp only[Sem.run_bind];rw[show(Array.map (λx=>match x with|(i,x)=>(i,a.eval x)) ps)=ps.map (λp=>(p.1,a.eval p.2))from rfl,hrun]
  rfl
 unfold Oper.wp;rw[hex];show next (a.put o.dst (.agg W)) w
 rw[hd]at hn⊢;have hr:Rel D w (Ae σ ρ w) (Ah l) (.agg W) (λb=>∃k,k<l.length/\G' k b):=⟨W,G',rfl,H.sz,λk hk=>H.rel k hk,λk k' b _ _ hne=>H.dis k k' b hne,λb=>Iff.rfl⟩
 obtain⟨T',hp',hT'⟩:=hp.take (xs:=xs) (d:=d) (Below.refl _ _) hr (λb ⟨k,_,hb⟩=>.inl ((hG k b hb).resolve_left λh=>h)) hdn
 rw[htk]at hp';exact hn _ _ _ _ hp' (λx b hb=>(hT' x b hb).imp (λe=>by rw[e]) λh=>h) λ_ Z=>BD Z
theorem NC{Al:Nat->Nat->Prop}{σ:List V}{t:Nat->V}{len:Nat}{e:TypeId}{bytes:Nat}{l:List V}(ho:o.op=.buildSlice ty len ps)(hd:o.dst=some d)(hdn:d<N)(hsi:slI P ty=some ⟨e,size,bytes,zero⟩)
  (hs00:0<size) (hlen:len*size<=16777216) (hap:CZ ((ps.toList.map (·.2)).map (IC t))=true) (hok:∀p∈ps.toList,I0 (Ms.ev ⟨t,σ⟩ p.2)=true) (hl:B8 (λi=>some (i*size,size)) ((List.range (len*size)).map λj=>.c (zero.getD (j % size) undef)) (ps.toList.map λp=>(p.1,Ms.ev ⟨t,σ⟩ p.2))=some l)
  (himm:∀v∈l,B7 v=true\/∃s sz n f,v=.nd s true sz n f):
  LQ P N σ Al o t ((Bc t (ps.toList.map (·.2))).map λy=>(y,.all)) (.nd true true size len λi k=>l.getD (i*size+k) .dead):=by
 intro C ρ F a w D T t' hag hal hp next Q hn
 obtain⟨xs,hxs⟩:∃xs,xs=ps.toList.map (·.2):=⟨_,rfl⟩
 rw[<-hxs]at hap hn;have hopx:∀y,Operand.tmp y∈xs->t' y=t y:=λy hy=>hag y (.inl<|Dr (by rw[ho];show _∈(ps.toList.map (·.2)).toArray;rw[hxs]at hy;simpa using hy))
 have hev:∀x∈xs,Ms.ev ⟨t',σ⟩ x=Ms.ev ⟨t,σ⟩ x:=by
  intro x hx;cases x with
  |tmp y=>exact hopx y hx
  |const v=>rfl
  |global g=>rfl
  |func f=>rfl
 have hmap:xs.map (IC t')=xs.map (IC t):=Dm λx hx y e=>hopx y (e▸hx)
 have hap':CZ (xs.map (IC t'))=true:=by rw[hmap];exact hap
 have htk:Bc t' xs=Bc t xs:=by rw[BN,BN,hmap]
 obtain⟨hu,i0,z,hi0,hz,his,_,hzl,hzs,hz1⟩:=D6 hsi;simp only at hu hi0 his hzl hzs hz1
 have hzero:Y0 D w (Ae σ ρ w) ((List.range (len*size)).map λj=>.c (zero.getD (j % size) undef)) ((Array.range (len*size)).map (z.cells[· % z.cells.size]!)) λ_=>noF:=by
  refine⟨by simp,λj hj=>?_,λ_ _ _ _ h=>h.elim⟩
  simp at hj;have hm:j % size<z.cells.size:=by rw[hzs];exact Nat.mod_lt _ hs00
  have e1:(zero.getD (j % size) undef)=z.cells[j % z.cells.size]!:=by
   rw[<-hzl,hzs,getElem!_pos z.cells (j % size) hm];simp[hm]
  simp[hj];refine⟨?_,?_,λ_ h=>h⟩
  .have:=e1.symm
   simpa using this
  .refine hz1 _ ?_
   have hl0:j % size<zero.length:=by rw[<-hzl];simpa using hm
   simp[gEE hl0]
 obtain⟨H,G',hfill,hrel,hG⟩:=UA (λv cv h=>Ae.one h) (λi=>some (i*size,size)) (ps.toList.map λp=>(p.1,Ms.ev ⟨t,σ⟩ p.2)) (ps.toList.map λp=>(p.1,a.eval p.2)) _ l _ _ (opF t' T xs) hl hzero (by simp) (λj i v hj=>by
  simp only[getElem?_map]at hj⊢;cases hq:ps.toList[j]? with
  |none=>simp[hq]at hj
  |some q=>
   simp only[hq,Option.map_some,Option.some.injEq,Prod.mk.injEq]at hj⊢;obtain⟨rfl,rfl⟩:=hj;have hqm:=mem_of_getElem? hq;refine⟨hok q hqm,_,⟨rfl,rfl⟩,?_⟩;have hx:xs[j]? =some q.2:=by rw[hxs,getElem?_map,hq];rfl
   rw[<-hev q.2 (mem_of_getElem? hx)];exact hp.opF_rel hx) (hp.opF_dis hap') (λ_ _ _ h=>h.elim)
 have Y:l.length=len*size:=by
  have h2:∀(W:List (Nat×V)) (cells l':List V),B8 (λi=>some (i*size,size)) cells W=some l'->l'.length=cells.length:=by
   intro W
   induction W with
   |nil=>intro cells l' h;simp[B8]at h;rw[h]
   |cons p W ih=>
    intro cells l' h;obtain⟨i,v⟩:=p;simp only[B8]at h;split at h
    .cases h
    .rw[ih _ _ h]
     have:∀(l:List V) (k:Nat) (c:List V),((l.zipIdx k).foldl (λcs (c,j)=>cs.set (i*size+j) c) c).length=c.length:=by
      intro l
      induction l with
      |nil=>intro k c;rfl
      |cons v l ih=>intro k c;simp only[List.zipIdx_cons,List.foldl_cons];rw[ih];simp
     exact this _ 0 _
  have:=h2 _ _ _ hl;simpa using this
 have hex:(execOp a.eval o).run P w=.ok (.value (.slice (some ⟨w.heap.size,0,none⟩) len len)) (w.alloc (.cells H e)):=by
  have hn:¬ (16777216<len*size):=by omega
  unfold execOp;rw[ho];by_cases h0:len*size=0
  .have hfill':Instr.fill (λi=>some (i*size,size)) #[] (ps.toList.map λp=>(p.1,a.eval p.2))=some H:=by
    have:(Array.range (len*size)).map (z.cells[· % z.cells.size]!)= #[]:=by rw[h0];simp
    rw[<-this];exact hfill
   simp[Instr.buildSlice,run_underlying hu,sizeOf,typeInfo,hi0,his,hn,h0,newRow];simp[Array.range_zero',hfill']
  .simp[Instr.buildSlice,run_underlying hu,sizeOf,typeInfo,zeroValue,hi0,hz,his,hn,h0,newRow]
   simp[hfill]
 have hB:Below w.heap.size w (w.alloc (.cells H e)):=(Below.refl _ _).alloc (le_refl _) _;have hblk:(w.alloc (.cells H e)).heap[w.heap.size]? =some (.cells H e (0,0)):=by show(w.heap.push _)[w.heap.size]? =_;simp
 have hold:∀k b,G' k b->b<w.heap.size:=by
  intro k b Z;obtain⟨i,hi⟩:=(hG k b Z).resolve_left λh=>h
  obtain⟨y,_,_,_,hT⟩:=DN hi;by_cases hy:y<N
  .exact Rel.lt _ _ _ (hp.tm y hy) b hT
  .exact absurd hT (hp.tx y b (le_of_not_lt hy))
 have hsz:H.size=len*size:=by rw[hrel.sz];exact Y
 have hcell:∀i k,i<len->k<size->i*size+k<l.length:=λi k hi hk=>by
  rw[Y];have:(i+1)*size<=len*size:=Nat.mul_le_mul_right _ (by omega)
  rw[Nat.add_mul]at this;omega
 have hmax:len<=maxLen:=by have:=Nat.le_mul_of_pos_right len hs00;unfold maxLen;omega
 have hr:Rel D (w.alloc (.cells H e)) (Ae σ ρ (w.alloc (.cells H e))) (.nd true true size len λi k=>l.getD (i*size+k) .dead) (.slice (some ⟨w.heap.size,0,none⟩) len len) (λb=>b=w.heap.size\/∃i k,i<len/\k<size/\G' (i*size+k) b):=by
  refine .inr ⟨w.heap.size,0,len,λi k=>G' (i*size+k),rfl,le_refl _,hmax,(λh=>by cases h),λi k hi hk=>?_,(λh=>by cases h),λ_=>⟨⟨H,e,.plain hblk,by rw[hsz,Nat.zero_add];exact le_refl _⟩,λi k hi hk hF=>?_,λi k i' k' b hi hk hi' hk' hne hF hF'=>?_,λ_=>Iff.rfl⟩⟩
  .have hlt:=hcell i k hi hk
   refine⟨H.getD (i*size+k) undef,?_,?_⟩
   .unfold World.cell?
    have:i*size+k<H.size:=by rw[hsz,<-Y];exact hlt
    simp only[hblk,Option.isSome_none,Bool.false_eq_true,if_false,Nat.zero_add];simp[this]
   .have h5:=hrel.rel _ hlt
    refine Rel.mono (λ_ h=>h) (λ_ _ h=>h) _ _ _ (λb Z=>Below.heap_alloc _ _ _ ?_) (?_:Rel D w noR _ _ _)
    .rcases Z with Z|Z
     .exact hp.wr.Dlt b Z
     .exact hold _ b Z
    .have hm:l.getD (i*size+k) .dead∈l:=by
      rw[gDE,gEE hlt];exact getElem_mem hlt
     rcases himm _ hm with h6|⟨s,sz,n,f,h6⟩
     .exact CH h6 h5
     .show Rel D w noR (l.getD (i*size+k) .dead) _ (G' (i*size+k))
      rw[h6]at h5⊢;exact h5
  .have:=hold _ _ hF
   omega
  .refine hrel.dis _ _ b ?_ hF hF'
   intro he;have e1:=congrArg (· /size) he
   have e2:=congrArg (· % size) he
   simp only[Nat.mul_comm i size,Nat.mul_comm i' size,Nat.mul_add_mod,Nat.mod_eq_of_lt hk,Nat.mod_eq_of_lt hk']at e2;subst e2;have:i*size=i'*size:=by omega
   have:=Nat.eq_of_mul_eq_mul_right hs00 this;omega
 unfold Oper.wp;rw[hex];show next (a.put o.dst _) _
 rw[hd]at hn⊢
 obtain⟨T',hp',hT'⟩:=hp.take (xs:=xs) (d:=d) hB hr (λb Z=>by
  rcases Z with rfl|⟨i,k,_,_,Z⟩
  .exact .inr (le_refl _)
  .exact .inl ((hG _ b Z).resolve_left λh=>h)) hdn
 rw[htk]at hp';exact hn _ _ _ _ hp' (λx b Z=>(hT' x b Z).imp (λe=>by rw[e]) λh=>h) λ_ hx=>BD hx
def Hd(b:Nat):∀(H:List Value) (o:Nat) (w:World) (k:Nat),k≠b->(w.setCells b o H).heap[k]? =w.heap[k]?
 |[],_,_,_,_=>rfl
 |v::r,o,w,k,h=>by
  rw[World.setCells,Hd b r (o+1) _ k h];exact Below.heap_setCell w ⟨b,o,none⟩ v k h
theorem IX(b:Nat){T:TypeId}{fz:Nat×Nat}:∀(W:List Value) (o:Nat) (w:World) (cs:Array Value),w.heap[b]? =some (.cells cs T fz)->∃H,(w.setCells b o W).heap[b]? =some (.cells H T fz)/\H.size=cs.size
 |[],_,_,cs,h=>⟨cs,h,rfl⟩
 |v::r,o,w,cs,h=>by
  have Z:(w.setCell ⟨b,o,none⟩ v).heap[b]? =some (.cells (cs.setIfInBounds o v) T fz):=by
   unfold World.setCell
   grind
  obtain⟨H,Y,h3⟩:=IX b r (o+1) _ _ Z;exact⟨H,Y,by grind⟩
def HB(b:Nat):∀(H:List Value) (o:Nat) (w:World),(w.setCells b o H).os=w.os/\(w.setCells b o H).tape=w.tape/\(w.setCells b o H).output=w.output/\(w.setCells b o H).heap.size=w.heap.size/\(w.setCells b o H).drawn=w.drawn
 |[],_,_=>⟨rfl,rfl,rfl,rfl,rfl⟩
 |v::r,o,w=>by
  obtain⟨Z,Y,h3,h4,W⟩:=HB b r (o+1) (w.setCell ⟨b,o,none⟩ v);exact⟨Z,Y,h3,by rw[World.setCells,h4];simp,W⟩
def HQ{x:Nat}{l:List (Nat×Tk)}(h:x≠y):Bl ((y,tk)::l) x=Bl l x:=if_neg (Ne.symm h)
def HR{l:List (Nat×Tk)}:Bl ((y,tk)::l) y=some tk:=if_pos rfl
theorem Aaz{Al:Nat->Nat->Prop}{N:Nat}{σ:List V}{t:Nat->V}{p:Nat}{agg:Bool}{lp:List V}(ho:o.op=.store ty (.tmp p) x)(hd:o.dst=none)(hti:tyI P ty=some ⟨agg,size,zero⟩)
  (htp:t p=A3 true lp) (hlp:lp.length=size) (hpn:p<N) (hxp:x≠.tmp p) (hok:I0 (Ms.ev ⟨t,σ⟩ x)=true) (hlen:(cellsV (Ms.ev ⟨t,σ⟩ x)).length=size) (himm:∀v∈cellsV (Ms.ev ⟨t,σ⟩ x),B7 v=true\/∃s sz n f,v=.nd s true sz n f)
  (hone:∀v∈cellsV (Ms.ev ⟨t,σ⟩ x),YX v=true):
  LQ P N σ Al o t ((p,.put (A3 true (cellsV (Ms.ev ⟨t,σ⟩ x))))::(Bc t [x]).map λy=>(y,.all)) .dead:=by
 intro C ρ F a w D T t' hag hal Y next Q hn
 rw[hd]at hn;have hopp:t' p=t p:=hag p (.inl<|Dr (by rw[ho];simp[Op.operands]))
 have hopx:∀y,x=.tmp y->t' y=t y:=λy hy=>hag y (.inl<|Dr (by rw[ho,hy];simp[Op.operands]))
 have hev:Ms.ev ⟨t',σ⟩ x=Ms.ev ⟨t,σ⟩ x:=by
  cases x with
  |tmp y=>exact hopx y rfl
  |const v=>rfl
  |global g=>rfl
  |func f=>rfl
 have hmap:[x].map (IC t')=[x].map (IC t):=Dm λx' hx y e=>by rw[List.mem_singleton]at hx;subst hx;exact hopx y e
 have htk:Bc t' [x]=Bc t [x]:=by rw[BN,BN,hmap]
 have hnp:p∉Bc t [x]:=by
  intro hm;obtain⟨u,hu,he⟩:=mem_filterMap.1 hm;rw[List.mem_singleton]at hu;subst hu;cases u with
  |tmp z=>
   cases ho':AJ (t z)with
   |true=>
    rw[MU ho']at he;cases he;exact hxp rfl
   |false=>
    have:IC t (.tmp z)=none:=by show(if AJ (t z)=true then some z else none)=none;rw[if_neg (by simp[ho'])]
    rw[this]at he;cases he
  |const v=>cases he
  |global g=>cases he
  |func f=>cases he
 -- the value's cells
 have hrx:=Y.opF_rel (xs:=[x]) (j:=0) (x:=x) rfl;rw[hev]at hrx;obtain⟨H,hcr,hHF⟩:=KB (λv cv h=>Ae.one h) hok hrx
 obtain⟨L,hL⟩:∃L,L=cellsV (Ms.ev ⟨t,σ⟩ x):=⟨_,rfl⟩;rw[<-hL]at hcr hlen himm hone hn;obtain⟨vs,hvs⟩:∃vs,vs=(a.eval x).cells.toList:=⟨_,rfl⟩;have hvl:vs.length=L.length:=by rw[hvs];simpa using hcr.sz
 have hcell:∀j,j<L.length->Rel D w (Ae σ ρ w) (L.getD j .dead) (vs.getD j undef) (H j):=λj hj=>by
  have:=hcr.rel j hj;rw[hvs];simpa using this
 -- the struct's block
 have hrp:=Y.tm p hpn;rw[hopp,htp]at hrp;rcases hrp with⟨h0,h1,_⟩|⟨b,of,cap,F0,hcv,hcap,hmax,hs1,hc,_,hown⟩
 .cases h1
 obtain⟨⟨cs,Tt,hb1,hb2⟩,hbF,hFd,hfp⟩:=hown rfl;have hTb:T p b:=(hfp b).2 (.inl rfl);have hcv:a.eval (.tmp p)=.pointer (some ⟨b,of,none⟩):=hcv;have hlt:b<w.heap.size:=hb1.lt;have hob:=hb1;obtain⟨fzz,hb1,hbz⟩:=hb1;have hcap1:cap*lp.length≥lp.length:=Nat.le_mul_of_pos_left _ (by omega)
 have hcells:∀j,j<vs.length->∃y,w.cell? ⟨b,of+j,none⟩=some y:=by
  intro j hj;have:of+j<cs.size:=by omega
  unfold World.cell?;simp only[hb1,Option.isSome_none,Bool.false_eq_true,if_false];exact⟨_,Array.getElem?_eq_getElem this⟩
 have hfz:∀j,j<vs.length->w.frozen? ⟨b,of+j,none⟩=false:=λj hj=>by
  obtain⟨y,hy⟩:=hcells j hj;exact hob.frozen hy
 have h1c:∀v∈vs,v.oneCell'=true:=by
  intro v hv;obtain⟨j,hj,rfl⟩:=List.getElem_of_mem hv;have hj':j<L.length:=by omega
  have h1:=hcell j hj';have hm:L.getD j .dead∈L:=by
   rw[gDE,gEE hj'];exact getElem_mem hj'
  have:=(Rel.cells1 h1 (λv cv h=>Ae.one h) (hone _ hm)).2
  simpa [hj]using this
 obtain⟨dd,tii,z,hdt,hit,hz,his,_⟩:=CP hti;simp only at his;have hrun:=run_storeCells_cells (P:=P) b of vs 0 w (λj hj=>by obtain⟨y,hy⟩:=hcells j hj;simp[hy]) (λj hj=>by rw[Nat.add_zero];exact hfz j hj) h1c
 obtain⟨w',hw'⟩:∃w',w'=w.setCells b (of+0) vs:=⟨_,rfl⟩;rw[<-hw']at hrun;obtain⟨g1,g2,g3,g4,g5⟩:=HB b vs (of+0) w;obtain⟨cs2,hb3,hb4⟩:=IX b vs (of+0) w cs hb1;have hoth:∀k,k≠b->w'.heap[k]? =w.heap[k]?:=λk W=>by rw[hw'];exact Hd b vs _ w k W
 rw[<-hw']at g1 g2 g3 g4 g5 hb3
 have hin:∀j (hj:j<vs.length),w'.cell? ⟨b,of+j,none⟩=some vs[j]:=by
  intro j hj;rw[hw'];exact World.cell?_setCells_in b vs (of+0) w (λj hj=>by obtain⟨y,hy⟩:=hcells j hj;simp[hy]) j hj
 have hsv:(storeVar ty ⟨b,of,none⟩ (a.eval x)).run P w=.ok () w':=by
  have e:(a.eval x).cells.size=size:=by rw[hcr.sz];exact hlen
  simp only[storeVar,Sem.run_bind,sizeOf,typeInfo];rw[<-hvs];simp[hit,his,hrun,e]
 have hex:(execOp a.eval o).run P w=.ok .skip w':=by
  unfold execOp;rw[ho];simp[Instr.storeAt,hcv,Instr.sureAddr,hsv]
 unfold Oper.wp;rw[hex,Oper.upon_skip,hd]
 -- nothing else lies in the block
 have hTn:∀y k,y≠p->T y k->k≠b:=λy k hy W e=>Y.tT y p k hy W (e▸hTb)
 have hDn:∀k,D k->k≠b:=λk W e=>Y.tD p b hTb (e▸W)
 have hFn:∀i k,F i k->k≠b:=λi k W e=>Y.tF i p k W (e▸hTb)
 have hHT:∀j k,H j k->∃y,y∈Bc t [x]/\T y k:=λj k W=>by
  obtain⟨y,_,_,hm,hT⟩:=DN (hHF j k W);exact⟨y,htk▸hm,hT⟩
 have hHn:∀j k,H j k->k≠b:=λj k W=>by
  obtain⟨y,hm,hT⟩:=hHT j k W;exact hTn y k (λe=>hnp (e▸hm)) hT
 have kM:∀y,AL ((p,.put (A3 true L))::(Bc t [x]).map λy=>(y,.all)) t' y=if y=p then A3 true L else if y∈Bc t [x]then .dead else t' y:=by
  intro y;unfold AL;by_cases hy:y=p
  .subst hy
   rw[HR,if_pos rfl];rfl
  .rw[HQ hy,OJ,if_neg hy]
   split<;>rfl
 have Z:∀k,k≠b->w'.heap[k]? =w.heap[k]?:=hoth
 have hnew:Rel D w' (Ae σ ρ w') (A3 true L) (a.tmps.getD p undef) (λk=>k=b\/∃j,j<L.length/\H j k):=by
  refine .inr ⟨b,of,cap,λi j=>H j,hcv,hcap,hmax,λ_=>rfl,λi k hi W=>?_,(λh=>by cases h),λ_=>⟨⟨cs2,Tt,⟨fzz,hb3,by rw[hb4];exact hbz⟩,?_⟩,λi k hi W hF=>hHn k b hF rfl,λi k i' k' c hi W hi' hk' hne hF hF'=>?_,λc=>?_⟩⟩
  .obtain rfl:i=0:=by omega
   have hk':k<vs.length:=by omega
   refine⟨vs[k],by simpa using hin k hk',?_⟩
   have h5:=hcell k W;have e5:vs.getD k undef=vs[k]:=by simp[hk']
   rw[e5]at h5;refine Rel.mono (λ_ h=>h) (λ_ _ h=>h) _ _ _ (λc hc=>Z c ?_) (?_:Rel D w noR _ _ _)
   .rcases hc with hc|hc
    .exact hDn c hc
    .exact hHn k c hc
   .have hm:L.getD k .dead∈L:=by
     rw[gDE,gEE W];exact getElem_mem W
    show Rel D w noR (L.getD k .dead) vs[k] (H k);rcases himm _ hm with h6|⟨s,sz,n,f,h6⟩
    .exact CH h6 h5
    .rw[h6]at h5⊢
     exact h5
  .rw[hb4,hlen,<-hlp];exact hb2
  .exact hcr.dis k k' c (by omega) hF hF'
  .constructor
   .rintro (h|⟨j,hj,h⟩)
    .exact .inl h
    .exact .inr ⟨0,j,by omega,hj,h⟩
   .rintro (h|⟨_,j,_,hj,h⟩)
    .exact .inl h
    .exact .inr ⟨j,hj,h⟩
 have wr':Be σ w' D ρ F:=⟨λi hi=>Rel.mono (λ_ h=>h) (λ_ _ h=>h) _ _ _ (λk W=>Z k (W.elim (hDn k) (hFn i k))) (Y.wr.rel i hi),Y.wr.disj,Y.wr.dD,λk W=>by rw[g4];exact Y.wr.Dlt k W,Y.wr.out⟩
 have hsub:∀k,(k=b\/∃j,j<L.length/\H j k)->T p k\/∃y,y∈Bc t [x]/\T y k:=by
  rintro k (rfl|⟨j,_,h⟩)
  .exact .inl hTb
  .exact .inr (hHT j k h)
 refine hn a w' D (λy k=>if y=p then(k=b\/∃j,j<L.length/\H j k)else y∉Bc t [x]/\T y k) ⟨Y.df,Y.sz,λy hy=>?_,wr',λy hy=>?_,λy k W=>?_,λi y k W hT=>?_,λy y' k hyy h1 h2=>?_,λy k W=>?_,⟨g1.trans Y.fr.os,g2.trans Y.fr.tape,g3.trans Y.fr.output,by rw[g4];exact Y.fr.size,λk W hW=>?_,by rw[g5];exact Y.fr.drawn⟩,Y.Fn,Y.D1,Y.D2,Y.rt,Y.ml,λy k hy W=>?_⟩ (λy k W=>?_) λ_ _=>rfl
 .show AL _ t' y=_
  rw[kM,if_neg (by omega)]
  split
  .rfl
  .exact Y.dd y hy
 .show Rel D w' (Ae σ ρ w') (AL _ t' y) _ _
  rw[kM];by_cases hyp:y=p
  .subst hyp
   rw[if_pos rfl];exact Rel.fp_congr (λk=>by show _↔(if y=y then _ else _);rw[if_pos rfl]) hnew
  .rw[if_neg hyp]
   by_cases hm:y∈Bc t [x]
   .rw[if_pos hm]
    intro k W;have W:(if y=p then(k=b\/∃j,j<L.length/\H j k)else y∉Bc t [x]/\T y k):=W
    rw[if_neg hyp]at W;exact W.1 hm
   .rw[if_neg hm]
    refine Rel.fp_congr (fp:=T y) (λk=>by show _↔(if y=p then _ else _);rw[if_neg hyp];exact⟨λh=>⟨hm,h⟩,λh=>h.2⟩) ?_
    exact Rel.mono (λ_ h=>h) (λv cv hv=>Ae.same Y.wr (λi k W=>Z k (hFn i k W)) v cv hv) _ _ _ (λk W=>Z k (W.elim (hDn k) (hTn y k hyp))) (Y.tm y hy)
 .split at W
  .rcases hsub k W with h|⟨y',_,h⟩
   .exact Y.tD p k h
   .exact Y.tD y' k h
  .exact Y.tD y k W.2
 .split at hT
  .rcases hsub k hT with h|⟨y',_,h⟩
   .exact Y.tF i p k W h
   .exact Y.tF i y' k W h
  .exact Y.tF i y k W hT.2
 .have one:∀z,z≠p->z∉Bc t [x]->T z k->(k=b\/∃j,j<L.length/\H j k)->False:=by
   intro z hz hm hT h;rcases hsub k h with h|⟨y'',hm',h⟩
   .exact Y.tT z p k hz hT h
   .exact Y.tT z y'' k (λe=>hm (e▸hm')) hT h
  split at h1<;>split at h2
  .rename_i e1 e2;exact absurd (e1.trans e2.symm) hyy
  .rename_i e1 e2;exact one y' e2 h2.1 h2.2 h1
  .rename_i e1 e2;exact one y e1 h1.1 h1.2 h2
  .exact Y.tT y y' k hyy h1.2 h2.2
 .split at W
  .rcases hsub k W with h|⟨y',_,h⟩
   .exact Y.tn p k h
   .exact Y.tn y' k h
  .exact Y.tn y k W.2
 .have:k≠b:=λe=>by
   rcases Y.tn p b hTb with h|h
   .exact hW (e▸h)
   .omega
  rw[Z k this];exact Y.fr.block k W hW
 .have W:(if y=p then(k=b\/∃j,j<L.length/\H j k)else y∉Bc t [x]/\T y k):=W
  rw[if_neg (by omega)]at W
  exact Y.tx y k hy W.2
 .have W:(if y=p then(k=b\/∃j,j<L.length/\H j k)else y∉Bc t [x]/\T y k):=W
  split at W
  .rename_i e;exact .inr ⟨b,e▸hTb⟩
  .exact .inr ⟨k,W.2⟩
end Go.Ve


namespace Go.Ve
def KR:List (Nat×Nat×Value)->Act->Act
 |[],a=>a
 |(_,d,u)::l,a=>KR l (a.put (some d) u)
theorem J1{d:Nat}{u:Value}:∀{l:List (Nat×Nat×Value)}{a:Act},(∀x∈l,x.2.1≠d)->KR l (a.put (some d) u)=(KR l a).put (some d) u
 |[],_,_=>rfl
 |(f,e,v)::l,a,h=>by
  have H:=h _ (mem_cons_self ..);show KR l ((a.put (some d) u).put (some e) v)=_;rw[Dn (λh=>H (by grind))]
  exact J1 λx W=>h x (mCM _ W)
def MP:∀(l H:List (Nat×Nat×Value)) (a:Act),KR (l++H) a=KR H (KR l a)
 |[],_,_=>rfl
 |(_,d,u)::l,H,a=>MP l H (a.put (some d) u)
section
variable {P:Program}{ops:Array Oper}{n:Nat}{fs:List Nat}
def HK{o:Oper}(W:∀cs b,o.op≠.select cs b):∀{l:List (Nat×Nat×Value)}{a:Act},(∀x∈l,x.2.1∉o.looksAt ops)->execOp (KR l a).eval o=execOp a.eval o
 |[],_,_=>rfl
 |(f,d,u)::l,a,h=>by
  show execOp (KR l (a.put (some d) u)).eval o=_;rw[HK W λx Y=>h x (mCM _ Y),execOp_put o W a (some d) u λZ H=>by cases H;exact h _ (mem_cons_self ..)]
def Jv{o:Oper}(h:Adp o.op=true):∀cs b,o.op≠.select cs b:=λcs b e=>by rw[e]at h;cases h
def FlH(P:Program)(ops:Array Oper)(n:Nat)(fs:List Nat)(a:Act)(w:World):Prop:=∀on,ops[n]? =some on->∃v w',(execOp a.eval on).run P w=.ok (.value v) w'/\
 ∀f∈fs,∀o,ops[f]? =some o->∀u,(execOp a.eval o).run P w=.ok (.value u) w->(execOp a.eval o).run P w'=.ok (.value u) w'
structure GI(P:Program)(ops:Array Oper)(Q:Exit->Act->World->Prop)(n:Nat)(fs:List Nat)(L:List (Nat×Nat×Value))(m:Nat)(listed:Array Bool)(a:Act)(w:World):Prop where
 sz:listed.size=ops.size
 ls:∀j,j<ops.size->listed.getD j true=decide (j<m/\∀x∈L,x.1≠j)
 nd:L.Pairwise λx y=>x.1≠y.1
 it:∀x∈L,x.1∈fs/\AG ops x.1=some x.2.1/\∀o,ops[x.1]? =some o->(execOp (KR L a).eval o).run P w=.ok (.value x.2.2) w
 wl:wpList P ops (QN Q) (ops.toList.drop m) (KR L a) w
 hH:m=n->FlH P ops n fs (KR L a) w
theorem GI.go{Q:Exit->Act->World->Prop}(hq:QOK ops n)(fl:FLS ops n fs):∀(fuel:Nat) (L:List (Nat×Nat×Value)) (m:Nat) (listed:Array Bool) (a:Act) (w:World),m=n\/m=n+1->(ops.size-m)+L.length<=fuel->GI P ops Q n fs L m listed a w->wpAny P .any ops Q fuel listed a w:=by
 have hsz:=fl.lt1;obtain⟨on,dn,hon,hog,hod,hos,hfl⟩:=fl.it;intro fuel
 induction fuel with
 |zero=>intro L m listed a w hm hf;omega
 |succ g ih=>
  intro L m listed a w hm hf h;cases hL:L with
  |nil=>
   subst hL;refine JG hq (.inr fl.chain) (g+1) m listed a w (by omega) (by omega) (by simpa using le_trans (by omega) (Nat.add_le_add_left hf m)) h.sz (λj hj=>?_) (Jz m _ w (by omega) h.wl)
   rw[h.ls j hj];simp
  |cons x0 L0=>
  have hne:∃x,x∈L:=⟨x0,by rw[hL];exact mem_cons_self ..⟩
  -- what is known of the pending ones
  have hx:∀x∈L,x.1<n/\∃o,ops[x.1]? =some o/\o.guard=none/\Adp o.op=true/\o.dst=some x.2.1/\x.2.1∉on.looksAt ops/\dn≠x.2.1/\dn∉o.looksAt ops:=by
   intro x W;obtain⟨h1,h2,_⟩:=h.it x W;obtain⟨o,d,k1,k2,k3,k4,k5,k6,k7⟩:=hfl x.1 h1;have hd:d=x.2.1:=by
    unfold AG at h2;rw[k1]at h2;have h2:o.dst=some x.2.1:=h2;rw[k4]at h2;exact Option.some.inj h2
   subst hd;exact⟨(fl.lt x.1 h1).1,o,k1,k2,k3,k4,k5,k6,k7⟩
  have hdne:∀x∈L,∀y∈L,x.1≠y.1->x.2.1≠y.2.1:=by
   intro x W y hyL hxy e;obtain⟨h1,o,h2,_,_,h3,_⟩:=hx x W;obtain⟨h4,o',h5,_,_,h6,_⟩:=hx y hyL;have:=(hq.ne x.1 y.1 x.2.1 o' h1 h4 hxy (h.it x W).2.1 h5).1;rw[e]at this;exact this h6
  have hun:∀j,j<ops.size->(listed.getD j false=true↔(j<m/\∀x∈L,x.1≠j)):=by
   intro j hj;have h1:=Jn h.sz hj (h.ls j hj);rw[h1,decide_eq_true_iff]
  refine⟨λh0=>?_,λi hi=>?_⟩
  .-- the VL of them is ready
   exfalso;obtain⟨i,⟨x,W,rfl⟩,hmin⟩:=VL (p:=λi=>∃x∈L,x.1=i) (let ⟨x,hx⟩:=hne;⟨x.1,x,hx,rfl⟩)
   obtain⟨h1,o,h2,_⟩:=hx x W;have:x.1∈Region.ready .any ops listed:=by
    refine mem_ready.2 ⟨by rw[h.ls x.1 (by omega)];exact dF λhh=>hh.2 x W rfl,o,h2,λe he hb=>?_⟩
    have h3:=hq.back x.1 o e h2 he hb;exact(hun e.on (by omega)).2 ⟨by omega,λy H e'=>hmin e.on h3 ⟨y,H,e'⟩⟩
   rw[h0]at this;cases this
  .obtain⟨hiu,oi,Z,hall⟩:=mem_ready.1 hi
   have his:i<ops.size:=(Array.getElem?_eq_some_iff.1 Z).1;have hdep:∀j,Region.waitsFor .any ops i j=true->j<ops.size->j<m/\∀x∈L,x.1≠j:=by
    intro j hw hj;obtain⟨o',ho',e,he',hb,hon'⟩:=Region.waitsFor_spec hw;obtain rfl:o'=oi:=Option.some.inj (ho'.symm.trans Z);have h3:=hall e he' hb;rw[hon']at h3;exact(hun j hj).1 h3
   by_cases hiL:∃x∈L,x.1=i
   .-- a pending one
    obtain⟨x,W,rfl⟩:=hiL;obtain⟨hxn,o,ho,hg,hex,hd,hlo,hdn,hdo⟩:=hx x W;obtain rfl:oi=o:=Option.some.inj (Z.symm.trans ho);obtain⟨hfs,hdst,Y⟩:=h.it x W;have Y:=Y oi ho;have hlook:∀y∈L,y.2.1∉oi.looksAt ops:=by
     intro y H hm';obtain⟨hyn,oy,hoy,_,_,hdy,_⟩:=hx y H;by_cases hxy:y.1=x.1
     .have e:y.2.1=x.2.1:=by
       have h1:=(h.it y H).2.1;rw[hxy,hdst]at h1;exact(Option.some.inj h1).symm
      obtain⟨oi',hoi',hnl⟩:=hq.dst x.1 hxn;obtain rfl:oi'=oi:=Option.some.inj (hoi'.symm.trans Z);exact hnl x.2.1 hd (e▸hm')
     .obtain⟨e,he,hb,hon'⟩:=(hq.ne y.1 x.1 y.2.1 oi hyn hxn hxy (h.it y H).2.1 Z).2 hm'
      have h3:=hall e he hb;rw[hon']at h3;exact((hun y.1 (by omega)).1 h3).2 y H rfl
    rw[HK (Jv hex) hlook]at Y;unfold wpOp;simp only[Z];have hw:Region.wanted oi (yielded ops a.tmps)=true:=by simp[Region.wanted,hg]
    rw[if_pos hw];left;unfold Oper.wp;rw[Y,Oper.upon_value,hd];obtain⟨L1,L2,hsp⟩:=List.append_of_mem W;have hnd:=h.nd;rw[hsp,List.pairwise_append,List.pairwise_cons]at hnd;obtain⟨n1,⟨n2,n3⟩,n4⟩:=hnd
    have hput:KR (L1++L2) (a.put (some x.2.1) x.2.2)=KR L a:=by
     rw[hsp,MP,MP];show _=KR L2 ((KR L1 a).put (some x.2.1) x.2.2);rw[J1 λy H=>hdne y (by rw[hsp];simp[H]) x W (n4 y H x (mem_cons_self ..))]
    have hLm:∀y,y∈L1++L2↔y∈L/\y.1≠x.1:=by
     intro y;rw[hsp];simp only[List.mem_append,mem_cons];constructor
     .rintro (H|H)
      .exact⟨.inl H,n4 y H x (mem_cons_self ..)⟩
      .exact⟨.inr (.inr H),λe=>n2 y H e.symm⟩
     .rintro ⟨H|rfl|H,hyx⟩
      .exact .inl H
      .exact absurd rfl hyx
      .exact .inr H
    refine ih (L1++L2) m _ _ w hm ?_ ⟨by simpa using h.sz,λj hj=>?_,?_,λy H=>?_,by rw[hput];exact h.wl,λe=>by rw[hput];exact h.hH e⟩
    .rw[hsp]at hf
     simp only[List.length_append,List.length_cons]at hf⊢;omega
    .by_cases hij:x.1=j
     .subst hij
      have:x.1<listed.size:=by rw[h.sz];exact his
      rw[show(listed.setIfInBounds x.1 true).getD x.1 true=true by simp[this]]
      exact(dT ⟨by omega,λy H=>((hLm y).1 H).2⟩).symm
     .rw[getD_set_ne true hij,h.ls j hj]
      refine decide_eq_decide.2 ⟨fun⟨k1,k2⟩=>⟨k1,λy H=>k2 y ((hLm y).1 H).1⟩,fun⟨k1,k2⟩=>⟨k1,λy H=>?_⟩⟩
      by_cases hyx:y.1=x.1
      .rw[hyx];exact hij
      .exact k2 y ((hLm y).2 ⟨H,hyx⟩)
    .exact List.pairwise_append.2 ⟨n1,n3,λy H z hz=>n4 y H z (mCM _ hz)⟩
    .obtain⟨k1,k2,k3⟩:=h.it y ((hLm y).1 H).1
     rw[hput];exact⟨k1,k2,k3⟩
   .have hnot:¬i<m:=λhlt=>by
     rw[h.ls i his]at hiu;exact of_decide_eq_false hiu ⟨hlt,λx hx e=>hiL ⟨x,hx,e⟩⟩
    have him:i=m:=by
     have h2:=aET.1 fl.chain i (mem_range.2 his);simp only[Bool.or_eq_true,decide_eq_true_eq]at h2;rcases h2 with h2|h2
     .omega
     .have:=(hdep (i-1) h2 (by omega)).1
      omega
    rcases hm with hmn|hmn
    case inr=>
     exfalso;obtain⟨x,W⟩:=hne;obtain⟨h1,_,_⟩:=h.it x W;have h2:=(fl.lt x.1 h1).2;rw[show n+1=i by omega]at h2
     exact(hdep x.1 h2 (by have:=(fl.lt x.1 h1).1;omega)).2 x W rfl
    subst him;subst hmn;obtain rfl:oi=on:=Option.some.inj (Z.symm.trans hon);obtain⟨v,w',Y,hkeep⟩:=h.hH rfl oi Z;have hlook:∀y∈L,y.2.1∉oi.looksAt ops:=λy H=>by
     obtain⟨_,_,_,_,_,_,h5,_⟩:=hx y H;exact h5
    have hrun0:=Y;rw[HK hos hlook]at hrun0;have hwl:=h.wl
    have hdrop:ops.toList.drop i=oi::ops.toList.drop (i+1):=by
     have h1:=List.drop_eq_getElem_cons (l:=ops.toList) (i:=i) (by simpa using his)
     rw[h1]
     congr 1
     have:ops[i]? =some ops[i]:=by simp[his]
     rw[Z]at this;simpa using(Option.some.inj this).symm
    rw[hdrop]at hwl;unfold wpList at hwl;rw[if_pos (by simp[Region.wanted,hog])]at hwl
    unfold wpOp;simp only[Z];rw[if_pos (by simp[Region.wanted,hog])]
    left;unfold Oper.wp;rw[hrun0,Oper.upon_value,hod]
    have hput:KR L (a.put (some dn) v)=(KR L a).put (some dn) v:=J1 λy H=>by
     obtain⟨_,_,_,_,_,_,_,h6,_⟩:=hx y H;exact λe=>h6 e.symm
    refine ih L (i+1) _ _ w' (.inr (by omega)) (by omega) ⟨by simpa using h.sz,λj hj=>?_,h.nd,λy H=>?_,?_,λe=>by omega⟩
    .by_cases hij:i=j
     .subst hij
      have:i<listed.size:=by rw[h.sz];exact his
      rw[show(listed.setIfInBounds i true).getD i true=true by simp[this]]
      exact(dT ⟨by omega,λy H e=>hiL ⟨y,H,e⟩⟩).symm
     .rw[getD_set_ne true hij,h.ls j hj]
      exact decide_eq_decide.2 ⟨fun⟨k1,k2⟩=>⟨by omega,k2⟩,fun⟨k1,k2⟩=>⟨by omega,k2⟩⟩
    .obtain⟨k1,k2,k3⟩:=h.it y H
     refine⟨k1,k2,λo ho=>?_⟩
     obtain⟨_,o',ho',_,hex,_,_,_,h7⟩:=hx y H;obtain rfl:o'=o:=Option.some.inj (ho'.symm.trans ho);rw[hput,execOp_put o' (Jv hex) _ (some dn) v λd hd=>by cases hd;exact h7]
     exact hkeep y.1 k1 o' ho _ (k3 o' ho)
    .rw[hput]
     rcases hwl with hwl|⟨_,_,_,hno⟩
     .unfold Oper.wp at hwl
      rw[Y,Oper.upon_value,hod]at hwl;exact hwl
     .exact(Ade _ _ _ (by simp) hno).elim
end
end Go.Ve


namespace Go.Ve
open Go
variable{α U:Type}{w w':World}
def I8{α:Type}(s:Sem α):Prop:=∀(P:Program) (w H:World) (n:α),s.run P w=.ok n H->H=w
def YZ{α:Type}(w w':World)(s:Sem α):Prop:=∀(P:Program) (n:α),s.run P w=.ok n w->s.run P w'=.ok n w'
theorem I8.pure{α:Type}(x:α):I8 (Pure.pure x:Sem α):=λP w H n h=>by simp_all
theorem YZ.pure{α:Type}{w w':World}(x:α):YZ w w' (Pure.pure x:Sem α):=λP n h=>by simp_all
theorem I8.bind{s:Sem α}{f:α->Sem U}(Z:I8 s)(hf:∀x,I8 (f x)):I8 (s>>=f):=by
 intro P w Y n h;rw[Sem.run_bind]at h;cases W:s.run P w with
 |ok x H=>
  rw[W]at h;have e:=Z P w H x W;subst e;exact hf x P _ Y n h
 |halt x H=>simp_all
theorem YZ.bind{s:Sem α}{f:α->Sem U}(Z:I8 s)(Y:YZ w w' s)(hf:∀x,YZ w w' (f x)):YZ w w' (s>>=f):=by
 intro P n h;rw[Sem.run_bind]at h⊢;cases H:s.run P w with
 |ok x W=>
  rw[H]at h;have e:=Z P w W x H;subst e;rw[Y P x H];exact hf x P n h
 |halt x W=>simp_all
def Bt{α:Type}(s:Sem α):Prop:=∀(P:Program) (w H:World) (n:α),s.run P w≠.ok n H
theorem Bt.keep{s:Sem α}(h:Bt s):I8 s:=λP w H n e=>(h P w H n e).elim
theorem Bt.same{s:Sem α}(h:Bt s):YZ w w' s:=λP n e=>(h P w w n e).elim
theorem Bt.bind{s:Sem α}{f:α->Sem U}(h:Bt s):Bt (s>>=f):=by
 intro P w Y n e;rw[Sem.run_bind]at e;cases W:s.run P w with
 |ok x H=>exact h P w H x W
 |halt x H=>simp_all
theorem Bt.bindR{s:Sem α}{f:α->Sem U}(h:∀x,Bt (f x)):Bt (s>>=f):=by
 intro P w W n e;rw[Sem.run_bind]at e;cases Y:s.run P w with
 |ok x H=>rw[Y]at e;exact h x P H W n e
 |halt x H=>simp_all
theorem Bt.stuck{α:Type}{m:String}:Bt (stuck m:Sem α):=λP w H n e=>by cases e
def KS{α:Type}(w w':World)(s:Sem α):Prop:=I8 s/\YZ w w' s
def KS.bind{α U:Type}{w w':World}{s:Sem α}{f:α->Sem U}(H:KS w w' s)(W:∀x,KS w w' (f x)):KS w w' (s>>=f):=⟨H.1.bind λx=>(W x).1,YZ.bind H.1 H.2 λx=>(W x).2⟩
def KS.pure{α:Type}{w w':World}(x:α):KS w w' (Pure.pure x:Sem α):=⟨I8.pure x,YZ.pure x⟩
def Bt.ks{s:Sem α}(h:Bt s):KS w w' s:=⟨h.keep,h.same⟩
def FlK(P:Program)(ops:Array Oper)(fs:List Nat):Prop:=∀f∈fs,∀o,ops[f]? =some o->∀ρ w n H,(execOp ρ o).run P w=.ok n H->∃u,n=.value u/\H=w
section
variable {X A:Nat->Prop}{B:Nat->Nat->Prop}{P:Program}{C:Ctx}{h:BW}{ops:Array Oper}{σ:List V}{ρ:Nat->Value}{F:Nat->Nat->Prop}{t0 r:Nat->V}{m:Nat->List (Nat×Tk)}{n:Nat}{fs:List Nat}
theorem replay(hq:QOK ops n)(fl:FLS ops n fs)(hk:FlK P ops fs)(hm:MOK (isA h ops) (isB h ops) ops n m)
  (hst:∀j,j<n->∀o,ops[j]? =some o->Je P h ops σ o (Cb ops r m t0 j) (r j) (m j)) {a0:Act}:∀(c:Nat) (listed:Array Bool) (a:Act) (w:World) (D:Nat->Prop) (T:Nat->Nat->Prop),unl listed n=c->HeadInv .any ops n listed->
   (∀i,i<n->listed.getD i true=false->i∈fs)->PR C h.n σ ρ F (pt ops n r m t0 listed) a w D T->(∀x b,T x b->Qm ops n X x)->(∀x,(∀i,i<n->AG ops i≠some x)->a.tmps[x]? =a0.tmps[x]?)->AlI h ops n listed a->
   ∃(L:List (Nat×Nat×Value)) (D':Nat->Prop) (T':Nat->Nat->Prop),PR C h.n σ ρ F (Cb ops r m t0 n) (KR L a) w D' T'/\(∀x b,T' x b->Qm ops n X x)/\(∀x,(∀i,i<n->AG ops i≠some x)->(KR L a).tmps[x]? =a0.tmps[x]?)/\
    L.Pairwise (λx y=>x.1≠y.1)/\(∀i,i<n->(listed.getD i true=false↔ ∃x∈L,x.1=i))/\(∀x∈L,x.1<n)/\
    ∀x∈L,x.1∈fs/\AG ops x.1=some x.2.1/\∀o,ops[x.1]? =some o->(execOp (KR L a).eval o).run P w=.ok (.value x.2.2) w:=by
 intro c
 induction c with
 |zero=>
  intro listed a w D T hc inv hfs hp hT hA hI;have hall:∀i,i<n->listed.getD i true=true:=by
   intro i hi;cases hu:listed.getD i true with
   |true=>rfl
   |false=>have:=Pr hu n hi;omega
  rw[Xx hq hm inv.size hall]at hp;exact⟨[],D,T,hp,hT,hA,List.Pairwise.nil,λi hi=>by rw[hall i hi];simp,λx W=>(by cases W),λx W=>(by cases W)⟩
 |succ c ih=>
  intro listed a w D T hc inv hfs hp hT hA hI;have hex:∃i,i<n/\listed.getD i true=false:=by
   apply Classical.byContradiction;intro hno;have:unl listed n=0:=by
    unfold unl;rw[List.countP_eq_zero];intro i hi;have hi:=mem_range.1 hi;cases hu:listed.getD i true with
    |true=>simp
    |false=>exact absurd ⟨i,hi,hu⟩ hno
   omega
  obtain⟨i,⟨Y,hun⟩,hmin⟩:=VL hex;have hle:=hq.le;have hminL:∀j,j<i->listed.getD j true=true:=λj hj=>by
   cases hu:listed.getD j true with
   |true=>rfl
   |false=>exact absurd ⟨by omega,hu⟩ (hmin j hj)
  have hif:=hfs i Y hun;obtain⟨on,dn,hon,hog,hod,hos,hfl⟩:=fl.it;obtain⟨o,d,hoi,hg,hexo,hd,_,_,_⟩:=hfl i hif;have hdi:AG ops i=some d:=by unfold AG;rw[hoi];exact hd
  have hir:i∈Region.ready .any ops listed:=by
   refine mem_ready.2 ⟨hun,o,hoi,λe he hb=>?_⟩
   have h1:=hq.back i o e hoi he hb;have h2:=hminL e.on h1;have h3:e.on<listed.size:=by rw[inv.size];omega
   simp[h3]at h2⊢;exact h2
  have H:=Jy (Q:=λ_ _ _=>False) (K:=λa' w'=>∃D' T',PR C h.n σ ρ F (pt ops n r m t0 (listed.setIfInBounds i true)) a' w' D' T'/\(∀x b,T' x b->Qm ops n X x)/\(∀x,(∀i,i<n->AG ops i≠some x)->a'.tmps[x]? =a0.tmps[x]?)/\AlI h ops n (listed.setIfInBounds i true) a')
   (HY hq hm inv Y hir hst hp hT (hI.at hq Y hir) λa' w' D' T' hp' hT' htm' hmv=>⟨D',T',hp',hT',λx W=>(htm' x (W i Y)).trans (hA x W),hI.set hq hst inv Y hp.sz htm' hmv⟩)
  unfold wpOp at H;simp only[hoi]at H;have hw:Region.wanted o (yielded ops a.tmps)=true:=by simp[Region.wanted,hg]
  rw[if_pos hw]at H;rcases H with H|⟨_,_,_,hno⟩
  case inr=>exact hno.elim
  unfold Oper.wp at H;cases hrun:(execOp a.eval o).run P w with
  |halt x w2=>
   rw[hrun]at H;cases x<;>exact H.elim
  |ok nn w1=>
   obtain⟨u,rfl,rfl⟩:=hk i hif o hoi _ _ _ _ hrun;rw[hrun,Oper.upon_value,hd]at H;obtain⟨D1,T1,hp1,hT1,hA1,hI1⟩:=H;have hcount:=Pq (by rw[inv.size];omega) hun n
   rw[if_pos Y]at hcount;have hset:∀j,i≠j->(listed.setIfInBounds i true).getD j true=listed.getD j true:=λj hj=>getD_set_ne true hj
   have hself:(listed.setIfInBounds i true).getD i true=true:=by
    have:i<listed.size:=by rw[inv.size];omega
    simp[this]
   obtain⟨L,D2,T2,h1,h2,h3,h4,h5,h6,h7⟩:=ih (listed.setIfInBounds i true) (a.put (some d) u) _ D1 T1 (by omega) (inv.set hir Y) (λj hj hu=>by
    by_cases Z:i=j
    .subst Z;rw[hself]at hu;cases hu
    .rw[hset j Z]at hu;exact hfs j hj hu) hp1 hT1 hA1 hI1
   have hLi:∀x∈L,x.1≠i/\listed.getD x.1 true=false:=by
    intro x W;have hu:=(h5 x.1 (h6 x W)).2 ⟨x,W,rfl⟩;by_cases Z:i=x.1
    .rw[<-Z,hself]at hu;cases hu
    .exact⟨Ne.symm Z,by rw[hset _ Z]at hu;exact hu⟩
   refine⟨(i,d,u)::L,D2,T2,h1,h2,h3,List.pairwise_cons.2 ⟨λx W e=>(hLi x W).1 e.symm,h4⟩,λj hj=>?_,λx W=>?_,λx W=>?_⟩
   .by_cases Z:i=j
    .subst Z
     exact⟨λ_=>⟨_,mem_cons_self ..,rfl⟩,λ_=>hun⟩
    .rw[<-hset j Z,h5 j hj]
     constructor
     .rintro ⟨x,W,e⟩;exact⟨x,mCM _ W,e⟩
     .rintro ⟨x,W,e⟩
      rcases mem_cons.1 W with rfl|W
      .exact absurd e Z
      .exact⟨x,W,e⟩
   .rcases mem_cons.1 W with rfl|W
    .exact Y
    .exact h6 x W
   .rcases mem_cons.1 W with rfl|W
    .refine⟨hif,hdi,λo' ho'=>?_⟩
     obtain rfl:o'=o:=Option.some.inj (ho'.symm.trans hoi);show(execOp (KR L (a.put (some d) u)).eval o').run P _=_;rw[HK (ops:=ops) (Jv hexo) λy hy hm'=>?_,execOp_put (ops:=ops) o' (Jv hexo) a (some d) u λd' hd'=>?_]
     .exact hrun
     .cases hd'
      obtain⟨oi',hoi',hnl⟩:=hq.dst i Y;obtain rfl:oi'=o':=Option.some.inj (hoi'.symm.trans hoi);exact hnl _ hd
     .obtain⟨k1,k2⟩:=hLi y hy
      obtain⟨e,he,hb,hon'⟩:=(hq.ne y.1 i y.2.1 o' (h6 y hy) Y k1 (h7 y hy).2.1 hoi).2 hm';have h8:=hq.back i o' e hoi he hb;rw[hon']at h8;rw[hminL y.1 h8]at k2;cases k2
    .exact h7 x W
theorem OD:∀(l H:List Nat),l.Nodup->(∀x∈l,x∈H)->l.length<=H.length
 |[],_,_,_=>Nat.zero_le _
 |a::l,H,W,hs=>by
  have W:=List.nodup_cons.1 W;have Z:=OD l (H.erase a) W.2 λx Y=>(List.mem_erase_of_ne (by grind)).2 (hs x (mCM _ Y))
  grind
theorem Z1{Q:Exit->Act->World->Prop}(hq:QOK ops n)(fl:FLS ops n fs)(hk:FlK P ops fs)(hm:MOK (isA h ops) (isB h ops) ops n m)
  (hst:∀j,j<n->∀o,ops[j]? =some o->Je P h ops σ o (Cb ops r m t0 j) (r j) (m j))
  {a0:Act} (hend:∀a w D T,PR C h.n σ ρ F (Cb ops r m t0 n) a w D T->(∀x b,T x b->Qm ops n X x)->(∀x,(∀i,i<n->AG ops i≠some x)->a.tmps[x]? =a0.tmps[x]?)->wpList P ops Q (ops.toList.drop n) a w)
  (hend0:∀a w D T,PR C h.n σ ρ F (Cb ops r m t0 n) a w D T->(∀x b,T x b->Qm ops n X x)->(∀x,(∀i,i<n->AG ops i≠some x)->a.tmps[x]? =a0.tmps[x]?)->wpList P ops (QN Q) (ops.toList.drop n) a w)
  (hH:∀a w D T,PR C h.n σ ρ F (Cb ops r m t0 n) a w D T->(∀x b,T x b->Qm ops n X x)->(∀x,(∀i,i<n->AG ops i≠some x)->a.tmps[x]? =a0.tmps[x]?)->FlH P ops n fs a w):
  ∀(Y:Nat) (listed:Array Bool) (a:Act) (w:World) (D:Nat->Prop) (T:Nat->Nat->Prop),HeadInv .any ops n listed->unl listed n+(ops.size-n)<=Y->
   PR C h.n σ ρ F (pt ops n r m t0 listed) a w D T->(∀x b,T x b->Qm ops n X x)->(∀x,(∀i,i<n->AG ops i≠some x)->a.tmps[x]? =a0.tmps[x]?)->AlI h ops n listed a->wpAny P .any ops Q Y listed a w:=by
 have hsz:=fl.lt1;intro Y
 induction Y with
 |zero=>intro listed a w D T H hf;omega
 |succ f ih=>
  intro listed a w D T H hf hp hT hA hI;have hle:=hq.le;by_cases hall:∀i,i<n->listed.getD i true=true
  .rw[Xx hq hm H.size hall]at hp
   refine JG hq (.inr fl.chain) (f+1) n listed a w (le_refl _) hle (by omega) H.size (λj hj=>?_) (hend _ _ _ _ hp hT hA)
   by_cases W:j<n
   .rw[hall j W];simp[W]
   .rw[H.tail j (by omega) hj];simp[W]
  .have hex:∃i,i<n/\listed.getD i true=false:=by
    apply Classical.byContradiction;intro hno;apply hall;intro i hi;cases Z:listed.getD i true with
    |true=>rfl
    |false=>exact absurd ⟨i,hi,Z⟩ hno
   obtain⟨i,⟨hin,hun⟩,hmin⟩:=VL hex;have hoi:ops[i]? =some ops[i]:=by
    have:i<ops.size:=by omega
    simp[this]
   have hir:i∈Region.ready .any ops listed:=by
    refine mem_ready.2 ⟨hun,ops[i],hoi,λe he hb=>?_⟩
    have h1:=hq.back i ops[i] e hoi he hb;have h2:=hmin e.on h1;have h3:e.on<listed.size:=by rw[H.size];omega
    cases Z:listed.getD e.on true with
    |false=>exact absurd ⟨by omega,Z⟩ h2
    |true=>simp[h3]at Z⊢;exact Z
   refine⟨λh0=>(by rw[h0]at hir;cases hir),λj hj=>?_⟩
   have hjs:j<ops.size:=by
    obtain⟨_,o,ho,_⟩:=mem_ready.1 hj;exact(Array.getElem?_eq_some_iff.1 ho).1
   rcases Nat.lt_or_ge j n with W|W
   case inr=>
    obtain⟨hju,oj,hoj,hallj⟩:=mem_ready.1 hj;have hjn':j=n:=by
     have h2:=aET.1 fl.chain j (mem_range.2 hjs);simp only[Bool.or_eq_true,decide_eq_true_eq]at h2;rcases h2 with h2|h2
     .omega
     .by_cases he:j=n
      .exact he
      .obtain⟨o',ho',e,he',hb,hon⟩:=Region.waitsFor_spec h2
       obtain rfl:o'=oj:=Option.some.inj (ho'.symm.trans hoj);have h3:=hallj e he' hb;rw[hon,getD_both (H.tail (j-1) (by omega) (by omega))]at h3
       cases h3
    subst hjn';have hlst:∀c k,j-k=c->k<j->k∉fs->listed.getD k false=true:=by
     intro c
     induction c using Nat.strongRecOn with
     |_ c ihc=>
      intro k hc hk hkf;obtain⟨j',g1,g2,g3,g4⟩:=fl.others k hk hkf;obtain⟨o',ho',e,he',hb,hon⟩:=Region.waitsFor_spec g4;rcases Nat.lt_or_ge j' j with h5|h5
      .have h6:=ihc (j-j') (by omega) j' rfl h5 g3
       have h7:=H.closed j' o' ho' h6 e he' hb;rwa [hon]at h7
      .obtain rfl:j'=j:=by omega
       obtain rfl:o'=oj:=Option.some.inj (ho'.symm.trans hoj);have h7:=hallj e he' hb;rwa [hon]at h7
    have hfs:∀k,k<j->listed.getD k true=false->k∈fs:=by
     intro k hk Z;apply Classical.byContradiction;intro hkf;have h1:=hlst _ k rfl hk hkf;have h2:k<listed.size:=by rw[H.size];omega
     simp[h2]at h1 Z;rw[h1]at Z;cases Z
    obtain⟨L,D2,T2,k1,k2,k3,k4,k5,k6,k7⟩:=replay (X:=X) hq fl hk hm hst (a0:=a0) _ listed a w D T rfl H hfs hp hT hA hI;have hLlen:L.length<=unl listed j:=by
     have h1:(L.map (·.1)).Nodup:=List.pairwise_map.2 k4
     have h2:∀x∈L.map (·.1),x∈(List.range j).filter λi=>!listed.getD i true:=by
      intro x hx;obtain⟨y,hy,rfl⟩:=List.mem_map.1 hx;refine List.mem_filter.2 ⟨mem_range.2 (k6 y hy),?_⟩;rw[(k5 y.1 (k6 y hy)).2 ⟨y,hy,rfl⟩];rfl
     have h3:=OD _ _ h1 h2;rw[List.length_map,<-List.countP_eq_length_filter]at h3;exact h3
    have hgi:wpAny P .any ops Q (f+1) listed a w:=by
     refine GI.go hq fl (f+1) L j listed a w (.inl rfl) (by omega) ⟨H.size,λk hk=>?_,k4,k7,hend0 _ _ _ _ k1 k2 k3,λ_=>hH _ _ _ _ k1 k2 k3⟩
     by_cases hkj:k<j
     .cases Z:listed.getD k true with
      |true=>exact(dT ⟨hkj,λx hx e=>by
        have:=(k5 k hkj).2 ⟨x,hx,e⟩;rw[Z]at this;cases this⟩).symm
      |false=>
       obtain⟨x,hx,e⟩:=(k5 k hkj).1 Z;exact(dF λhh=>hh.2 x hx e).symm
     .rw[H.tail k (by omega) hk]
      exact(dF λhh=>hkj hh.1).symm
    exact hgi.2 j hj
   have hju:=(mem_ready.1 hj).1;have hcount:=Pq (by rw[H.size];exact hjs) hju n
   rw[if_pos W]at hcount;refine Jy (HY hq hm H W hj hst hp hT (hI.at hq W hj) λa' w' D' T' hp' hT' htm' hmv=>ih _ a' w' D' T' (H.set hj W) (by omega) hp' hT' (λx hx=>(htm' x (hx j W)).trans (hA x hx)) (hI.set hq hst H W hp.sz htm' hmv))
end
end Go.Ve


namespace Go.Ve
open Go
variable{w w':World}
theorem KS.prog:KS w w' Go.program:=⟨λP w H n h=>by simp_all,λP n h=>by simp_all⟩
def KS.under(t:TypeId):KS w w' (underlying t):=by
 refine KS.prog.bind λp=>?_
 split
 .exact KS.pure _
 .exact Bt.stuck.ks
def KS.info(t:TypeId):KS w w' (typeInfo t):=by
 refine KS.prog.bind λp=>?_
 split
 .exact KS.pure _
 .exact Bt.stuck.ks
def KS.size(t:TypeId):KS w w' (sizeOf t):=by
 exact(KS.info t).bind λi=>KS.pure _
theorem KS.agg(t:TypeId):KS w w' (isAgg t):=by
 refine(KS.under t).bind λd=>?_
 split<;>exact KS.pure _
def KS.sure(v:Value):KS w w' (Instr.sureAddr v):=by
 unfold Instr.sureAddr;split
 .exact KS.pure _
 .exact Bt.stuck.ks
theorem KS.int(v:Value):KS w w' (asIntOf v):=by
 unfold asIntOf;split
 .exact KS.pure _
 .exact Bt.ks λP w H n e=>by cases e
 .exact Bt.stuck.ks
theorem Bt.goPanic{α:Type}(v:Value):Bt (goPanic v:Sem α):=λP w H n e=>by cases e
theorem Bt.bounds{α:Type}(k:IntKind)(x y:Int)(c:BoundsCode):Bt (boundsPanic k x y c:Sem α):=by
 have h:∀s,Bt (runtimePanic (RuntimeError.bounds (IntKind.i64.wrap x) y s c):Sem α):=λs=>by
  exact Bt.bindR λp=>Bt.goPanic _
 unfold boundsPanic;split
 .exact Bt.bindR h
 grind
theorem I8.load(a:Addr)(m:Mode):I8 (load a m):=by
 intro P w H n h;rw[run_load]at h
 grind
def I8.loadCells(a:Addr):∀(n i:Nat) (xs:Array Value),I8 (loadCellsFrom a i n xs)
 |0,i,xs=>I8.pure _
 |n+1,i,xs=>(I8.load _ _).bind λv=>I8.loadCells a n (i+1) (xs.push v)
theorem I8.loadVar(t:TypeId)(a:Addr):I8 (loadVar t a):=by
 refine(KS.agg (w:=default) (w':=default) t).1.bind λb=>?_
 split
 .refine(KS.size (w:=default) (w':=default) t).1.bind λk=>?_
  exact(I8.loadCells a k 0 #[]).bind λl=>I8.pure _
 .exact I8.load _ _
theorem Bt.unsup{α:Type}(u:Unsupported):Bt (unsupported u:Sem α):=λP w H n e=>by cases e
def KS.place(t:TypeId)(k:IntKind)(i:Int)(tiny:Bool)(base:Option Addr)(len:Nat):KS w w' (match base with
  |some a=>if 0<=i/\i<(len:Int)then(do
    let s<-Go.sizeOf t
    Pure.pure (Value.pointer (some (a.add (i.toNat * s)))))else if tiny = true then unsupported (Unsupported.noEntry "op/indexAddr.an index out of range at an array of length 0 or 1 (ledger 616)")else boundsPanic k i (len : Int) BoundsCode.index
  |none=>boundsPanic k i 0 BoundsCode.index):=by
 split
 .split
  .exact(KS.size t).bind λs=>KS.pure _
  .split
   .exact(Bt.unsup _).ks
   .exact(Bt.bounds _ _ _ _).ks
 .exact(Bt.bounds _ _ _ _).ks
theorem KS.indexAt{w w':World}(t:TypeId)(x i:Value):KS w w' (Instr.indexAt t x i):=by
 unfold Instr.indexAt;refine(KS.int i).bind λW=>?_
 refine(KS.under t).bind λd=>?_
 simp only;split
 .refine(KS.sure _).bind λa=>?_
  refine(KS.pure _).bind λz=>?_
  exact(KS.under t).bind λH=>KS.place _ _ _ _ _ _
 .exact(KS.under t).bind λH=>KS.place _ _ _ _ _ _
 .exact(Bt.bind Bt.stuck).ks
end Go.Ve
namespace Go.Ve
open Go
variable{a:Addr}{ops:Array Oper}{fs:List Nat}{P:Program}{t:TypeId}{w w':World}
theorem Kq{k off sz:Nat}(h:VS P t k=some (off,sz))(v:Value)(w:World):(∃a,v=.pointer (some a)/\(Instr.fieldAt t v k).run P w=.ok (.pointer (some (a.add off))) w)\/((∀a,v≠.pointer (some a))/\∃x,(Instr.fieldAt t v k).run P w=.halt x w):=by
 unfold VS at h;split at h
 case h_2=>cases h
 rename_i fs hu;split at h
 case h_2=>cases h
 rename_i f hf;split at h
 case h_2=>cases h
 rename_i i hi;split at h
 case isFalse=>cases h
 rename_i hpos;cases h
 have e1:(underlying t).run P w=.ok (.struct fs) w:=by
  unfold underlying
  simp_all
 have e2:(sizeOf f.type).run P w=.ok i.size w:=by
  unfold Go.sizeOf typeInfo
  simp_all
 unfold Instr.fieldAt;simp only[Sem.run_bind,e1,Result.andThen_ok,hf]
 have key:∀a,((Instr.sureAddr v).run P w=.ok a w)->(fieldPlace a f).run P w=.ok (a.add f.offset) w:=λa _=>by
  unfold fieldPlace;have Y:i.size≠0:=by omega
  simp only[Sem.run_bind,e2,Result.andThen_ok,if_neg Y];rfl
 cases H:(Instr.sureAddr v).run P w with
 |halt x Z=>
  right;unfold Instr.sureAddr at H;split at H
  .cases H
  .rename_i W
   cases H;exact⟨λa e=>W a e,_,rfl⟩
 |ok a Z=>
  left
  have hv:v=.pointer (some a)/\Z=w:=by
   unfold Instr.sureAddr at H;split at H
   .cases H;exact⟨rfl,rfl⟩
   .cases H
  simp_all
def FlT(P:Program)(ops:Array Oper)(fs:List Nat):Prop:=∀f∈fs,∀o,ops[f]? =some o->Adp o.op=true/\∀t x k,o.op=.fieldAddr t x k->∃off sz,VS P t k=some (off,sz)
theorem FlT.keep(h:FlT P ops fs):FlK P ops fs:=by
 intro f hf o ho ρ w n w1 Z;obtain⟨he,hfl⟩:=h f hf o ho
 have kv:∀{s:Sem Value},(∀u Y,s.run P w=.ok u Y->Y=w)->((s>>=λv=>Pure.pure (Next.value v):Sem Next).run P w=.ok n w1)->∃u,n=.value u/\w1=w:=by
  intro s hk h;rw[Sem.run_bind]at h;cases W:s.run P w with
  |halt x Y=>rw[W]at h;cases h
  |ok u Y=>
   rw[W]at h;have:=hk u Y W;cases h;exact⟨u,rfl,this⟩
 cases H:o.op with
 |fieldAddr t x k=>
  obtain⟨off,sz,hfo⟩:=hfl t x k H;have e:execOp ρ o=(Instr.fieldAt t (ρ x) k>>=λv=>Pure.pure (Next.value v)):=by unfold execOp;rw[H]
  rw[e]at Z;refine kv (λu Y W=>?_) Z
  rcases Kq hfo (ρ x) w with⟨a,_,h2⟩|⟨_,x,h2⟩
  .rw[h2]at W;cases W;rfl
  .rw[h2]at W;cases W
 |load t x=>
  have e:execOp ρ o=(Instr.loadAt t (ρ x)>>=λv=>Pure.pure (Next.value v)):=by unfold execOp;rw[H]
  rw[e]at Z;refine kv (λu Y W=>?_) Z
  refine I8.bind (KS.sure (w:=w) (w':=w) (ρ x)).1 (λa=>I8.loadVar t a) P w Y u W
 |move x=>
  have e:execOp ρ o=Pure.pure (Next.value (ρ x)):=by unfold execOp;rw[H]
  rw[e]at Z;cases Z;exact⟨_,rfl,rfl⟩
 |indexAddr t x i=>
  have e:execOp ρ o=(Instr.indexAt t (ρ x) (ρ i)>>=λv=>Pure.pure (Next.value v)):=by unfold execOp;rw[H]
  rw[e]at Z;exact kv (λu Y W=>(KS.indexAt (w:=w) (w':=w) t (ρ x) (ρ i)).1 P w Y u W) Z
 |_=>rw[H]at he;cases he
theorem Pf(h:w'.heap[a.block]? =w.heap[a.block]?):w'.cell? a=w.cell? a:=by
 unfold World.cell?
 grind
theorem VK{m:Mode}(h:w'.heap[a.block]? =w.heap[a.block]?)(Y:∃y,w.cell? a=some y){n:Value}(W:(load a m).run P w=.ok n w):(load a m).run P w'=.ok n w':=by
 obtain⟨y,H⟩:=Y;rw[run_load]at W⊢;rw[Pf h,H]
 grind
theorem YM{n:Nat}:(a.add n).block=a.block:=by
 unfold Addr.add
 grind
theorem LF{P:Program}{w w':World}{a:Addr}(h:w'.heap[a.block]? =w.heap[a.block]?):∀(n i:Nat) (xs:Array Value) (r:Array Value),(∀k,i<=k->k<i+n->∃y,w.cell? (a.add k)=some y)->(loadCellsFrom a i n xs).run P w=.ok r w->(loadCellsFrom a i n xs).run P w'=.ok r w'
 |0,i,xs,r,_,hr=>by cases hr;rfl
 |n+1,i,xs,r,hc,hr=>by
  have e:∀w,(loadCellsFrom a i (n+1) xs).run P w=((load (a.add i)).run P w).andThen λv Y=>(loadCellsFrom a (i+1) n (xs.push v)).run P Y:=λw=>by
   show((load (a.add i))>>=λv=>loadCellsFrom a (i+1) n (xs.push v)).run P w=_
   simp
  rw[e]at hr⊢;obtain⟨y,W⟩:=hc i (le_refl _) (by simp)
  have H:∀{w:World},w.cell? (a.add i)=some y->(load (a.add i)).run P w=.ok y w:=λZ=>by simp_all
  rw[H W]at hr;rw[H ((Pf (by rw[YM];omega)).trans W)]
  exact LF h n (i+1) (xs.push y) r (λk H h2=>hc k (by omega) (by omega)) hr
theorem OM(h:w'.heap[a.block]? =w.heap[a.block]?)(hc0:∃y,w.cell? a=some y)(hc:∀s,(sizeOf t).run P w=.ok s w->∀k,k<s->∃y,w.cell? (a.add k)=some y){r:Value}(H:(loadVar t a).run P w=.ok r w):(loadVar t a).run P w'=.ok r w':=by
 unfold loadVar at H⊢;rw[Sem.run_bind]at H⊢;cases h1:(isAgg t).run P w with
 |halt x W=>rw[h1]at H;cases H
 |ok b W=>
  have e1:=(KS.agg (w:=w) (w':=w') t).1 P w W b h1;subst e1;rw[(KS.agg (w:=W) (w':=w') t).2 P b h1];rw[h1]at H;simp only[Result.andThen_ok]at H⊢;cases b with
  |false=>exact VK h hc0 H
  |true=>
   simp only[if_true]at H⊢;rw[Sem.run_bind]at H⊢;cases Z:(sizeOf t).run P W with
   |halt x Y=>simp_all
   |ok s Y=>
    have e2:=(KS.size (w:=W) (w':=w') t).1 P W Y s Z;subst e2;rw[(KS.size (w:=Y) (w':=w') t).2 P s Z];rw[Z]at H;simp only[Result.andThen_ok]at H⊢;rw[Sem.run_bind]at H⊢;cases h3:(loadCells a s).run P Y with
    |halt x w4=>rw[h3]at H;cases H
    |ok l w4=>
     have e3:=I8.loadCells a s 0 #[] P Y w4 l h3;subst e3;rw[show(loadCells a s).run P w'=.ok l w' from LF h s 0 #[] l (λk _ hk=>hc s Z k (by omega)) h3]
     simp_all
def FlL(P:Program)(ops:Array Oper)(fs:List Nat)(a:Act)(w w':World):Prop:=∀f∈fs,∀o,ops[f]? =some o->∀t x,o.op=.load t x->∀ad,a.eval x=.pointer (some ad)->
 w'.heap[ad.block]? =w.heap[ad.block]?/\(∃y,w.cell? ad=some y)/\∀s,(sizeOf t).run P w=.ok s w->∀k,k<s->∃y,w.cell? (ad.add k)=some y
theorem FlT.same(h:FlT P ops fs){a:Act}(hl:FlL P ops fs a w w'):∀f∈fs,∀o,ops[f]? =some o->∀u,(execOp a.eval o).run P w=.ok (.value u) w->(execOp a.eval o).run P w'=.ok (.value u) w':=by
 intro f hf o ho u Z;obtain⟨he,hfl⟩:=h f hf o ho
 have kv:∀{s:Sem Value},(∀Y,s.run P w=.ok u Y->s.run P w'=.ok u w')->((s>>=λv=>Pure.pure (Next.value v):Sem Next).run P w=.ok (.value u) w)->((s>>=λv=>Pure.pure (Next.value v):Sem Next).run P w'=.ok (.value u) w'):=by
  intro s hk h;rw[Sem.run_bind]at h⊢;cases H:s.run P w with
  |halt x Y=>rw[H]at h;cases h
  |ok u2 Y=>
   rw[H]at h;have e:u2=u:=by cases h;rfl
   subst e;rw[hk Y H];rfl
 cases W:o.op with
 |fieldAddr t x k=>
  obtain⟨off,sz,hfo⟩:=hfl t x k W;have e:execOp a.eval o=(Instr.fieldAt t (a.eval x) k>>=λv=>Pure.pure (Next.value v)):=by unfold execOp;rw[W]
  rw[e]at Z⊢;refine kv (λY H=>?_) Z
  rcases Kq hfo (a.eval x) w with⟨ad,h1,h2⟩|⟨_,x,h2⟩
  .rw[h2]at H
   cases H;rcases Kq hfo (a.eval x) w' with⟨ad',h3,h4⟩|⟨h3,y,h4⟩
   .rw[h1]at h3;cases h3;exact h4
   .exact absurd h1 (h3 ad)
  .rw[h2]at H;cases H
 |load t x=>
  have e:execOp a.eval o=(Instr.loadAt t (a.eval x)>>=λv=>Pure.pure (Next.value v)):=by unfold execOp;rw[W]
  rw[e]at Z⊢;refine kv (λY H=>?_) Z
  unfold Instr.loadAt at H⊢;rw[Sem.run_bind]at H⊢;unfold Instr.sureAddr at H⊢;split at H
  .rename_i ad had
   obtain⟨h1,h2,h3⟩:=hl f hf o ho t x W ad had;have H:(loadVar t ad).run P w=.ok u Y:=H;have:=I8.loadVar t ad P w Y u H;subst this;exact OM h1 h2 h3 H
  .cases H
 |move x=>
  have e:execOp a.eval o=Pure.pure (Next.value (a.eval x)):=by unfold execOp;rw[W]
  rw[e]at Z⊢;cases Z;rfl
 |indexAddr t x i=>
  have e:execOp a.eval o=(Instr.indexAt t (a.eval x) (a.eval i)>>=λv=>Pure.pure (Next.value v)):=by unfold execOp;rw[W]
  rw[e]at Z⊢;refine kv (λY H=>?_) Z
  have:=(KS.indexAt (w:=w) (w':=w') t (a.eval x) (a.eval i)).1 P w Y u H;subst this;exact(KS.indexAt (w:=Y) (w':=w') t (a.eval x) (a.eval i)).2 P u H
 |_=>rw[W]at he;cases he
end Go.Ve


namespace Go.Ve
variable{a:Act}{C:Ctx}{σ:List V}{N d id y:Nat}{Al F T:Nat->Nat->Prop}{D:Nat->Prop}{t:Nat->V}{ρ:Nat->Value}{o:Oper}{P:Program}{c1 r:V}{w:World}
def FCU(P:Program)(f:FuncId)(k:Nat)(args:List V)(c0 r c1:V):Prop:=
 ∀(w:World) (D H:Nat->Prop) (cvs:Array Value),Wok w->(∀p,WD=some p->¬H p.1)->(∀b,D b->b<w.heap.size)->(∀b,H b->¬D b)->cvs.size=args.length->
  Rel D w noR c0 (cvs.getD k undef) H->(∀i,i<args.length->i≠k->Rel D w noR (args.getD i .dead) (cvs.getD i undef) noF)->
  Calls P f cvs w λe w'=>∃cv fp D' H',e=.returned cv/\Fr w w' H/\Rel D' w' noR r cv fp/\Rel D' w' noR c1 (cvs.getD k undef) H'/\
   (∀b,fp b->H b\/w.heap.size<=b)/\(∀b,H' b->H b\/w.heap.size<=b)/\(∀b,fp b->¬H' b)/\
   (∀b,D b->D' b)/\(∀b,D' b->D b\/H b\/w.heap.size<=b)/\∀b,D' b->b<w'.heap.size/\¬fp b/\¬H' b
def clean:V->Prop
 |.many _ n f=>∀k,k<n->clean (f k)
 |.rs _ _ _ _=>False
 |.rp _ _ _ _=>False
 |.rm _ _=>False
 |_=>True
theorem Rel.clean{D:Nat->Prop}{w:World}:∀(v:V) (R R':V->Value->Prop) (cv:Value) (fp:Nat->Prop),Go.Ve.clean v->Rel D w R v cv fp->Rel D w R' v cv fp:=by
 intro v
 induction v with
 |c v=>intro R R' cv fp _ h;exact h
 |dead=>intro R R' cv fp _ h;exact h
 |many t n f Y=>
  intro R R' cv fp H h;obtain⟨cs,F,W,hn,hr,hd,hf⟩:=h;exact⟨cs,F,W,hn,λk Z=>Y k R R' _ _ (H k Z) (hr k Z),hd,hf⟩
 |nd s own sz n f Y=>intro R R' cv fp _ h;exact h
 |rs=>intro R R' cv fp H h;trivial
 |rp=>intro R R' cv fp H h;trivial
 |rm=>intro R R' cv fp H h;trivial
 |mp own l=>intro R R' cv fp H h;exact h
def LM(c:V):Prop:=∃s sz n f,c=.nd s true sz n f/\(s=false\/0<n)
theorem LM.some{R:V->Value->Prop}{c:V}{cv:Value}{H:Nat->Prop}(hc:LM c)(h:Rel D w R c cv H):∃b,H b:=by
 obtain⟨s,sz,n,f,rfl,hs⟩:=hc;rcases h with⟨h1,h2,_⟩|⟨b,o,cap,F,hcv,Y,W,Z,hr,hi,ho⟩
 .grind
 .exact⟨b,((ho rfl).2.2.2 b).2 (.inl rfl)⟩
section
variable {C:Ctx}{N:Nat}{σ:List V}{ρ:Nat->Value}{F:Nat->Nat->Prop}{t:Nat->V}{a:Act}{w:World}{D:Nat->Prop}{T:Nat->Nat->Prop}
theorem PR.turn(h:PR C N σ ρ F t a w D T){v':Value}{fp H' D':Nat->Prop}{w':World}(hy:y<N)(hdn:d<N)(hyd:y≠d)(hfr:Fr w w' (T y))(hr:Rel D' w' noR r v' fp)(hc:Rel D' w' noR c1 (a.tmps.getD y undef) H')
  (hf:∀b,fp b->T y b\/w.heap.size<=b) (hH:∀b,H' b->T y b\/w.heap.size<=b) (hfH:∀b,fp b->¬H' b) (hd1:∀b,D b->D' b) (hd2:∀b,D' b->D b\/T y b\/w.heap.size<=b) (hd3:∀b,D' b->b<w'.heap.size/\¬fp b/\¬H' b):
  PR C N σ ρ F (AD (AL [(y,.put c1)] t) d r) (a.put (some d) v') w' D' (λx b=>if x=d then fp b else if x=y then H' b else T x b):=by
 have hFlt:∀i b,F i b->b<w.heap.size:=h.wr.lt;have hTlt:∀x b,T x b->b<w.heap.size:=by
  intro x b H;by_cases Z:x<N
  .exact Rel.lt _ _ _ (h.tm x Z) b H
  .exact absurd H (h.tx x b (le_of_not_lt Z))
 have kM:∀x,AL [(y,.put c1)] t x=if x=y then c1 else t x:=by
  intro x;unfold AL;by_cases Z:x=y
  .subst Z
   rw[if_pos rfl];show Ig (if x=x then some (.put c1)else none) _=_
   rw[if_pos rfl];rfl
  .rw[if_neg Z]
   show Ig (if y=x then some (.put c1)else none) _=_
   rw[if_neg (Ne.symm Z)];rfl
 have hD:∀b,D b->w'.heap[b]? =w.heap[b]?:=λb H=>hfr.block b (h.wr.Dlt b H) λhT=>h.tD y b hT H
 have hFs:∀i b,F i b->w'.heap[b]? =w.heap[b]?:=λi b H=>hfr.block b (hFlt i b H) λhT=>h.tF i y b H hT
 have hTs:∀x b,x≠y->T x b->w'.heap[b]? =w.heap[b]?:=λx b Z H=>hfr.block b (hTlt x b H) λhT=>h.tT x y b Z H hT
 have wr':Be σ w' D' ρ F:=by
  refine⟨λi hi=>Rel.mono hd1 (λ_ _ h=>h) _ _ _ (λb H=>H.elim (hD b) (hFs i b)) (h.wr.rel i hi),h.wr.disj,λi b H hDb=>?_,λb H=>(hd3 b H).1,h.wr.out⟩
  rcases hd2 b hDb with Y|Y|Y
  .exact h.wr.dD i b H Y
  .exact h.tF i y b H Y
  .have:=hFlt i b H;omega
 have hW:∀b,T y b\/w.heap.size<=b->C.W b\/C.w0.heap.size<=b:=λb H=>H.elim (h.tn y b) λH=>.inr (le_trans h.fr.size H)
 refine⟨h.df,by rw[BC];simpa using h.sz,λx Z=>?_,wr',λx Z=>?_,λx b H=>?_,λi x b H hT=>?_,λx z b hxz Y h2=>?_,λx b H=>?_,⟨hfr.os.trans h.fr.os,hfr.tape.trans h.fr.tape,hfr.output.trans h.fr.output,le_trans h.fr.size hfr.size,λb H hWb=>?_,le_trans h.fr.drawn hfr.drawn⟩,h.Fn,λb H=>hd1 b (h.D1 b H),λb H hlt=>?_,h.rt,h.ml,λx b Z H=>?_⟩
 .have Y:¬x=d:=by omega
  have h2:¬x=y:=by omega
  simp only[AD,Y,if_false];rw[kM,if_neg h2];exact h.dd x Z
 .have hlt:x<a.tmps.size:=by rw[h.sz];exact Z
  rw[BC];by_cases he:x=d
  .subst he
   simp only[AD,if_true];have:Rel D' w' (Ae σ ρ w') r v' (λb=>if x=x then fp b else if x=y then H' b else T x b):=Rel.fp_congr (λb=>by rw[if_pos rfl]) (Rel.noR_mono hr)
   simpa [hlt]using this
  .simp only[AD,he,if_false]
   rw[Array.getD_eq_getD_getElem?,Array.getElem?_setIfInBounds_ne (Ne.symm he),<-Array.getD_eq_getD_getElem?,kM];by_cases hxy:x=y
   .subst hxy
    simp only[if_true];exact Rel.noR_mono hc
   .simp only[hxy,if_false]
    exact Rel.mono hd1 (λv cv hv=>Ae.same h.wr hFs v cv hv) _ _ _ (λb H=>H.elim (hD b) (hTs x b hxy)) (h.tm x Z)
 .split at H
  .exact λhDb=>(hd3 b hDb).2.1 H
  .split at H
   .exact λhDb=>(hd3 b hDb).2.2 H
   .rename_i hxy
    intro hDb;rcases hd2 b hDb with Y|Y|Y
    .exact h.tD x b H Y
    .exact h.tT x y b hxy H Y
    .have:=hTlt x b H;omega
 .have key:T y b\/w.heap.size<=b->False:=λY=>Y.elim (h.tF i y b H) λY=>by have:=hFlt i b H;omega
  split at hT
  .exact key (hf b hT)
  .split at hT
   .exact key (hH b hT)
   .exact h.tF i x b H hT
 .have key:∀x,x≠y->T x b->T y b\/w.heap.size<=b->False:=λx hxy Z Y=>Y.elim (h.tT x y b hxy Z) λY=>by have:=hTlt x b Z;omega
  split at Y<;>split at h2
  .omega
  .split at h2
   .exact hfH b Y h2
   .rename_i _ _ hz;exact key z hz h2 (hf b Y)
  .split at Y
   .exact hfH b h2 Y
   .rename_i Z _;exact key x (by assumption) Y (hf b h2)
  .split at Y<;>split at h2
   .omega
   .exact key z (by assumption) h2 (hH b Y)
   .exact key x (by assumption) Y (hH b h2)
   .exact h.tT x z b hxz Y h2
 .split at H
  .exact hW b (hf b H)
  .split at H
   .exact hW b (hH b H)
   .exact h.tn x b H
 .rw[hfr.block b (Nat.lt_of_lt_of_le H h.fr.size) λhT=>by
   rcases h.tn y b hT with Y|Y
   .exact hWb Y
   .omega]
  exact h.fr.block b H hWb
 .rcases hd2 b H with Y|Y|Y
  .exact h.D2 b Y hlt
  .rcases h.tn y b Y with h2|h2
   .exact .inr h2
   .omega
  .have:=h.fr.size;omega
 .have Y:¬x=d:=by omega
  have h2:¬x=y:=by omega
  simp only[Y,h2,if_false]at H;exact h.tx x b Z H
end
theorem Ae.setD{u:V}(hd:σ.getD id .dead=.dead):∀v cv,Ae σ ρ w v cv->Ae (σ.set id u) ρ w v cv:=by
 have ne:∀{p:List (Nat×Nat)}{cv Z:Value}{s o:Bool}{sz n:Nat}{f:Nat->Nat->V},¬At w p .dead cv (.nd s o sz n f) Z:=by
  intro p cv Z s o sz n f h;cases p with
  |nil=>cases h.1
  |cons _ _=>exact h
 have get:∀{i:Nat},i≠id->(σ.set id u).getD i .dead=σ.getD i .dead:=by
  grind
 intro v cv h;cases v with
 |rs i p off len=>
  obtain⟨Y,sz,n,f,cn,H,W⟩:=h;have hi:i≠id:=by
   grind
  exact⟨by simpa using Y,sz,n,f,cn,by grind,W⟩
 |rp i p j k=>
  obtain⟨Y,s,sz,n,f,b,o,cap,H,W⟩:=h;have hi:i≠id:=by
   grind
  exact⟨by simpa using Y,s,sz,n,f,b,o,cap,by grind,W⟩
 |rm i p=>
  obtain⟨Y,l,b,H,W⟩:=h;have hi:i≠id:=by
   rintro rfl
   rw[hd]at H;cases p with
   |nil=>cases H.1
   |cons _ _=>exact H
  exact⟨by simpa using Y,l,b,by rw[get hi];exact H,W⟩
 |_=>exact h
theorem PR.back(h:PR C N σ ρ F t a w D T){sz:Nat}{f:Nat->Nat->V}(hy:y<N)(hid:id<σ.length)(hd:σ.getD id .dead=.dead)(ht:t y=.nd false true sz 1 f)(hsz:0<sz)(hv:a.tmps.getD y undef=ρ id):
  PR C N (σ.set id (t y)) ρ (λi b=>if i=id then T y b else F i b) (AD t y (.rp id [] 0 0)) a w D (λx b=>x≠y/\T x b):=by
 have get:∀{i:Nat},i≠id->(σ.set id (t y)).getD i .dead=σ.getD i .dead:=by
  intro i hi;simp only[gDE];rw[List.getElem?_set_ne (Ne.symm hi)]
 have Z:(σ.set id (t y)).getD id .dead=t y:=by simp[hid]
 have W:Rel D w noR (t y) (ρ id) (T y):=by
  have Y:=h.tm y hy;rw[hv,ht]at Y;rw[ht];exact Y
 refine⟨h.df,h.sz,λx hx=>?_,⟨λi hi=>?_,λi j b hij Y h2=>?_,λi b H=>?_,h.wr.Dlt,λi b hi H=>?_⟩,λx hx=>?_,λx b H=>h.tD x b H.2,λi x b H hT=>?_,λx z b hxz Y h2=>h.tT x z b hxz Y.2 h2.2,λx b H=>h.tn x b H.2,h.fr,λi b H=>?_,h.D1,h.D2,h.rt,by simpa using h.ml,λx b hx H=>h.tx x b hx H.2⟩
 .have:¬x=y:=by omega
  simp only[AD,this,if_false];exact h.dd x hx
 .have hi:i<σ.length:=by simpa using hi
  by_cases he:i=id
  .subst he
   rw[Z];exact Rel.fp_congr (λb=>by rw[if_pos rfl]) W
  .rw[get he]
   exact Rel.fp_congr (λb=>by rw[if_neg he]) (h.wr.rel i hi)
 .split at Y<;>split at h2
  .omega
  .exact h.tF j y b h2 Y
  .exact h.tF i y b Y h2
  .exact h.wr.disj i j b hij Y h2
 .split at H
  .exact h.tD y b H
  .exact h.wr.dD i b H
 .have hi:σ.length<=i:=by simpa using hi
  rw[if_neg (by omega)]at H
  exact h.wr.out i b hi H
 .by_cases he:x=y
  .subst he
   simp only[AD,if_true];refine⟨?_,λb H=>H.1 rfl⟩
   rw[ht]at W;rcases W with⟨Y,_⟩|⟨b,o,cap,G,hcv,_⟩
   .omega
   .refine⟨by simpa using hid,false,sz,1,f,b,o,cap,⟨by rw[Z,ht],hcv.symm⟩,by omega,hsz,?_⟩
    rw[hv,hcv];simp[Av]
  .simp only[AD,he,if_false]
   exact Rel.fp_congr (λb=>⟨λh=>⟨he,h⟩,λh=>h.2⟩) (Rel.mono (λ_ h=>h) (Ae.setD hd) _ _ _ (λ_ _=>rfl) (h.tm x hx))
 .split at H
  .exact h.tT x y b hT.1 hT.2 H
  .exact h.tF i x b H hT.2
 .split at H
  .exact h.tn y b H
  .exact h.Fn i b H
theorem Aay{Al:Nat->Nat->Prop}{σ:List V}{t:Nat->V}{f:FuncId}{xs:Array Operand}{ats:Array TypeId}{k z:Nat}{args:List V}{c0 r c1:V}(ho:o.op=.call ⟨.value (.func f),xs,ats⟩)(hd:o.dst=some d)(hdn:d<N)(hyn:y<N)(hyd:y≠d)(H:AE P f=true)
  (hk:xs[k]? =some (.tmp z)) (hz:z=y\/Al z y) (ht:Sub (t y) c0) (hnd:∃s sz n f,c0=.nd s true sz n f) (hb:LM c0\/c1=.dead) (hsz:xs.size=args.length) (hargs:∀i x,i≠k->xs[i]? =some x->AJ (Ms.ev ⟨t,σ⟩ x)=false/\clean (Ms.ev ⟨t,σ⟩ x)/\Sub (Ms.ev ⟨t,σ⟩ x) (args.getD i .dead)) (hc:FCU P f k args c0 r c1):
  LQ P N σ Al o t [(y,.put c1)] r:=by
 intro C ρ F a w D T t' hag hal hp next Q hn
 have hopx:∀z,Operand.tmp z∈xs.toList->t' z=t z:=λz hz=>hag z (.inl<|Dr (by rw[ho];simp[Op.operands,Call.operands]at hz⊢;simp[hz]))
 have hrun:(execOp a.eval o).run P w=.ok (.enter f (xs.map a.eval)) w:=by
  unfold AE at H;split at H
  .rename_i fn hfn
   simp only[bAE,Bool.not_eq_true']at H;obtain⟨Z,h2⟩:=H;have h2':fn.body.isNone=false:=by cases hb:fn.body<;>simp[hb]at h2⊢
   have e0:a.eval (.func f)=.func (.func f) #[] #[]:=rfl;unfold execOp;rw[ho];simp[resolve,e0,Deferred.ofValue,invoke,callFunc,hfn,h2'];simp at Z;simp[Z];intro hb;simp[hb]at h2
  .cases H
 have hks:k<xs.size:=(Array.getElem?_eq_some_iff.1 hk).1
 have hxk:(xs.map a.eval).getD k undef=a.tmps.getD y undef:=by
  have:xs[k]=.tmp z:=by
   have:=(Array.getElem?_eq_some_iff.1 hk).2;exact this
  have e:(xs.map a.eval).getD k undef=a.eval xs[k]:=by simp[hks]
  rw[e,this];show a.tmps.getD z undef=_;rcases hz with rfl|hz
  .rfl
  .exact hal z y hz
 have hty:t' y=t y:=hag y (.inr (by
  show(if y=y then some (Tk.put c1)else none)≠none
  rw[if_pos rfl];simp))
 have htm:=hp.tm y hyn;rw[hty]at htm;obtain⟨s0,sz0,n0,f0,hc0⟩:=hnd
 have hc0r:Rel D w noR c0 (a.tmps.getD y undef) (T y):=by
  have Z:=Rel.sub ht htm;rw[hc0]at Z⊢;exact Z
 unfold Oper.wp;rw[hrun,Oper.upon_enter];refine(hc w D (T y) (xs.map a.eval) hp.ok (λp hp' hT=>?_) hp.wr.Dlt (hp.tD y) (by simp[hsz]) (by rw[hxk];exact hc0r) λi hi hik=>?_).mono λe w' hpost=>?_
 .rcases hp.tn y p.1 hT with Z|Z
  .exact C.ok.2 p hp' Z
  .have:=C.ok.1.lt hp';omega
 .have hi':i<xs.size:=by omega
  have hxi:xs[i]? =some xs[i]:=by simp[hi']
  obtain⟨Z,h2,h3⟩:=hargs i xs[i] hik hxi;have hev:Ms.ev ⟨t',σ⟩ xs[i]=Ms.ev ⟨t,σ⟩ xs[i]:=by
   cases hx:xs[i]with
   |tmp z=>exact hopx z (by rw[<-hx];simp)
   |const v=>rfl
   |global g=>rfl
   |func f=>rfl
  obtain⟨fp,W,_⟩:=hp.ev xs[i];rw[hev]at W;rw[A2 (AB _ _ _ Z W)]at W;have e:(xs.map a.eval).getD i undef=a.eval xs[i]:=by simp[hi']
  rw[e];exact Rel.sub h3 (Rel.clean _ _ _ _ _ h2 W)
 .obtain⟨cv,fp,D',H',rfl,hfr,hr',hc1,hf,hH,hfH,hd1,hd2,hd3⟩:=hpost
  rw[hxk]at hc1;have hp':=hp.turn (d:=d) hyn hdn hyd hfr hr' hc1 hf hH hfH hd1 hd2 hd3;rw[hd]at hn⊢;refine hn _ _ _ _ hp' (λx b Y=>?_) λ_ hx=>BD hx
  by_cases hxd:x=d
  .exact .inl (by rw[hxd])
  .right
   simp only[hxd,if_false]at Y;by_cases hxy:x=y
   .rw[if_pos hxy]at Y
    rw[hxy];rcases hb with hb|hb
    .exact LM.some hb hc0r
    .rw[hb]at hc1
     exact absurd Y (hc1 b)
   .simp only[hxy,if_false]at Y
    exact⟨b,Y⟩
theorem PR.freeze(h:PR C N σ ρ F t a w D T)(hd:d<N):
  PR C N σ ρ F (AD t d (Go.Ve.frz (t d))) a w (λb=>D b\/T d b) (λx b=>x≠d/\T x b):=by
 have Y:∀x b,T x b->b<w.heap.size:=by
  intro x b H;by_cases W:x<N
  .exact Rel.lt _ _ _ (h.tm x W) b H
  .exact absurd H (h.tx x b (le_of_not_lt W))
 refine⟨h.df,h.sz,λx W=>?_,⟨λi hi=>Rel.mono (λ_ h=>.inl h) (λ_ _ h=>h) _ _ _ (λ_ _=>rfl) (h.wr.rel i hi),h.wr.disj,λi b H hD=>?_,λb H=>?_,h.wr.out⟩,λx W=>?_,λx b H hD=>?_,λi x b H hT=>h.tF i x b H hT.2,λx z b Z h1 h2=>h.tT x z b Z h1.2 h2.2,λx b H=>h.tn x b H.2,h.fr,h.Fn,λb H=>.inl (h.D1 b H),λb H hlt=>?_,h.rt,h.ml,λx b W H=>h.tx x b W H.2⟩
 .have:¬x=d:=by omega
  simp[AD,this,if_false];exact h.dd x W
 .exact hD.elim (h.wr.dD i b H) (h.tF i d b H)
 .exact H.elim (h.wr.Dlt b) (Y d b)
 .by_cases he:x=d
  .subst he
   simp only[AD,if_true];exact Rel.fp_congr (λb=>⟨λh=>h.elim,λh=>(h.1 rfl).elim⟩) (Rel.frz _ _ _ (h.tm x W))
  .simp only[AD,he,if_false]
   exact Rel.fp_congr (λb=>⟨λh=>⟨he,h⟩,λh=>h.2⟩) (Rel.mono (λ_ h=>.inl h) (λ_ _ h=>h) _ _ _ (λ_ _=>rfl) (h.tm x W))
 .exact hD.elim (h.tD x b H.2) (h.tT x d b H.1 H.2)
 .rcases H with H|H
  .exact h.D2 b H hlt
  .rcases h.tn d b H with h1|h1
   .grind
   grind
theorem LQ.frzR{ys:List (Nat×Tk)}(h:LQ P N σ Al o t ys r)(hd:o.dst=some d)(Y:d<N):LQ P N σ Al o t ys (Go.Ve.frz r):=by
 intro C ρ F a w D T H hag Z hp next Q hn
 refine h C ρ F a w D T H hag Z hp next Q λa' w' D' T' W hT' htm=>?_
 have hf:=W.freeze Y
 have e:AD (IU o.dst r (AL ys H)) d (Go.Ve.frz (IU o.dst r (AL ys H) d))=IU o.dst (Go.Ve.frz r) (AL ys H):=by
  rw[hd]
  funext x
  show(if x=d then Go.Ve.frz (if d=d then r else _)else(if x=d then r else AL ys H x))=(if x=d then Go.Ve.frz r else AL ys H x)
  rw[if_pos rfl];split<;>rfl
 grind
end Go.Ve


namespace Go.Ve
variable{s:Bool}{σ:List V}{id n sz:Nat}{f:Nat->Nat->V}{D:Nat->Prop}{ρ:Nat->Value}{w:World}
def MI(id:Nat):V->V
 |.nd true _ _ n _=>.rs id [] 0 n
 |_=>.rp id [] 0 0
theorem Q1{ρ:Nat->Value}{w:World}{D:Nat->Prop}{H:Nat->Prop}(Y:id<σ.length)(hg:σ.getD id .dead=.nd s true sz n f)(Z:s=false->0<sz/\n=1)
  (h:Rel D w noR (.nd s true sz n f) (ρ id) H):Rel D w (Ae σ ρ w) (MI id (.nd s true sz n f)) (ρ id) noF:=by
 cases s with
 |false=>
  obtain⟨h0,rfl⟩:=Z rfl;refine⟨?_,λb hb=>hb⟩
  rcases h with⟨h1,_⟩|⟨b,o,cap,G,W,_⟩
  .omega
  .refine⟨Y,false,sz,1,f,b,o,cap,⟨hg.symm,W.symm⟩,by simp,h0,?_⟩
   rw[W];simp[Av]
 |true=>
  refine⟨?_,λb hb=>hb⟩
  rcases h with⟨h1,_,h3,_⟩|⟨b,o,cap,G,W,_⟩
  .subst h1
   refine⟨Y,sz,0,f,ρ id,⟨hg.symm,rfl⟩,le_refl _,.inr ⟨rfl,none,?_,(λ_ _=>rfl),λp e=>by grind⟩⟩
   rw[DQ h3];rfl
  .refine⟨Y,sz,n,f,ρ id,⟨hg.symm,rfl⟩,by simp,.inl ⟨b,o,cap,W,?_⟩⟩
   rw[W];simp[Av]
theorem Xk{ρ:Nat->Value}{w:World}{D D':Nat->Prop}{H fp:Nat->Prop}{v:V}{cv:Value}(h1:v=.nd s true sz n f)(h2:s=false->0<sz/\n=1)(h3:σ.getD id .dead=v)
  (hrel:Rel D w noR v (ρ id) H) (hr:Rel D' w (Ae σ ρ w) (MI id v) cv fp):cv=ρ id:=by
 subst h1;cases s with
 |true=>
  obtain⟨⟨_,sz',n',f',cn,Y,_,W⟩,_⟩:=hr;obtain⟨Z,e2⟩:=Y;rw[h3]at Z;cases Z;rw[<-e2];rcases W with⟨b,o,cap,g1,g2⟩|⟨g1,ad,_,g3,_⟩
  .rw[g1,g2]
   show Value.slice (some ⟨b,o+0*sz,none⟩) n (cap-0)=Value.slice (some ⟨b,o,none⟩) n cap;simp
  grind
 |false=>
  obtain⟨⟨_,s',sz',n',f',b,o,cap,Y,_,_,W⟩,_⟩:=hr;obtain⟨Z,e2⟩:=Y;rw[h3]at Z;cases Z;rw[<-e2,W];simp[Av]
theorem PR.back2{C:Ctx}{N:Nat}{F:Nat->Nat->Prop}{t:Nat->V}{a:Act}{T:Nat->Nat->Prop}(h:PR C N σ ρ F t a w D T){y:Nat}(hy:y<N)(hid:id<σ.length)(hd:σ.getD id .dead=.dead)(ht:t y=.nd s true sz n f)(hsz:s=false->0<sz/\n=1)(hv:a.tmps.getD y undef=ρ id):
  PR C N (σ.set id (t y)) ρ (λi b=>if i=id then T y b else F i b) (AD t y (MI id (t y))) a w D (λx b=>x≠y/\T x b):=by
 have get:∀{i:Nat},i≠id->(σ.set id (t y)).getD i .dead=σ.getD i .dead:=by
  grind
 have Z:(σ.set id (t y)).getD id .dead=t y:=by simp[hid]
 have hrel:Rel D w noR (t y) (ρ id) (T y):=by
  have Y:=h.tm y hy;rw[hv,ht]at Y;rw[ht];exact Y
 refine⟨h.df,h.sz,λx hx=>?_,⟨λi hi=>?_,λi j b hij Y W=>?_,λi b H=>?_,h.wr.Dlt,λi b hi H=>?_⟩,λx hx=>?_,λx b H=>h.tD x b H.2,λi x b H hT=>?_,λx z b hxz Y W=>h.tT x z b hxz Y.2 W.2,λx b H=>h.tn x b H.2,h.fr,λi b H=>?_,h.D1,h.D2,h.rt,by simpa using h.ml,λx b hx H=>h.tx x b hx H.2⟩
 .have:¬x=y:=by omega
  simp only[AD,this,if_false];exact h.dd x hx
 .have hi:i<σ.length:=by simpa using hi
  by_cases he:i=id
  .subst he
   rw[Z];exact Rel.fp_congr (λb=>by rw[if_pos rfl]) hrel
  .rw[get he]
   exact Rel.fp_congr (λb=>by rw[if_neg he]) (h.wr.rel i hi)
 .split at Y<;>split at W
  .omega
  .exact h.tF j y b W Y
  .exact h.tF i y b Y W
  .exact h.wr.disj i j b hij Y W
 .split at H
  .exact h.tD y b H
  .exact h.wr.dD i b H
 .have hi:σ.length<=i:=by simpa using hi
  rw[if_neg (by omega)]at H
  exact h.wr.out i b hi H
 .by_cases he:x=y
  .subst he
   simp only[AD,if_true];rw[hv];have W:=Q1 (σ:=σ.set id (t x)) (ρ:=ρ) (id:=id) (s:=s) (sz:=sz) (n:=n) (f:=f) (by simpa using hid) (by rw[Z,ht]) hsz (by rw[<-ht];exact hrel)
   rw[<-ht]at W;exact Rel.fp_congr (λb=>⟨λh=>h.elim,λh=>(h.1 rfl).elim⟩) W
  .simp only[AD,he,if_false]
   exact Rel.fp_congr (λb=>⟨λh=>⟨he,h⟩,λh=>h.2⟩) (Rel.mono (λ_ h=>h) (Ae.setD hd) _ _ _ (λ_ _=>rfl) (h.tm x hx))
 .split at H
  .exact h.tT x y b hT.1 hT.2 H
  .exact h.tF i x b H hT.2
 .split at H
  .exact h.tn y b H
  .exact h.Fn i b H
end Go.Ve

