/- In a region that draws its order: what is built out of trees of the call's own, in whatever order. -/
import Derived.Test.YtcpgmjbppfdjbaaDoorVu
import Derived.Laws.IdiomCopy
namespace Go.Ve
variable{ps:Array (Nat×Operand)}{xs:List Operand}{zero:List Value}{N d j size y:Nat}{fp:Nat->Prop}{t:Nat->V}{o:Oper}{x:Operand}{P:Program}{tk:Tk}{ty:TypeId}
structure Xg(D:Nat->Prop)(w:World)(R:V->Value->Prop)(l:List V)(cs:Array Value)(G:Nat->Nat->Prop):Prop where
 sz:cs.size=l.length
 rel: ∀j,j<l.length->Rel D w R (l.getD j .dead) (cs.getD j undef) (G j)
 dis: ∀i j b,i≠j->G i b->¬G j b
def Iq:V->Bool
 | .many .tu _ _=>false
 | .many .bx _ _=>false
 | .many (.cl _) _ _=>false
 | .many .ag _ _=>true
 | .dead=>false
 |_=>true
section
variable {D:Nat->Prop} {w:World} {R:V->Value->Prop}
theorem JT(hR: ∀v cv,R v cv->cv.oneCell'=true){v:V}{cv:Value}(hp:Iq v=true)(h:Rel D w R v cv fp): ∃H,Xg D w R (cellsV v) cv.cells H/\∀j b,H j b->fp b:=by
 have single:Xa v=true->cellsV v= [v]->∃H,Xg D w R (cellsV v) cv.cells H/\∀j b,H j b->fp b:=by
  intro hm hcv;obtain⟨hc,_⟩:=Rel.cells1 h hR hm;rw [hcv,hc];refine⟨λj=>if j=0 then fp else noF,⟨rfl,λj hj=>?_,λi j b hij h1 h2=>?_⟩,λj b hb=>?_⟩
  ·simp_all
  ·by_cases hi:i=0
   ·have hj:j≠0:=by omega
    simp only [hj,if_false]at h2;exact h2
   ·simp only [hi,if_false]at h1
    exact h1
  ·have hb:(if j=0 then fp else noF) b:=hb
   split at hb
   ·exact hb
   ·exact hb.elim
 cases v with
 |c v=>exact single rfl rfl
 |dead=>cases hp
 |nd s own sz n f=>exact single rfl rfl
 |rs id p off len=>exact single rfl rfl
 |rp id p i k=>exact single rfl rfl
 |many t n f=>
  cases t with
  |bx=>cases hp
  |tu=>cases hp
  |cl _=>cases hp
  |ag=>
   obtain⟨cs,F',rfl,hn,hr,hd,hfp⟩:=h;refine⟨λj b=>j<n/\F' j b,⟨by simp [cellsV,Value.cells,hn],λj hj=>?_,λi j b hij h1 h2=>hd i j b h1.1 h2.1 hij h1.2 h2.2⟩,λj b hb=>(hfp b).2 ⟨j,hb⟩⟩
   simp [cellsV]at hj;have e:(cellsV (.many .ag n f)).getD j .dead=f j:=by simp [cellsV,hj]
   rw [e];exact Rel.fp_congr (λb=>⟨λh=>⟨hj,h⟩,λh=>h.2⟩) (hr j hj)
theorem Vs(l:List V): ∀ (vs:List Value) (k off:Nat) (cells:List V) (cs:Array Value) (G H:Nat->Nat->Prop),vs.length=l.length->(∀j,j<l.length->Rel D w R (l.getD j .dead) (vs.getD j undef) (H (k+j)))->(∀i j b,i≠j->H i b->¬H j b)->Xg D w R cells cs G->
  (∀j b i,k<=i->G j b->¬H i b)->∃G',Xg D w R ((l.zipIdx k).foldl (λcs (c,j)=>cs.set (off+j) c) cells) ((vs.zipIdx k).foldl (λcs (c,j)=>cs.setIfInBounds (off+j) c) cs) G'/\∀j b,G' j b->G j b\/∃i,H i b:=by
 induction l with
 |nil=>intro vs k off cells cs G H hl _ _ h _;cases vs<;>first|exact⟨G,h,λ_ _ h=>.inl h⟩|cases hl
 |cons v l ih=>
  intro vs k off cells cs G H hl hr hH h hGH;cases vs with
  |nil=>cases hl
  |cons x vs=>
   simp only [List.zipIdx_cons,List.foldl_cons];have h0:Rel D w R v x (H k):=by simpa using hr 0 (by simp)
   have g1: ∀j,j<l.length->Rel D w R (l.getD j .dead) (vs.getD j undef) (H (k+1+j)):=λj hj=>by
    have:=hr (j+1) (by simp;omega)
    rw [show k+1+j=k+(j+1) by omega]
    simpa using this
   have g2:Xg D w R (cells.set (off+k) v) (cs.setIfInBounds (off+k) x) (λj=>if j=off+k then H k else G j):=by
    refine⟨by simp [h.sz],λj hj=>?_,λi j b hij h1 h2=>?_⟩
    ·simp only [List.length_set]at hj
     by_cases he:off+k=j
     ·subst he
      have h1:off+k<cs.size:=by rw [h.sz];exact hj
      simp [hj,h1];exact h0
     ·have:=h.rel j hj
      have h1:j<cs.size:=by rw [h.sz];exact hj
      simp only [Ne.symm he,if_false];simp only [gDE,List.getElem?_set_ne he];simp only [Array.getD_eq_getD_getElem?,Array.getElem?_setIfInBounds_ne he];simpa using this
    ·have h1:(if i=off+k then H k else G i) b:=h1
     have h2:(if j=off+k then H k else G j) b:=h2
     split at h1<;>split at h2
     ·omega
     ·exact hGH j b k (Nat.le_refl _) h2 h1
     ·exact hGH i b k (Nat.le_refl _) h1 h2
     ·exact h.dis i j b hij h1 h2
   have g3: ∀j b i,k+1<=i->(if j=off+k then H k else G j) b->¬H i b:=λj b i hi hb=>by
    split at hb
    ·exact hH k i b (by omega) hb
    ·exact hGH j b i (by omega) hb
   obtain⟨G',h1,h2⟩:=ih vs (k+1) off _ _ _ H (by simpa using hl) g1 hH g2 g3
   refine⟨G',h1,λj b hb=>?_⟩
   rcases h2 j b hb with h3|h3
   ·have h3:(if j=off+k then H k else G j) b:=h3
    split at h3
    ·exact .inr ⟨_,h3⟩
    ·exact .inl h3
   ·exact .inr h3
theorem P7(hR: ∀v cv,R v cv->cv.oneCell'=true)(place:Nat->Option (Nat×Nat)): ∀ (parts:List (Nat×V)) (cparts:List (Nat×Value)) (cells l':List V) (cs:Array Value) (G Fp:Nat->Nat->Prop),BX place cells parts=some l'->Xg D w R cells cs G->
  parts.length=cparts.length->(∀ (j i:Nat) (v:V),parts[j]? =some (i,v)->Iq v=true/\∃x,cparts[j]? =some (i,x)/\Rel D w R v x (Fp j))->(∀i j b,i≠j->Fp i b->¬Fp j b)->(∀j b i,G j b->¬Fp i b)->
  ∃cs' G',Instr.fill place cs cparts=some cs'/\Xg D w R l' cs' G'/\∀j b,G' j b->G j b\/∃i,Fp i b:=by
 intro parts
 induction parts with
 |nil=>
  intro cparts cells l' cs G Fp h hr hl _ _ _;cases cparts with
  |nil=>simp [BX]at h;subst h;exact⟨cs,G,rfl,hr,λ_ _ h=>.inl h⟩
  |cons=>cases hl
 |cons p parts ih=>
  intro cparts cells l' cs G Fp h hr hl hp hF hGF;obtain⟨i,v⟩:=p;cases cparts with
  |nil=>cases hl
  |cons c cparts=>
   obtain⟨hpl,x,hx,hrx⟩:=hp 0 i v rfl;simp at hx;subst hx;unfold BX at h;split at h
   ·cases h
   rename_i off size hplc;split at h
   ·cases h
   rename_i hcond;obtain⟨H,hcr,hHF⟩:=JT hR hpl hrx;have h1:x.cells.size=(cellsV v).length:=hcr.sz;have h2:cs.size=cells.length:=hr.sz
   have hn: ¬ ((decide (x.cells.size≠size)||decide (off+x.cells.size>cs.size))=true):=by
    simp only [Bool.or_eq_true,decide_eq_true_eq];rw [h1,h2];omega
   unfold Instr.fill;simp only [hplc];rw [if_neg hn]
   obtain⟨G1,hset,hG1⟩: ∃G1,Xg D w R (XD cells off (cellsV v)) (x.cells.zipIdx.foldl (λcs (c,j)=>cs.setIfInBounds (off+j) c) cs) G1/\∀j b,G1 j b->G j b\/∃i,H i b:=by
    have:=Vs (cellsV v) x.cells.toList 0 off cells cs G H (by simpa using h1) (λj hj=>by simpa using hcr.rel j hj) hcr.dis hr (λj b i _ hb hh=>hGF j b 0 hb (hHF i b hh))
    rw [<-Array.foldl_toList];simpa [XD]using this
   obtain⟨cs',G',e,h3,h4⟩:=ih cparts _ l' _ G1 (λj=>Fp (j+1)) h hset (by simpa using hl) (λj i v hj=>by simpa using hp (j+1) i v (by simpa using hj)) (λi j b hij=>hF (i+1) (j+1) b (by omega)) (λj b i hb hh=>by
    rcases hG1 j b hb with h5|⟨q,h5⟩
    ·exact hGF j b (i+1) h5 hh
    ·exact hF 0 (i+1) b (by omega) (hHF q b h5) hh)
   refine⟨cs',G',e,h3,λj b hb=>?_⟩
   rcases h4 j b hb with h5|⟨q,h5⟩
   ·rcases hG1 j b h5 with h6|⟨q,h6⟩
    ·exact .inl h6
    ·exact .inr ⟨0,hHF q b h6⟩
   ·exact .inr ⟨q+1,h5⟩
end
def H0(t:Nat->V):Operand->Option Nat
 | .tmp y=>if AE (t y)then some y else none
 |_=>none
def CH:List (Option Nat)->Bool
 | []=>true
 |none::l=>CH l
 |some a::l=>l.all (λb=>match b with
  |some b=>!Nat.beq a b
  |none=>true)&&CH l
theorem JY: ∀ {l:List (Option Nat)},CH l=true->∀ (i k a:Nat),i≠k->l[i]? =some (some a)->l[k]?≠some (some a)
 |none::l,h,i,k,a,hne,h1=>by
  cases i with
  |zero=>cases h1
  |succ i=>cases k with
   |zero=>intro h2;cases h2
   |succ k=>exact JY (l:=l) h i k a (by omega) (by simpa using h1)
 |some b::l,h,i,k,a,hne,h1=>by
  simp only [CH,bAE]at h
  have key: ∀k:Nat,l[k]?≠some (some b):=by
   intro k h2;have h3:=aET.1 h.1 (some b) (List.mem_of_getElem? h2)
   simp_all
  cases i with
  |zero=>
   grind
  |succ i=>cases k with
   |zero=>
    grind
   |succ k=>exact JY (l:=l) h.2 i k a (by omega) (by simpa using h1)
 | [],_,_,_,_,_,h1=>by cases h1
def A4(t:Nat->V)(xs:List Operand):List Nat:=xs.filterMap (H0 t)
theorem LP(h:AE (t y)=true):H0 t (.tmp y)=some y:=if_pos h
theorem Nw(l:List Nat)(x:Nat):A9 (l.map λy=>(y,Tk.all)) x=if x∈l then some .all else none:=by
 induction l with
 |nil=>rfl
 |cons y l ih=>
  show(if y=x then some Tk.all else A9 (l.map λy=>(y,Tk.all)) x)=_
  grind
theorem CU(l:List Nat)(t:Nat->V)(x:Nat):AH (l.map λy=>(y,Tk.all)) t x=if x∈l then .dead else t x:=by
 unfold AH;rw [Nw];split<;>rfl
section
variable {C:Ctx} {N:Nat} {σ:List V} {ρ:Nat->Value} {F:Nat->Nat->Prop} {t:Nat->V} {a:Act} {w:World} {D:Nat->Prop} {T:Nat->Nat->Prop}
def opF(t:Nat->V)(T:Nat->Nat->Prop)(xs:List Operand)(j b:Nat):Prop:=∃y,xs[j]? =some (.tmp y)/\AE (t y)=true/\T y b
theorem Dk{b:Nat}(h:opF t T xs j b): ∃y,xs[j]? =some (.tmp y)/\AE (t y)=true/\y∈A4 t xs/\T y b:=by
 obtain⟨y,h1,h2,h3⟩:=h;exact⟨y,h1,h2,List.mem_filterMap.2 ⟨.tmp y,List.mem_of_getElem? h1,LP h2⟩,h3⟩
theorem PR.opF_rel(h:PR C N σ ρ F t a w D T)(hx:xs[j]? =some x):Rel D w (Ag σ ρ w) (Ms.ev ⟨t,σ⟩ x) (a.eval x) (opF t T xs j):=by
 have plain: ∀v cv,Rel D w (Ag σ ρ w) v cv noF->(∀b,¬opF t T xs j b)->Rel D w (Ag σ ρ w) v cv (opF t T xs j):=λv cv hr e=>by rw [AY e];exact hr
 have oth:(∀y,x≠.tmp y)->∀b,¬opF t T xs j b:=by
  rintro hne b ⟨y,h1,_⟩
  rw [hx]at h1;exact hne y (Option.some.inj h1)
 cases x with
 |tmp y=>
  by_cases hy:y<N
  ·have h1:=h.tm y hy
   cases ho:AE (t y)with
   |true=>
    refine Rel.fp_congr (λb=>⟨λhb=>⟨y,hx,ho,hb⟩,fun⟨z,h2,_,h3⟩=>?_⟩) h1
    grind
   |false=>
    refine plain _ _ (AY (Au _ _ _ ho h1)▸h1) ?_
    rintro b ⟨z,h2,h3,_⟩
    grind
  ·have hd:=h.dd y (Nat.le_of_not_lt hy)
   refine plain _ _ ?_ ?_
   ·show Rel D w _ (t y) _ noF
    rw [hd];exact λ_ h=>h
   ·rintro b ⟨z,h2,h3,_⟩
    rw [hx]at h2;cases h2;rw [hd]at h3;cases h3
 |const v=>exact plain _ _ (H9 v) (oth λy e=>by cases e)
 |global g=>exact plain _ _ ⟨rfl,rfl,λ_ h=>h⟩ (oth λy e=>by cases e)
 |func f=>exact plain _ _ OZ (oth λy e=>by cases e)
theorem PR.opF_dis(h:PR C N σ ρ F t a w D T)(hap:CH (xs.map (H0 t))=true): ∀i j b,i≠j->opF t T xs i b->¬opF t T xs j b:=by
 intro i j b hij h1 h2;obtain⟨y,e1,o1,_,t1⟩:=Dk h1;obtain⟨z,e2,o2,_,t2⟩:=Dk h2;have hyz:y≠z:=by
  rintro rfl
  have f1:(xs.map (H0 t))[i]? =some (some y):=by rw [List.getElem?_map,e1];exact congrArg some (LP o1)
  have f2:(xs.map (H0 t))[j]? =some (some y):=by grind
  exact JY hap i j y hij f1 f2
 exact h.tT y z b hyz t1 t2
theorem PR.take(h:PR C N σ ρ F t a w D T){r:V}{v':Value}{w':World}(hB:Below w.heap.size w w')(hr:Rel D w' (Ag σ ρ w') r v' fp)(hf: ∀b,fp b->(∃j,opF t T xs j b)\/w.heap.size<=b)(hdn:d<N):
  ∃T',PR C N σ ρ F (Az (AH ((A4 t xs).map λy=>(y,.all)) t) d r) (a.put (some d) v') w' D T'/\∀x b,T' x b->d=x\/∃b',T x b':=by
 refine⟨_,h.move (T1:=λx b=>x∉A4 t xs/\T x b) (λx hx=>?_) (λx b hb=>hb.2) (λx hx=>?_) hB hr (λb hb=>?_) (λ_ h=>h) (λ_ h=>.inl h) (λb hb=>⟨Nat.lt_of_lt_of_le (h.wr.Dlt b hb) hB.size,λhfb=>?_⟩) hdn,λx b hb=>?_⟩
 ·rw [CU]
  by_cases hm:x∈A4 t xs
  ·rw [if_pos hm];exact λb hb=>hb.1 hm
  ·rw [if_neg hm]
   exact Rel.fp_congr (λb=>⟨λh=>⟨hm,h⟩,λh=>h.2⟩) (h.tm x hx)
 ·rw [CU]
  split
  ·rfl
  ·exact h.dd x hx
 ·rcases hf b hb with⟨j,hj⟩|hj
  ·obtain⟨y,_,_,hm,hT⟩:=Dk hj
   refine .inl ⟨y,hT,λx hx=>?_⟩
   have hxy:x≠y:=by grind
   exact h.tT x y b hxy hx.2 hT
  ·exact .inr hj
 ·rcases hf b hfb with⟨j,hj⟩|hj
  ·obtain⟨y,_,_,_,hT⟩:=Dk hj
   exact h.tD y b hT hb
  ·have:=h.wr.Dlt b hb;omega
 ·split at hb
  ·grind
  grind
end
theorem CY{t':Nat->V}(h: ∀x∈xs,∀y,x= .tmp y->t' y=t y):xs.map (H0 t')=xs.map (H0 t):=by
 refine List.map_congr_left λx hx=>?_
 cases x with
 |tmp y=>show(if AE (t' y)then some y else none)=if AE (t y)then some y else none;grind
 |const v=>rfl
 |global g=>rfl
 |func f=>rfl
theorem BG(t:Nat->V)(xs:List Operand):A4 t xs=(xs.map (H0 t)).filterMap id:=by
 unfold A4;simp
theorem C6{op:Op}(h:Operand.tmp y∈op.operands):y∈DP op:=by
 exact List.mem_filterMap.2 ⟨.tmp y,by grind,rfl⟩
theorem YB{Al:Nat->Nat->Prop}{σ:List V}{t:Nat->V}{places:List (Nat×Nat)}{l:List V}(ho:o.op= .build ty ps)(hd:o.dst=some d)(hdn:d<N)(hbi:Zc P ty=some (places,zero))
  (hap:CH ((ps.toList.map (·.2)).map (H0 t))=true) (hok: ∀p∈ps.toList,Iq (Ms.ev ⟨t,σ⟩ p.2)=true) (hl:BX (λi=>places[i]?) (zero.map .c) (ps.toList.map λp=>(p.1,Ms.ev ⟨t,σ⟩ p.2))=some l):
  LQ P N σ Al o t ((A4 t (ps.toList.map (·.2))).map λy=>(y,.all)) (Ac l):=by
 intro C ρ F a w D T t' hag hal hp next Q hn
 obtain⟨xs,hxs⟩: ∃xs,xs=ps.toList.map (·.2):=⟨_,rfl⟩
 rw [<-hxs]at hap hn;have hopx: ∀y,Operand.tmp y∈xs->t' y=t y:=λy hy=>hag y (.inl<|C6 (by rw [ho];show _∈(ps.toList.map (·.2)).toArray;rw [hxs]at hy;simpa using hy))
 have hev: ∀x∈xs,Ms.ev ⟨t',σ⟩ x=Ms.ev ⟨t,σ⟩ x:=by
  intro x hx;cases x with
  |tmp y=>exact hopx y hx
  |const v=>rfl
  |global g=>rfl
  |func f=>rfl
 have hmap:xs.map (H0 t')=xs.map (H0 t):=CY λx hx y e=>hopx y (e▸hx)
 have hap':CH (xs.map (H0 t'))=true:=by rw [hmap];exact hap
 have htk:A4 t' xs=A4 t xs:=by rw [BG,BG,hmap]
 obtain⟨z,rfl,hz1,hbuilt⟩:=K9 hbi
 have hzero:Xg D w (Ag σ ρ w) (z.cells.toList.map .c) z.cells λ_=>noF:=by
  refine⟨by simp,λj hj=>?_,λ_ _ _ _ h=>h.elim⟩
  simp at hj;simp [hj];exact⟨rfl,hz1 _ (by simp),λ_ h=>h⟩
 obtain⟨cs',G',hfill,hrel,hG⟩:=P7 (λv cv h=>Ag.one h) (λi=>places[i]?) (ps.toList.map λp=>(p.1,Ms.ev ⟨t,σ⟩ p.2)) (ps.toList.map λp=>(p.1,a.eval p.2)) _ l _ _ (opF t' T xs) hl hzero (by simp) (λj i v hj=>by
  simp only [List.getElem?_map]at hj⊢;cases hq:ps.toList[j]? with
  |none=>simp [hq]at hj
  |some q=>
   simp only [hq,Option.map_some,Option.some.injEq,Prod.mk.injEq]at hj⊢;obtain⟨rfl,rfl⟩:=hj;have hqm:=List.mem_of_getElem? hq;refine⟨hok q hqm,_,⟨rfl,rfl⟩,?_⟩;have hx:xs[j]? =some q.2:=by rw [hxs,List.getElem?_map,hq];rfl
   rw [<-hev q.2 (List.mem_of_getElem? hx)];exact hp.opF_rel hx) (hp.opF_dis hap') (λ_ _ _ h=>h.elim)
 have hrun:=run_build w ty (ps.map λp=>(p.1,a.eval p.2)) cs' (hbuilt _ _ (by simpa using hfill))
 have hex:(execOp a.eval o).run P w= .ok (.value (.agg cs')) w:=by
  unfold execOp;rw [ho];simp only [Sem.run_bind];rw [show(Array.map (λx=>match x with|(i,x)=>(i,a.eval x)) ps)=ps.map (λp=>(p.1,a.eval p.2))from rfl,hrun]
  rfl
 unfold Oper.wp;rw [hex];show next (a.put o.dst (.agg cs')) w
 rw [hd]at hn⊢;have hr:Rel D w (Ag σ ρ w) (Ac l) (.agg cs') (λb=>∃k,k<l.length/\G' k b):=⟨cs',G',rfl,hrel.sz,λk hk=>hrel.rel k hk,λk k' b _ _ hne=>hrel.dis k k' b hne,λb=>Iff.rfl⟩
 obtain⟨T',hp',hT'⟩:=hp.take (xs:=xs) (d:=d) (Below.refl _ _) hr (λb ⟨k,_,hb⟩=>.inl ((hG k b hb).resolve_left λh=>h)) hdn
 rw [htk]at hp';exact hn _ _ _ _ hp' (λx b hb=>(hT' x b hb).imp (λe=>by rw [e]) λh=>h) λ_ hx=>Bt hx
theorem Mo{Al:Nat->Nat->Prop}{σ:List V}{t:Nat->V}{len:Nat}{e:TypeId}{bytes:Nat}{l:List V}(ho:o.op= .buildSlice ty len ps)(hd:o.dst=some d)(hdn:d<N)(hsi:slI P ty=some ⟨e,size,bytes,zero⟩)
  (hs00:0<size) (hlen:len*size<=16777216) (hap:CH ((ps.toList.map (·.2)).map (H0 t))=true) (hok: ∀p∈ps.toList,Iq (Ms.ev ⟨t,σ⟩ p.2)=true) (hl:BX (λi=>some (i*size,size)) ((List.range (len*size)).map λj=>.c (zero.getD (j % size) undef)) (ps.toList.map λp=>(p.1,Ms.ev ⟨t,σ⟩ p.2))=some l)
  (himm: ∀v∈l,BW v=true\/∃s sz n f,v= .nd s true sz n f):
  LQ P N σ Al o t ((A4 t (ps.toList.map (·.2))).map λy=>(y,.all)) (.nd true true size len λi k=>l.getD (i*size+k) .dead):=by
 intro C ρ F a w D T t' hag hal hp next Q hn
 obtain⟨xs,hxs⟩: ∃xs,xs=ps.toList.map (·.2):=⟨_,rfl⟩
 rw [<-hxs]at hap hn;have hopx: ∀y,Operand.tmp y∈xs->t' y=t y:=λy hy=>hag y (.inl<|C6 (by rw [ho];show _∈(ps.toList.map (·.2)).toArray;rw [hxs]at hy;simpa using hy))
 have hev: ∀x∈xs,Ms.ev ⟨t',σ⟩ x=Ms.ev ⟨t,σ⟩ x:=by
  intro x hx;cases x with
  |tmp y=>exact hopx y hx
  |const v=>rfl
  |global g=>rfl
  |func f=>rfl
 have hmap:xs.map (H0 t')=xs.map (H0 t):=CY λx hx y e=>hopx y (e▸hx)
 have hap':CH (xs.map (H0 t'))=true:=by rw [hmap];exact hap
 have htk:A4 t' xs=A4 t xs:=by rw [BG,BG,hmap]
 obtain⟨hu,i0,z,hi0,hz,his,_,hzl,hzs,hz1⟩:=CB hsi;simp only at hu hi0 his hzl hzs hz1
 have hzero:Xg D w (Ag σ ρ w) ((List.range (len*size)).map λj=>.c (zero.getD (j % size) undef)) ((Array.range (len*size)).map (z.cells[· % z.cells.size]!)) λ_=>noF:=by
  refine⟨by simp,λj hj=>?_,λ_ _ _ _ h=>h.elim⟩
  simp at hj;have hm:j % size<z.cells.size:=by rw [hzs];exact Nat.mod_lt _ hs00
  have e1:(zero.getD (j % size) undef)=z.cells[j % z.cells.size]!:=by
   rw [<-hzl,hzs,getElem!_pos z.cells (j % size) hm];simp [hm]
  simp [hj];refine⟨?_,?_,λ_ h=>h⟩
  ·have:=e1.symm
   simpa using this
  ·refine hz1 _ ?_
   have hl0:j % size<zero.length:=by rw [<-hzl];simpa using hm
   simp [gEE hl0]
 obtain⟨cs',G',hfill,hrel,hG⟩:=P7 (λv cv h=>Ag.one h) (λi=>some (i*size,size)) (ps.toList.map λp=>(p.1,Ms.ev ⟨t,σ⟩ p.2)) (ps.toList.map λp=>(p.1,a.eval p.2)) _ l _ _ (opF t' T xs) hl hzero (by simp) (λj i v hj=>by
  simp only [List.getElem?_map]at hj⊢;cases hq:ps.toList[j]? with
  |none=>simp [hq]at hj
  |some q=>
   simp only [hq,Option.map_some,Option.some.injEq,Prod.mk.injEq]at hj⊢;obtain⟨rfl,rfl⟩:=hj;have hqm:=List.mem_of_getElem? hq;refine⟨hok q hqm,_,⟨rfl,rfl⟩,?_⟩;have hx:xs[j]? =some q.2:=by rw [hxs,List.getElem?_map,hq];rfl
   rw [<-hev q.2 (List.mem_of_getElem? hx)];exact hp.opF_rel hx) (hp.opF_dis hap') (λ_ _ _ h=>h.elim)
 have hlenl:l.length=len*size:=by
  have h2: ∀ (parts:List (Nat×V)) (cells l':List V),BX (λi=>some (i*size,size)) cells parts=some l'->l'.length=cells.length:=by
   intro parts
   induction parts with
   |nil=>intro cells l' h;simp [BX]at h;rw [h]
   |cons p parts ih=>
    intro cells l' h;obtain⟨i,v⟩:=p;simp only [BX]at h;split at h
    ·cases h
    ·rw [ih _ _ h]
     have: ∀ (l:List V) (k:Nat) (c:List V),((l.zipIdx k).foldl (λcs (c,j)=>cs.set (i*size+j) c) c).length=c.length:=by
      intro l
      induction l with
      |nil=>intro k c;rfl
      |cons v l ih=>intro k c;simp only [List.zipIdx_cons,List.foldl_cons];rw [ih];simp
     exact this _ 0 _
  have:=h2 _ _ _ hl;simpa using this
 have hex:(execOp a.eval o).run P w= .ok (.value (.slice (some ⟨w.heap.size,0,none⟩) len len)) (w.alloc (.cells cs' e)):=by
  have hn: ¬ (16777216<len*size):=by omega
  unfold execOp;rw [ho];by_cases h0:len*size=0
  ·have hfill':Instr.fill (λi=>some (i*size,size)) #[] (ps.toList.map λp=>(p.1,a.eval p.2))=some cs':=by
    have:(Array.range (len*size)).map (z.cells[· % z.cells.size]!)= #[]:=by rw [h0];simp
    rw [<-this];exact hfill
   simp [Instr.buildSlice,run_underlying hu,sizeOf,typeInfo,hi0,his,hn,h0,newRow];simp [Array.range_zero',hfill']
  ·simp [Instr.buildSlice,run_underlying hu,sizeOf,typeInfo,zeroValue,hi0,hz,his,hn,h0,newRow]
   simp [hfill]
 have hB:Below w.heap.size w (w.alloc (.cells cs' e)):=(Below.refl _ _).alloc (Nat.le_refl _) _;have hblk:(w.alloc (.cells cs' e)).heap[w.heap.size]? =some (.cells cs' e (0,0)):=by show(w.heap.push _)[w.heap.size]? =_;simp
 have hold: ∀k b,G' k b->b<w.heap.size:=by
  intro k b hb;obtain⟨i,hi⟩:=(hG k b hb).resolve_left λh=>h
  obtain⟨y,_,_,_,hT⟩:=Dk hi;by_cases hy:y<N
  ·exact Rel.lt _ _ _ (hp.tm y hy) b hT
  ·exact absurd hT (hp.tx y b (Nat.le_of_not_lt hy))
 have hsz:cs'.size=len*size:=by rw [hrel.sz];exact hlenl
 have hcell: ∀i k,i<len->k<size->i*size+k<l.length:=λi k hi hk=>by
  rw [hlenl];have:(i+1)*size<=len*size:=Nat.mul_le_mul_right _ (by omega)
  rw [Nat.add_mul]at this;omega
 have hmax:len<=maxLen:=by have:=Nat.le_mul_of_pos_right len hs00;unfold maxLen;omega
 have hr:Rel D (w.alloc (.cells cs' e)) (Ag σ ρ (w.alloc (.cells cs' e))) (.nd true true size len λi k=>l.getD (i*size+k) .dead) (.slice (some ⟨w.heap.size,0,none⟩) len len) (λb=>b=w.heap.size\/∃i k,i<len/\k<size/\G' (i*size+k) b):=by
  refine .inr ⟨w.heap.size,0,len,λi k=>G' (i*size+k),rfl,Nat.le_refl _,hmax,(λh=>by cases h),λi k hi hk=>?_,(λh=>by cases h),λ_=>⟨⟨cs',e,.plain hblk,by rw [hsz,Nat.zero_add];exact Nat.le_refl _⟩,λi k hi hk hF=>?_,λi k i' k' b hi hk hi' hk' hne hF hF'=>?_,λ_=>Iff.rfl⟩⟩
  ·have hlt:=hcell i k hi hk
   refine⟨cs'.getD (i*size+k) undef,?_,?_⟩
   ·unfold World.cell?
    have:i*size+k<cs'.size:=by rw [hsz,<-hlenl];exact hlt
    simp only [hblk,Option.isSome_none,Bool.false_eq_true,if_false,Nat.zero_add];simp [this]
   ·have h5:=hrel.rel _ hlt
    refine Rel.mono (λ_ h=>h) (λ_ _ h=>h) _ _ _ (λb hb=>Below.heap_alloc _ _ _ ?_) (?_:Rel D w noR _ _ _)
    ·rcases hb with hb|hb
     ·exact hp.wr.Dlt b hb
     ·exact hold _ b hb
    ·have hm:l.getD (i*size+k) .dead∈l:=by
      rw [gDE,gEE hlt];exact List.getElem_mem hlt
     rcases himm _ hm with h6|⟨s,sz,n,f,h6⟩
     ·exact Cs h6 h5
     ·show Rel D w noR (l.getD (i*size+k) .dead) _ (G' (i*size+k))
      rw [h6]at h5⊢;exact h5
  ·have:=hold _ _ hF
   omega
  ·refine hrel.dis _ _ b ?_ hF hF'
   intro he;have e1:=congrArg (· /size) he
   have e2:=congrArg (· % size) he
   simp only [Nat.mul_comm i size,Nat.mul_comm i' size,Nat.mul_add_mod,Nat.mod_eq_of_lt hk,Nat.mod_eq_of_lt hk']at e2;subst e2;have:i*size=i'*size:=by omega
   have:=Nat.eq_of_mul_eq_mul_right hs00 this;omega
 unfold Oper.wp;rw [hex];show next (a.put o.dst _) _
 rw [hd]at hn⊢
 obtain⟨T',hp',hT'⟩:=hp.take (xs:=xs) (d:=d) hB hr (λb hb=>by
  rcases hb with rfl|⟨i,k,_,_,hb⟩
  ·exact .inr (Nat.le_refl _)
  ·exact .inl ((hG _ b hb).resolve_left λh=>h)) hdn
 rw [htk]at hp';exact hn _ _ _ _ hp' (λx b hb=>(hT' x b hb).imp (λe=>by rw [e]) λh=>h) λ_ hx=>Bt hx
theorem DH(b:Nat): ∀ (vs:List Value) (o:Nat) (w:World) (k:Nat),k≠b->(w.setCells b o vs).heap[k]? =w.heap[k]?
 | [],_,_,_,_=>rfl
 |v::r,o,w,k,h=>by
  rw [World.setCells,DH b r (o+1) _ k h];exact Below.heap_setCell w ⟨b,o,none⟩ v k h
theorem Il(b:Nat){T:TypeId}{fz:Nat×Nat}: ∀ (vs:List Value) (o:Nat) (w:World) (cs:Array Value),w.heap[b]? =some (.cells cs T fz)->∃cs',(w.setCells b o vs).heap[b]? =some (.cells cs' T fz)/\cs'.size=cs.size
 | [],_,_,cs,h=>⟨cs,h,rfl⟩
 |v::r,o,w,cs,h=>by
  have h1:(w.setCell ⟨b,o,none⟩ v).heap[b]? =some (.cells (cs.setIfInBounds o v) T fz):=by
   unfold World.setCell
   grind
  obtain⟨cs',h2,h3⟩:=Il b r (o+1) _ _ h1;exact⟨cs',h2,by grind⟩
theorem D5(b:Nat): ∀ (vs:List Value) (o:Nat) (w:World),(w.setCells b o vs).os=w.os/\(w.setCells b o vs).tape=w.tape/\(w.setCells b o vs).output=w.output/\(w.setCells b o vs).heap.size=w.heap.size/\(w.setCells b o vs).drawn=w.drawn
 | [],_,_=>⟨rfl,rfl,rfl,rfl,rfl⟩
 |v::r,o,w=>by
  obtain⟨h1,h2,h3,h4,h5⟩:=D5 b r (o+1) (w.setCell ⟨b,o,none⟩ v);exact⟨h1,h2,h3,by rw [World.setCells,h4];simp,h5⟩
theorem Hk{x:Nat}{l:List (Nat×Tk)}(h:x≠y):A9 ((y,tk)::l) x=A9 l x:=if_neg (Ne.symm h)
theorem Hl{l:List (Nat×Tk)}:A9 ((y,tk)::l) y=some tk:=if_pos rfl
theorem YA{Al:Nat->Nat->Prop}{N:Nat}{σ:List V}{t:Nat->V}{p:Nat}{agg:Bool}{lp:List V}(ho:o.op= .store ty (.tmp p) x)(hd:o.dst=none)(hti:tyI P ty=some ⟨agg,size,zero⟩)
  (htp:t p=A7 true lp) (hlp:lp.length=size) (hpn:p<N) (hxp:x≠.tmp p) (hok:Iq (Ms.ev ⟨t,σ⟩ x)=true) (hlen:(cellsV (Ms.ev ⟨t,σ⟩ x)).length=size) (himm: ∀v∈cellsV (Ms.ev ⟨t,σ⟩ x),BW v=true\/∃s sz n f,v= .nd s true sz n f)
  (hone: ∀v∈cellsV (Ms.ev ⟨t,σ⟩ x),Xa v=true):
  LQ P N σ Al o t ((p,.put (A7 true (cellsV (Ms.ev ⟨t,σ⟩ x))))::(A4 t [x]).map λy=>(y,.all)) .dead:=by
 intro C ρ F a w D T t' hag hal hp next Q hn
 rw [hd]at hn;have hopp:t' p=t p:=hag p (.inl<|C6 (by rw [ho];simp [Op.operands]))
 have hopx: ∀y,x= .tmp y->t' y=t y:=λy hy=>hag y (.inl<|C6 (by rw [ho,hy];simp [Op.operands]))
 have hev:Ms.ev ⟨t',σ⟩ x=Ms.ev ⟨t,σ⟩ x:=by
  cases x with
  |tmp y=>exact hopx y rfl
  |const v=>rfl
  |global g=>rfl
  |func f=>rfl
 have hmap: [x].map (H0 t')= [x].map (H0 t):=CY λx' hx y e=>by rw [List.mem_singleton]at hx;subst hx;exact hopx y e
 have htk:A4 t' [x]=A4 t [x]:=by rw [BG,BG,hmap]
 have hnp:p∉A4 t [x]:=by
  intro hm;obtain⟨u,hu,he⟩:=List.mem_filterMap.1 hm;rw [List.mem_singleton]at hu;subst hu;cases u with
  |tmp z=>
   cases ho':AE (t z)with
   |true=>
    rw [LP ho']at he;cases he;exact hxp rfl
   |false=>
    have:H0 t (.tmp z)=none:=by show(if AE (t z)=true then some z else none)=none;rw [if_neg (by simp [ho'])]
    rw [this]at he;cases he
  |const v=>cases he
  |global g=>cases he
  |func f=>cases he
 -- the value's cells
 have hrx:=hp.opF_rel (xs:=[x]) (j:=0) (x:=x) rfl;rw [hev]at hrx;obtain⟨H,hcr,hHF⟩:=JT (λv cv h=>Ag.one h) hok hrx
 obtain⟨L,hL⟩: ∃L,L=cellsV (Ms.ev ⟨t,σ⟩ x):=⟨_,rfl⟩;rw [<-hL]at hcr hlen himm hone hn;obtain⟨vs,hvs⟩: ∃vs,vs=(a.eval x).cells.toList:=⟨_,rfl⟩;have hvl:vs.length=L.length:=by rw [hvs];simpa using hcr.sz
 have hcell: ∀j,j<L.length->Rel D w (Ag σ ρ w) (L.getD j .dead) (vs.getD j undef) (H j):=λj hj=>by
  have:=hcr.rel j hj;rw [hvs];simpa using this
 -- the struct's block
 have hrp:=hp.tm p hpn;rw [hopp,htp]at hrp;rcases hrp with⟨h0,h1,_⟩|⟨b,of,cap,F0,hcv,hcap,hmax,hs1,hc,_,hown⟩
 ·cases h1
 obtain⟨⟨cs,Tt,hb1,hb2⟩,hbF,hFd,hfp⟩:=hown rfl;have hTb:T p b:=(hfp b).2 (.inl rfl);have hcv:a.eval (.tmp p)= .pointer (some ⟨b,of,none⟩):=hcv;have hlt:b<w.heap.size:=hb1.lt;have hob:=hb1;obtain⟨fzz,hb1,hbz⟩:=hb1;have hcap1:cap*lp.length≥lp.length:=Nat.le_mul_of_pos_left _ (by omega)
 have hcells: ∀j,j<vs.length->∃y,w.cell? ⟨b,of+j,none⟩=some y:=by
  intro j hj;have:of+j<cs.size:=by omega
  unfold World.cell?;simp only [hb1,Option.isSome_none,Bool.false_eq_true,if_false];exact⟨_,Array.getElem?_eq_getElem this⟩
 have hfz: ∀j,j<vs.length->w.frozen? ⟨b,of+j,none⟩=false:=λj hj=>by
  obtain⟨y,hy⟩:=hcells j hj;exact hob.frozen hy
 have h1c: ∀v∈vs,v.oneCell'=true:=by
  intro v hv;obtain⟨j,hj,rfl⟩:=List.getElem_of_mem hv;have hj':j<L.length:=by omega
  have h1:=hcell j hj';have hm:L.getD j .dead∈L:=by
   rw [gDE,gEE hj'];exact List.getElem_mem hj'
  have:=(Rel.cells1 h1 (λv cv h=>Ag.one h) (hone _ hm)).2
  simpa [hj]using this
 obtain⟨dd,tii,z,hdt,hit,hz,his,_⟩:=Cz hti;simp only at his;have hrun:=run_storeCells_cells (P:=P) b of vs 0 w (λj hj=>by obtain⟨y,hy⟩:=hcells j hj;simp [hy]) (λj hj=>by rw [Nat.add_zero];exact hfz j hj) h1c
 obtain⟨w',hw'⟩: ∃w',w'=w.setCells b (of+0) vs:=⟨_,rfl⟩;rw [<-hw']at hrun;obtain⟨g1,g2,g3,g4,g5⟩:=D5 b vs (of+0) w;obtain⟨cs2,hb3,hb4⟩:=Il b vs (of+0) w cs hb1;have hoth: ∀k,k≠b->w'.heap[k]? =w.heap[k]?:=λk hk=>by rw [hw'];exact DH b vs _ w k hk
 rw [<-hw']at g1 g2 g3 g4 g5 hb3
 have hin: ∀j (hj:j<vs.length),w'.cell? ⟨b,of+j,none⟩=some vs[j]:=by
  intro j hj;rw [hw'];exact World.cell?_setCells_in b vs (of+0) w (λj hj=>by obtain⟨y,hy⟩:=hcells j hj;simp [hy]) j hj
 have hsv:(storeVar ty ⟨b,of,none⟩ (a.eval x)).run P w= .ok () w':=by
  have e:(a.eval x).cells.size=size:=by rw [hcr.sz];exact hlen
  simp only [storeVar,Sem.run_bind,sizeOf,typeInfo];rw [<-hvs];simp [hit,his,hrun,e]
 have hex:(execOp a.eval o).run P w= .ok .skip w':=by
  unfold execOp;rw [ho];simp [Instr.storeAt,hcv,Instr.sureAddr,hsv]
 unfold Oper.wp;rw [hex,Oper.upon_skip,hd]
 -- nothing else lies in the block
 have hTn: ∀y k,y≠p->T y k->k≠b:=λy k hy hk e=>hp.tT y p k hy hk (e▸hTb)
 have hDn: ∀k,D k->k≠b:=λk hk e=>hp.tD p b hTb (e▸hk)
 have hFn: ∀i k,F i k->k≠b:=λi k hk e=>hp.tF i p k hk (e▸hTb)
 have hHT: ∀j k,H j k->∃y,y∈A4 t [x]/\T y k:=λj k hk=>by
  obtain⟨y,_,_,hm,hT⟩:=Dk (hHF j k hk);exact⟨y,htk▸hm,hT⟩
 have hHn: ∀j k,H j k->k≠b:=λj k hk=>by
  obtain⟨y,hm,hT⟩:=hHT j k hk;exact hTn y k (λe=>hnp (e▸hm)) hT
 have kM: ∀y,AH ((p,.put (A7 true L))::(A4 t [x]).map λy=>(y,.all)) t' y=if y=p then A7 true L else if y∈A4 t [x]then .dead else t' y:=by
  intro y;unfold AH;by_cases hy:y=p
  ·subst hy
   rw [Hl,if_pos rfl];rfl
  ·rw [Hk hy,Nw,if_neg hy]
   split<;>rfl
 have hsame: ∀k,k≠b->w'.heap[k]? =w.heap[k]?:=hoth
 have hnew:Rel D w' (Ag σ ρ w') (A7 true L) (a.tmps.getD p undef) (λk=>k=b\/∃j,j<L.length/\H j k):=by
  refine .inr ⟨b,of,cap,λi j=>H j,hcv,hcap,hmax,λ_=>rfl,λi k hi hk=>?_,(λh=>by cases h),λ_=>⟨⟨cs2,Tt,⟨fzz,hb3,by rw [hb4];exact hbz⟩,?_⟩,λi k hi hk hF=>hHn k b hF rfl,λi k i' k' c hi hk hi' hk' hne hF hF'=>?_,λc=>?_⟩⟩
  ·obtain rfl:i=0:=by omega
   have hk':k<vs.length:=by omega
   refine⟨vs[k],by simpa using hin k hk',?_⟩
   have h5:=hcell k hk;have e5:vs.getD k undef=vs[k]:=by simp [hk']
   rw [e5]at h5;refine Rel.mono (λ_ h=>h) (λ_ _ h=>h) _ _ _ (λc hc=>hsame c ?_) (?_:Rel D w noR _ _ _)
   ·rcases hc with hc|hc
    ·exact hDn c hc
    ·exact hHn k c hc
   ·have hm:L.getD k .dead∈L:=by
     rw [gDE,gEE hk];exact List.getElem_mem hk
    show Rel D w noR (L.getD k .dead) vs[k] (H k);rcases himm _ hm with h6|⟨s,sz,n,f,h6⟩
    ·exact Cs h6 h5
    ·rw [h6]at h5⊢
     exact h5
  ·rw [hb4,hlen,<-hlp];exact hb2
  ·exact hcr.dis k k' c (by omega) hF hF'
  ·constructor
   ·rintro (h|⟨j,hj,h⟩)
    ·exact .inl h
    ·exact .inr ⟨0,j,by omega,hj,h⟩
   ·rintro (h|⟨_,j,_,hj,h⟩)
    ·exact .inl h
    ·exact .inr ⟨j,hj,h⟩
 have wr':Bj σ w' D ρ F:=⟨λi hi=>Rel.mono (λ_ h=>h) (λ_ _ h=>h) _ _ _ (λk hk=>hsame k (hk.elim (hDn k) (hFn i k))) (hp.wr.rel i hi),hp.wr.disj,hp.wr.dD,λk hk=>by rw [g4];exact hp.wr.Dlt k hk,hp.wr.out⟩
 have hsub: ∀k,(k=b\/∃j,j<L.length/\H j k)->T p k\/∃y,y∈A4 t [x]/\T y k:=by
  rintro k (rfl|⟨j,_,h⟩)
  ·exact .inl hTb
  ·exact .inr (hHT j k h)
 refine hn a w' D (λy k=>if y=p then(k=b\/∃j,j<L.length/\H j k)else y∉A4 t [x]/\T y k) ⟨hp.df,hp.sz,λy hy=>?_,wr',λy hy=>?_,λy k hk=>?_,λi y k hk hT=>?_,λy y' k hyy h1 h2=>?_,λy k hk=>?_,⟨g1.trans hp.fr.os,g2.trans hp.fr.tape,g3.trans hp.fr.output,by rw [g4];exact hp.fr.size,λk hk hW=>?_,hp.fr.drawn⟩,hp.Fn,hp.D1,hp.D2,hp.rt,hp.ml,λy k hy hk=>?_⟩ (λy k hk=>?_) λ_ _=>rfl
 ·show AH _ t' y=_
  rw [kM,if_neg (by omega)]
  split
  ·rfl
  ·exact hp.dd y hy
 ·show Rel D w' (Ag σ ρ w') (AH _ t' y) _ _
  rw [kM];by_cases hyp:y=p
  ·subst hyp
   rw [if_pos rfl];exact Rel.fp_congr (λk=>by show _↔(if y=y then _ else _);rw [if_pos rfl]) hnew
  ·rw [if_neg hyp]
   by_cases hm:y∈A4 t [x]
   ·rw [if_pos hm]
    intro k hk;have hk:(if y=p then(k=b\/∃j,j<L.length/\H j k)else y∉A4 t [x]/\T y k):=hk
    rw [if_neg hyp]at hk;exact hk.1 hm
   ·rw [if_neg hm]
    refine Rel.fp_congr (fp:=T y) (λk=>by show _↔(if y=p then _ else _);rw [if_neg hyp];exact⟨λh=>⟨hm,h⟩,λh=>h.2⟩) ?_
    exact Rel.mono (λ_ h=>h) (λv cv hv=>Ag.same hp.wr (λi k hk=>hsame k (hFn i k hk)) v cv hv) _ _ _ (λk hk=>hsame k (hk.elim (hDn k) (hTn y k hyp))) (hp.tm y hy)
 ·split at hk
  ·rcases hsub k hk with h|⟨y',_,h⟩
   ·exact hp.tD p k h
   ·exact hp.tD y' k h
  ·exact hp.tD y k hk.2
 ·split at hT
  ·rcases hsub k hT with h|⟨y',_,h⟩
   ·exact hp.tF i p k hk h
   ·exact hp.tF i y' k hk h
  ·exact hp.tF i y k hk hT.2
 ·have one: ∀z,z≠p->z∉A4 t [x]->T z k->(k=b\/∃j,j<L.length/\H j k)->False:=by
   intro z hz hm hT h;rcases hsub k h with h|⟨y'',hm',h⟩
   ·exact hp.tT z p k hz hT h
   ·exact hp.tT z y'' k (λe=>hm (e▸hm')) hT h
  split at h1<;>split at h2
  ·rename_i e1 e2;exact absurd (e1.trans e2.symm) hyy
  ·rename_i e1 e2;exact one y' e2 h2.1 h2.2 h1
  ·rename_i e1 e2;exact one y e1 h1.1 h1.2 h2
  ·exact hp.tT y y' k hyy h1.2 h2.2
 ·split at hk
  ·rcases hsub k hk with h|⟨y',_,h⟩
   ·exact hp.tn p k h
   ·exact hp.tn y' k h
  ·exact hp.tn y k hk.2
 ·have:k≠b:=λe=>by
   rcases hp.tn p b hTb with h|h
   ·exact hW (e▸h)
   ·omega
  rw [hsame k this];exact hp.fr.block k hk hW
 ·have hk:(if y=p then(k=b\/∃j,j<L.length/\H j k)else y∉A4 t [x]/\T y k):=hk
  rw [if_neg (by omega)]at hk
  exact hp.tx y k hy hk.2
 ·have hk:(if y=p then(k=b\/∃j,j<L.length/\H j k)else y∉A4 t [x]/\T y k):=hk
  split at hk
  ·rename_i e;exact .inr ⟨b,e▸hTb⟩
  ·exact .inr ⟨k,hk.2⟩
end Go.Ve


namespace Go.Ve
def J4:List (Nat×Nat×Value)->Act->Act
 | [],a=>a
 |(_,d,u)::l,a=>J4 l (a.put (some d) u)
theorem Jr{d:Nat}{u:Value}: ∀ {l:List (Nat×Nat×Value)} {a:Act},(∀x∈l,x.2.1≠d)->J4 l (a.put (some d) u)=(J4 l a).put (some d) u
 | [],_,_=>rfl
 |(f,e,v)::l,a,h=>by
  have hne:=h _ (List.mem_cons_self ..);show J4 l ((a.put (some d) u).put (some e) v)=_;rw [C1 (λh=>hne (by grind))]
  exact Jr λx hx=>h x (mCM _ hx)
theorem LH: ∀ (l l':List (Nat×Nat×Value)) (a:Act),J4 (l++l') a=J4 l' (J4 l a)
 | [],_,_=>rfl
 |(_,d,u)::l,l',a=>LH l l' (a.put (some d) u)
section
variable {P:Program} {ops:Array Oper} {n:Nat} {fs:List Nat}
theorem Hd{o:Oper}(hs: ∀cs b,o.op≠.select cs b): ∀ {l:List (Nat×Nat×Value)} {a:Act},(∀x∈l,x.2.1∉o.looksAt ops)->execOp (J4 l a).eval o=execOp a.eval o
 | [],_,_=>rfl
 |(f,d,u)::l,a,h=>by
  show execOp (J4 l (a.put (some d) u)).eval o=_;rw [Hd hs λx hx=>h x (mCM _ hx),execOp_put o hs a (some d) u λd' hd'=>by cases hd';exact h _ (List.mem_cons_self ..)]
theorem IV{o:Oper}(h:AaO o.op=true): ∀cs b,o.op≠.select cs b:=λcs b e=>by rw [e]at h;cases h
def FlH(P:Program)(ops:Array Oper)(n:Nat)(fs:List Nat)(a:Act)(w:World):Prop:=∀on,ops[n]? =some on->∃v w',(execOp a.eval on).run P w= .ok (.value v) w'/\
 ∀f∈fs,∀o,ops[f]? =some o->∀u,(execOp a.eval o).run P w= .ok (.value u) w->(execOp a.eval o).run P w'= .ok (.value u) w'
structure GI(P:Program)(ops:Array Oper)(Q:Exit->Act->World->Prop)(n:Nat)(fs:List Nat)(L:List (Nat×Nat×Value))(m:Nat)(listed:Array Bool)(a:Act)(w:World):Prop where
 sz:listed.size=ops.size
 ls: ∀j,j<ops.size->listed.getD j true=decide (j<m/\∀x∈L,x.1≠j)
 nd:L.Pairwise λx y=>x.1≠y.1
 it: ∀x∈L,x.1∈fs/\AA ops x.1=some x.2.1/\∀o,ops[x.1]? =some o->(execOp (J4 L a).eval o).run P w= .ok (.value x.2.2) w
 wl:wpList P ops (QN Q) (ops.toList.drop m) (J4 L a) w
 hH:m=n->FlH P ops n fs (J4 L a) w
theorem GI.go{Q:Exit->Act->World->Prop}(hq:QOK ops n)(fl:FLS ops n fs): ∀ (fuel:Nat) (L:List (Nat×Nat×Value)) (m:Nat) (listed:Array Bool) (a:Act) (w:World),m=n\/m=n+1->(ops.size-m)+L.length<=fuel->GI P ops Q n fs L m listed a w->wpAny P .any ops Q fuel listed a w:=by
 have hsz:=fl.lt1;obtain⟨on,dn,hon,hog,hod,hos,hfl⟩:=fl.it;intro fuel
 induction fuel with
 |zero=>intro L m listed a w hm hf;omega
 |succ g ih=>
  intro L m listed a w hm hf h;cases hL:L with
  |nil=>
   subst hL;refine I4 hq (.inr fl.chain) (g+1) m listed a w (by omega) (by omega) (by simpa using Nat.le_trans (by omega) (Nat.add_le_add_left hf m)) h.sz (λj hj=>?_) (IY m _ w (by omega) h.wl)
   rw [h.ls j hj];simp
  |cons x0 L0=>
  have hne: ∃x,x∈L:=⟨x0,by rw [hL];exact List.mem_cons_self ..⟩
  -- what is known of the pending ones
  have hx: ∀x∈L,x.1<n/\∃o,ops[x.1]? =some o/\o.guard=none/\AaO o.op=true/\o.dst=some x.2.1/\x.2.1∉on.looksAt ops/\dn≠x.2.1/\dn∉o.looksAt ops:=by
   intro x hxL;obtain⟨h1,h2,_⟩:=h.it x hxL;obtain⟨o,d,k1,k2,k3,k4,k5,k6,k7⟩:=hfl x.1 h1;have hd:d=x.2.1:=by
    unfold AA at h2;rw [k1]at h2;have h2:o.dst=some x.2.1:=h2;rw [k4]at h2;exact Option.some.inj h2
   subst hd;exact⟨(fl.lt x.1 h1).1,o,k1,k2,k3,k4,k5,k6,k7⟩
  have hdne: ∀x∈L,∀y∈L,x.1≠y.1->x.2.1≠y.2.1:=by
   intro x hxL y hyL hxy e;obtain⟨h1,o,h2,_,_,h3,_⟩:=hx x hxL;obtain⟨h4,o',h5,_,_,h6,_⟩:=hx y hyL;have:=(hq.ne x.1 y.1 x.2.1 o' h1 h4 hxy (h.it x hxL).2.1 h5).1;rw [e]at this;exact this h6
  have hun: ∀j,j<ops.size->(listed.getD j false=true↔(j<m/\∀x∈L,x.1≠j)):=by
   intro j hj;have h1:=IM h.sz hj (h.ls j hj);rw [h1,decide_eq_true_iff]
  refine⟨λh0=>?_,λi hi=>?_⟩
  ·-- the OT of them is ready
   exfalso;obtain⟨i,⟨x,hxL,rfl⟩,hmin⟩:=OT (p:=λi=>∃x∈L,x.1=i) (let ⟨x,hx⟩:=hne;⟨x.1,x,hx,rfl⟩)
   obtain⟨h1,o,h2,_⟩:=hx x hxL;have:x.1∈Region.ready .any ops listed:=by
    refine mem_ready.2 ⟨by rw [h.ls x.1 (by omega)];exact dF λhh=>hh.2 x hxL rfl,o,h2,λe he hb=>?_⟩
    have h3:=hq.back x.1 o e h2 he hb;exact(hun e.on (by omega)).2 ⟨by omega,λy hy e'=>hmin e.on h3 ⟨y,hy,e'⟩⟩
   rw [h0]at this;cases this
  ·obtain⟨hiu,oi,hoi,hall⟩:=mem_ready.1 hi
   have his:i<ops.size:=(Array.getElem?_eq_some_iff.1 hoi).1;have hdep: ∀j,Region.waitsFor .any ops i j=true->j<ops.size->j<m/\∀x∈L,x.1≠j:=by
    intro j hw hj;obtain⟨o',ho',e,he',hb,hon'⟩:=Region.waitsFor_spec hw;obtain rfl:o'=oi:=Option.some.inj (ho'.symm.trans hoi);have h3:=hall e he' hb;rw [hon']at h3;exact(hun j hj).1 h3
   by_cases hiL: ∃x∈L,x.1=i
   ·-- a pending one
    obtain⟨x,hxL,rfl⟩:=hiL;obtain⟨hxn,o,ho,hg,hex,hd,hlo,hdn,hdo⟩:=hx x hxL;obtain rfl:oi=o:=Option.some.inj (hoi.symm.trans ho);obtain⟨hfs,hdst,hrun⟩:=h.it x hxL;have hrun:=hrun oi ho;have hlook: ∀y∈L,y.2.1∉oi.looksAt ops:=by
     intro y hy hm';obtain⟨hyn,oy,hoy,_,_,hdy,_⟩:=hx y hy;by_cases hxy:y.1=x.1
     ·have e:y.2.1=x.2.1:=by
       have h1:=(h.it y hy).2.1;rw [hxy,hdst]at h1;exact(Option.some.inj h1).symm
      obtain⟨oi',hoi',hnl⟩:=hq.dst x.1 hxn;obtain rfl:oi'=oi:=Option.some.inj (hoi'.symm.trans hoi);exact hnl x.2.1 hd (e▸hm')
     ·obtain⟨e,he,hb,hon'⟩:=(hq.ne y.1 x.1 y.2.1 oi hyn hxn hxy (h.it y hy).2.1 hoi).2 hm'
      have h3:=hall e he hb;rw [hon']at h3;exact((hun y.1 (by omega)).1 h3).2 y hy rfl
    rw [Hd (IV hex) hlook]at hrun;unfold wpOp;simp only [hoi];have hw:Region.wanted oi (yielded ops a.tmps)=true:=by simp [Region.wanted,hg]
    rw [if_pos hw];left;unfold Oper.wp;rw [hrun,Oper.upon_value,hd];obtain⟨L1,L2,hsp⟩:=List.append_of_mem hxL;have hnd:=h.nd;rw [hsp,List.pairwise_append,List.pairwise_cons]at hnd;obtain⟨n1,⟨n2,n3⟩,n4⟩:=hnd
    have hput:J4 (L1++L2) (a.put (some x.2.1) x.2.2)=J4 L a:=by
     rw [hsp,LH,LH];show _=J4 L2 ((J4 L1 a).put (some x.2.1) x.2.2);rw [Jr λy hy=>hdne y (by rw [hsp];simp [hy]) x hxL (n4 y hy x (List.mem_cons_self ..))]
    have hLm: ∀y,y∈L1++L2↔y∈L/\y.1≠x.1:=by
     intro y;rw [hsp];simp only [List.mem_append,List.mem_cons];constructor
     ·rintro (hy|hy)
      ·exact⟨.inl hy,n4 y hy x (List.mem_cons_self ..)⟩
      ·exact⟨.inr (.inr hy),λe=>n2 y hy e.symm⟩
     ·rintro ⟨hy|rfl|hy,hyx⟩
      ·exact .inl hy
      ·exact absurd rfl hyx
      ·exact .inr hy
    refine ih (L1++L2) m _ _ w hm ?_ ⟨by simpa using h.sz,λj hj=>?_,?_,λy hy=>?_,by rw [hput];exact h.wl,λe=>by rw [hput];exact h.hH e⟩
    ·rw [hsp]at hf
     simp only [List.length_append,List.length_cons]at hf⊢;omega
    ·by_cases hij:x.1=j
     ·subst hij
      have:x.1<listed.size:=by rw [h.sz];exact his
      rw [show(listed.setIfInBounds x.1 true).getD x.1 true=true by simp [this]]
      exact(dT ⟨by omega,λy hy=>((hLm y).1 hy).2⟩).symm
     ·rw [getD_set_ne true hij,h.ls j hj]
      refine decide_eq_decide.2 ⟨fun⟨k1,k2⟩=>⟨k1,λy hy=>k2 y ((hLm y).1 hy).1⟩,fun⟨k1,k2⟩=>⟨k1,λy hy=>?_⟩⟩
      by_cases hyx:y.1=x.1
      ·rw [hyx];exact hij
      ·exact k2 y ((hLm y).2 ⟨hy,hyx⟩)
    ·exact List.pairwise_append.2 ⟨n1,n3,λy hy z hz=>n4 y hy z (mCM _ hz)⟩
    ·obtain⟨k1,k2,k3⟩:=h.it y ((hLm y).1 hy).1
     rw [hput];exact⟨k1,k2,k3⟩
   ·have hnot: ¬i<m:=λhlt=>by
     rw [h.ls i his]at hiu;exact of_decide_eq_false hiu ⟨hlt,λx hx e=>hiL ⟨x,hx,e⟩⟩
    have him:i=m:=by
     have h2:=aET.1 fl.chain i (List.mem_range.2 his);simp only [Bool.or_eq_true,decide_eq_true_eq]at h2;rcases h2 with h2|h2
     ·omega
     ·have:=(hdep (i-1) h2 (by omega)).1
      omega
    rcases hm with hmn|hmn
    case inr=>
     exfalso;obtain⟨x,hxL⟩:=hne;obtain⟨h1,_,_⟩:=h.it x hxL;have h2:=(fl.lt x.1 h1).2;rw [show n+1=i by omega]at h2
     exact(hdep x.1 h2 (by have:=(fl.lt x.1 h1).1;omega)).2 x hxL rfl
    subst him;subst hmn;obtain rfl:oi=on:=Option.some.inj (hoi.symm.trans hon);obtain⟨v,w',hrun,hkeep⟩:=h.hH rfl oi hoi;have hlook: ∀y∈L,y.2.1∉oi.looksAt ops:=λy hy=>by
     obtain⟨_,_,_,_,_,_,h5,_⟩:=hx y hy;exact h5
    have hrun0:=hrun;rw [Hd hos hlook]at hrun0;have hwl:=h.wl
    have hdrop:ops.toList.drop i=oi::ops.toList.drop (i+1):=by
     have h1:=List.drop_eq_getElem_cons (l:=ops.toList) (i:=i) (by simpa using his)
     rw [h1]
     congr 1
     have:ops[i]? =some ops[i]:=by simp [his]
     rw [hoi]at this;simpa using(Option.some.inj this).symm
    rw [hdrop]at hwl;unfold wpList at hwl;rw [if_pos (by simp [Region.wanted,hog])]at hwl
    unfold wpOp;simp only [hoi];rw [if_pos (by simp [Region.wanted,hog])]
    left;unfold Oper.wp;rw [hrun0,Oper.upon_value,hod]
    have hput:J4 L (a.put (some dn) v)=(J4 L a).put (some dn) v:=Jr λy hy=>by
     obtain⟨_,_,_,_,_,_,_,h6,_⟩:=hx y hy;exact λe=>h6 e.symm
    refine ih L (i+1) _ _ w' (.inr (by omega)) (by omega) ⟨by simpa using h.sz,λj hj=>?_,h.nd,λy hy=>?_,?_,λe=>by omega⟩
    ·by_cases hij:i=j
     ·subst hij
      have:i<listed.size:=by rw [h.sz];exact his
      rw [show(listed.setIfInBounds i true).getD i true=true by simp [this]]
      exact(dT ⟨by omega,λy hy e=>hiL ⟨y,hy,e⟩⟩).symm
     ·rw [getD_set_ne true hij,h.ls j hj]
      exact decide_eq_decide.2 ⟨fun⟨k1,k2⟩=>⟨by omega,k2⟩,fun⟨k1,k2⟩=>⟨by omega,k2⟩⟩
    ·obtain⟨k1,k2,k3⟩:=h.it y hy
     refine⟨k1,k2,λo ho=>?_⟩
     obtain⟨_,o',ho',_,hex,_,_,_,h7⟩:=hx y hy;obtain rfl:o'=o:=Option.some.inj (ho'.symm.trans ho);rw [hput,execOp_put o' (IV hex) _ (some dn) v λd hd=>by cases hd;exact h7]
     exact hkeep y.1 k1 o' ho _ (k3 o' ho)
    ·rw [hput]
     rcases hwl with hwl|⟨_,_,_,hno⟩
     ·unfold Oper.wp at hwl
      rw [hrun,Oper.upon_value,hod]at hwl;exact hwl
     ·exact(AaC _ _ _ (by simp) hno).elim
end
end Go.Ve


namespace Go.Ve
open Go
variable{α β:Type}{w w':World}
def Iy{α:Type}(s:Sem α):Prop:=∀ (P:Program) (w w1:World) (n:α),s.run P w= .ok n w1->w1=w
def Xf{α:Type}(w w':World)(s:Sem α):Prop:=∀ (P:Program) (n:α),s.run P w= .ok n w->s.run P w'= .ok n w'
theorem Iy.pure{α:Type}(x:α):Iy (Pure.pure x:Sem α):=λP w w1 n h=>by simp_all
theorem Xf.pure{α:Type}{w w':World}(x:α):Xf w w' (Pure.pure x:Sem α):=λP n h=>by simp_all
theorem Iy.bind{s:Sem α}{f:α->Sem β}(hs:Iy s)(hf: ∀x,Iy (f x)):Iy (s>>=f):=by
 intro P w w1 n h;rw [Sem.run_bind]at h;cases hr:s.run P w with
 |ok x w2=>
  rw [hr]at h;have e:=hs P w w2 x hr;subst e;exact hf x P _ w1 n h
 |halt x w2=>simp_all
theorem Xf.bind{s:Sem α}{f:α->Sem β}(hk:Iy s)(hs:Xf w w' s)(hf: ∀x,Xf w w' (f x)):Xf w w' (s>>=f):=by
 intro P n h;rw [Sem.run_bind]at h⊢;cases hr:s.run P w with
 |ok x w2=>
  rw [hr]at h;have e:=hk P w w2 x hr;subst e;rw [hs P x hr];exact hf x P n h
 |halt x w2=>simp_all
def Bn{α:Type}(s:Sem α):Prop:=∀ (P:Program) (w w1:World) (n:α),s.run P w≠.ok n w1
theorem Bn.keep{s:Sem α}(h:Bn s):Iy s:=λP w w1 n e=>(h P w w1 n e).elim
theorem Bn.same{s:Sem α}(h:Bn s):Xf w w' s:=λP n e=>(h P w w n e).elim
theorem Bn.bind{s:Sem α}{f:α->Sem β}(h:Bn s):Bn (s>>=f):=by
 intro P w w1 n e;rw [Sem.run_bind]at e;cases hr:s.run P w with
 |ok x w2=>exact h P w w2 x hr
 |halt x w2=>simp_all
theorem Bn.bindR{s:Sem α}{f:α->Sem β}(h: ∀x,Bn (f x)):Bn (s>>=f):=by
 intro P w w1 n e;rw [Sem.run_bind]at e;cases hr:s.run P w with
 |ok x w2=>rw [hr]at e;exact h x P w2 w1 n e
 |halt x w2=>simp_all
theorem Bn.stuck{α:Type}{m:String}:Bn (stuck m:Sem α):=λP w w1 n e=>by cases e
def KS{α:Type}(w w':World)(s:Sem α):Prop:=Iy s/\Xf w w' s
theorem KS.bind{α β:Type}{w w':World}{s:Sem α}{f:α->Sem β}(hs:KS w w' s)(hf: ∀x,KS w w' (f x)):KS w w' (s>>=f):=⟨hs.1.bind λx=>(hf x).1,Xf.bind hs.1 hs.2 λx=>(hf x).2⟩
theorem KS.pure{α:Type}{w w':World}(x:α):KS w w' (Pure.pure x:Sem α):=⟨Iy.pure x,Xf.pure x⟩
theorem Bn.ks{s:Sem α}(h:Bn s):KS w w' s:=⟨h.keep,h.same⟩
def FlK(P:Program)(ops:Array Oper)(fs:List Nat):Prop:=∀f∈fs,∀o,ops[f]? =some o->∀ρ w n w1,(execOp ρ o).run P w= .ok n w1->∃u,n= .value u/\w1=w
section
variable {X A:Nat->Prop} {B:Nat->Nat->Prop} {P:Program} {C:Ctx} {h:Cg} {ops:Array Oper} {σ:List V} {ρ:Nat->Value} {F:Nat->Nat->Prop} {t0 r:Nat->V} {m:Nat->List (Nat×Tk)} {n:Nat} {fs:List Nat}
theorem replay(hq:QOK ops n)(fl:FLS ops n fs)(hk:FlK P ops fs)(hm:MOK (isA h ops) (isB h ops) ops n m)
  (hst: ∀j,j<n->∀o,ops[j]? =some o->ID P h ops σ o (BY ops r m t0 j) (r j) (m j)) {a0:Act}: ∀ (c:Nat) (listed:Array Bool) (a:Act) (w:World) (D:Nat->Prop) (T:Nat->Nat->Prop),unl listed n=c->HeadInv .any ops n listed->
   (∀i,i<n->listed.getD i true=false->i∈fs)->PR C h.n σ ρ F (pt ops n r m t0 listed) a w D T->(∀x b,T x b->Pa ops n X x)->(∀x,(∀i,i<n->AA ops i≠some x)->a.tmps[x]? =a0.tmps[x]?)->AlI h ops n listed a->
   ∃ (L:List (Nat×Nat×Value)) (D':Nat->Prop) (T':Nat->Nat->Prop),PR C h.n σ ρ F (BY ops r m t0 n) (J4 L a) w D' T'/\(∀x b,T' x b->Pa ops n X x)/\(∀x,(∀i,i<n->AA ops i≠some x)->(J4 L a).tmps[x]? =a0.tmps[x]?)/\
    L.Pairwise (λx y=>x.1≠y.1)/\(∀i,i<n->(listed.getD i true=false↔ ∃x∈L,x.1=i))/\(∀x∈L,x.1<n)/\
    ∀x∈L,x.1∈fs/\AA ops x.1=some x.2.1/\∀o,ops[x.1]? =some o->(execOp (J4 L a).eval o).run P w= .ok (.value x.2.2) w:=by
 intro c
 induction c with
 |zero=>
  intro listed a w D T hc inv hfs hp hT hA hI;have hall: ∀i,i<n->listed.getD i true=true:=by
   intro i hi;cases hu:listed.getD i true with
   |true=>rfl
   |false=>have:=Of hu n hi;omega
  rw [VR hq hm inv.size hall]at hp;exact⟨[],D,T,hp,hT,hA,List.Pairwise.nil,λi hi=>by rw [hall i hi];simp,λx hx=>(by cases hx),λx hx=>(by cases hx)⟩
 |succ c ih=>
  intro listed a w D T hc inv hfs hp hT hA hI;have hex: ∃i,i<n/\listed.getD i true=false:=by
   apply Classical.byContradiction;intro hno;have:unl listed n=0:=by
    unfold unl;rw [List.countP_eq_zero];intro i hi;have hi:=List.mem_range.1 hi;cases hu:listed.getD i true with
    |true=>simp
    |false=>exact absurd ⟨i,hi,hu⟩ hno
   omega
  obtain⟨i,⟨hin,hun⟩,hmin⟩:=OT hex;have hle:=hq.le;have hminL: ∀j,j<i->listed.getD j true=true:=λj hj=>by
   cases hu:listed.getD j true with
   |true=>rfl
   |false=>exact absurd ⟨by omega,hu⟩ (hmin j hj)
  have hif:=hfs i hin hun;obtain⟨on,dn,hon,hog,hod,hos,hfl⟩:=fl.it;obtain⟨o,d,hoi,hg,hexo,hd,_,_,_⟩:=hfl i hif;have hdi:AA ops i=some d:=by unfold AA;rw [hoi];exact hd
  have hir:i∈Region.ready .any ops listed:=by
   refine mem_ready.2 ⟨hun,o,hoi,λe he hb=>?_⟩
   have h1:=hq.back i o e hoi he hb;have h2:=hminL e.on h1;have h3:e.on<listed.size:=by rw [inv.size];omega
   simp [h3]at h2⊢;exact h2
  have hstep:=IX (Q:=λ_ _ _=>False) (K:=λa' w'=>∃D' T',PR C h.n σ ρ F (pt ops n r m t0 (listed.setIfInBounds i true)) a' w' D' T'/\(∀x b,T' x b->Pa ops n X x)/\(∀x,(∀i,i<n->AA ops i≠some x)->a'.tmps[x]? =a0.tmps[x]?)/\AlI h ops n (listed.setIfInBounds i true) a')
   (Hs hq hm inv hin hir hst hp hT (hI.at hq hin hir) λa' w' D' T' hp' hT' htm' hmv=>⟨D',T',hp',hT',λx hx=>(htm' x (hx i hin)).trans (hA x hx),hI.set hq hst inv hin hp.sz htm' hmv⟩)
  unfold wpOp at hstep;simp only [hoi]at hstep;have hw:Region.wanted o (yielded ops a.tmps)=true:=by simp [Region.wanted,hg]
  rw [if_pos hw]at hstep;rcases hstep with hstep|⟨_,_,_,hno⟩
  case inr=>exact hno.elim
  unfold Oper.wp at hstep;cases hrun:(execOp a.eval o).run P w with
  |halt x w2=>
   rw [hrun]at hstep;cases x<;>exact hstep.elim
  |ok nn w1=>
   obtain⟨u,rfl,rfl⟩:=hk i hif o hoi _ _ _ _ hrun;rw [hrun,Oper.upon_value,hd]at hstep;obtain⟨D1,T1,hp1,hT1,hA1,hI1⟩:=hstep;have hcount:=Oe (by rw [inv.size];omega) hun n
   rw [if_pos hin]at hcount;have hset: ∀j,i≠j->(listed.setIfInBounds i true).getD j true=listed.getD j true:=λj hj=>getD_set_ne true hj
   have hself:(listed.setIfInBounds i true).getD i true=true:=by
    have:i<listed.size:=by rw [inv.size];omega
    simp [this]
   obtain⟨L,D2,T2,h1,h2,h3,h4,h5,h6,h7⟩:=ih (listed.setIfInBounds i true) (a.put (some d) u) _ D1 T1 (by omega) (inv.set hir hin) (λj hj hu=>by
    by_cases hij:i=j
    ·subst hij;rw [hself]at hu;cases hu
    ·rw [hset j hij]at hu;exact hfs j hj hu) hp1 hT1 hA1 hI1
   have hLi: ∀x∈L,x.1≠i/\listed.getD x.1 true=false:=by
    intro x hx;have hu:=(h5 x.1 (h6 x hx)).2 ⟨x,hx,rfl⟩;by_cases hij:i=x.1
    ·rw [<-hij,hself]at hu;cases hu
    ·exact⟨Ne.symm hij,by rw [hset _ hij]at hu;exact hu⟩
   refine⟨(i,d,u)::L,D2,T2,h1,h2,h3,List.pairwise_cons.2 ⟨λx hx e=>(hLi x hx).1 e.symm,h4⟩,λj hj=>?_,λx hx=>?_,λx hx=>?_⟩
   ·by_cases hij:i=j
    ·subst hij
     exact⟨λ_=>⟨_,List.mem_cons_self ..,rfl⟩,λ_=>hun⟩
    ·rw [<-hset j hij,h5 j hj]
     constructor
     ·rintro ⟨x,hx,e⟩;exact⟨x,mCM _ hx,e⟩
     ·rintro ⟨x,hx,e⟩
      rcases List.mem_cons.1 hx with rfl|hx
      ·exact absurd e hij
      ·exact⟨x,hx,e⟩
   ·rcases List.mem_cons.1 hx with rfl|hx
    ·exact hin
    ·exact h6 x hx
   ·rcases List.mem_cons.1 hx with rfl|hx
    ·refine⟨hif,hdi,λo' ho'=>?_⟩
     obtain rfl:o'=o:=Option.some.inj (ho'.symm.trans hoi);show(execOp (J4 L (a.put (some d) u)).eval o').run P _=_;rw [Hd (ops:=ops) (IV hexo) λy hy hm'=>?_,execOp_put (ops:=ops) o' (IV hexo) a (some d) u λd' hd'=>?_]
     ·exact hrun
     ·cases hd'
      obtain⟨oi',hoi',hnl⟩:=hq.dst i hin;obtain rfl:oi'=o':=Option.some.inj (hoi'.symm.trans hoi);exact hnl _ hd
     ·obtain⟨k1,k2⟩:=hLi y hy
      obtain⟨e,he,hb,hon'⟩:=(hq.ne y.1 i y.2.1 o' (h6 y hy) hin k1 (h7 y hy).2.1 hoi).2 hm';have h8:=hq.back i o' e hoi he hb;rw [hon']at h8;rw [hminL y.1 h8]at k2;cases k2
    ·exact h7 x hx
theorem Nr: ∀ (l l':List Nat),l.Nodup->(∀x∈l,x∈l')->l.length<=l'.length
 | [],_,_,_=>Nat.zero_le _
 |a::l,l',hn,hs=>by
  have hn:=List.nodup_cons.1 hn;have h1:=Nr l (l'.erase a) hn.2 λx hx=>(List.mem_erase_of_ne (by grind)).2 (hs x (mCM _ hx))
  grind
theorem X7{Q:Exit->Act->World->Prop}(hq:QOK ops n)(fl:FLS ops n fs)(hk:FlK P ops fs)(hm:MOK (isA h ops) (isB h ops) ops n m)
  (hst: ∀j,j<n->∀o,ops[j]? =some o->ID P h ops σ o (BY ops r m t0 j) (r j) (m j))
  {a0:Act} (hend: ∀a w D T,PR C h.n σ ρ F (BY ops r m t0 n) a w D T->(∀x b,T x b->Pa ops n X x)->(∀x,(∀i,i<n->AA ops i≠some x)->a.tmps[x]? =a0.tmps[x]?)->wpList P ops Q (ops.toList.drop n) a w)
  (hend0: ∀a w D T,PR C h.n σ ρ F (BY ops r m t0 n) a w D T->(∀x b,T x b->Pa ops n X x)->(∀x,(∀i,i<n->AA ops i≠some x)->a.tmps[x]? =a0.tmps[x]?)->wpList P ops (QN Q) (ops.toList.drop n) a w)
  (hH: ∀a w D T,PR C h.n σ ρ F (BY ops r m t0 n) a w D T->(∀x b,T x b->Pa ops n X x)->(∀x,(∀i,i<n->AA ops i≠some x)->a.tmps[x]? =a0.tmps[x]?)->FlH P ops n fs a w):
  ∀ (fuel:Nat) (listed:Array Bool) (a:Act) (w:World) (D:Nat->Prop) (T:Nat->Nat->Prop),HeadInv .any ops n listed->unl listed n+(ops.size-n)<=fuel->
   PR C h.n σ ρ F (pt ops n r m t0 listed) a w D T->(∀x b,T x b->Pa ops n X x)->(∀x,(∀i,i<n->AA ops i≠some x)->a.tmps[x]? =a0.tmps[x]?)->AlI h ops n listed a->wpAny P .any ops Q fuel listed a w:=by
 have hsz:=fl.lt1;intro fuel
 induction fuel with
 |zero=>intro listed a w D T inv hf;omega
 |succ f ih=>
  intro listed a w D T inv hf hp hT hA hI;have hle:=hq.le;by_cases hall: ∀i,i<n->listed.getD i true=true
  ·rw [VR hq hm inv.size hall]at hp
   refine I4 hq (.inr fl.chain) (f+1) n listed a w (Nat.le_refl _) hle (by omega) inv.size (λj hj=>?_) (hend _ _ _ _ hp hT hA)
   by_cases hjn:j<n
   ·rw [hall j hjn];simp [hjn]
   ·rw [inv.tail j (by omega) hj];simp [hjn]
  ·have hex: ∃i,i<n/\listed.getD i true=false:=by
    apply Classical.byContradiction;intro hno;apply hall;intro i hi;cases hu:listed.getD i true with
    |true=>rfl
    |false=>exact absurd ⟨i,hi,hu⟩ hno
   obtain⟨i,⟨hin,hun⟩,hmin⟩:=OT hex;have hoi:ops[i]? =some ops[i]:=by
    have:i<ops.size:=by omega
    simp [this]
   have hir:i∈Region.ready .any ops listed:=by
    refine mem_ready.2 ⟨hun,ops[i],hoi,λe he hb=>?_⟩
    have h1:=hq.back i ops[i] e hoi he hb;have h2:=hmin e.on h1;have h3:e.on<listed.size:=by rw [inv.size];omega
    cases hu:listed.getD e.on true with
    |false=>exact absurd ⟨by omega,hu⟩ h2
    |true=>simp [h3]at hu⊢;exact hu
   refine⟨λh0=>(by rw [h0]at hir;cases hir),λj hj=>?_⟩
   have hjs:j<ops.size:=by
    obtain⟨_,o,ho,_⟩:=mem_ready.1 hj;exact(Array.getElem?_eq_some_iff.1 ho).1
   rcases Nat.lt_or_ge j n with hjn|hjn
   case inr=>
    obtain⟨hju,oj,hoj,hallj⟩:=mem_ready.1 hj;have hjn':j=n:=by
     have h2:=aET.1 fl.chain j (List.mem_range.2 hjs);simp only [Bool.or_eq_true,decide_eq_true_eq]at h2;rcases h2 with h2|h2
     ·omega
     ·by_cases he:j=n
      ·exact he
      ·obtain⟨o',ho',e,he',hb,hon⟩:=Region.waitsFor_spec h2
       obtain rfl:o'=oj:=Option.some.inj (ho'.symm.trans hoj);have h3:=hallj e he' hb;rw [hon,getD_both (inv.tail (j-1) (by omega) (by omega))]at h3
       cases h3
    subst hjn';have hlst: ∀c k,j-k=c->k<j->k∉fs->listed.getD k false=true:=by
     intro c
     induction c using Nat.strongRecOn with
     |_ c ihc=>
      intro k hc hk hkf;obtain⟨j',g1,g2,g3,g4⟩:=fl.others k hk hkf;obtain⟨o',ho',e,he',hb,hon⟩:=Region.waitsFor_spec g4;rcases Nat.lt_or_ge j' j with h5|h5
      ·have h6:=ihc (j-j') (by omega) j' rfl h5 g3
       have h7:=inv.closed j' o' ho' h6 e he' hb;rwa [hon]at h7
      ·obtain rfl:j'=j:=by omega
       obtain rfl:o'=oj:=Option.some.inj (ho'.symm.trans hoj);have h7:=hallj e he' hb;rwa [hon]at h7
    have hfs: ∀k,k<j->listed.getD k true=false->k∈fs:=by
     intro k hk hu;apply Classical.byContradiction;intro hkf;have h1:=hlst _ k rfl hk hkf;have h2:k<listed.size:=by rw [inv.size];omega
     simp [h2]at h1 hu;rw [h1]at hu;cases hu
    obtain⟨L,D2,T2,k1,k2,k3,k4,k5,k6,k7⟩:=replay (X:=X) hq fl hk hm hst (a0:=a0) _ listed a w D T rfl inv hfs hp hT hA hI;have hLlen:L.length<=unl listed j:=by
     have h1:(L.map (·.1)).Nodup:=List.pairwise_map.2 k4
     have h2: ∀x∈L.map (·.1),x∈(List.range j).filter λi=>!listed.getD i true:=by
      intro x hx;obtain⟨y,hy,rfl⟩:=List.mem_map.1 hx;refine List.mem_filter.2 ⟨List.mem_range.2 (k6 y hy),?_⟩;rw [(k5 y.1 (k6 y hy)).2 ⟨y,hy,rfl⟩];rfl
     have h3:=Nr _ _ h1 h2;rw [List.length_map,<-List.countP_eq_length_filter]at h3;exact h3
    have hgi:wpAny P .any ops Q (f+1) listed a w:=by
     refine GI.go hq fl (f+1) L j listed a w (.inl rfl) (by omega) ⟨inv.size,λk hk=>?_,k4,k7,hend0 _ _ _ _ k1 k2 k3,λ_=>hH _ _ _ _ k1 k2 k3⟩
     by_cases hkj:k<j
     ·cases hu:listed.getD k true with
      |true=>exact(dT ⟨hkj,λx hx e=>by
        have:=(k5 k hkj).2 ⟨x,hx,e⟩;rw [hu]at this;cases this⟩).symm
      |false=>
       obtain⟨x,hx,e⟩:=(k5 k hkj).1 hu;exact(dF λhh=>hh.2 x hx e).symm
     ·rw [inv.tail k (by omega) hk]
      exact(dF λhh=>hkj hh.1).symm
    exact hgi.2 j hj
   have hju:=(mem_ready.1 hj).1;have hcount:=Oe (by rw [inv.size];exact hjs) hju n
   rw [if_pos hjn]at hcount;refine IX (Hs hq hm inv hjn hj hst hp hT (hI.at hq hjn hj) λa' w' D' T' hp' hT' htm' hmv=>ih _ a' w' D' T' (inv.set hj hjn) (by omega) hp' hT' (λx hx=>(htm' x (hx j hjn)).trans (hA x hx)) (hI.set hq hst inv hjn hp.sz htm' hmv))
end
end Go.Ve


namespace Go.Ve
open Go
variable{w w':World}
theorem KS.prog:KS w w' Go.program:=⟨λP w w1 n h=>by simp_all,λP n h=>by simp_all⟩
theorem KS.under(t:TypeId):KS w w' (underlying t):=by
 refine KS.prog.bind λp=>?_
 split
 ·exact KS.pure _
 ·exact Bn.stuck.ks
theorem KS.info(t:TypeId):KS w w' (typeInfo t):=by
 refine KS.prog.bind λp=>?_
 split
 ·exact KS.pure _
 ·exact Bn.stuck.ks
theorem KS.size(t:TypeId):KS w w' (sizeOf t):=by
 exact(KS.info t).bind λi=>KS.pure _
theorem KS.agg(t:TypeId):KS w w' (isAgg t):=by
 refine(KS.under t).bind λd=>?_
 split<;>exact KS.pure _
theorem KS.sure(v:Value):KS w w' (Instr.sureAddr v):=by
 unfold Instr.sureAddr;split
 ·exact KS.pure _
 ·exact Bn.stuck.ks
theorem KS.int(v:Value):KS w w' (asIntOf v):=by
 unfold asIntOf;split
 ·exact KS.pure _
 ·exact Bn.ks λP w w1 n e=>by cases e
 ·exact Bn.stuck.ks
theorem Bn.goPanic{α:Type}(v:Value):Bn (goPanic v:Sem α):=λP w w1 n e=>by cases e
theorem Bn.bounds{α:Type}(k:IntKind)(x y:Int)(c:BoundsCode):Bn (boundsPanic k x y c:Sem α):=by
 have h: ∀s,Bn (runtimePanic (RuntimeError.bounds (IntKind.i64.wrap x) y s c):Sem α):=λs=>by
  exact Bn.bindR λp=>Bn.goPanic _
 unfold boundsPanic;split
 ·exact Bn.bindR h
 grind
theorem Iy.load(a:Addr)(m:Mode):Iy (load a m):=by
 intro P w w1 n h;rw [run_load]at h
 grind
theorem Iy.loadCells(a:Addr): ∀ (n i:Nat) (xs:Array Value),Iy (loadCellsFrom a i n xs)
 |0,i,xs=>Iy.pure _
 |n+1,i,xs=>(Iy.load _ _).bind λv=>Iy.loadCells a n (i+1) (xs.push v)
theorem Iy.loadVar(t:TypeId)(a:Addr):Iy (loadVar t a):=by
 refine(KS.agg (w:=default) (w':=default) t).1.bind λb=>?_
 split
 ·refine(KS.size (w:=default) (w':=default) t).1.bind λk=>?_
  exact(Iy.loadCells a k 0 #[]).bind λl=>Iy.pure _
 ·exact Iy.load _ _
theorem Bn.unsup{α:Type}(u:Unsupported):Bn (unsupported u:Sem α):=λP w w1 n e=>by cases e
theorem KS.place(t:TypeId)(k:IntKind)(i:Int)(tiny:Bool)(base:Option Addr)(len:Nat):KS w w' (match base with
  |some a=>if 0<=i/\i<(len:Int)then(do
    let s<-Go.sizeOf t
    Pure.pure (Value.pointer (some (a.add (i.toNat * s))))) else if tiny = true then unsupported (Unsupported.noEntry "op/indexAddr.an index out of range at an array of length 0 or 1 (ledger 616)") else boundsPanic k i (len : Int) BoundsCode.index
  |none=>boundsPanic k i 0 BoundsCode.index):=by
 split
 ·split
  ·exact(KS.size t).bind λs=>KS.pure _
  ·split
   ·exact(Bn.unsup _).ks
   ·exact(Bn.bounds _ _ _ _).ks
 ·exact(Bn.bounds _ _ _ _).ks
theorem KS.indexAt{w w':World}(t:TypeId)(x i:Value):KS w w' (Instr.indexAt t x i):=by
 unfold Instr.indexAt;refine(KS.int i).bind λki=>?_
 refine(KS.under t).bind λd=>?_
 simp only;split
 ·refine(KS.sure _).bind λa=>?_
  refine(KS.pure _).bind λz=>?_
  exact(KS.under t).bind λd2=>KS.place _ _ _ _ _ _
 ·exact(KS.under t).bind λd2=>KS.place _ _ _ _ _ _
 ·exact(Bn.bind Bn.stuck).ks
end Go.Ve
namespace Go.Ve
open Go
variable{a:Addr}{ops:Array Oper}{fs:List Nat}{P:Program}{t:TypeId}{w w':World}
theorem JL{k off sz:Nat}(h:Uq P t k=some (off,sz))(v:Value)(w:World):(∃a,v= .pointer (some a)/\(Instr.fieldAt t v k).run P w= .ok (.pointer (some (a.add off))) w)\/((∀a,v≠.pointer (some a))/\∃x,(Instr.fieldAt t v k).run P w= .halt x w):=by
 unfold Uq at h;split at h
 case h_2=>cases h
 rename_i fs hu;split at h
 case h_2=>cases h
 rename_i f hf;split at h
 case h_2=>cases h
 rename_i i hi;split at h
 case isFalse=>cases h
 rename_i hpos;cases h
 have e1:(underlying t).run P w= .ok (.struct fs) w:=by
  unfold underlying
  simp_all
 have e2:(sizeOf f.type).run P w= .ok i.size w:=by
  unfold Go.sizeOf typeInfo
  simp_all
 unfold Instr.fieldAt;simp only [Sem.run_bind,e1,Result.andThen_ok,hf]
 have key: ∀a,((Instr.sureAddr v).run P w= .ok a w)->(fieldPlace a f).run P w= .ok (a.add f.offset) w:=λa _=>by
  unfold fieldPlace;have hne:i.size≠0:=by omega
  simp only [Sem.run_bind,e2,Result.andThen_ok,if_neg hne];rfl
 cases hs:(Instr.sureAddr v).run P w with
 |halt x w2=>
  right;unfold Instr.sureAddr at hs;split at hs
  ·cases hs
  ·rename_i hno
   cases hs;exact⟨λa e=>hno a e,_,rfl⟩
 |ok a w2=>
  left
  have hv:v= .pointer (some a)/\w2=w:=by
   unfold Instr.sureAddr at hs;split at hs
   ·cases hs;exact⟨rfl,rfl⟩
   ·cases hs
  simp_all
def FlT(P:Program)(ops:Array Oper)(fs:List Nat):Prop:=∀f∈fs,∀o,ops[f]? =some o->AaO o.op=true/\∀t x k,o.op= .fieldAddr t x k->∃off sz,Uq P t k=some (off,sz)
theorem FlT.keep(h:FlT P ops fs):FlK P ops fs:=by
 intro f hf o ho ρ w n w1 hr;obtain⟨he,hfl⟩:=h f hf o ho
 have kv: ∀ {s:Sem Value},(∀u w2,s.run P w= .ok u w2->w2=w)->((s>>=λv=>Pure.pure (Next.value v):Sem Next).run P w= .ok n w1)->∃u,n= .value u/\w1=w:=by
  intro s hk h;rw [Sem.run_bind]at h;cases hs:s.run P w with
  |halt x w2=>rw [hs]at h;cases h
  |ok u w2=>
   rw [hs]at h;have:=hk u w2 hs;cases h;exact⟨u,rfl,this⟩
 cases hop:o.op with
 |fieldAddr t x k=>
  obtain⟨off,sz,hfo⟩:=hfl t x k hop;have e:execOp ρ o=(Instr.fieldAt t (ρ x) k>>=λv=>Pure.pure (Next.value v)):=by unfold execOp;rw [hop]
  rw [e]at hr;refine kv (λu w2 hs=>?_) hr
  rcases JL hfo (ρ x) w with⟨a,_,h2⟩|⟨_,x,h2⟩
  ·rw [h2]at hs;cases hs;rfl
  ·rw [h2]at hs;cases hs
 |load t x=>
  have e:execOp ρ o=(Instr.loadAt t (ρ x)>>=λv=>Pure.pure (Next.value v)):=by unfold execOp;rw [hop]
  rw [e]at hr;refine kv (λu w2 hs=>?_) hr
  refine Iy.bind (KS.sure (w:=w) (w':=w) (ρ x)).1 (λa=>Iy.loadVar t a) P w w2 u hs
 |move x=>
  have e:execOp ρ o=Pure.pure (Next.value (ρ x)):=by unfold execOp;rw [hop]
  rw [e]at hr;cases hr;exact⟨_,rfl,rfl⟩
 |indexAddr t x i=>
  have e:execOp ρ o=(Instr.indexAt t (ρ x) (ρ i)>>=λv=>Pure.pure (Next.value v)):=by unfold execOp;rw [hop]
  rw [e]at hr;exact kv (λu w2 hs=>(KS.indexAt (w:=w) (w':=w) t (ρ x) (ρ i)).1 P w w2 u hs) hr
 |_=>rw [hop]at he;cases he
theorem NZ(h:w'.heap[a.block]? =w.heap[a.block]?):w'.cell? a=w.cell? a:=by
 unfold World.cell?
 grind
theorem Ui{m:Mode}(h:w'.heap[a.block]? =w.heap[a.block]?)(hc: ∃y,w.cell? a=some y){n:Value}(hr:(load a m).run P w= .ok n w):(load a m).run P w'= .ok n w':=by
 obtain⟨y,hy⟩:=hc;rw [run_load]at hr⊢;rw [NZ h,hy]
 grind
theorem W2{n:Nat}:(a.add n).block=a.block:=by
 unfold Addr.add
 grind
theorem KI{P:Program}{w w':World}{a:Addr}(h:w'.heap[a.block]? =w.heap[a.block]?): ∀ (n i:Nat) (xs:Array Value) (r:Array Value),(∀k,i<=k->k<i+n->∃y,w.cell? (a.add k)=some y)->(loadCellsFrom a i n xs).run P w= .ok r w->(loadCellsFrom a i n xs).run P w'= .ok r w'
 |0,i,xs,r,_,hr=>by cases hr;rfl
 |n+1,i,xs,r,hc,hr=>by
  have e: ∀w,(loadCellsFrom a i (n+1) xs).run P w=((load (a.add i)).run P w).andThen λv w2=>(loadCellsFrom a (i+1) n (xs.push v)).run P w2:=λw=>by
   show((load (a.add i))>>=λv=>loadCellsFrom a (i+1) n (xs.push v)).run P w=_
   simp
  rw [e]at hr⊢;obtain⟨y,hy⟩:=hc i (Nat.le_refl _) (by simp)
  have h1: ∀ {w:World},w.cell? (a.add i)=some y->(load (a.add i)).run P w= .ok y w:=λhw=>by simp_all
  rw [h1 hy]at hr;rw [h1 ((NZ (by rw [W2];omega)).trans hy)]
  exact KI h n (i+1) (xs.push y) r (λk h1 h2=>hc k (by omega) (by omega)) hr
theorem Ny(h:w'.heap[a.block]? =w.heap[a.block]?)(hc0: ∃y,w.cell? a=some y)(hc: ∀s,(sizeOf t).run P w= .ok s w->∀k,k<s->∃y,w.cell? (a.add k)=some y){r:Value}(hr:(loadVar t a).run P w= .ok r w):(loadVar t a).run P w'= .ok r w':=by
 unfold loadVar at hr⊢;rw [Sem.run_bind]at hr⊢;cases h1:(isAgg t).run P w with
 |halt x w2=>rw [h1]at hr;cases hr
 |ok b w2=>
  have e1:=(KS.agg (w:=w) (w':=w') t).1 P w w2 b h1;subst e1;rw [(KS.agg (w:=w2) (w':=w') t).2 P b h1];rw [h1]at hr;simp only [Result.andThen_ok]at hr⊢;cases b with
  |false=>exact Ui h hc0 hr
  |true=>
   simp only [if_true]at hr⊢;rw [Sem.run_bind]at hr⊢;cases h2:(sizeOf t).run P w2 with
   |halt x w3=>simp_all
   |ok s w3=>
    have e2:=(KS.size (w:=w2) (w':=w') t).1 P w2 w3 s h2;subst e2;rw [(KS.size (w:=w3) (w':=w') t).2 P s h2];rw [h2]at hr;simp only [Result.andThen_ok]at hr⊢;rw [Sem.run_bind]at hr⊢;cases h3:(loadCells a s).run P w3 with
    |halt x w4=>rw [h3]at hr;cases hr
    |ok l w4=>
     have e3:=Iy.loadCells a s 0 #[] P w3 w4 l h3;subst e3;rw [show(loadCells a s).run P w'= .ok l w' from KI h s 0 #[] l (λk _ hk=>hc s h2 k (by omega)) h3]
     simp_all
def FlL(P:Program)(ops:Array Oper)(fs:List Nat)(a:Act)(w w':World):Prop:=∀f∈fs,∀o,ops[f]? =some o->∀t x,o.op= .load t x->∀ad,a.eval x= .pointer (some ad)->
 w'.heap[ad.block]? =w.heap[ad.block]?/\(∃y,w.cell? ad=some y)/\∀s,(sizeOf t).run P w= .ok s w->∀k,k<s->∃y,w.cell? (ad.add k)=some y
theorem FlT.same(h:FlT P ops fs){a:Act}(hl:FlL P ops fs a w w'): ∀f∈fs,∀o,ops[f]? =some o->∀u,(execOp a.eval o).run P w= .ok (.value u) w->(execOp a.eval o).run P w'= .ok (.value u) w':=by
 intro f hf o ho u hr;obtain⟨he,hfl⟩:=h f hf o ho
 have kv: ∀ {s:Sem Value},(∀w2,s.run P w= .ok u w2->s.run P w'= .ok u w')->((s>>=λv=>Pure.pure (Next.value v):Sem Next).run P w= .ok (.value u) w)->((s>>=λv=>Pure.pure (Next.value v):Sem Next).run P w'= .ok (.value u) w'):=by
  intro s hk h;rw [Sem.run_bind]at h⊢;cases hs:s.run P w with
  |halt x w2=>rw [hs]at h;cases h
  |ok u2 w2=>
   rw [hs]at h;have e:u2=u:=by cases h;rfl
   subst e;rw [hk w2 hs];rfl
 cases hop:o.op with
 |fieldAddr t x k=>
  obtain⟨off,sz,hfo⟩:=hfl t x k hop;have e:execOp a.eval o=(Instr.fieldAt t (a.eval x) k>>=λv=>Pure.pure (Next.value v)):=by unfold execOp;rw [hop]
  rw [e]at hr⊢;refine kv (λw2 hs=>?_) hr
  rcases JL hfo (a.eval x) w with⟨ad,h1,h2⟩|⟨_,x,h2⟩
  ·rw [h2]at hs
   cases hs;rcases JL hfo (a.eval x) w' with⟨ad',h3,h4⟩|⟨h3,y,h4⟩
   ·rw [h1]at h3;cases h3;exact h4
   ·exact absurd h1 (h3 ad)
  ·rw [h2]at hs;cases hs
 |load t x=>
  have e:execOp a.eval o=(Instr.loadAt t (a.eval x)>>=λv=>Pure.pure (Next.value v)):=by unfold execOp;rw [hop]
  rw [e]at hr⊢;refine kv (λw2 hs=>?_) hr
  unfold Instr.loadAt at hs⊢;rw [Sem.run_bind]at hs⊢;unfold Instr.sureAddr at hs⊢;split at hs
  ·rename_i ad had
   obtain⟨h1,h2,h3⟩:=hl f hf o ho t x hop ad had;have hs:(loadVar t ad).run P w= .ok u w2:=hs;have:=Iy.loadVar t ad P w w2 u hs;subst this;exact Ny h1 h2 h3 hs
  ·cases hs
 |move x=>
  have e:execOp a.eval o=Pure.pure (Next.value (a.eval x)):=by unfold execOp;rw [hop]
  rw [e]at hr⊢;cases hr;rfl
 |indexAddr t x i=>
  have e:execOp a.eval o=(Instr.indexAt t (a.eval x) (a.eval i)>>=λv=>Pure.pure (Next.value v)):=by unfold execOp;rw [hop]
  rw [e]at hr⊢;refine kv (λw2 hs=>?_) hr
  have:=(KS.indexAt (w:=w) (w':=w') t (a.eval x) (a.eval i)).1 P w w2 u hs;subst this;exact(KS.indexAt (w:=w2) (w':=w') t (a.eval x) (a.eval i)).2 P u hs
 |_=>rw [hop]at he;cases he
end Go.Ve


namespace Go.Ve
variable{a:Act}{C:Ctx}{σ:List V}{N d id y:Nat}{Al F T:Nat->Nat->Prop}{D:Nat->Prop}{t:Nat->V}{ρ:Nat->Value}{o:Oper}{P:Program}{c1 r:V}{w:World}
def FCU(P:Program)(f:FuncId)(k:Nat)(args:List V)(c0 r c1:V):Prop:=
 ∀ (w:World) (D H:Nat->Prop) (cvs:Array Value),Wok w->(∀p,AaG=some p->¬H p.1)->(∀b,D b->b<w.heap.size)->(∀b,H b->¬D b)->cvs.size=args.length->
  Rel D w noR c0 (cvs.getD k undef) H->(∀i,i<args.length->i≠k->Rel D w noR (args.getD i .dead) (cvs.getD i undef) noF)->
  Calls P f cvs w λe w'=>∃cv fp D' H',e= .returned cv/\Fr w w' H/\Rel D' w' noR r cv fp/\Rel D' w' noR c1 (cvs.getD k undef) H'/\
   (∀b,fp b->H b\/w.heap.size<=b)/\(∀b,H' b->H b\/w.heap.size<=b)/\(∀b,fp b->¬H' b)/\
   (∀b,D b->D' b)/\(∀b,D' b->D b\/H b\/w.heap.size<=b)/\∀b,D' b->b<w'.heap.size/\¬fp b/\¬H' b
def clean:V->Prop
 | .many _ n f=>∀k,k<n->clean (f k)
 | .rs _ _ _ _=>False
 | .rp _ _ _ _=>False
 |_=>True
theorem Rel.clean{D:Nat->Prop}{w:World}: ∀ (v:V) (R R':V->Value->Prop) (cv:Value) (fp:Nat->Prop),Go.Ve.clean v->Rel D w R v cv fp->Rel D w R' v cv fp:=by
 intro v
 induction v with
 |c v=>intro R R' cv fp _ h;exact h
 |dead=>intro R R' cv fp _ h;exact h
 |many t n f ih=>
  intro R R' cv fp hc h;obtain⟨cs,F,hcv,hn,hr,hd,hf⟩:=h;exact⟨cs,F,hcv,hn,λk hk=>ih k R R' _ _ (hc k hk) (hr k hk),hd,hf⟩
 |nd s own sz n f ih=>intro R R' cv fp _ h;exact h
 |rs=>intro R R' cv fp hc h;trivial
 |rp=>intro R R' cv fp hc h;trivial
def KK(c:V):Prop:=∃s sz n f,c= .nd s true sz n f/\(s=false\/0<n)
theorem KK.some{R:V->Value->Prop}{c:V}{cv:Value}{H:Nat->Prop}(hc:KK c)(h:Rel D w R c cv H): ∃b,H b:=by
 obtain⟨s,sz,n,f,rfl,hs⟩:=hc;rcases h with⟨h1,h2,_⟩|⟨b,o,cap,F,hcv,hcap,hmax,hs1,hr,hi,ho⟩
 ·grind
 ·exact⟨b,((ho rfl).2.2.2 b).2 (.inl rfl)⟩
section
variable {C:Ctx} {N:Nat} {σ:List V} {ρ:Nat->Value} {F:Nat->Nat->Prop} {t:Nat->V} {a:Act} {w:World} {D:Nat->Prop} {T:Nat->Nat->Prop}
theorem PR.turn(h:PR C N σ ρ F t a w D T){v':Value}{fp H' D':Nat->Prop}{w':World}(hy:y<N)(hdn:d<N)(hyd:y≠d)(hfr:Fr w w' (T y))(hr:Rel D' w' noR r v' fp)(hc:Rel D' w' noR c1 (a.tmps.getD y undef) H')
  (hf: ∀b,fp b->T y b\/w.heap.size<=b) (hH: ∀b,H' b->T y b\/w.heap.size<=b) (hfH: ∀b,fp b->¬H' b) (hd1: ∀b,D b->D' b) (hd2: ∀b,D' b->D b\/T y b\/w.heap.size<=b) (hd3: ∀b,D' b->b<w'.heap.size/\¬fp b/\¬H' b):
  PR C N σ ρ F (Az (AH [(y,.put c1)] t) d r) (a.put (some d) v') w' D' (λx b=>if x=d then fp b else if x=y then H' b else T x b):=by
 have hFlt: ∀i b,F i b->b<w.heap.size:=h.wr.lt;have hTlt: ∀x b,T x b->b<w.heap.size:=by
  intro x b hb;by_cases hx:x<N
  ·exact Rel.lt _ _ _ (h.tm x hx) b hb
  ·exact absurd hb (h.tx x b (Nat.le_of_not_lt hx))
 have kM: ∀x,AH [(y,.put c1)] t x=if x=y then c1 else t x:=by
  intro x;unfold AH;by_cases hx:x=y
  ·subst hx
   rw [if_pos rfl];show HE (if x=x then some (.put c1)else none) _=_
   rw [if_pos rfl];rfl
  ·rw [if_neg hx]
   show HE (if y=x then some (.put c1)else none) _=_
   rw [if_neg (Ne.symm hx)];rfl
 have hD: ∀b,D b->w'.heap[b]? =w.heap[b]?:=λb hb=>hfr.block b (h.wr.Dlt b hb) λhT=>h.tD y b hT hb
 have hFs: ∀i b,F i b->w'.heap[b]? =w.heap[b]?:=λi b hb=>hfr.block b (hFlt i b hb) λhT=>h.tF i y b hb hT
 have hTs: ∀x b,x≠y->T x b->w'.heap[b]? =w.heap[b]?:=λx b hx hb=>hfr.block b (hTlt x b hb) λhT=>h.tT x y b hx hb hT
 have wr':Bj σ w' D' ρ F:=by
  refine⟨λi hi=>Rel.mono hd1 (λ_ _ h=>h) _ _ _ (λb hb=>hb.elim (hD b) (hFs i b)) (h.wr.rel i hi),h.wr.disj,λi b hb hDb=>?_,λb hb=>(hd3 b hb).1,h.wr.out⟩
  rcases hd2 b hDb with h1|h1|h1
  ·exact h.wr.dD i b hb h1
  ·exact h.tF i y b hb h1
  ·have:=hFlt i b hb;omega
 have hW: ∀b,T y b\/w.heap.size<=b->C.W b\/C.w0.heap.size<=b:=λb hb=>hb.elim (h.tn y b) λhb=>.inr (Nat.le_trans h.fr.size hb)
 refine⟨h.df,by rw [BK];simpa using h.sz,λx hx=>?_,wr',λx hx=>?_,λx b hb=>?_,λi x b hb hT=>?_,λx z b hxz h1 h2=>?_,λx b hb=>?_,⟨hfr.os.trans h.fr.os,hfr.tape.trans h.fr.tape,hfr.output.trans h.fr.output,Nat.le_trans h.fr.size hfr.size,λb hb hWb=>?_,Nat.le_trans h.fr.drawn hfr.drawn⟩,h.Fn,λb hb=>hd1 b (h.D1 b hb),λb hb hlt=>?_,h.rt,h.ml,λx b hx hb=>?_⟩
 ·have h1: ¬x=d:=by omega
  have h2: ¬x=y:=by omega
  simp only [Az,h1,if_false];rw [kM,if_neg h2];exact h.dd x hx
 ·have hlt:x<a.tmps.size:=by rw [h.sz];exact hx
  rw [BK];by_cases he:x=d
  ·subst he
   simp only [Az,if_true];have:Rel D' w' (Ag σ ρ w') r v' (λb=>if x=x then fp b else if x=y then H' b else T x b):=Rel.fp_congr (λb=>by rw [if_pos rfl]) (Rel.noR_mono hr)
   simpa [hlt]using this
  ·simp only [Az,he,if_false]
   rw [Array.getD_eq_getD_getElem?,Array.getElem?_setIfInBounds_ne (Ne.symm he),<-Array.getD_eq_getD_getElem?,kM];by_cases hxy:x=y
   ·subst hxy
    simp only [if_true];exact Rel.noR_mono hc
   ·simp only [hxy,if_false]
    exact Rel.mono hd1 (λv cv hv=>Ag.same h.wr hFs v cv hv) _ _ _ (λb hb=>hb.elim (hD b) (hTs x b hxy)) (h.tm x hx)
 ·split at hb
  ·exact λhDb=>(hd3 b hDb).2.1 hb
  ·split at hb
   ·exact λhDb=>(hd3 b hDb).2.2 hb
   ·rename_i hxy
    intro hDb;rcases hd2 b hDb with h1|h1|h1
    ·exact h.tD x b hb h1
    ·exact h.tT x y b hxy hb h1
    ·have:=hTlt x b hb;omega
 ·have key:T y b\/w.heap.size<=b->False:=λh1=>h1.elim (h.tF i y b hb) λh1=>by have:=hFlt i b hb;omega
  split at hT
  ·exact key (hf b hT)
  ·split at hT
   ·exact key (hH b hT)
   ·exact h.tF i x b hb hT
 ·have key: ∀x,x≠y->T x b->T y b\/w.heap.size<=b->False:=λx hxy hx h1=>h1.elim (h.tT x y b hxy hx) λh1=>by have:=hTlt x b hx;omega
  split at h1<;>split at h2
  ·omega
  ·split at h2
   ·exact hfH b h1 h2
   ·rename_i _ _ hz;exact key z hz h2 (hf b h1)
  ·split at h1
   ·exact hfH b h2 h1
   ·rename_i hx _;exact key x (by assumption) h1 (hf b h2)
  ·split at h1<;>split at h2
   ·omega
   ·exact key z (by assumption) h2 (hH b h1)
   ·exact key x (by assumption) h1 (hH b h2)
   ·exact h.tT x z b hxz h1 h2
 ·split at hb
  ·exact hW b (hf b hb)
  ·split at hb
   ·exact hW b (hH b hb)
   ·exact h.tn x b hb
 ·rw [hfr.block b (Nat.lt_of_lt_of_le hb h.fr.size) λhT=>by
   rcases h.tn y b hT with h1|h1
   ·exact hWb h1
   ·omega]
  exact h.fr.block b hb hWb
 ·rcases hd2 b hb with h1|h1|h1
  ·exact h.D2 b h1 hlt
  ·rcases h.tn y b h1 with h2|h2
   ·exact .inr h2
   ·omega
  ·have:=h.fr.size;omega
 ·have h1: ¬x=d:=by omega
  have h2: ¬x=y:=by omega
  simp only [h1,h2,if_false]at hb;exact h.tx x b hx hb
end
theorem Ag.setD{u:V}(hd:σ.getD id .dead= .dead): ∀v cv,Ag σ ρ w v cv->Ag (σ.set id u) ρ w v cv:=by
 have ne: ∀ {p:List (Nat×Nat)} {cv cv':Value} {s o:Bool} {sz n:Nat} {f:Nat->Nat->V},¬At w p .dead cv (.nd s o sz n f) cv':=by
  intro p cv cv' s o sz n f h;cases p with
  |nil=>cases h.1
  |cons _ _=>exact h
 have get: ∀ {i:Nat},i≠id->(σ.set id u).getD i .dead=σ.getD i .dead:=by
  grind
 intro v cv h;cases v with
 |rs i p off len=>
  obtain⟨h1,sz,n,f,cn,hat,h2⟩:=h;have hi:i≠id:=by
   grind
  exact⟨by simpa using h1,sz,n,f,cn,by grind,h2⟩
 |rp i p j k=>
  obtain⟨h1,s,sz,n,f,b,o,cap,hat,h2⟩:=h;have hi:i≠id:=by
   grind
  exact⟨by simpa using h1,s,sz,n,f,b,o,cap,by grind,h2⟩
 |_=>exact h
theorem PR.back(h:PR C N σ ρ F t a w D T){sz:Nat}{f:Nat->Nat->V}(hy:y<N)(hid:id<σ.length)(hd:σ.getD id .dead= .dead)(ht:t y= .nd false true sz 1 f)(hsz:0<sz)(hv:a.tmps.getD y undef=ρ id):
  PR C N (σ.set id (t y)) ρ (λi b=>if i=id then T y b else F i b) (Az t y (.rp id [] 0 0)) a w D (λx b=>x≠y/\T x b):=by
 have get: ∀ {i:Nat},i≠id->(σ.set id (t y)).getD i .dead=σ.getD i .dead:=by
  intro i hi;simp only [gDE];rw [List.getElem?_set_ne (Ne.symm hi)]
 have self:(σ.set id (t y)).getD id .dead=t y:=by simp [hid]
 have hrel:Rel D w noR (t y) (ρ id) (T y):=by
  have h1:=h.tm y hy;rw [hv,ht]at h1;rw [ht];exact h1
 refine⟨h.df,h.sz,λx hx=>?_,⟨λi hi=>?_,λi j b hij h1 h2=>?_,λi b hb=>?_,h.wr.Dlt,λi b hi hb=>?_⟩,λx hx=>?_,λx b hb=>h.tD x b hb.2,λi x b hb hT=>?_,λx z b hxz h1 h2=>h.tT x z b hxz h1.2 h2.2,λx b hb=>h.tn x b hb.2,h.fr,λi b hb=>?_,h.D1,h.D2,h.rt,by simpa using h.ml,λx b hx hb=>h.tx x b hx hb.2⟩
 ·have: ¬x=y:=by omega
  simp only [Az,this,if_false];exact h.dd x hx
 ·have hi:i<σ.length:=by simpa using hi
  by_cases he:i=id
  ·subst he
   rw [self];exact Rel.fp_congr (λb=>by rw [if_pos rfl]) hrel
  ·rw [get he]
   exact Rel.fp_congr (λb=>by rw [if_neg he]) (h.wr.rel i hi)
 ·split at h1<;>split at h2
  ·omega
  ·exact h.tF j y b h2 h1
  ·exact h.tF i y b h1 h2
  ·exact h.wr.disj i j b hij h1 h2
 ·split at hb
  ·exact h.tD y b hb
  ·exact h.wr.dD i b hb
 ·have hi:σ.length<=i:=by simpa using hi
  rw [if_neg (by omega)]at hb
  exact h.wr.out i b hi hb
 ·by_cases he:x=y
  ·subst he
   simp only [Az,if_true];refine⟨?_,λb hb=>hb.1 rfl⟩
   rw [ht]at hrel;rcases hrel with⟨h1,_⟩|⟨b,o,cap,G,hcv,_⟩
   ·omega
   ·refine⟨by simpa using hid,false,sz,1,f,b,o,cap,⟨by rw [self,ht],hcv.symm⟩,by omega,hsz,?_⟩
    rw [hv,hcv];simp [As]
  ·simp only [Az,he,if_false]
   exact Rel.fp_congr (λb=>⟨λh=>⟨he,h⟩,λh=>h.2⟩) (Rel.mono (λ_ h=>h) (Ag.setD hd) _ _ _ (λ_ _=>rfl) (h.tm x hx))
 ·split at hb
  ·exact h.tT x y b hT.1 hT.2 hb
  ·exact h.tF i x b hb hT.2
 ·split at hb
  ·exact h.tn y b hb
  ·exact h.Fn i b hb
theorem Yz{Al:Nat->Nat->Prop}{σ:List V}{t:Nat->V}{f:FuncId}{xs:Array Operand}{ats:Array TypeId}{k z:Nat}{args:List V}{c0 r c1:V}(ho:o.op= .call ⟨.value (.func f),xs,ats⟩)(hd:o.dst=some d)(hdn:d<N)(hyn:y<N)(hyd:y≠d)(hcall:Aj P f=true)
  (hk:xs[k]? =some (.tmp z)) (hz:z=y\/Al z y) (ht:Sub (t y) c0) (hnd: ∃s sz n f,c0= .nd s true sz n f) (hb:KK c0\/c1= .dead) (hsz:xs.size=args.length) (hargs: ∀i x,i≠k->xs[i]? =some x->AE (Ms.ev ⟨t,σ⟩ x)=false/\clean (Ms.ev ⟨t,σ⟩ x)/\Sub (Ms.ev ⟨t,σ⟩ x) (args.getD i .dead)) (hc:FCU P f k args c0 r c1):
  LQ P N σ Al o t [(y,.put c1)] r:=by
 intro C ρ F a w D T t' hag hal hp next Q hn
 have hopx: ∀z,Operand.tmp z∈xs.toList->t' z=t z:=λz hz=>hag z (.inl<|C6 (by rw [ho];simp [Op.operands,Call.operands]at hz⊢;simp [hz]))
 have hrun:(execOp a.eval o).run P w= .ok (.enter f (xs.map a.eval)) w:=by
  unfold Aj at hcall;split at hcall
  ·rename_i fn hfn
   simp only [bAE,Bool.not_eq_true']at hcall;obtain⟨h1,h2⟩:=hcall;have h2':fn.body.isNone=false:=by cases hb:fn.body<;>simp [hb]at h2⊢
   have e0:a.eval (.func f)= .func (.func f) #[] #[]:=rfl;unfold execOp;rw [ho];simp [resolve,e0,Deferred.ofValue,invoke,callFunc,hfn,h2'];simp at h1;simp [h1];intro hb;simp [hb]at h2
  ·cases hcall
 have hks:k<xs.size:=(Array.getElem?_eq_some_iff.1 hk).1
 have hxk:(xs.map a.eval).getD k undef=a.tmps.getD y undef:=by
  have:xs[k]= .tmp z:=by
   have:=(Array.getElem?_eq_some_iff.1 hk).2;exact this
  have e:(xs.map a.eval).getD k undef=a.eval xs[k]:=by simp [hks]
  rw [e,this];show a.tmps.getD z undef=_;rcases hz with rfl|hz
  ·rfl
  ·exact hal z y hz
 have hty:t' y=t y:=hag y (.inr (by
  show(if y=y then some (Tk.put c1)else none)≠none
  rw [if_pos rfl];simp))
 have htm:=hp.tm y hyn;rw [hty]at htm;obtain⟨s0,sz0,n0,f0,hc0⟩:=hnd
 have hc0r:Rel D w noR c0 (a.tmps.getD y undef) (T y):=by
  have h1:=Rel.sub ht htm;rw [hc0]at h1⊢;exact h1
 unfold Oper.wp;rw [hrun,Oper.upon_enter];refine(hc w D (T y) (xs.map a.eval) hp.ok (λp hp' hT=>?_) hp.wr.Dlt (hp.tD y) (by simp [hsz]) (by rw [hxk];exact hc0r) λi hi hik=>?_).mono λe w' hpost=>?_
 ·rcases hp.tn y p.1 hT with h1|h1
  ·exact C.ok.2 p hp' h1
  ·have:=C.ok.1.lt hp';omega
 ·have hi':i<xs.size:=by omega
  have hxi:xs[i]? =some xs[i]:=by simp [hi']
  obtain⟨h1,h2,h3⟩:=hargs i xs[i] hik hxi;have hev:Ms.ev ⟨t',σ⟩ xs[i]=Ms.ev ⟨t,σ⟩ xs[i]:=by
   cases hx:xs[i]with
   |tmp z=>exact hopx z (by rw [<-hx];simp)
   |const v=>rfl
   |global g=>rfl
   |func f=>rfl
  obtain⟨fp,hrel,_⟩:=hp.ev xs[i];rw [hev]at hrel;rw [AY (Au _ _ _ h1 hrel)]at hrel;have e:(xs.map a.eval).getD i undef=a.eval xs[i]:=by simp [hi']
  rw [e];exact Rel.sub h3 (Rel.clean _ _ _ _ _ h2 hrel)
 ·obtain⟨cv,fp,D',H',rfl,hfr,hr',hc1,hf,hH,hfH,hd1,hd2,hd3⟩:=hpost
  rw [hxk]at hc1;have hp':=hp.turn (d:=d) hyn hdn hyd hfr hr' hc1 hf hH hfH hd1 hd2 hd3;rw [hd]at hn⊢;refine hn _ _ _ _ hp' (λx b hbb=>?_) λ_ hx=>Bt hx
  by_cases hxd:x=d
  ·exact .inl (by rw [hxd])
  ·right
   simp only [hxd,if_false]at hbb;by_cases hxy:x=y
   ·rw [if_pos hxy]at hbb
    rw [hxy];rcases hb with hb|hb
    ·exact KK.some hb hc0r
    ·rw [hb]at hc1
     exact absurd hbb (hc1 b)
   ·simp only [hxy,if_false]at hbb
    exact⟨b,hbb⟩
theorem PR.freeze(h:PR C N σ ρ F t a w D T)(hd:d<N):
  PR C N σ ρ F (Az t d (Go.Ve.frz (t d))) a w (λb=>D b\/T d b) (λx b=>x≠d/\T x b):=by
 have hTlt: ∀x b,T x b->b<w.heap.size:=by
  intro x b hb;by_cases hx:x<N
  ·exact Rel.lt _ _ _ (h.tm x hx) b hb
  ·exact absurd hb (h.tx x b (Nat.le_of_not_lt hx))
 refine⟨h.df,h.sz,λx hx=>?_,⟨λi hi=>Rel.mono (λ_ h=>.inl h) (λ_ _ h=>h) _ _ _ (λ_ _=>rfl) (h.wr.rel i hi),h.wr.disj,λi b hb hD=>?_,λb hb=>?_,h.wr.out⟩,λx hx=>?_,λx b hb hD=>?_,λi x b hb hT=>h.tF i x b hb hT.2,λx z b hxz h1 h2=>h.tT x z b hxz h1.2 h2.2,λx b hb=>h.tn x b hb.2,h.fr,h.Fn,λb hb=>.inl (h.D1 b hb),λb hb hlt=>?_,h.rt,h.ml,λx b hx hb=>h.tx x b hx hb.2⟩
 ·have: ¬x=d:=by omega
  simp [Az,this,if_false];exact h.dd x hx
 ·exact hD.elim (h.wr.dD i b hb) (h.tF i d b hb)
 ·exact hb.elim (h.wr.Dlt b) (hTlt d b)
 ·by_cases he:x=d
  ·subst he
   simp only [Az,if_true];exact Rel.fp_congr (λb=>⟨λh=>h.elim,λh=>(h.1 rfl).elim⟩) (Rel.frz _ _ _ (h.tm x hx))
  ·simp only [Az,he,if_false]
   exact Rel.fp_congr (λb=>⟨λh=>⟨he,h⟩,λh=>h.2⟩) (Rel.mono (λ_ h=>.inl h) (λ_ _ h=>h) _ _ _ (λ_ _=>rfl) (h.tm x hx))
 ·exact hD.elim (h.tD x b hb.2) (h.tT x d b hb.1 hb.2)
 ·rcases hb with hb|hb
  ·exact h.D2 b hb hlt
  ·rcases h.tn d b hb with h1|h1
   ·grind
   grind
theorem LQ.frzR{ys:List (Nat×Tk)}(h:LQ P N σ Al o t ys r)(hd:o.dst=some d)(hdn:d<N):LQ P N σ Al o t ys (Go.Ve.frz r):=by
 intro C ρ F a w D T t' hag hal hp next Q hn
 refine h C ρ F a w D T t' hag hal hp next Q λa' w' D' T' hp' hT' htm=>?_
 have hf:=hp'.freeze hdn
 have e:Az (Ih o.dst r (AH ys t')) d (Go.Ve.frz (Ih o.dst r (AH ys t') d))=Ih o.dst (Go.Ve.frz r) (AH ys t'):=by
  rw [hd]
  funext x
  show(if x=d then Go.Ve.frz (if d=d then r else _)else(if x=d then r else AH ys t' x))=(if x=d then Go.Ve.frz r else AH ys t' x)
  rw [if_pos rfl];split<;>rfl
 grind
end Go.Ve


namespace Go.Ve
variable{s:Bool}{σ:List V}{id n sz:Nat}{f:Nat->Nat->V}{D:Nat->Prop}{ρ:Nat->Value}{w:World}
def LE(id:Nat):V->V
 | .nd true _ _ n _=>.rs id [] 0 n
 |_=>.rp id [] 0 0
theorem PA{ρ:Nat->Value}{w:World}{D:Nat->Prop}{H:Nat->Prop}(hid:id<σ.length)(hg:σ.getD id .dead= .nd s true sz n f)(hsz:s=false->0<sz/\n=1)
  (h:Rel D w noR (.nd s true sz n f) (ρ id) H):Rel D w (Ag σ ρ w) (LE id (.nd s true sz n f)) (ρ id) noF:=by
 cases s with
 |false=>
  obtain⟨h0,rfl⟩:=hsz rfl;refine⟨?_,λb hb=>hb⟩
  rcases h with⟨h1,_⟩|⟨b,o,cap,G,hcv,_⟩
  ·omega
  ·refine⟨hid,false,sz,1,f,b,o,cap,⟨hg.symm,hcv.symm⟩,by simp,h0,?_⟩
   rw [hcv];simp [As]
 |true=>
  refine⟨?_,λb hb=>hb⟩
  rcases h with⟨h1,_,h3,_⟩|⟨b,o,cap,G,hcv,_⟩
  ·subst h1
   refine⟨hid,sz,0,f,ρ id,⟨hg.symm,rfl⟩,Nat.le_refl _,.inr ⟨rfl,none,?_,(λ_ _=>rfl),λp e=>by grind⟩⟩
   rw [Dn h3];rfl
  ·refine⟨hid,sz,n,f,ρ id,⟨hg.symm,rfl⟩,by simp,.inl ⟨b,o,cap,hcv,?_⟩⟩
   rw [hcv];simp [As]
theorem VH{ρ:Nat->Value}{w:World}{D D':Nat->Prop}{H fp:Nat->Prop}{v:V}{cv:Value}(h1:v= .nd s true sz n f)(h2:s=false->0<sz/\n=1)(h3:σ.getD id .dead=v)
  (hrel:Rel D w noR v (ρ id) H) (hr:Rel D' w (Ag σ ρ w) (LE id v) cv fp):cv=ρ id:=by
 subst h1;cases s with
 |true=>
  obtain⟨⟨_,sz',n',f',cn,hat,_,hcv⟩,_⟩:=hr;obtain⟨e1,e2⟩:=hat;rw [h3]at e1;cases e1;rw [<-e2];rcases hcv with⟨b,o,cap,g1,g2⟩|⟨g1,ad,_,g3,_⟩
  ·rw [g1,g2]
   show Value.slice (some ⟨b,o+0*sz,none⟩) n (cap-0)=Value.slice (some ⟨b,o,none⟩) n cap;simp
  grind
 |false=>
  obtain⟨⟨_,s',sz',n',f',b,o,cap,hat,_,_,hcv⟩,_⟩:=hr;obtain⟨e1,e2⟩:=hat;rw [h3]at e1;cases e1;rw [<-e2,hcv];simp [As]
theorem PR.back2{C:Ctx}{N:Nat}{F:Nat->Nat->Prop}{t:Nat->V}{a:Act}{T:Nat->Nat->Prop}(h:PR C N σ ρ F t a w D T){y:Nat}(hy:y<N)(hid:id<σ.length)(hd:σ.getD id .dead= .dead)(ht:t y= .nd s true sz n f)(hsz:s=false->0<sz/\n=1)(hv:a.tmps.getD y undef=ρ id):
  PR C N (σ.set id (t y)) ρ (λi b=>if i=id then T y b else F i b) (Az t y (LE id (t y))) a w D (λx b=>x≠y/\T x b):=by
 have get: ∀ {i:Nat},i≠id->(σ.set id (t y)).getD i .dead=σ.getD i .dead:=by
  grind
 have self:(σ.set id (t y)).getD id .dead=t y:=by simp [hid]
 have hrel:Rel D w noR (t y) (ρ id) (T y):=by
  have h1:=h.tm y hy;rw [hv,ht]at h1;rw [ht];exact h1
 refine⟨h.df,h.sz,λx hx=>?_,⟨λi hi=>?_,λi j b hij h1 h2=>?_,λi b hb=>?_,h.wr.Dlt,λi b hi hb=>?_⟩,λx hx=>?_,λx b hb=>h.tD x b hb.2,λi x b hb hT=>?_,λx z b hxz h1 h2=>h.tT x z b hxz h1.2 h2.2,λx b hb=>h.tn x b hb.2,h.fr,λi b hb=>?_,h.D1,h.D2,h.rt,by simpa using h.ml,λx b hx hb=>h.tx x b hx hb.2⟩
 ·have: ¬x=y:=by omega
  simp only [Az,this,if_false];exact h.dd x hx
 ·have hi:i<σ.length:=by simpa using hi
  by_cases he:i=id
  ·subst he
   rw [self];exact Rel.fp_congr (λb=>by rw [if_pos rfl]) hrel
  ·rw [get he]
   exact Rel.fp_congr (λb=>by rw [if_neg he]) (h.wr.rel i hi)
 ·split at h1<;>split at h2
  ·omega
  ·exact h.tF j y b h2 h1
  ·exact h.tF i y b h1 h2
  ·exact h.wr.disj i j b hij h1 h2
 ·split at hb
  ·exact h.tD y b hb
  ·exact h.wr.dD i b hb
 ·have hi:σ.length<=i:=by simpa using hi
  rw [if_neg (by omega)]at hb
  exact h.wr.out i b hi hb
 ·by_cases he:x=y
  ·subst he
   simp only [Az,if_true];rw [hv];have h2:=PA (σ:=σ.set id (t x)) (ρ:=ρ) (id:=id) (s:=s) (sz:=sz) (n:=n) (f:=f) (by simpa using hid) (by rw [self,ht]) hsz (by rw [<-ht];exact hrel)
   rw [<-ht]at h2;exact Rel.fp_congr (λb=>⟨λh=>h.elim,λh=>(h.1 rfl).elim⟩) h2
  ·simp only [Az,he,if_false]
   exact Rel.fp_congr (λb=>⟨λh=>⟨he,h⟩,λh=>h.2⟩) (Rel.mono (λ_ h=>h) (Ag.setD hd) _ _ _ (λ_ _=>rfl) (h.tm x hx))
 ·split at hb
  ·exact h.tT x y b hT.1 hT.2 hb
  ·exact h.tF i x b hb hT.2
 ·split at hb
  ·exact h.tn y b hb
  ·exact h.Fn i b hb
end Go.Ve

