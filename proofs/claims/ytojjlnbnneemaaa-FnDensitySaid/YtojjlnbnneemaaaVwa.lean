/- In a region that draws its order. -/
import Derived.Test.YtojjlnbnneemaaaVu
import Derived.Laws.IdiomCopy
open Nat(le_refl le_of_not_lt le_trans)
open List(mem_of_getElem? mem_filterMap getElem?_map getElem_mem mem_cons_self mem_cons mem_range)
set_option linter.all false
namespace Go.Ve
variable{ps:Array (Nat×Operand)}{xs:List Operand}{zero:List Value}{N d j size y:Nat}{fp:Nat->Prop}{t:Nat->V}{o:Oper}{x:Operand}{P:Program}{tk:Tk}{ty:TypeId}
structure X9(D:Nat->Prop)(w:World)(R:V->Value->Prop)(l:List V)(cs:Array Value)(G:Nat->Nat->Prop):Prop where
 sz:cs.size=l.length
 rel:∀j,j<l.length->Rel D w R (l.getD j .dead) (cs.getD j undef) (G j)
 dis:∀i j b,i≠j->G i b->¬G j b
def ID:V->Bool
 |.many .tu _ _=>false
 |.many .bx _ _=>false
 |.many (.cl _) _ _=>false
 |.many .ag _ _=>true
 |.dead=>false
 |_=>true
section
variable {D:Nat->Prop}{w:World}{R:V->Value->Prop}
theorem J1(hR:∀v cv,R v cv->cv.oneCell'=true){v:V}{cv:Value}(Z:ID v=true)(h:Rel D w R v cv fp):∃H,X9 D w R (cellsV v) cv.cells H/\∀j b,H j b->fp b:=by
 have u:X3 v=true->cellsV v=[v]->∃H,X9 D w R (cellsV v) cv.cells H/\∀j b,H j b->fp b:=by
  intro hm hcv;obtain⟨hc,_⟩:=Rel.cells1 h hR hm;rw[hcv,hc];refine⟨λj=>if j=0 then fp else noF,⟨rfl,λj J=>?_,λi j b U Y W=>?_⟩,λj b O=>?_⟩
  .simp_all
  .by_cases hi:i=0
   .have J:j≠0:=by omega
    simp only[J,if_false]at W;exact W
   .simp only[hi,if_false]at Y
    exact Y
  .have O:(if j=0 then fp else noF) b:=O
   split at O
   .exact O
   .exact O.elim
 cases v with
 |c v=>exact u rfl rfl
 |dead=>cases Z
 |nd s own sz n f=>exact u rfl rfl
 |rs id p off len=>exact u rfl rfl
 |rp id p i k=>exact u rfl rfl
 |rm id p=>exact u rfl rfl
 |mp own l=>exact u rfl rfl
 |many t n f=>
  cases t with
  |bx=>cases Z
  |tu=>cases Z
  |cl _=>cases Z
  |ag=>
   obtain⟨cs,F',rfl,hn,hr,hd,hfp⟩:=h;refine⟨λj b=>j<n/\F' j b,⟨by simp[cellsV,Value.cells,hn],λj J=>?_,λi j b U Y W=>hd i j b Y.1 W.1 U Y.2 W.2⟩,λj b O=>(hfp b).2 ⟨j,O⟩⟩
   simp[cellsV]at J;have e:(cellsV (.many .ag n f)).getD j .dead=f j:=by simp[cellsV,J]
   rw[e];exact Rel.fp_congr (λb=>⟨λh=>⟨J,h⟩,λh=>h.2⟩) (hr j J)
theorem V3(l:List V):∀(J:List Value) (k off:Nat) (cells:List V) (cs:Array Value) (G H:Nat->Nat->Prop),J.length=l.length->(∀j,j<l.length->Rel D w R (l.getD j .dead) (J.getD j undef) (H (k+j)))->(∀i j b,i≠j->H i b->¬H j b)->X9 D w R cells cs G->
  (∀j b i,k<=i->G j b->¬H i b)->∃G',X9 D w R ((l.zipIdx k).foldl (λcs (c,j)=>cs.set (off+j) c) cells) ((J.zipIdx k).foldl (λcs (c,j)=>cs.setIfInBounds (off+j) c) cs) G'/\∀j b,G' j b->G j b\/∃i,H i b:=by
 induction l with
 |nil=>intro J k off cells cs G H hl _ _ h _;cases J<;>first|exact⟨G,h,λ_ _ h=>.inl h⟩|cases hl
 |cons v l ih=>
  intro J k off cells cs G H hl hr hH h U;cases J with
  |nil=>cases hl
  |cons x J=>
   simp only[List.zipIdx_cons,List.foldl_cons];have h0:Rel D w R v x (H k):=by simpa using hr 0 (by simp)
   have g1:∀j,j<l.length->Rel D w R (l.getD j .dead) (J.getD j undef) (H (k+1+j)):=λj Y=>by
    have:=hr (j+1) (by simp;omega)
    rw[show k+1+j=k+(j+1) by omega]
    simpa using this
   have g2:X9 D w R (cells.set (off+k) v) (cs.setIfInBounds (off+k) x) (λj=>if j=off+k then H k else G j):=by
    refine⟨by simp[h.sz],λj Y=>?_,λi j b hij u O=>?_⟩
    .simp only[List.length_set]at Y
     by_cases he:off+k=j
     .subst he
      have u:off+k<cs.size:=by rw[h.sz];exact Y
      simp[Y,u];exact h0
     .have:=h.rel j Y
      have u:j<cs.size:=by rw[h.sz];exact Y
      simp only[Ne.symm he,if_false];simp only[gDE,List.getElem?_set_ne he];simp only[Array.getD_eq_getD_getElem?,Array.getElem?_setIfInBounds_ne he];simpa using this
    .have u:(if i=off+k then H k else G i) b:=u
     have O:(if j=off+k then H k else G j) b:=O
     split at u<;>split at O
     .omega
     .exact U j b k (le_refl _) O u
     .exact U i b k (le_refl _) u O
     .exact h.dis i j b hij u O
   have g3:∀j b i,k+1<=i->(if j=off+k then H k else G j) b->¬H i b:=λj b i hi Z=>by
    split at Z
    .exact hH k i b (by omega) Z
    .exact U j b i (by omega) Z
   obtain⟨G',u,O⟩:=ih J (k+1) off _ _ _ H (by simpa using hl) g1 hH g2 g3
   refine⟨G',u,λj b Z=>?_⟩
   rcases O j b Z with W|W
   .have W:(if j=off+k then H k else G j) b:=W
    split at W
    .exact .inr ⟨_,W⟩
    .exact .inl W
   .exact .inr W
theorem QC(hR:∀v cv,R v cv->cv.oneCell'=true)(place:Nat->Option (Nat×Nat)):∀(J:List (Nat×V)) (u:List (Nat×Value)) (cells Z:List V) (cs:Array Value) (G Fp:Nat->Nat->Prop),Cg place cells J=some Z->X9 D w R cells cs G->
  J.length=u.length->(∀(j i:Nat) (v:V),J[j]? =some (i,v)->ID v=true/\∃x,u[j]? =some (i,x)/\Rel D w R v x (Fp j))->(∀i j b,i≠j->Fp i b->¬Fp j b)->(∀j b i,G j b->¬Fp i b)->
  ∃O G',Instr.fill place cs u=some O/\X9 D w R Z O G'/\∀j b,G' j b->G j b\/∃i,Fp i b:=by
 intro J
 induction J with
 |nil=>
  intro u cells Z cs G Fp h hr hl _ _ _;cases u with
  |nil=>simp[Cg]at h;subst h;exact⟨cs,G,rfl,hr,λ_ _ h=>.inl h⟩
  |cons=>cases hl
 |cons p J ih=>
  intro u cells Z cs G Fp h hr hl hp hF hGF;obtain⟨i,v⟩:=p;cases u with
  |nil=>cases hl
  |cons c u=>
   obtain⟨hpl,x,hx,hrx⟩:=hp 0 i v rfl;simp at hx;subst hx;unfold Cg at h;split at h
   .cases h
   rename_i off size hplc;split at h
   .cases h
   rename_i hcond;obtain⟨H,U,W⟩:=J1 hR hpl hrx;have h1:x.cells.size=(cellsV v).length:=U.sz;have h2:cs.size=cells.length:=hr.sz
   have hn:¬ ((decide (x.cells.size≠size)||decide (off+x.cells.size>cs.size))=true):=by
    simp only[Bool.or_eq_true,decide_eq_true_eq];rw[h1,h2];omega
   unfold Instr.fill;simp only[hplc];rw[if_neg hn]
   obtain⟨G1,hset,hG1⟩:∃G1,X9 D w R (Yw cells off (cellsV v)) (x.cells.zipIdx.foldl (λcs (c,j)=>cs.setIfInBounds (off+j) c) cs) G1/\∀j b,G1 j b->G j b\/∃i,H i b:=by
    have:=V3 (cellsV v) x.cells.toList 0 off cells cs G H (by simpa using h1) (λj hj=>by simpa using U.rel j hj) U.dis hr (λj b i _ hb hh=>hGF j b 0 hb (W i b hh))
    rw[<-Array.foldl_toList];simpa [Yw]using this
   obtain⟨O,G',e,h3,h4⟩:=ih u _ Z _ G1 (λj=>Fp (j+1)) h hset (by simpa using hl) (λj i v hj=>by simpa using hp (j+1) i v (by simpa using hj)) (λi j b hij=>hF (i+1) (j+1) b (by omega)) (λj b i hb hh=>by
    rcases hG1 j b hb with Y|⟨q,Y⟩
    .exact hGF j b (i+1) Y hh
    .exact hF 0 (i+1) b (by omega) (W q b Y) hh)
   refine⟨O,G',e,h3,λj b hb=>?_⟩
   rcases h4 j b hb with Y|⟨q,Y⟩
   .rcases hG1 j b Y with h6|⟨q,h6⟩
    .exact .inl h6
    .exact .inr ⟨0,W q b h6⟩
   .exact .inr ⟨q+1,Y⟩
end
def Ik(t:Nat->V):Operand->Option Nat
 |.tmp y=>if AN (t y)then some y else none
 |_=>none
def C4:List (Option Nat)->Bool
 |[]=>true
 |none::l=>C4 l
 |some a::l=>l.all (λb=>match b with
  |some b=>!Nat.beq a b
  |none=>true)&&C4 l
theorem J6:∀{l:List (Option Nat)},C4 l=true->∀(i k a:Nat),i≠k->l[i]? =some (some a)->l[k]?≠some (some a)
 |none::l,h,i,k,a,hne,h1=>by
  cases i with
  |zero=>cases h1
  |succ i=>cases k with
   |zero=>intro u;cases u
   |succ k=>exact J6 (l:=l) h i k a (by omega) (by simpa using h1)
 |some b::l,h,i,k,a,hne,h1=>by
  simp only[C4,bAE]at h
  have key:∀k:Nat,l[k]?≠some (some b):=by
   intro k u;have J:=aET.1 h.1 (some b) (mem_of_getElem? u)
   simp_all
  cases i with
  |zero=>
   grind
  |succ i=>cases k with
   |zero=>
    grind
   |succ k=>exact J6 (l:=l) h.2 i k a (by omega) (by simpa using h1)
 |[],_,_,_,_,_,h1=>by cases h1
def Bd(t:Nat->V)(xs:List Operand):List Nat:=xs.filterMap (Ik t)
def L4(h:AN (t y)=true):Ik t (.tmp y)=some y:=if_pos h
theorem NS(l:List Nat)(x:Nat):Bo (l.map λy=>(y,Tk.all)) x=if x∈l then some .all else none:=by
 induction l with
 |nil=>rfl
 |cons y l u=>
  show(if y=x then some Tk.all else Bo (l.map λy=>(y,Tk.all)) x)=_
  grind
def Dh(l:List Nat)(t:Nat->V)(x:Nat):AP (l.map λy=>(y,Tk.all)) t x=if x∈l then .dead else t x:=by
 unfold AP;rw[NS];split<;>rfl
section
variable {C:Ctx}{N:Nat}{σ:List V}{ρ:Nat->Value}{F:Nat->Nat->Prop}{t:Nat->V}{a:Act}{w:World}{D:Nat->Prop}{T:Nat->Nat->Prop}
def opF(t:Nat->V)(T:Nat->Nat->Prop)(xs:List Operand)(j b:Nat):Prop:=∃y,xs[j]? =some (.tmp y)/\AN (t y)=true/\T y b
def DI{b:Nat}(h:opF t T xs j b):∃y,xs[j]? =some (.tmp y)/\AN (t y)=true/\y∈Bd t xs/\T y b:=by
 obtain⟨y,J,u,O⟩:=h;exact⟨y,J,u,mem_filterMap.2 ⟨.tmp y,mem_of_getElem? J,L4 u⟩,O⟩
theorem PR.opF_rel(h:PR C N σ ρ F t a w D T)(W:xs[j]? =some x):Rel D w (Aq σ ρ w) (Ms.ev ⟨t,σ⟩ x) (a.eval x) (opF t T xs j):=by
 have plain:∀v cv,Rel D w (Aq σ ρ w) v cv noF->(∀b,¬opF t T xs j b)->Rel D w (Aq σ ρ w) v cv (opF t T xs j):=λv cv hr e=>by rw[A7 e];exact hr
 have u:(∀y,x≠.tmp y)->∀b,¬opF t T xs j b:=by
  rintro Y b ⟨y,J,_⟩
  rw[W]at J;exact Y y (Option.some.inj J)
 cases x with
 |tmp y=>
  by_cases Z:y<N
  .have J:=h.tm y Z
   cases ho:AN (t y)with
   |true=>
    refine Rel.fp_congr (λb=>⟨λhb=>⟨y,W,ho,hb⟩,fun⟨z,U,_,O⟩=>?_⟩) J
    grind
   |false=>
    refine plain _ _ (A7 (AF _ _ _ ho J)▸J) ?_
    rintro b ⟨z,U,O,_⟩
    grind
  .have hd:=h.dd y (le_of_not_lt Z)
   refine plain _ _ ?_ ?_
   .show Rel D w _ (t y) _ noF
    rw[hd];exact λ_ h=>h
   .rintro b ⟨z,U,O,_⟩
    rw[W]at U;cases U;rw[hd]at O;cases O
 |const v=>exact plain _ _ (Ir v) (u λy e=>by cases e)
 |global g=>exact plain _ _ ⟨rfl,rfl,λ_ h=>h⟩ (u λy e=>by cases e)
 |func f=>exact plain _ _ Pq (u λy e=>by cases e)
theorem PR.opF_dis(h:PR C N σ ρ F t a w D T)(O:C4 (xs.map (Ik t))=true):∀i j b,i≠j->opF t T xs i b->¬opF t T xs j b:=by
 intro i j b J Y W;obtain⟨y,e1,U,_,t1⟩:=DI Y;obtain⟨z,e2,o2,_,t2⟩:=DI W;have u:y≠z:=by
  rintro rfl
  have f1:(xs.map (Ik t))[i]? =some (some y):=by rw[getElem?_map,e1];exact congrArg some (L4 U)
  have Z:(xs.map (Ik t))[j]? =some (some y):=by grind
  exact J6 O i j y J f1 Z
 exact h.tT y z b u t1 t2
theorem PR.take(h:PR C N σ ρ F t a w D T){r:V}{v':Value}{w':World}(hB:Below w.heap.size w w')(hr:Rel D w' (Aq σ ρ w') r v' fp)(hf:∀b,fp b->(∃j,opF t T xs j b)\/w.heap.size<=b)(hdn:d<N):
  ∃T',PR C N σ ρ F (AI (AP ((Bd t xs).map λy=>(y,.all)) t) d r) (a.put (some d) v') w' D T'/\∀x b,T' x b->d=x\/∃b',T x b':=by
 refine⟨_,h.move (T1:=λx b=>x∉Bd t xs/\T x b) (λx O=>?_) (λx b u=>u.2) (λx O=>?_) hB hr (λb u=>?_) (λ_ h=>h) (λ_ h=>.inl h) (λb u=>⟨Nat.lt_of_lt_of_le (h.wr.Dlt b u) hB.size,λZ=>?_⟩) hdn,λx b u=>?_⟩
 .rw[Dh]
  by_cases U:x∈Bd t xs
  .rw[if_pos U];exact λb u=>u.1 U
  .rw[if_neg U]
   exact Rel.fp_congr (λb=>⟨λh=>⟨U,h⟩,λh=>h.2⟩) (h.tm x O)
 .rw[Dh]
  split
  .rfl
  .exact h.dd x O
 .rcases hf b u with⟨j,J⟩|J
  .obtain⟨y,_,_,U,W⟩:=DI J
   refine .inl ⟨y,W,λx O=>?_⟩
   have Y:x≠y:=by grind
   exact h.tT x y b Y O.2 W
  .exact .inr J
 .rcases hf b Z with⟨j,J⟩|J
  .obtain⟨y,_,_,_,W⟩:=DI J
   exact h.tD y b W u
  .have:=h.wr.Dlt b u;omega
 .split at u
  .grind
  grind
end
theorem Dm{u:Nat->V}(h:∀x∈xs,∀y,x=.tmp y->u y=t y):xs.map (Ik u)=xs.map (Ik t):=by
 refine List.map_congr_left λx J=>?_
 cases x with
 |tmp y=>show(if AN (u y)then some y else none)=if AN (t y)then some y else none;grind
 |const v=>rfl
 |global g=>rfl
 |func f=>rfl
def BU(t:Nat->V)(xs:List Operand):Bd t xs=(xs.map (Ik t)).filterMap id:=by
 unfold Bd;simp
theorem Ds{op:Op}(h:Operand.tmp y∈op.operands):y∈Ha op:=by
 exact mem_filterMap.2 ⟨.tmp y,by grind,rfl⟩
theorem Zr{Al:Nat->Nat->Prop}{σ:List V}{t:Nat->V}{places:List (Nat×Nat)}{l:List V}(ho:o.op=.build ty ps)(hd:o.dst=some d)(hdn:d<N)(hbi:Aas P ty=some (places,zero))
  (hap:C4 ((ps.toList.map (·.2)).map (Ik t))=true) (hok:∀p∈ps.toList,ID (Ms.ev ⟨t,σ⟩ p.2)=true) (hl:Cg (λi=>places[i]?) (zero.map .c) (ps.toList.map λp=>(p.1,Ms.ev ⟨t,σ⟩ p.2))=some l):
  LQ P N σ Al o t ((Bd t (ps.toList.map (·.2))).map λy=>(y,.all)) (Am l):=by
 intro C ρ F a w D T t' hag hal hp next Q hn
 obtain⟨xs,hxs⟩:∃xs,xs=ps.toList.map (·.2):=⟨_,rfl⟩
 rw[<-hxs]at hap hn;have W:∀y,Operand.tmp y∈xs->t' y=t y:=λy hy=>hag y (.inl<|Ds (by rw[ho];show _∈(ps.toList.map (·.2)).toArray;rw[hxs]at hy;simpa using hy))
 have hev:∀x∈xs,Ms.ev ⟨t',σ⟩ x=Ms.ev ⟨t,σ⟩ x:=by
  intro x U;cases x with
  |tmp y=>exact W y U
  |const v=>rfl
  |global g=>rfl
  |func f=>rfl
 have Y:xs.map (Ik t')=xs.map (Ik t):=Dm λx U y e=>W y (e▸U)
 have hap':C4 (xs.map (Ik t'))=true:=by rw[Y];exact hap
 have htk:Bd t' xs=Bd t xs:=by rw[BU,BU,Y]
 obtain⟨z,rfl,hz1,O⟩:=Ll hbi
 have Z:X9 D w (Aq σ ρ w) (z.cells.toList.map .c) z.cells λ_=>noF:=by
  refine⟨by simp,λj hj=>?_,λ_ _ _ _ h=>h.elim⟩
  simp at hj;simp[hj];exact⟨rfl,hz1 _ (by simp),λ_ h=>h⟩
 obtain⟨J,G',hfill,u,hG⟩:=QC (λv cv h=>Aq.one h) (λi=>places[i]?) (ps.toList.map λp=>(p.1,Ms.ev ⟨t,σ⟩ p.2)) (ps.toList.map λp=>(p.1,a.eval p.2)) _ l _ _ (opF t' T xs) hl Z (by simp) (λj i v hj=>by
  simp only[getElem?_map]at hj⊢;cases hq:ps.toList[j]? with
  |none=>simp[hq]at hj
  |some q=>
   simp only[hq,Option.map_some,Option.some.injEq,Prod.mk.injEq]at hj⊢;obtain⟨rfl,rfl⟩:=hj;have hqm:=mem_of_getElem? hq;refine⟨hok q hqm,_,⟨rfl,rfl⟩,?_⟩;have U:xs[j]? =some q.2:=by rw[hxs,getElem?_map,hq];rfl
   rw[<-hev q.2 (mem_of_getElem? U)];exact hp.opF_rel U) (hp.opF_dis hap') (λ_ _ _ h=>h.elim)
 have hrun:=run_build w ty (ps.map λp=>(p.1,a.eval p.2)) J (O _ _ (by simpa using hfill))
 have hex:(execOp a.eval o).run P w=.ok (.value (.agg J)) w:=by
  unfold execOp;rw[ho];simp only[Sem.run_bind];rw[show(Array.map (λx=>match x with|(i,x)=>(i,a.eval x)) ps)=ps.map (λp=>(p.1,a.eval p.2))from rfl,hrun]
  rfl
 unfold Oper.wp;rw[hex];show next (a.put o.dst (.agg J)) w
 rw[hd]at hn⊢;have hr:Rel D w (Aq σ ρ w) (Am l) (.agg J) (λb=>∃k,k<l.length/\G' k b):=⟨J,G',rfl,u.sz,λk hk=>u.rel k hk,λk k' b _ _ hne=>u.dis k k' b hne,λb=>Iff.rfl⟩
 obtain⟨T',hp',hT'⟩:=hp.take (xs:=xs) (d:=d) (Below.refl _ _) hr (λb ⟨k,_,hb⟩=>.inl ((hG k b hb).resolve_left λh=>h)) hdn
 rw[htk]at hp';exact hn _ _ _ _ hp' (λx b hb=>(hT' x b hb).imp (λe=>by rw[e]) λh=>h) λ_ U=>BL U
theorem MS{Al:Nat->Nat->Prop}{σ:List V}{t:Nat->V}{len:Nat}{e:TypeId}{bytes:Nat}{l:List V}(ho:o.op=.buildSlice ty len ps)(hd:o.dst=some d)(hdn:d<N)(hsi:slI P ty=some ⟨e,size,bytes,zero⟩)
  (W:0<size) (hlen:len*size<=16777216) (hap:C4 ((ps.toList.map (·.2)).map (Ik t))=true) (hok:∀p∈ps.toList,ID (Ms.ev ⟨t,σ⟩ p.2)=true) (hl:Cg (λi=>some (i*size,size)) ((List.range (len*size)).map λj=>.c (zero.getD (j % size) undef)) (ps.toList.map λp=>(p.1,Ms.ev ⟨t,σ⟩ p.2))=some l)
  (himm:∀v∈l,Cf v=true\/∃s sz n f,v=.nd s true sz n f):
  LQ P N σ Al o t ((Bd t (ps.toList.map (·.2))).map λy=>(y,.all)) (.nd true true size len λi k=>l.getD (i*size+k) .dead):=by
 intro C ρ F a w D T t' hag hal hp next Q hn
 obtain⟨xs,hxs⟩:∃xs,xs=ps.toList.map (·.2):=⟨_,rfl⟩
 rw[<-hxs]at hap hn;have hopx:∀y,Operand.tmp y∈xs->t' y=t y:=λy hy=>hag y (.inl<|Ds (by rw[ho];show _∈(ps.toList.map (·.2)).toArray;rw[hxs]at hy;simpa using hy))
 have hev:∀x∈xs,Ms.ev ⟨t',σ⟩ x=Ms.ev ⟨t,σ⟩ x:=by
  intro x hx;cases x with
  |tmp y=>exact hopx y hx
  |const v=>rfl
  |global g=>rfl
  |func f=>rfl
 have hmap:xs.map (Ik t')=xs.map (Ik t):=Dm λx hx y e=>hopx y (e▸hx)
 have hap':C4 (xs.map (Ik t'))=true:=by rw[hmap];exact hap
 have htk:Bd t' xs=Bd t xs:=by rw[BU,BU,hmap]
 obtain⟨hu,i0,z,hi0,hz,his,_,hzl,hzs,hz1⟩:=Dn hsi;simp only at hu hi0 his hzl hzs hz1
 have hzero:X9 D w (Aq σ ρ w) ((List.range (len*size)).map λj=>.c (zero.getD (j % size) undef)) ((Array.range (len*size)).map (z.cells[· % z.cells.size]!)) λ_=>noF:=by
  refine⟨by simp,λj hj=>?_,λ_ _ _ _ h=>h.elim⟩
  simp at hj;have hm:j % size<z.cells.size:=by rw[hzs];exact Nat.mod_lt _ W
  have e1:(zero.getD (j % size) undef)=z.cells[j % z.cells.size]!:=by
   rw[<-hzl,hzs,getElem!_pos z.cells (j % size) hm];simp[hm]
  simp[hj];refine⟨?_,?_,λ_ h=>h⟩
  .have:=e1.symm
   simpa using this
  .refine hz1 _ ?_
   have hl0:j % size<zero.length:=by rw[<-hzl];simpa using hm
   simp[gEE hl0]
 obtain⟨u,G',Z,Y,hG⟩:=QC (λv cv h=>Aq.one h) (λi=>some (i*size,size)) (ps.toList.map λp=>(p.1,Ms.ev ⟨t,σ⟩ p.2)) (ps.toList.map λp=>(p.1,a.eval p.2)) _ l _ _ (opF t' T xs) hl hzero (by simp) (λj i v hj=>by
  simp only[getElem?_map]at hj⊢;cases hq:ps.toList[j]? with
  |none=>simp[hq]at hj
  |some q=>
   simp only[hq,Option.map_some,Option.some.injEq,Prod.mk.injEq]at hj⊢;obtain⟨rfl,rfl⟩:=hj;have hqm:=mem_of_getElem? hq;refine⟨hok q hqm,_,⟨rfl,rfl⟩,?_⟩;have hx:xs[j]? =some q.2:=by rw[hxs,getElem?_map,hq];rfl
   rw[<-hev q.2 (mem_of_getElem? hx)];exact hp.opF_rel hx) (hp.opF_dis hap') (λ_ _ _ h=>h.elim)
 have O:l.length=len*size:=by
  have h2:∀(J:List (Nat×V)) (cells l':List V),Cg (λi=>some (i*size,size)) cells J=some l'->l'.length=cells.length:=by
   intro J
   induction J with
   |nil=>intro cells l' h;simp[Cg]at h;rw[h]
   |cons p J ih=>
    intro cells l' h;obtain⟨i,v⟩:=p;simp only[Cg]at h;split at h
    .cases h
    .rw[ih _ _ h]
     have:∀(l:List V) (k:Nat) (c:List V),((l.zipIdx k).foldl (λcs (c,j)=>cs.set (i*size+j) c) c).length=c.length:=by
      intro l
      induction l with
      |nil=>intro k c;rfl
      |cons v l ih=>intro k c;simp only[List.zipIdx_cons,List.foldl_cons];rw[ih];simp
     exact this _ 0 _
  have:=h2 _ _ _ hl;simpa using this
 have hex:(execOp a.eval o).run P w=.ok (.value (.slice (some ⟨w.heap.size,0,none⟩) len len)) (w.alloc (.cells u e)):=by
  have hn:¬ (16777216<len*size):=by omega
  unfold execOp;rw[ho];by_cases h0:len*size=0
  .have hfill':Instr.fill (λi=>some (i*size,size)) #[] (ps.toList.map λp=>(p.1,a.eval p.2))=some u:=by
    have:(Array.range (len*size)).map (z.cells[· % z.cells.size]!)= #[]:=by rw[h0];simp
    rw[<-this];exact Z
   simp[Instr.buildSlice,run_underlying hu,sizeOf,typeInfo,hi0,his,hn,h0,newRow];simp[Array.range_zero',hfill']
  .simp[Instr.buildSlice,run_underlying hu,sizeOf,typeInfo,zeroValue,hi0,hz,his,hn,h0,newRow]
   simp[Z]
 have hB:Below w.heap.size w (w.alloc (.cells u e)):=(Below.refl _ _).alloc (le_refl _) _;have hblk:(w.alloc (.cells u e)).heap[w.heap.size]? =some (.cells u e (0,0)):=by show(w.heap.push _)[w.heap.size]? =_;simp
 have hold:∀k b,G' k b->b<w.heap.size:=by
  intro k b U;obtain⟨i,hi⟩:=(hG k b U).resolve_left λh=>h
  obtain⟨y,_,_,_,hT⟩:=DI hi;by_cases hy:y<N
  .exact Rel.lt _ _ _ (hp.tm y hy) b hT
  .exact absurd hT (hp.tx y b (le_of_not_lt hy))
 have hsz:u.size=len*size:=by rw[Y.sz];exact O
 have hcell:∀i k,i<len->k<size->i*size+k<l.length:=λi k hi hk=>by
  rw[O];have:(i+1)*size<=len*size:=Nat.mul_le_mul_right _ (by omega)
  rw[Nat.add_mul]at this;omega
 have hmax:len<=maxLen:=by have:=Nat.le_mul_of_pos_right len W;unfold maxLen;omega
 have hr:Rel D (w.alloc (.cells u e)) (Aq σ ρ (w.alloc (.cells u e))) (.nd true true size len λi k=>l.getD (i*size+k) .dead) (.slice (some ⟨w.heap.size,0,none⟩) len len) (λb=>b=w.heap.size\/∃i k,i<len/\k<size/\G' (i*size+k) b):=by
  refine .inr ⟨w.heap.size,0,len,λi k=>G' (i*size+k),rfl,le_refl _,hmax,(λh=>by cases h),λi k hi hk=>?_,(λh=>by cases h),λ_=>⟨⟨u,e,.plain hblk,by rw[hsz,Nat.zero_add];exact le_refl _⟩,λi k hi hk hF=>?_,λi k i' k' b hi hk hi' hk' hne hF hF'=>?_,λ_=>Iff.rfl⟩⟩
  .have hlt:=hcell i k hi hk
   refine⟨u.getD (i*size+k) undef,?_,?_⟩
   .unfold World.cell?
    have:i*size+k<u.size:=by rw[hsz,<-O];exact hlt
    simp only[hblk,Option.isSome_none,Bool.false_eq_true,if_false,Nat.zero_add];simp[this]
   .have h5:=Y.rel _ hlt
    refine Rel.mono (λ_ h=>h) (λ_ _ h=>h) _ _ _ (λb U=>Below.heap_alloc _ _ _ ?_) (?_:Rel D w noR _ _ _)
    .rcases U with U|U
     .exact hp.wr.Dlt b U
     .exact hold _ b U
    .have hm:l.getD (i*size+k) .dead∈l:=by
      rw[gDE,gEE hlt];exact getElem_mem hlt
     rcases himm _ hm with h6|⟨s,sz,n,f,h6⟩
     .exact CM h6 h5
     .show Rel D w noR (l.getD (i*size+k) .dead) _ (G' (i*size+k))
      rw[h6]at h5⊢;exact h5
  .have:=hold _ _ hF
   omega
  .refine Y.dis _ _ b ?_ hF hF'
   intro he;have e1:=congrArg (· /size) he
   have e2:=congrArg (· % size) he
   simp only[Nat.mul_comm i size,Nat.mul_comm i' size,Nat.mul_add_mod,Nat.mod_eq_of_lt hk,Nat.mod_eq_of_lt hk']at e2;subst e2;have:i*size=i'*size:=by omega
   have:=Nat.eq_of_mul_eq_mul_right W this;omega
 unfold Oper.wp;rw[hex];show next (a.put o.dst _) _
 rw[hd]at hn⊢
 obtain⟨T',hp',hT'⟩:=hp.take (xs:=xs) (d:=d) hB hr (λb U=>by
  rcases U with rfl|⟨i,k,_,_,U⟩
  .exact .inr (le_refl _)
  .exact .inl ((hG _ b U).resolve_left λh=>h)) hdn
 rw[htk]at hp';exact hn _ _ _ _ hp' (λx b U=>(hT' x b U).imp (λe=>by rw[e]) λh=>h) λ_ hx=>BL hx
def DZ(b:Nat):∀(u:List Value) (o:Nat) (w:World) (k:Nat),k≠b->(w.setCells b o u).heap[k]? =w.heap[k]?
 |[],_,_,_,_=>rfl
 |v::r,o,w,k,h=>by
  rw[World.setCells,DZ b r (o+1) _ k h];exact Below.heap_setCell w ⟨b,o,none⟩ v k h
theorem IC(b:Nat){T:TypeId}{fz:Nat×Nat}:∀(J:List Value) (o:Nat) (w:World) (cs:Array Value),w.heap[b]? =some (.cells cs T fz)->∃u,(w.setCells b o J).heap[b]? =some (.cells u T fz)/\u.size=cs.size
 |[],_,_,cs,h=>⟨cs,h,rfl⟩
 |v::r,o,w,cs,h=>by
  have U:(w.setCell ⟨b,o,none⟩ v).heap[b]? =some (.cells (cs.setIfInBounds o v) T fz):=by
   unfold World.setCell
   grind
  obtain⟨u,O,W⟩:=IC b r (o+1) _ _ U;exact⟨u,O,by grind⟩
def Hr(b:Nat):∀(u:List Value) (o:Nat) (w:World),(w.setCells b o u).os=w.os/\(w.setCells b o u).tape=w.tape/\(w.setCells b o u).output=w.output/\(w.setCells b o u).heap.size=w.heap.size/\(w.setCells b o u).drawn=w.drawn
 |[],_,_=>⟨rfl,rfl,rfl,rfl,rfl⟩
 |v::r,o,w=>by
  obtain⟨Y,W,U,O,J⟩:=Hr b r (o+1) (w.setCell ⟨b,o,none⟩ v);exact⟨Y,W,U,by rw[World.setCells,O];simp,J⟩
def HH{x:Nat}{l:List (Nat×Tk)}(h:x≠y):Bo ((y,tk)::l) x=Bo l x:=if_neg (Ne.symm h)
def HI{l:List (Nat×Tk)}:Bo ((y,tk)::l) y=some tk:=if_pos rfl
theorem Zq{Al:Nat->Nat->Prop}{N:Nat}{σ:List V}{t:Nat->V}{p:Nat}{agg:Bool}{lp:List V}(ho:o.op=.store ty (.tmp p) x)(hd:o.dst=none)(hti:tyI P ty=some ⟨agg,size,zero⟩)
  (htp:t p=Bp true lp) (hlp:lp.length=size) (hpn:p<N) (hxp:x≠.tmp p) (hok:ID (Ms.ev ⟨t,σ⟩ x)=true) (hlen:(cellsV (Ms.ev ⟨t,σ⟩ x)).length=size) (himm:∀v∈cellsV (Ms.ev ⟨t,σ⟩ x),Cf v=true\/∃s sz n f,v=.nd s true sz n f)
  (hone:∀v∈cellsV (Ms.ev ⟨t,σ⟩ x),X3 v=true):
  LQ P N σ Al o t ((p,.put (Bp true (cellsV (Ms.ev ⟨t,σ⟩ x))))::(Bd t [x]).map λy=>(y,.all)) .dead:=by
 intro C ρ F a w D T t' hag hal O next Q hn
 rw[hd]at hn;have hopp:t' p=t p:=hag p (.inl<|Ds (by rw[ho];simp[Op.operands]))
 have hopx:∀y,x=.tmp y->t' y=t y:=λy Y=>hag y (.inl<|Ds (by rw[ho,Y];simp[Op.operands]))
 have hev:Ms.ev ⟨t',σ⟩ x=Ms.ev ⟨t,σ⟩ x:=by
  cases x with
  |tmp y=>exact hopx y rfl
  |const v=>rfl
  |global g=>rfl
  |func f=>rfl
 have hmap:[x].map (Ik t')=[x].map (Ik t):=Dm λx' hx y e=>by rw[List.mem_singleton]at hx;subst hx;exact hopx y e
 have htk:Bd t' [x]=Bd t [x]:=by rw[BU,BU,hmap]
 have hnp:p∉Bd t [x]:=by
  intro hm;obtain⟨u,hu,he⟩:=mem_filterMap.1 hm;rw[List.mem_singleton]at hu;subst hu;cases u with
  |tmp z=>
   cases ho':AN (t z)with
   |true=>
    rw[L4 ho']at he;cases he;exact hxp rfl
   |false=>
    have:Ik t (.tmp z)=none:=by show(if AN (t z)=true then some z else none)=none;rw[if_neg (by simp[ho'])]
    rw[this]at he;cases he
  |const v=>cases he
  |global g=>cases he
  |func f=>cases he
 -- the value's cells
 have hrx:=O.opF_rel (xs:=[x]) (j:=0) (x:=x) rfl;rw[hev]at hrx;obtain⟨H,hcr,hHF⟩:=J1 (λv cv h=>Aq.one h) hok hrx
 obtain⟨L,hL⟩:∃L,L=cellsV (Ms.ev ⟨t,σ⟩ x):=⟨_,rfl⟩;rw[<-hL]at hcr hlen himm hone hn;obtain⟨W,hvs⟩:∃W,W=(a.eval x).cells.toList:=⟨_,rfl⟩;have hvl:W.length=L.length:=by rw[hvs];simpa using hcr.sz
 have hcell:∀j,j<L.length->Rel D w (Aq σ ρ w) (L.getD j .dead) (W.getD j undef) (H j):=λj Z=>by
  have:=hcr.rel j Z;rw[hvs];simpa using this
 -- the struct's block
 have hrp:=O.tm p hpn;rw[hopp,htp]at hrp;rcases hrp with⟨h0,h1,_⟩|⟨b,of,cap,F0,hcv,hcap,hmax,hs1,hc,_,hown⟩
 .cases h1
 obtain⟨⟨cs,Tt,hb1,hb2⟩,hbF,hFd,hfp⟩:=hown rfl;have hTb:T p b:=(hfp b).2 (.inl rfl);have hcv:a.eval (.tmp p)=.pointer (some ⟨b,of,none⟩):=hcv;have hlt:b<w.heap.size:=hb1.lt;have hob:=hb1;obtain⟨fzz,hb1,hbz⟩:=hb1;have hcap1:cap*lp.length≥lp.length:=Nat.le_mul_of_pos_left _ (by omega)
 have hcells:∀j,j<W.length->∃y,w.cell? ⟨b,of+j,none⟩=some y:=by
  intro j Z;have:of+j<cs.size:=by omega
  unfold World.cell?;simp only[hb1,Option.isSome_none,Bool.false_eq_true,if_false];exact⟨_,Array.getElem?_eq_getElem this⟩
 have hfz:∀j,j<W.length->w.frozen? ⟨b,of+j,none⟩=false:=λj Z=>by
  obtain⟨y,Y⟩:=hcells j Z;exact hob.frozen Y
 have h1c:∀v∈W,v.oneCell'=true:=by
  intro v hv;obtain⟨j,Z,rfl⟩:=List.getElem_of_mem hv;have hj':j<L.length:=by omega
  have h1:=hcell j hj';have hm:L.getD j .dead∈L:=by
   rw[gDE,gEE hj'];exact getElem_mem hj'
  have:=(Rel.cells1 h1 (λv cv h=>Aq.one h) (hone _ hm)).2
  simpa [Z]using this
 obtain⟨dd,tii,z,hdt,hit,hz,his,_⟩:=CX hti;simp only at his;have hrun:=run_storeCells_cells (P:=P) b of W 0 w (λj Z=>by obtain⟨y,Y⟩:=hcells j Z;simp[Y]) (λj Z=>by rw[Nat.add_zero];exact hfz j Z) h1c
 obtain⟨w',hw'⟩:∃w',w'=w.setCells b (of+0) W:=⟨_,rfl⟩;rw[<-hw']at hrun;obtain⟨g1,g2,g3,g4,g5⟩:=Hr b W (of+0) w;obtain⟨cs2,hb3,hb4⟩:=IC b W (of+0) w cs hb1;have hoth:∀k,k≠b->w'.heap[k]? =w.heap[k]?:=λk J=>by rw[hw'];exact DZ b W _ w k J
 rw[<-hw']at g1 g2 g3 g4 g5 hb3
 have hin:∀j (Z:j<W.length),w'.cell? ⟨b,of+j,none⟩=some W[j]:=by
  intro j Z;rw[hw'];exact World.cell?_setCells_in b W (of+0) w (λj Z=>by obtain⟨y,Y⟩:=hcells j Z;simp[Y]) j Z
 have hsv:(storeVar ty ⟨b,of,none⟩ (a.eval x)).run P w=.ok () w':=by
  have e:(a.eval x).cells.size=size:=by rw[hcr.sz];exact hlen
  simp only[storeVar,Sem.run_bind,sizeOf,typeInfo];rw[<-hvs];simp[hit,his,hrun,e]
 have hex:(execOp a.eval o).run P w=.ok .skip w':=by
  unfold execOp;rw[ho];simp[Instr.storeAt,hcv,Instr.sureAddr,hsv]
 unfold Oper.wp;rw[hex,Oper.upon_skip,hd]
 -- nothing else lies in the block
 have hTn:∀y k,y≠p->T y k->k≠b:=λy k Y J e=>O.tT y p k Y J (e▸hTb)
 have hDn:∀k,D k->k≠b:=λk J e=>O.tD p b hTb (e▸J)
 have hFn:∀i k,F i k->k≠b:=λi k J e=>O.tF i p k J (e▸hTb)
 have hHT:∀j k,H j k->∃y,y∈Bd t [x]/\T y k:=λj k J=>by
  obtain⟨y,_,_,hm,hT⟩:=DI (hHF j k J);exact⟨y,htk▸hm,hT⟩
 have hHn:∀j k,H j k->k≠b:=λj k J=>by
  obtain⟨y,hm,hT⟩:=hHT j k J;exact hTn y k (λe=>hnp (e▸hm)) hT
 have kM:∀y,AP ((p,.put (Bp true L))::(Bd t [x]).map λy=>(y,.all)) t' y=if y=p then Bp true L else if y∈Bd t [x]then .dead else t' y:=by
  intro y;unfold AP;by_cases Y:y=p
  .subst Y
   rw[HI,if_pos rfl];rfl
  .rw[HH Y,NS,if_neg Y]
   split<;>rfl
 have U:∀k,k≠b->w'.heap[k]? =w.heap[k]?:=hoth
 have hnew:Rel D w' (Aq σ ρ w') (Bp true L) (a.tmps.getD p undef) (λk=>k=b\/∃j,j<L.length/\H j k):=by
  refine .inr ⟨b,of,cap,λi j=>H j,hcv,hcap,hmax,λ_=>rfl,λi k hi J=>?_,(λh=>by cases h),λ_=>⟨⟨cs2,Tt,⟨fzz,hb3,by rw[hb4];exact hbz⟩,?_⟩,λi k hi J hF=>hHn k b hF rfl,λi k i' k' c hi J hi' hk' hne hF hF'=>?_,λc=>?_⟩⟩
  .obtain rfl:i=0:=by omega
   have hk':k<W.length:=by omega
   refine⟨W[k],by simpa using hin k hk',?_⟩
   have h5:=hcell k J;have e5:W.getD k undef=W[k]:=by simp[hk']
   rw[e5]at h5;refine Rel.mono (λ_ h=>h) (λ_ _ h=>h) _ _ _ (λc hc=>U c ?_) (?_:Rel D w noR _ _ _)
   .rcases hc with hc|hc
    .exact hDn c hc
    .exact hHn k c hc
   .have hm:L.getD k .dead∈L:=by
     rw[gDE,gEE J];exact getElem_mem J
    show Rel D w noR (L.getD k .dead) W[k] (H k);rcases himm _ hm with h6|⟨s,sz,n,f,h6⟩
    .exact CM h6 h5
    .rw[h6]at h5⊢
     exact h5
  .rw[hb4,hlen,<-hlp];exact hb2
  .exact hcr.dis k k' c (by omega) hF hF'
  .constructor
   .rintro (h|⟨j,Z,h⟩)
    .exact .inl h
    .exact .inr ⟨0,j,by omega,Z,h⟩
   .rintro (h|⟨_,j,_,Z,h⟩)
    .exact .inl h
    .exact .inr ⟨j,Z,h⟩
 have wr':Bu σ w' D ρ F:=⟨λi hi=>Rel.mono (λ_ h=>h) (λ_ _ h=>h) _ _ _ (λk J=>U k (J.elim (hDn k) (hFn i k))) (O.wr.rel i hi),O.wr.disj,O.wr.dD,λk J=>by rw[g4];exact O.wr.Dlt k J,O.wr.out⟩
 have hsub:∀k,(k=b\/∃j,j<L.length/\H j k)->T p k\/∃y,y∈Bd t [x]/\T y k:=by
  rintro k (rfl|⟨j,_,h⟩)
  .exact .inl hTb
  .exact .inr (hHT j k h)
 refine hn a w' D (λy k=>if y=p then(k=b\/∃j,j<L.length/\H j k)else y∉Bd t [x]/\T y k) ⟨O.df,O.sz,λy Y=>?_,wr',λy Y=>?_,λy k J=>?_,λi y k J hT=>?_,λy y' k hyy h1 h2=>?_,λy k J=>?_,⟨g1.trans O.fr.os,g2.trans O.fr.tape,g3.trans O.fr.output,by rw[g4];exact O.fr.size,λk J hW=>?_,by rw[g5];exact O.fr.drawn⟩,O.Fn,O.D1,O.D2,O.rt,O.ml,λy k Y J=>?_⟩ (λy k J=>?_) λ_ _=>rfl
 .show AP _ t' y=_
  rw[kM,if_neg (by omega)]
  split
  .rfl
  .exact O.dd y Y
 .show Rel D w' (Aq σ ρ w') (AP _ t' y) _ _
  rw[kM];by_cases hyp:y=p
  .subst hyp
   rw[if_pos rfl];exact Rel.fp_congr (λk=>by show _↔(if y=y then _ else _);rw[if_pos rfl]) hnew
  .rw[if_neg hyp]
   by_cases hm:y∈Bd t [x]
   .rw[if_pos hm]
    intro k J;have J:(if y=p then(k=b\/∃j,j<L.length/\H j k)else y∉Bd t [x]/\T y k):=J
    rw[if_neg hyp]at J;exact J.1 hm
   .rw[if_neg hm]
    refine Rel.fp_congr (fp:=T y) (λk=>by show _↔(if y=p then _ else _);rw[if_neg hyp];exact⟨λh=>⟨hm,h⟩,λh=>h.2⟩) ?_
    exact Rel.mono (λ_ h=>h) (λv cv hv=>Aq.same O.wr (λi k J=>U k (hFn i k J)) v cv hv) _ _ _ (λk J=>U k (J.elim (hDn k) (hTn y k hyp))) (O.tm y Y)
 .split at J
  .rcases hsub k J with h|⟨y',_,h⟩
   .exact O.tD p k h
   .exact O.tD y' k h
  .exact O.tD y k J.2
 .split at hT
  .rcases hsub k hT with h|⟨y',_,h⟩
   .exact O.tF i p k J h
   .exact O.tF i y' k J h
  .exact O.tF i y k J hT.2
 .have one:∀z,z≠p->z∉Bd t [x]->T z k->(k=b\/∃j,j<L.length/\H j k)->False:=by
   intro z hz hm hT h;rcases hsub k h with h|⟨y'',hm',h⟩
   .exact O.tT z p k hz hT h
   .exact O.tT z y'' k (λe=>hm (e▸hm')) hT h
  split at h1<;>split at h2
  .rename_i e1 e2;exact absurd (e1.trans e2.symm) hyy
  .rename_i e1 e2;exact one y' e2 h2.1 h2.2 h1
  .rename_i e1 e2;exact one y e1 h1.1 h1.2 h2
  .exact O.tT y y' k hyy h1.2 h2.2
 .split at J
  .rcases hsub k J with h|⟨y',_,h⟩
   .exact O.tn p k h
   .exact O.tn y' k h
  .exact O.tn y k J.2
 .have:k≠b:=λe=>by
   rcases O.tn p b hTb with h|h
   .exact hW (e▸h)
   .omega
  rw[U k this];exact O.fr.block k J hW
 .have J:(if y=p then(k=b\/∃j,j<L.length/\H j k)else y∉Bd t [x]/\T y k):=J
  rw[if_neg (by omega)]at J
  exact O.tx y k Y J.2
 .have J:(if y=p then(k=b\/∃j,j<L.length/\H j k)else y∉Bd t [x]/\T y k):=J
  split at J
  .rename_i e;exact .inr ⟨b,e▸hTb⟩
  .exact .inr ⟨k,J.2⟩
end Go.Ve


namespace Go.Ve
def Kc:List (Nat×Nat×Value)->Act->Act
 |[],a=>a
 |(_,d,u)::l,a=>Kc l (a.put (some d) u)
theorem Jv{d:Nat}{u:Value}:∀{l:List (Nat×Nat×Value)}{a:Act},(∀x∈l,x.2.1≠d)->Kc l (a.put (some d) u)=(Kc l a).put (some d) u
 |[],_,_=>rfl
 |(f,e,v)::l,a,h=>by
  have J:=h _ (mem_cons_self ..);show Kc l ((a.put (some d) u).put (some e) v)=_;rw[Dp (λh=>J (by grind))]
  exact Jv λx O=>h x (mCM _ O)
def LX:∀(l J:List (Nat×Nat×Value)) (a:Act),Kc (l++J) a=Kc J (Kc l a)
 |[],_,_=>rfl
 |(_,d,u)::l,J,a=>LX l J (a.put (some d) u)
section
variable {P:Program}{ops:Array Oper}{n:Nat}{fs:List Nat}
def HB{o:Oper}(O:∀cs b,o.op≠.select cs b):∀{l:List (Nat×Nat×Value)}{a:Act},(∀x∈l,x.2.1∉o.looksAt ops)->execOp (Kc l a).eval o=execOp a.eval o
 |[],_,_=>rfl
 |(f,d,u)::l,a,h=>by
  show execOp (Kc l (a.put (some d) u)).eval o=_;rw[HB O λx U=>h x (mCM _ U),execOp_put o O a (some d) u λW J=>by cases J;exact h _ (mem_cons_self ..)]
def I6{o:Oper}(h:Acw o.op=true):∀cs b,o.op≠.select cs b:=λcs b e=>by rw[e]at h;cases h
def FlH(P:Program)(ops:Array Oper)(n:Nat)(fs:List Nat)(a:Act)(w:World):Prop:=∀on,ops[n]? =some on->∃v w',(execOp a.eval on).run P w=.ok (.value v) w'/\
 ∀f∈fs,∀o,ops[f]? =some o->∀u,(execOp a.eval o).run P w=.ok (.value u) w->(execOp a.eval o).run P w'=.ok (.value u) w'
structure GI(P:Program)(ops:Array Oper)(Q:Exit->Act->World->Prop)(n:Nat)(fs:List Nat)(L:List (Nat×Nat×Value))(m:Nat)(listed:Array Bool)(a:Act)(w:World):Prop where
 sz:listed.size=ops.size
 ls:∀j,j<ops.size->listed.getD j true=decide (j<m/\∀x∈L,x.1≠j)
 nd:L.Pairwise λx y=>x.1≠y.1
 it:∀x∈L,x.1∈fs/\AH ops x.1=some x.2.1/\∀o,ops[x.1]? =some o->(execOp (Kc L a).eval o).run P w=.ok (.value x.2.2) w
 wl:wpList P ops (QN Q) (ops.toList.drop m) (Kc L a) w
 hH:m=n->FlH P ops n fs (Kc L a) w
theorem GI.go{Q:Exit->Act->World->Prop}(hq:QOK ops n)(fl:FLS ops n fs):∀(fuel:Nat) (L:List (Nat×Nat×Value)) (m:Nat) (listed:Array Bool) (a:Act) (w:World),m=n\/m=n+1->(ops.size-m)+L.length<=fuel->GI P ops Q n fs L m listed a w->wpAny P .any ops Q fuel listed a w:=by
 have hsz:=fl.lt1;obtain⟨on,dn,hon,hog,hod,hos,hfl⟩:=fl.it;intro fuel
 induction fuel with
 |zero=>intro L m listed a w hm hf;omega
 |succ g ih=>
  intro L m listed a w hm hf h;cases hL:L with
  |nil=>
   subst hL;refine Jd hq (.inr fl.chain) (g+1) m listed a w (by omega) (by omega) (by simpa using le_trans (by omega) (Nat.add_le_add_left hf m)) h.sz (λj hj=>?_) (I9 m _ w (by omega) h.wl)
   rw[h.ls j hj];simp
  |cons x0 L0=>
  have hne:∃x,x∈L:=⟨x0,by rw[hL];exact mem_cons_self ..⟩
  -- what is known of the pending ones
  have hx:∀x∈L,x.1<n/\∃o,ops[x.1]? =some o/\o.guard=none/\Acw o.op=true/\o.dst=some x.2.1/\x.2.1∉on.looksAt ops/\dn≠x.2.1/\dn∉o.looksAt ops:=by
   intro x J;obtain⟨h1,Y,_⟩:=h.it x J;obtain⟨o,d,k1,k2,k3,k4,k5,k6,k7⟩:=hfl x.1 h1;have hd:d=x.2.1:=by
    unfold AH at Y;rw[k1]at Y;have Y:o.dst=some x.2.1:=Y;rw[k4]at Y;exact Option.some.inj Y
   subst hd;exact⟨(fl.lt x.1 h1).1,o,k1,k2,k3,k4,k5,k6,k7⟩
  have hdne:∀x∈L,∀y∈L,x.1≠y.1->x.2.1≠y.2.1:=by
   intro x J y hyL hxy e;obtain⟨h1,o,Y,_,_,h3,_⟩:=hx x J;obtain⟨h4,o',h5,_,_,h6,_⟩:=hx y hyL;have:=(hq.ne x.1 y.1 x.2.1 o' h1 h4 hxy (h.it x J).2.1 h5).1;rw[e]at this;exact this h6
  have hun:∀j,j<ops.size->(listed.getD j false=true↔(j<m/\∀x∈L,x.1≠j)):=by
   intro j hj;have h1:=IX h.sz hj (h.ls j hj);rw[h1,decide_eq_true_iff]
  refine⟨λh0=>?_,λi hi=>?_⟩
  .-- the UI of them is ready
   exfalso;obtain⟨i,⟨x,J,rfl⟩,hmin⟩:=UI (p:=λi=>∃x∈L,x.1=i) (let ⟨x,hx⟩:=hne;⟨x.1,x,hx,rfl⟩)
   obtain⟨h1,o,Y,_⟩:=hx x J;have:x.1∈Region.ready .any ops listed:=by
    refine mem_ready.2 ⟨by rw[h.ls x.1 (by omega)];exact dF λhh=>hh.2 x J rfl,o,Y,λe he hb=>?_⟩
    have h3:=hq.back x.1 o e Y he hb;exact(hun e.on (by omega)).2 ⟨by omega,λy u e'=>hmin e.on h3 ⟨y,u,e'⟩⟩
   rw[h0]at this;cases this
  .obtain⟨hiu,oi,U,hall⟩:=mem_ready.1 hi
   have his:i<ops.size:=(Array.getElem?_eq_some_iff.1 U).1;have hdep:∀j,Region.waitsFor .any ops i j=true->j<ops.size->j<m/\∀x∈L,x.1≠j:=by
    intro j hw hj;obtain⟨o',ho',e,he',hb,hon'⟩:=Region.waitsFor_spec hw;obtain rfl:o'=oi:=Option.some.inj (ho'.symm.trans U);have h3:=hall e he' hb;rw[hon']at h3;exact(hun j hj).1 h3
   by_cases hiL:∃x∈L,x.1=i
   .-- a pending one
    obtain⟨x,J,rfl⟩:=hiL;obtain⟨hxn,o,ho,hg,hex,hd,hlo,hdn,hdo⟩:=hx x J;obtain rfl:oi=o:=Option.some.inj (U.symm.trans ho);obtain⟨hfs,hdst,O⟩:=h.it x J;have O:=O oi ho;have hlook:∀y∈L,y.2.1∉oi.looksAt ops:=by
     intro y u hm';obtain⟨hyn,oy,hoy,_,_,hdy,_⟩:=hx y u;by_cases hxy:y.1=x.1
     .have e:y.2.1=x.2.1:=by
       have h1:=(h.it y u).2.1;rw[hxy,hdst]at h1;exact(Option.some.inj h1).symm
      obtain⟨oi',hoi',hnl⟩:=hq.dst x.1 hxn;obtain rfl:oi'=oi:=Option.some.inj (hoi'.symm.trans U);exact hnl x.2.1 hd (e▸hm')
     .obtain⟨e,he,hb,hon'⟩:=(hq.ne y.1 x.1 y.2.1 oi hyn hxn hxy (h.it y u).2.1 U).2 hm'
      have h3:=hall e he hb;rw[hon']at h3;exact((hun y.1 (by omega)).1 h3).2 y u rfl
    rw[HB (I6 hex) hlook]at O;unfold wpOp;simp only[U];have hw:Region.wanted oi (yielded ops a.tmps)=true:=by simp[Region.wanted,hg]
    rw[if_pos hw];left;unfold Oper.wp;rw[O,Oper.upon_value,hd];obtain⟨L1,L2,hsp⟩:=List.append_of_mem J;have hnd:=h.nd;rw[hsp,List.pairwise_append,List.pairwise_cons]at hnd;obtain⟨n1,⟨n2,n3⟩,n4⟩:=hnd
    have W:Kc (L1++L2) (a.put (some x.2.1) x.2.2)=Kc L a:=by
     rw[hsp,LX,LX];show _=Kc L2 ((Kc L1 a).put (some x.2.1) x.2.2);rw[Jv λy u=>hdne y (by rw[hsp];simp[u]) x J (n4 y u x (mem_cons_self ..))]
    have hLm:∀y,y∈L1++L2↔y∈L/\y.1≠x.1:=by
     intro y;rw[hsp];simp only[List.mem_append,mem_cons];constructor
     .rintro (u|u)
      .exact⟨.inl u,n4 y u x (mem_cons_self ..)⟩
      .exact⟨.inr (.inr u),λe=>n2 y u e.symm⟩
     .rintro ⟨u|rfl|u,hyx⟩
      .exact .inl u
      .exact absurd rfl hyx
      .exact .inr u
    refine ih (L1++L2) m _ _ w hm ?_ ⟨by simpa using h.sz,λj hj=>?_,?_,λy u=>?_,by rw[W];exact h.wl,λe=>by rw[W];exact h.hH e⟩
    .rw[hsp]at hf
     simp only[List.length_append,List.length_cons]at hf⊢;omega
    .by_cases hij:x.1=j
     .subst hij
      have:x.1<listed.size:=by rw[h.sz];exact his
      rw[show(listed.setIfInBounds x.1 true).getD x.1 true=true by simp[this]]
      exact(dT ⟨by omega,λy u=>((hLm y).1 u).2⟩).symm
     .rw[getD_set_ne true hij,h.ls j hj]
      refine decide_eq_decide.2 ⟨fun⟨k1,k2⟩=>⟨k1,λy u=>k2 y ((hLm y).1 u).1⟩,fun⟨k1,k2⟩=>⟨k1,λy u=>?_⟩⟩
      by_cases hyx:y.1=x.1
      .rw[hyx];exact hij
      .exact k2 y ((hLm y).2 ⟨u,hyx⟩)
    .exact List.pairwise_append.2 ⟨n1,n3,λy u z hz=>n4 y u z (mCM _ hz)⟩
    .obtain⟨k1,k2,k3⟩:=h.it y ((hLm y).1 u).1
     rw[W];exact⟨k1,k2,k3⟩
   .have hnot:¬i<m:=λhlt=>by
     rw[h.ls i his]at hiu;exact of_decide_eq_false hiu ⟨hlt,λx hx e=>hiL ⟨x,hx,e⟩⟩
    have him:i=m:=by
     have Y:=aET.1 fl.chain i (mem_range.2 his);simp only[Bool.or_eq_true,decide_eq_true_eq]at Y;rcases Y with Y|Y
     .omega
     .have:=(hdep (i-1) Y (by omega)).1
      omega
    rcases hm with hmn|hmn
    case inr=>
     exfalso;obtain⟨x,J⟩:=hne;obtain⟨h1,_,_⟩:=h.it x J;have Y:=(fl.lt x.1 h1).2;rw[show n+1=i by omega]at Y
     exact(hdep x.1 Y (by have:=(fl.lt x.1 h1).1;omega)).2 x J rfl
    subst him;subst hmn;obtain rfl:oi=on:=Option.some.inj (U.symm.trans hon);obtain⟨v,w',O,hkeep⟩:=h.hH rfl oi U;have hlook:∀y∈L,y.2.1∉oi.looksAt ops:=λy u=>by
     obtain⟨_,_,_,_,_,_,h5,_⟩:=hx y u;exact h5
    have hrun0:=O;rw[HB hos hlook]at hrun0;have Z:=h.wl
    have hdrop:ops.toList.drop i=oi::ops.toList.drop (i+1):=by
     have h1:=List.drop_eq_getElem_cons (l:=ops.toList) (i:=i) (by simpa using his)
     rw[h1]
     congr 1
     have:ops[i]? =some ops[i]:=by simp[his]
     rw[U]at this;simpa using(Option.some.inj this).symm
    rw[hdrop]at Z;unfold wpList at Z;rw[if_pos (by simp[Region.wanted,hog])]at Z
    unfold wpOp;simp only[U];rw[if_pos (by simp[Region.wanted,hog])]
    left;unfold Oper.wp;rw[hrun0,Oper.upon_value,hod]
    have W:Kc L (a.put (some dn) v)=(Kc L a).put (some dn) v:=Jv λy u=>by
     obtain⟨_,_,_,_,_,_,_,h6,_⟩:=hx y u;exact λe=>h6 e.symm
    refine ih L (i+1) _ _ w' (.inr (by omega)) (by omega) ⟨by simpa using h.sz,λj hj=>?_,h.nd,λy u=>?_,?_,λe=>by omega⟩
    .by_cases hij:i=j
     .subst hij
      have:i<listed.size:=by rw[h.sz];exact his
      rw[show(listed.setIfInBounds i true).getD i true=true by simp[this]]
      exact(dT ⟨by omega,λy u e=>hiL ⟨y,u,e⟩⟩).symm
     .rw[getD_set_ne true hij,h.ls j hj]
      exact decide_eq_decide.2 ⟨fun⟨k1,k2⟩=>⟨by omega,k2⟩,fun⟨k1,k2⟩=>⟨by omega,k2⟩⟩
    .obtain⟨k1,k2,k3⟩:=h.it y u
     refine⟨k1,k2,λo ho=>?_⟩
     obtain⟨_,o',ho',_,hex,_,_,_,h7⟩:=hx y u;obtain rfl:o'=o:=Option.some.inj (ho'.symm.trans ho);rw[W,execOp_put o' (I6 hex) _ (some dn) v λd hd=>by cases hd;exact h7]
     exact hkeep y.1 k1 o' ho _ (k3 o' ho)
    .rw[W]
     rcases Z with Z|⟨_,_,_,hno⟩
     .unfold Oper.wp at Z
      rw[O,Oper.upon_value,hod]at Z;exact Z
     .exact(Acg _ _ _ (by simp) hno).elim
end
end Go.Ve


namespace Go.Ve
open Go
variable{α E:Type}{w w':World}
def IL{α:Type}(s:Sem α):Prop:=∀(P:Program) (w u:World) (n:α),s.run P w=.ok n u->u=w
def X8{α:Type}(w w':World)(s:Sem α):Prop:=∀(P:Program) (n:α),s.run P w=.ok n w->s.run P w'=.ok n w'
theorem IL.pure{α:Type}(x:α):IL (Pure.pure x:Sem α):=λP w u n h=>by simp_all
theorem X8.pure{α:Type}{w w':World}(x:α):X8 w w' (Pure.pure x:Sem α):=λP n h=>by simp_all
theorem IL.bind{s:Sem α}{f:α->Sem E}(U:IL s)(W:∀x,IL (f x)):IL (s>>=f):=by
 intro P w O n h;rw[Sem.run_bind]at h;cases J:s.run P w with
 |ok x u=>
  rw[J]at h;have e:=U P w u x J;subst e;exact W x P _ O n h
 |halt x u=>simp_all
theorem X8.bind{s:Sem α}{f:α->Sem E}(U:IL s)(O:X8 w w' s)(W:∀x,X8 w w' (f x)):X8 w w' (s>>=f):=by
 intro P n h;rw[Sem.run_bind]at h⊢;cases u:s.run P w with
 |ok x J=>
  rw[u]at h;have e:=U P w J x u;subst e;rw[O P x u];exact W x P n h
 |halt x J=>simp_all
def BC{α:Type}(s:Sem α):Prop:=∀(P:Program) (w u:World) (n:α),s.run P w≠.ok n u
theorem BC.keep{s:Sem α}(h:BC s):IL s:=λP w u n e=>(h P w u n e).elim
theorem BC.same{s:Sem α}(h:BC s):X8 w w' s:=λP n e=>(h P w w n e).elim
theorem BC.bind{s:Sem α}{f:α->Sem E}(h:BC s):BC (s>>=f):=by
 intro P w O n e;rw[Sem.run_bind]at e;cases J:s.run P w with
 |ok x u=>exact h P w u x J
 |halt x u=>simp_all
theorem BC.bindR{s:Sem α}{f:α->Sem E}(h:∀x,BC (f x)):BC (s>>=f):=by
 intro P w J n e;rw[Sem.run_bind]at e;cases O:s.run P w with
 |ok x u=>rw[O]at e;exact h x P u J n e
 |halt x u=>simp_all
theorem BC.stuck{α:Type}{m:String}:BC (stuck m:Sem α):=λP w u n e=>by cases e
def KS{α:Type}(w w':World)(s:Sem α):Prop:=IL s/\X8 w w' s
def KS.bind{α E:Type}{w w':World}{s:Sem α}{f:α->Sem E}(u:KS w w' s)(J:∀x,KS w w' (f x)):KS w w' (s>>=f):=⟨u.1.bind λx=>(J x).1,X8.bind u.1 u.2 λx=>(J x).2⟩
def KS.pure{α:Type}{w w':World}(x:α):KS w w' (Pure.pure x:Sem α):=⟨IL.pure x,X8.pure x⟩
def BC.ks{s:Sem α}(h:BC s):KS w w' s:=⟨h.keep,h.same⟩
def FlK(P:Program)(ops:Array Oper)(fs:List Nat):Prop:=∀f∈fs,∀o,ops[f]? =some o->∀ρ w n J,(execOp ρ o).run P w=.ok n J->∃u,n=.value u/\J=w
section
variable {X A:Nat->Prop}{B:Nat->Nat->Prop}{P:Program}{C:Ctx}{h:Cy}{ops:Array Oper}{σ:List V}{ρ:Nat->Value}{F:Nat->Nat->Prop}{t0 r:Nat->V}{m:Nat->List (Nat×Tk)}{n:Nat}{fs:List Nat}
theorem replay(hq:QOK ops n)(fl:FLS ops n fs)(hk:FlK P ops fs)(hm:MOK (isA h ops) (isB h ops) ops n m)
  (hst:∀j,j<n->∀o,ops[j]? =some o->IT P h ops σ o (Ci ops r m t0 j) (r j) (m j)) {a0:Act}:∀(c:Nat) (listed:Array Bool) (a:Act) (w:World) (D:Nat->Prop) (T:Nat->Nat->Prop),unl listed n=c->HeadInv .any ops n listed->
   (∀i,i<n->listed.getD i true=false->i∈fs)->PR C h.n σ ρ F (pt ops n r m t0 listed) a w D T->(∀x b,T x b->PB ops n X x)->(∀x,(∀i,i<n->AH ops i≠some x)->a.tmps[x]? =a0.tmps[x]?)->AlI h ops n listed a->
   ∃(L:List (Nat×Nat×Value)) (D':Nat->Prop) (T':Nat->Nat->Prop),PR C h.n σ ρ F (Ci ops r m t0 n) (Kc L a) w D' T'/\(∀x b,T' x b->PB ops n X x)/\(∀x,(∀i,i<n->AH ops i≠some x)->(Kc L a).tmps[x]? =a0.tmps[x]?)/\
    L.Pairwise (λx y=>x.1≠y.1)/\(∀i,i<n->(listed.getD i true=false↔ ∃x∈L,x.1=i))/\(∀x∈L,x.1<n)/\
    ∀x∈L,x.1∈fs/\AH ops x.1=some x.2.1/\∀o,ops[x.1]? =some o->(execOp (Kc L a).eval o).run P w=.ok (.value x.2.2) w:=by
 intro c
 induction c with
 |zero=>
  intro listed a w D T hc Z hfs hp hT hA hI;have hall:∀i,i<n->listed.getD i true=true:=by
   intro i hi;cases hu:listed.getD i true with
   |true=>rfl
   |false=>have:=OD hu n hi;omega
  rw[Wt hq hm Z.size hall]at hp;exact⟨[],D,T,hp,hT,hA,List.Pairwise.nil,λi hi=>by rw[hall i hi];simp,λx O=>(by cases O),λx O=>(by cases O)⟩
 |succ c ih=>
  intro listed a w D T hc Z hfs hp hT hA hI;have hex:∃i,i<n/\listed.getD i true=false:=by
   apply Classical.byContradiction;intro hno;have:unl listed n=0:=by
    unfold unl;rw[List.countP_eq_zero];intro i hi;have hi:=mem_range.1 hi;cases hu:listed.getD i true with
    |true=>simp
    |false=>exact absurd ⟨i,hi,hu⟩ hno
   omega
  obtain⟨i,⟨U,hun⟩,hmin⟩:=UI hex;have hle:=hq.le;have hminL:∀j,j<i->listed.getD j true=true:=λj hj=>by
   cases hu:listed.getD j true with
   |true=>rfl
   |false=>exact absurd ⟨by omega,hu⟩ (hmin j hj)
  have hif:=hfs i U hun;obtain⟨on,dn,hon,hog,hod,hos,hfl⟩:=fl.it;obtain⟨o,d,Y,hg,hexo,hd,_,_,_⟩:=hfl i hif;have hdi:AH ops i=some d:=by unfold AH;rw[Y];exact hd
  have hir:i∈Region.ready .any ops listed:=by
   refine mem_ready.2 ⟨hun,o,Y,λe he hb=>?_⟩
   have h1:=hq.back i o e Y he hb;have h2:=hminL e.on h1;have h3:e.on<listed.size:=by rw[Z.size];omega
   simp[h3]at h2⊢;exact h2
  have J:=I8 (Q:=λ_ _ _=>False) (K:=λa' w'=>∃D' T',PR C h.n σ ρ F (pt ops n r m t0 (listed.setIfInBounds i true)) a' w' D' T'/\(∀x b,T' x b->PB ops n X x)/\(∀x,(∀i,i<n->AH ops i≠some x)->a'.tmps[x]? =a0.tmps[x]?)/\AlI h ops n (listed.setIfInBounds i true) a')
   (HO hq hm Z U hir hst hp hT (hI.at hq U hir) λa' w' D' T' hp' hT' htm' hmv=>⟨D',T',hp',hT',λx O=>(htm' x (O i U)).trans (hA x O),hI.set hq hst Z U hp.sz htm' hmv⟩)
  unfold wpOp at J;simp only[Y]at J;have hw:Region.wanted o (yielded ops a.tmps)=true:=by simp[Region.wanted,hg]
  rw[if_pos hw]at J;rcases J with J|⟨_,_,_,hno⟩
  case inr=>exact hno.elim
  unfold Oper.wp at J;cases hrun:(execOp a.eval o).run P w with
  |halt x w2=>
   rw[hrun]at J;cases x<;>exact J.elim
  |ok nn w1=>
   obtain⟨u,rfl,rfl⟩:=hk i hif o Y _ _ _ _ hrun;rw[hrun,Oper.upon_value,hd]at J;obtain⟨D1,T1,hp1,hT1,hA1,hI1⟩:=J;have hcount:=OC (by rw[Z.size];omega) hun n
   rw[if_pos U]at hcount;have hset:∀j,i≠j->(listed.setIfInBounds i true).getD j true=listed.getD j true:=λj hj=>getD_set_ne true hj
   have hself:(listed.setIfInBounds i true).getD i true=true:=by
    have:i<listed.size:=by rw[Z.size];omega
    simp[this]
   obtain⟨L,D2,T2,h1,h2,h3,h4,h5,h6,h7⟩:=ih (listed.setIfInBounds i true) (a.put (some d) u) _ D1 T1 (by omega) (Z.set hir U) (λj hj hu=>by
    by_cases W:i=j
    .subst W;rw[hself]at hu;cases hu
    .rw[hset j W]at hu;exact hfs j hj hu) hp1 hT1 hA1 hI1
   have hLi:∀x∈L,x.1≠i/\listed.getD x.1 true=false:=by
    intro x O;have hu:=(h5 x.1 (h6 x O)).2 ⟨x,O,rfl⟩;by_cases W:i=x.1
    .rw[<-W,hself]at hu;cases hu
    .exact⟨Ne.symm W,by rw[hset _ W]at hu;exact hu⟩
   refine⟨(i,d,u)::L,D2,T2,h1,h2,h3,List.pairwise_cons.2 ⟨λx O e=>(hLi x O).1 e.symm,h4⟩,λj hj=>?_,λx O=>?_,λx O=>?_⟩
   .by_cases W:i=j
    .subst W
     exact⟨λ_=>⟨_,mem_cons_self ..,rfl⟩,λ_=>hun⟩
    .rw[<-hset j W,h5 j hj]
     constructor
     .rintro ⟨x,O,e⟩;exact⟨x,mCM _ O,e⟩
     .rintro ⟨x,O,e⟩
      rcases mem_cons.1 O with rfl|O
      .exact absurd e W
      .exact⟨x,O,e⟩
   .rcases mem_cons.1 O with rfl|O
    .exact U
    .exact h6 x O
   .rcases mem_cons.1 O with rfl|O
    .refine⟨hif,hdi,λo' ho'=>?_⟩
     obtain rfl:o'=o:=Option.some.inj (ho'.symm.trans Y);show(execOp (Kc L (a.put (some d) u)).eval o').run P _=_;rw[HB (ops:=ops) (I6 hexo) λy hy hm'=>?_,execOp_put (ops:=ops) o' (I6 hexo) a (some d) u λd' hd'=>?_]
     .exact hrun
     .cases hd'
      obtain⟨oi',hoi',hnl⟩:=hq.dst i U;obtain rfl:oi'=o':=Option.some.inj (hoi'.symm.trans Y);exact hnl _ hd
     .obtain⟨k1,k2⟩:=hLi y hy
      obtain⟨e,he,hb,hon'⟩:=(hq.ne y.1 i y.2.1 o' (h6 y hy) U k1 (h7 y hy).2.1 Y).2 hm';have h8:=hq.back i o' e Y he hb;rw[hon']at h8;rw[hminL y.1 h8]at k2;cases k2
    .exact h7 x O
theorem NO:∀(l u:List Nat),l.Nodup->(∀x∈l,x∈u)->l.length<=u.length
 |[],_,_,_=>Nat.zero_le _
 |a::l,u,J,hs=>by
  have J:=List.nodup_cons.1 J;have U:=NO l (u.erase a) J.2 λx O=>(List.mem_erase_of_ne (by grind)).2 (hs x (mCM _ O))
  grind
theorem Y3{Q:Exit->Act->World->Prop}(hq:QOK ops n)(fl:FLS ops n fs)(hk:FlK P ops fs)(hm:MOK (isA h ops) (isB h ops) ops n m)
  (hst:∀j,j<n->∀o,ops[j]? =some o->IT P h ops σ o (Ci ops r m t0 j) (r j) (m j))
  {a0:Act} (hend:∀a w D T,PR C h.n σ ρ F (Ci ops r m t0 n) a w D T->(∀x b,T x b->PB ops n X x)->(∀x,(∀i,i<n->AH ops i≠some x)->a.tmps[x]? =a0.tmps[x]?)->wpList P ops Q (ops.toList.drop n) a w)
  (hend0:∀a w D T,PR C h.n σ ρ F (Ci ops r m t0 n) a w D T->(∀x b,T x b->PB ops n X x)->(∀x,(∀i,i<n->AH ops i≠some x)->a.tmps[x]? =a0.tmps[x]?)->wpList P ops (QN Q) (ops.toList.drop n) a w)
  (hH:∀a w D T,PR C h.n σ ρ F (Ci ops r m t0 n) a w D T->(∀x b,T x b->PB ops n X x)->(∀x,(∀i,i<n->AH ops i≠some x)->a.tmps[x]? =a0.tmps[x]?)->FlH P ops n fs a w):
  ∀(O:Nat) (listed:Array Bool) (a:Act) (w:World) (D:Nat->Prop) (T:Nat->Nat->Prop),HeadInv .any ops n listed->unl listed n+(ops.size-n)<=O->
   PR C h.n σ ρ F (pt ops n r m t0 listed) a w D T->(∀x b,T x b->PB ops n X x)->(∀x,(∀i,i<n->AH ops i≠some x)->a.tmps[x]? =a0.tmps[x]?)->AlI h ops n listed a->wpAny P .any ops Q O listed a w:=by
 have hsz:=fl.lt1;intro O
 induction O with
 |zero=>intro listed a w D T u hf;omega
 |succ f ih=>
  intro listed a w D T u hf hp hT hA hI;have hle:=hq.le;by_cases Y:∀i,i<n->listed.getD i true=true
  .rw[Wt hq hm u.size Y]at hp
   refine Jd hq (.inr fl.chain) (f+1) n listed a w (le_refl _) hle (by omega) u.size (λj hj=>?_) (hend _ _ _ _ hp hT hA)
   by_cases J:j<n
   .rw[Y j J];simp[J]
   .rw[u.tail j (by omega) hj];simp[J]
  .have hex:∃i,i<n/\listed.getD i true=false:=by
    apply Classical.byContradiction;intro hno;apply Y;intro i hi;cases U:listed.getD i true with
    |true=>rfl
    |false=>exact absurd ⟨i,hi,U⟩ hno
   obtain⟨i,⟨hin,hun⟩,hmin⟩:=UI hex;have hoi:ops[i]? =some ops[i]:=by
    have:i<ops.size:=by omega
    simp[this]
   have hir:i∈Region.ready .any ops listed:=by
    refine mem_ready.2 ⟨hun,ops[i],hoi,λe he hb=>?_⟩
    have h1:=hq.back i ops[i] e hoi he hb;have Z:=hmin e.on h1;have h3:e.on<listed.size:=by rw[u.size];omega
    cases U:listed.getD e.on true with
    |false=>exact absurd ⟨by omega,U⟩ Z
    |true=>simp[h3]at U⊢;exact U
   refine⟨λh0=>(by rw[h0]at hir;cases hir),λj hj=>?_⟩
   have hjs:j<ops.size:=by
    obtain⟨_,o,ho,_⟩:=mem_ready.1 hj;exact(Array.getElem?_eq_some_iff.1 ho).1
   rcases Nat.lt_or_ge j n with J|J
   case inr=>
    obtain⟨hju,oj,hoj,W⟩:=mem_ready.1 hj;have hjn':j=n:=by
     have Z:=aET.1 fl.chain j (mem_range.2 hjs);simp only[Bool.or_eq_true,decide_eq_true_eq]at Z;rcases Z with Z|Z
     .omega
     .by_cases he:j=n
      .exact he
      .obtain⟨o',ho',e,he',hb,hon⟩:=Region.waitsFor_spec Z
       obtain rfl:o'=oj:=Option.some.inj (ho'.symm.trans hoj);have h3:=W e he' hb;rw[hon,getD_both (u.tail (j-1) (by omega) (by omega))]at h3
       cases h3
    subst hjn';have hlst:∀c k,j-k=c->k<j->k∉fs->listed.getD k false=true:=by
     intro c
     induction c using Nat.strongRecOn with
     |_ c ihc=>
      intro k hc hk hkf;obtain⟨j',g1,g2,g3,g4⟩:=fl.others k hk hkf;obtain⟨o',ho',e,he',hb,hon⟩:=Region.waitsFor_spec g4;rcases Nat.lt_or_ge j' j with h5|h5
      .have h6:=ihc (j-j') (by omega) j' rfl h5 g3
       have h7:=u.closed j' o' ho' h6 e he' hb;rwa [hon]at h7
      .obtain rfl:j'=j:=by omega
       obtain rfl:o'=oj:=Option.some.inj (ho'.symm.trans hoj);have h7:=W e he' hb;rwa [hon]at h7
    have hfs:∀k,k<j->listed.getD k true=false->k∈fs:=by
     intro k hk U;apply Classical.byContradiction;intro hkf;have h1:=hlst _ k rfl hk hkf;have Z:k<listed.size:=by rw[u.size];omega
     simp[Z]at h1 U;rw[h1]at U;cases U
    obtain⟨L,D2,T2,k1,k2,k3,k4,k5,k6,k7⟩:=replay (X:=X) hq fl hk hm hst (a0:=a0) _ listed a w D T rfl u hfs hp hT hA hI;have hLlen:L.length<=unl listed j:=by
     have h1:(L.map (·.1)).Nodup:=List.pairwise_map.2 k4
     have Z:∀x∈L.map (·.1),x∈(List.range j).filter λi=>!listed.getD i true:=by
      intro x hx;obtain⟨y,hy,rfl⟩:=List.mem_map.1 hx;refine List.mem_filter.2 ⟨mem_range.2 (k6 y hy),?_⟩;rw[(k5 y.1 (k6 y hy)).2 ⟨y,hy,rfl⟩];rfl
     have h3:=NO _ _ h1 Z;rw[List.length_map,<-List.countP_eq_length_filter]at h3;exact h3
    have hgi:wpAny P .any ops Q (f+1) listed a w:=by
     refine GI.go hq fl (f+1) L j listed a w (.inl rfl) (by omega) ⟨u.size,λk hk=>?_,k4,k7,hend0 _ _ _ _ k1 k2 k3,λ_=>hH _ _ _ _ k1 k2 k3⟩
     by_cases hkj:k<j
     .cases U:listed.getD k true with
      |true=>exact(dT ⟨hkj,λx hx e=>by
        have:=(k5 k hkj).2 ⟨x,hx,e⟩;rw[U]at this;cases this⟩).symm
      |false=>
       obtain⟨x,hx,e⟩:=(k5 k hkj).1 U;exact(dF λhh=>hh.2 x hx e).symm
     .rw[u.tail k (by omega) hk]
      exact(dF λhh=>hkj hh.1).symm
    exact hgi.2 j hj
   have hju:=(mem_ready.1 hj).1;have hcount:=OC (by rw[u.size];exact hjs) hju n
   rw[if_pos J]at hcount;refine I8 (HO hq hm u J hj hst hp hT (hI.at hq J hj) λa' w' D' T' hp' hT' htm' hmv=>ih _ a' w' D' T' (u.set hj J) (by omega) hp' hT' (λx hx=>(htm' x (hx j J)).trans (hA x hx)) (hI.set hq hst u J hp.sz htm' hmv))
end
end Go.Ve


namespace Go.Ve
open Go
variable{w w':World}
theorem KS.prog:KS w w' Go.program:=⟨λP w u n h=>by simp_all,λP n h=>by simp_all⟩
def KS.under(t:TypeId):KS w w' (underlying t):=by
 refine KS.prog.bind λp=>?_
 split
 .exact KS.pure _
 .exact BC.stuck.ks
def KS.info(t:TypeId):KS w w' (typeInfo t):=by
 refine KS.prog.bind λp=>?_
 split
 .exact KS.pure _
 .exact BC.stuck.ks
def KS.size(t:TypeId):KS w w' (sizeOf t):=by
 exact(KS.info t).bind λi=>KS.pure _
theorem KS.agg(t:TypeId):KS w w' (isAgg t):=by
 refine(KS.under t).bind λd=>?_
 split<;>exact KS.pure _
def KS.sure(v:Value):KS w w' (Instr.sureAddr v):=by
 unfold Instr.sureAddr;split
 .exact KS.pure _
 .exact BC.stuck.ks
theorem KS.int(v:Value):KS w w' (asIntOf v):=by
 unfold asIntOf;split
 .exact KS.pure _
 .exact BC.ks λP w u n e=>by cases e
 .exact BC.stuck.ks
theorem BC.goPanic{α:Type}(v:Value):BC (goPanic v:Sem α):=λP w u n e=>by cases e
theorem BC.bounds{α:Type}(k:IntKind)(x y:Int)(c:BoundsCode):BC (boundsPanic k x y c:Sem α):=by
 have h:∀s,BC (runtimePanic (RuntimeError.bounds (IntKind.i64.wrap x) y s c):Sem α):=λs=>by
  exact BC.bindR λp=>BC.goPanic _
 unfold boundsPanic;split
 .exact BC.bindR h
 grind
theorem IL.load(a:Addr)(m:Mode):IL (load a m):=by
 intro P w u n h;rw[run_load]at h
 grind
def IL.loadCells(a:Addr):∀(n i:Nat) (xs:Array Value),IL (loadCellsFrom a i n xs)
 |0,i,xs=>IL.pure _
 |n+1,i,xs=>(IL.load _ _).bind λv=>IL.loadCells a n (i+1) (xs.push v)
theorem IL.loadVar(t:TypeId)(a:Addr):IL (loadVar t a):=by
 refine(KS.agg (w:=default) (w':=default) t).1.bind λb=>?_
 split
 .refine(KS.size (w:=default) (w':=default) t).1.bind λk=>?_
  exact(IL.loadCells a k 0 #[]).bind λl=>IL.pure _
 .exact IL.load _ _
theorem BC.unsup{α:Type}(u:Unsupported):BC (unsupported u:Sem α):=λP w J n e=>by cases e
def KS.place(t:TypeId)(k:IntKind)(i:Int)(tiny:Bool)(base:Option Addr)(len:Nat):KS w w' (match base with
  |some a=>if 0<=i/\i<(len:Int)then(do
    let s<-Go.sizeOf t
    Pure.pure (Value.pointer (some (a.add (i.toNat * s)))))else if tiny = true then unsupported (Unsupported.noEntry "op/indexAddr.an index out of range at an array of length 0 or 1 (ledger 616)")else boundsPanic k i (len : Int) BoundsCode.index
  |none=>boundsPanic k i 0 BoundsCode.index):=by
 split
 .split
  .exact(KS.size t).bind λs=>KS.pure _
  .split
   .exact(BC.unsup _).ks
   .exact(BC.bounds _ _ _ _).ks
 .exact(BC.bounds _ _ _ _).ks
theorem KS.indexAt{w w':World}(t:TypeId)(x i:Value):KS w w' (Instr.indexAt t x i):=by
 unfold Instr.indexAt;refine(KS.int i).bind λJ=>?_
 refine(KS.under t).bind λd=>?_
 simp only;split
 .refine(KS.sure _).bind λa=>?_
  refine(KS.pure _).bind λz=>?_
  exact(KS.under t).bind λu=>KS.place _ _ _ _ _ _
 .exact(KS.under t).bind λu=>KS.place _ _ _ _ _ _
 .exact(BC.bind BC.stuck).ks
end Go.Ve
namespace Go.Ve
open Go
variable{a:Addr}{ops:Array Oper}{fs:List Nat}{P:Program}{t:TypeId}{w w':World}
theorem JS{k off sz:Nat}(h:US P t k=some (off,sz))(v:Value)(w:World):(∃a,v=.pointer (some a)/\(Instr.fieldAt t v k).run P w=.ok (.pointer (some (a.add off))) w)\/((∀a,v≠.pointer (some a))/\∃x,(Instr.fieldAt t v k).run P w=.halt x w):=by
 unfold US at h;split at h
 case h_2=>cases h
 rename_i fs hu;split at h
 case h_2=>cases h
 rename_i f Y;split at h
 case h_2=>cases h
 rename_i i hi;split at h
 case isFalse=>cases h
 rename_i W;cases h
 have e1:(underlying t).run P w=.ok (.struct fs) w:=by
  unfold underlying
  simp_all
 have Z:(sizeOf f.type).run P w=.ok i.size w:=by
  unfold Go.sizeOf typeInfo
  simp_all
 unfold Instr.fieldAt;simp only[Sem.run_bind,e1,Result.andThen_ok,Y]
 have key:∀a,((Instr.sureAddr v).run P w=.ok a w)->(fieldPlace a f).run P w=.ok (a.add f.offset) w:=λa _=>by
  unfold fieldPlace;have O:i.size≠0:=by omega
  simp only[Sem.run_bind,Z,Result.andThen_ok,if_neg O];rfl
 cases u:(Instr.sureAddr v).run P w with
 |halt x U=>
  right;unfold Instr.sureAddr at u;split at u
  .cases u
  .rename_i J
   cases u;exact⟨λa e=>J a e,_,rfl⟩
 |ok a U=>
  left
  have hv:v=.pointer (some a)/\U=w:=by
   unfold Instr.sureAddr at u;split at u
   .cases u;exact⟨rfl,rfl⟩
   .cases u
  simp_all
def FlT(P:Program)(ops:Array Oper)(fs:List Nat):Prop:=∀f∈fs,∀o,ops[f]? =some o->Acw o.op=true/\∀t x k,o.op=.fieldAddr t x k->∃off sz,US P t k=some (off,sz)
theorem FlT.keep(h:FlT P ops fs):FlK P ops fs:=by
 intro f hf o ho ρ w n w1 W;obtain⟨he,hfl⟩:=h f hf o ho
 have Y:∀{s:Sem Value},(∀u U,s.run P w=.ok u U->U=w)->((s>>=λv=>Pure.pure (Next.value v):Sem Next).run P w=.ok n w1)->∃u,n=.value u/\w1=w:=by
  intro s hk h;rw[Sem.run_bind]at h;cases O:s.run P w with
  |halt x U=>rw[O]at h;cases h
  |ok u U=>
   rw[O]at h;have:=hk u U O;cases h;exact⟨u,rfl,this⟩
 cases J:o.op with
 |fieldAddr t x k=>
  obtain⟨off,sz,Z⟩:=hfl t x k J;have e:execOp ρ o=(Instr.fieldAt t (ρ x) k>>=λv=>Pure.pure (Next.value v)):=by unfold execOp;rw[J]
  rw[e]at W;refine Y (λu U O=>?_) W
  rcases JS Z (ρ x) w with⟨a,_,h2⟩|⟨_,x,h2⟩
  .rw[h2]at O;cases O;rfl
  .rw[h2]at O;cases O
 |load t x=>
  have e:execOp ρ o=(Instr.loadAt t (ρ x)>>=λv=>Pure.pure (Next.value v)):=by unfold execOp;rw[J]
  rw[e]at W;refine Y (λu U O=>?_) W
  refine IL.bind (KS.sure (w:=w) (w':=w) (ρ x)).1 (λa=>IL.loadVar t a) P w U u O
 |move x=>
  have e:execOp ρ o=Pure.pure (Next.value (ρ x)):=by unfold execOp;rw[J]
  rw[e]at W;cases W;exact⟨_,rfl,rfl⟩
 |indexAddr t x i=>
  have e:execOp ρ o=(Instr.indexAt t (ρ x) (ρ i)>>=λv=>Pure.pure (Next.value v)):=by unfold execOp;rw[J]
  rw[e]at W;exact Y (λu U O=>(KS.indexAt (w:=w) (w':=w) t (ρ x) (ρ i)).1 P w U u O) W
 |_=>rw[J]at he;cases he
theorem Ol(h:w'.heap[a.block]? =w.heap[a.block]?):w'.cell? a=w.cell? a:=by
 unfold World.cell?
 grind
theorem UH{m:Mode}(h:w'.heap[a.block]? =w.heap[a.block]?)(O:∃y,w.cell? a=some y){n:Value}(J:(load a m).run P w=.ok n w):(load a m).run P w'=.ok n w':=by
 obtain⟨y,u⟩:=O;rw[run_load]at J⊢;rw[Ol h,u]
 grind
theorem XP{n:Nat}:(a.add n).block=a.block:=by
 unfold Addr.add
 grind
theorem KY{P:Program}{w w':World}{a:Addr}(h:w'.heap[a.block]? =w.heap[a.block]?):∀(n i:Nat) (xs:Array Value) (r:Array Value),(∀k,i<=k->k<i+n->∃y,w.cell? (a.add k)=some y)->(loadCellsFrom a i n xs).run P w=.ok r w->(loadCellsFrom a i n xs).run P w'=.ok r w'
 |0,i,xs,r,_,hr=>by cases hr;rfl
 |n+1,i,xs,r,hc,hr=>by
  have e:∀w,(loadCellsFrom a i (n+1) xs).run P w=((load (a.add i)).run P w).andThen λv O=>(loadCellsFrom a (i+1) n (xs.push v)).run P O:=λw=>by
   show((load (a.add i))>>=λv=>loadCellsFrom a (i+1) n (xs.push v)).run P w=_
   simp
  rw[e]at hr⊢;obtain⟨y,J⟩:=hc i (le_refl _) (by simp)
  have u:∀{w:World},w.cell? (a.add i)=some y->(load (a.add i)).run P w=.ok y w:=λU=>by simp_all
  rw[u J]at hr;rw[u ((Ol (by rw[XP];omega)).trans J)]
  exact KY h n (i+1) (xs.push y) r (λk u W=>hc k (by omega) (by omega)) hr
theorem NU(h:w'.heap[a.block]? =w.heap[a.block]?)(Y:∃y,w.cell? a=some y)(hc:∀s,(sizeOf t).run P w=.ok s w->∀k,k<s->∃y,w.cell? (a.add k)=some y){r:Value}(u:(loadVar t a).run P w=.ok r w):(loadVar t a).run P w'=.ok r w':=by
 unfold loadVar at u⊢;rw[Sem.run_bind]at u⊢;cases W:(isAgg t).run P w with
 |halt x J=>rw[W]at u;cases u
 |ok b J=>
  have e1:=(KS.agg (w:=w) (w':=w') t).1 P w J b W;subst e1;rw[(KS.agg (w:=J) (w':=w') t).2 P b W];rw[W]at u;simp only[Result.andThen_ok]at u⊢;cases b with
  |false=>exact UH h Y u
  |true=>
   simp only[if_true]at u⊢;rw[Sem.run_bind]at u⊢;cases U:(sizeOf t).run P J with
   |halt x O=>simp_all
   |ok s O=>
    have e2:=(KS.size (w:=J) (w':=w') t).1 P J O s U;subst e2;rw[(KS.size (w:=O) (w':=w') t).2 P s U];rw[U]at u;simp only[Result.andThen_ok]at u⊢;rw[Sem.run_bind]at u⊢;cases Z:(loadCells a s).run P O with
    |halt x w4=>rw[Z]at u;cases u
    |ok l w4=>
     have e3:=IL.loadCells a s 0 #[] P O w4 l Z;subst e3;rw[show(loadCells a s).run P w'=.ok l w' from KY h s 0 #[] l (λk _ hk=>hc s U k (by omega)) Z]
     simp_all
def FlL(P:Program)(ops:Array Oper)(fs:List Nat)(a:Act)(w w':World):Prop:=∀f∈fs,∀o,ops[f]? =some o->∀t x,o.op=.load t x->∀ad,a.eval x=.pointer (some ad)->
 w'.heap[ad.block]? =w.heap[ad.block]?/\(∃y,w.cell? ad=some y)/\∀s,(sizeOf t).run P w=.ok s w->∀k,k<s->∃y,w.cell? (ad.add k)=some y
theorem FlT.same(h:FlT P ops fs){a:Act}(hl:FlL P ops fs a w w'):∀f∈fs,∀o,ops[f]? =some o->∀u,(execOp a.eval o).run P w=.ok (.value u) w->(execOp a.eval o).run P w'=.ok (.value u) w':=by
 intro f hf o ho u W;obtain⟨he,hfl⟩:=h f hf o ho
 have kv:∀{s:Sem Value},(∀U,s.run P w=.ok u U->s.run P w'=.ok u w')->((s>>=λv=>Pure.pure (Next.value v):Sem Next).run P w=.ok (.value u) w)->((s>>=λv=>Pure.pure (Next.value v):Sem Next).run P w'=.ok (.value u) w'):=by
  intro s hk h;rw[Sem.run_bind]at h⊢;cases J:s.run P w with
  |halt x U=>rw[J]at h;cases h
  |ok u2 U=>
   rw[J]at h;have e:u2=u:=by cases h;rfl
   subst e;rw[hk U J];rfl
 cases O:o.op with
 |fieldAddr t x k=>
  obtain⟨off,sz,Z⟩:=hfl t x k O;have e:execOp a.eval o=(Instr.fieldAt t (a.eval x) k>>=λv=>Pure.pure (Next.value v)):=by unfold execOp;rw[O]
  rw[e]at W⊢;refine kv (λU J=>?_) W
  rcases JS Z (a.eval x) w with⟨ad,h1,h2⟩|⟨_,x,h2⟩
  .rw[h2]at J
   cases J;rcases JS Z (a.eval x) w' with⟨ad',Y,h4⟩|⟨Y,y,h4⟩
   .rw[h1]at Y;cases Y;exact h4
   .exact absurd h1 (Y ad)
  .rw[h2]at J;cases J
 |load t x=>
  have e:execOp a.eval o=(Instr.loadAt t (a.eval x)>>=λv=>Pure.pure (Next.value v)):=by unfold execOp;rw[O]
  rw[e]at W⊢;refine kv (λU J=>?_) W
  unfold Instr.loadAt at J⊢;rw[Sem.run_bind]at J⊢;unfold Instr.sureAddr at J⊢;split at J
  .rename_i ad had
   obtain⟨h1,h2,Y⟩:=hl f hf o ho t x O ad had;have J:(loadVar t ad).run P w=.ok u U:=J;have:=IL.loadVar t ad P w U u J;subst this;exact NU h1 h2 Y J
  .cases J
 |move x=>
  have e:execOp a.eval o=Pure.pure (Next.value (a.eval x)):=by unfold execOp;rw[O]
  rw[e]at W⊢;cases W;rfl
 |indexAddr t x i=>
  have e:execOp a.eval o=(Instr.indexAt t (a.eval x) (a.eval i)>>=λv=>Pure.pure (Next.value v)):=by unfold execOp;rw[O]
  rw[e]at W⊢;refine kv (λU J=>?_) W
  have:=(KS.indexAt (w:=w) (w':=w') t (a.eval x) (a.eval i)).1 P w U u J;subst this;exact(KS.indexAt (w:=U) (w':=w') t (a.eval x) (a.eval i)).2 P u J
 |_=>rw[O]at he;cases he
end Go.Ve


namespace Go.Ve
variable{a:Act}{C:Ctx}{σ:List V}{N d id y:Nat}{Al F T:Nat->Nat->Prop}{D:Nat->Prop}{t:Nat->V}{ρ:Nat->Value}{o:Oper}{P:Program}{c1 r:V}{w:World}
def FCU(P:Program)(f:FuncId)(k:Nat)(args:List V)(c0 r c1:V):Prop:=
 ∀(w:World) (D H:Nat->Prop) (cvs:Array Value),Wok w->(∀p,Acl=some p->¬H p.1)->(∀b,D b->b<w.heap.size)->(∀b,H b->¬D b)->cvs.size=args.length->
  Rel D w noR c0 (cvs.getD k undef) H->(∀i,i<args.length->i≠k->Rel D w noR (args.getD i .dead) (cvs.getD i undef) noF)->
  Calls P f cvs w λe w'=>∃cv fp D' H',e=.returned cv/\Fr w w' H/\Rel D' w' noR r cv fp/\Rel D' w' noR c1 (cvs.getD k undef) H'/\
   (∀b,fp b->H b\/w.heap.size<=b)/\(∀b,H' b->H b\/w.heap.size<=b)/\(∀b,fp b->¬H' b)/\
   (∀b,D b->D' b)/\(∀b,D' b->D b\/H b\/w.heap.size<=b)/\∀b,D' b->b<w'.heap.size/\¬fp b/\¬H' b
def clean:V->Prop
 |.many _ n f=>∀k,k<n->clean (f k)
 |.rs _ _ _ _=>False
 |.rp _ _ _ _=>False
 |.rm _ _=>False
 |_=>True
theorem Rel.clean{D:Nat->Prop}{w:World}:∀(v:V) (R R':V->Value->Prop) (cv:Value) (fp:Nat->Prop),Go.Ve.clean v->Rel D w R v cv fp->Rel D w R' v cv fp:=by
 intro v
 induction v with
 |c v=>intro R R' cv fp _ h;exact h
 |dead=>intro R R' cv fp _ h;exact h
 |many t n f O=>
  intro R R' cv fp u h;obtain⟨cs,F,J,Y,W,hd,Z⟩:=h;exact⟨cs,F,J,Y,λk U=>O k R R' _ _ (u k U) (W k U),hd,Z⟩
 |nd s own sz n f O=>intro R R' cv fp _ h;exact h
 |rs=>intro R R' cv fp u h;trivial
 |rp=>intro R R' cv fp u h;trivial
 |rm=>intro R R' cv fp u h;trivial
 |mp own l=>intro R R' cv fp u h;exact h
def K2(c:V):Prop:=∃s sz n f,c=.nd s true sz n f/\(s=false\/0<n)
theorem K2.some{R:V->Value->Prop}{c:V}{cv:Value}{H:Nat->Prop}(Y:K2 c)(h:Rel D w R c cv H):∃b,H b:=by
 obtain⟨s,sz,n,f,rfl,Z⟩:=Y;rcases h with⟨h1,h2,_⟩|⟨b,o,cap,F,W,J,u,O,hr,hi,U⟩
 .grind
 .exact⟨b,((U rfl).2.2.2 b).2 (.inl rfl)⟩
section
variable {C:Ctx}{N:Nat}{σ:List V}{ρ:Nat->Value}{F:Nat->Nat->Prop}{t:Nat->V}{a:Act}{w:World}{D:Nat->Prop}{T:Nat->Nat->Prop}
theorem PR.turn(h:PR C N σ ρ F t a w D T){v':Value}{fp H' D':Nat->Prop}{w':World}(hy:y<N)(hdn:d<N)(hyd:y≠d)(U:Fr w w' (T y))(hr:Rel D' w' noR r v' fp)(hc:Rel D' w' noR c1 (a.tmps.getD y undef) H')
  (hf:∀b,fp b->T y b\/w.heap.size<=b) (hH:∀b,H' b->T y b\/w.heap.size<=b) (hfH:∀b,fp b->¬H' b) (hd1:∀b,D b->D' b) (hd2:∀b,D' b->D b\/T y b\/w.heap.size<=b) (hd3:∀b,D' b->b<w'.heap.size/\¬fp b/\¬H' b):
  PR C N σ ρ F (AI (AP [(y,.put c1)] t) d r) (a.put (some d) v') w' D' (λx b=>if x=d then fp b else if x=y then H' b else T x b):=by
 have hFlt:∀i b,F i b->b<w.heap.size:=h.wr.lt;have hTlt:∀x b,T x b->b<w.heap.size:=by
  intro x b u;by_cases O:x<N
  .exact Rel.lt _ _ _ (h.tm x O) b u
  .exact absurd u (h.tx x b (le_of_not_lt O))
 have kM:∀x,AP [(y,.put c1)] t x=if x=y then c1 else t x:=by
  intro x;unfold AP;by_cases O:x=y
  .subst O
   rw[if_pos rfl];show H1 (if x=x then some (.put c1)else none) _=_
   rw[if_pos rfl];rfl
  .rw[if_neg O]
   show H1 (if y=x then some (.put c1)else none) _=_
   rw[if_neg (Ne.symm O)];rfl
 have hD:∀b,D b->w'.heap[b]? =w.heap[b]?:=λb u=>U.block b (h.wr.Dlt b u) λhT=>h.tD y b hT u
 have hFs:∀i b,F i b->w'.heap[b]? =w.heap[b]?:=λi b u=>U.block b (hFlt i b u) λhT=>h.tF i y b u hT
 have hTs:∀x b,x≠y->T x b->w'.heap[b]? =w.heap[b]?:=λx b O u=>U.block b (hTlt x b u) λhT=>h.tT x y b O u hT
 have wr':Bu σ w' D' ρ F:=by
  refine⟨λi hi=>Rel.mono hd1 (λ_ _ h=>h) _ _ _ (λb u=>u.elim (hD b) (hFs i b)) (h.wr.rel i hi),h.wr.disj,λi b u hDb=>?_,λb u=>(hd3 b u).1,h.wr.out⟩
  rcases hd2 b hDb with J|J|J
  .exact h.wr.dD i b u J
  .exact h.tF i y b u J
  .have:=hFlt i b u;omega
 have hW:∀b,T y b\/w.heap.size<=b->C.W b\/C.w0.heap.size<=b:=λb u=>u.elim (h.tn y b) λu=>.inr (le_trans h.fr.size u)
 refine⟨h.df,by rw[BW];simpa using h.sz,λx O=>?_,wr',λx O=>?_,λx b u=>?_,λi x b u hT=>?_,λx z b hxz J Y=>?_,λx b u=>?_,⟨U.os.trans h.fr.os,U.tape.trans h.fr.tape,U.output.trans h.fr.output,le_trans h.fr.size U.size,λb u hWb=>?_,le_trans h.fr.drawn U.drawn⟩,h.Fn,λb u=>hd1 b (h.D1 b u),λb u hlt=>?_,h.rt,h.ml,λx b O u=>?_⟩
 .have J:¬x=d:=by omega
  have Y:¬x=y:=by omega
  simp only[AI,J,if_false];rw[kM,if_neg Y];exact h.dd x O
 .have hlt:x<a.tmps.size:=by rw[h.sz];exact O
  rw[BW];by_cases he:x=d
  .subst he
   simp only[AI,if_true];have:Rel D' w' (Aq σ ρ w') r v' (λb=>if x=x then fp b else if x=y then H' b else T x b):=Rel.fp_congr (λb=>by rw[if_pos rfl]) (Rel.noR_mono hr)
   simpa [hlt]using this
  .simp only[AI,he,if_false]
   rw[Array.getD_eq_getD_getElem?,Array.getElem?_setIfInBounds_ne (Ne.symm he),<-Array.getD_eq_getD_getElem?,kM];by_cases Z:x=y
   .subst Z
    simp only[if_true];exact Rel.noR_mono hc
   .simp only[Z,if_false]
    exact Rel.mono hd1 (λv cv hv=>Aq.same h.wr hFs v cv hv) _ _ _ (λb u=>u.elim (hD b) (hTs x b Z)) (h.tm x O)
 .split at u
  .exact λhDb=>(hd3 b hDb).2.1 u
  .split at u
   .exact λhDb=>(hd3 b hDb).2.2 u
   .rename_i Z
    intro hDb;rcases hd2 b hDb with J|J|J
    .exact h.tD x b u J
    .exact h.tT x y b Z u J
    .have:=hTlt x b u;omega
 .have key:T y b\/w.heap.size<=b->False:=λJ=>J.elim (h.tF i y b u) λJ=>by have:=hFlt i b u;omega
  split at hT
  .exact key (hf b hT)
  .split at hT
   .exact key (hH b hT)
   .exact h.tF i x b u hT
 .have key:∀x,x≠y->T x b->T y b\/w.heap.size<=b->False:=λx Z O J=>J.elim (h.tT x y b Z O) λJ=>by have:=hTlt x b O;omega
  split at J<;>split at Y
  .omega
  .split at Y
   .exact hfH b J Y
   .rename_i _ _ hz;exact key z hz Y (hf b J)
  .split at J
   .exact hfH b Y J
   .rename_i O _;exact key x (by assumption) J (hf b Y)
  .split at J<;>split at Y
   .omega
   .exact key z (by assumption) Y (hH b J)
   .exact key x (by assumption) J (hH b Y)
   .exact h.tT x z b hxz J Y
 .split at u
  .exact hW b (hf b u)
  .split at u
   .exact hW b (hH b u)
   .exact h.tn x b u
 .rw[U.block b (Nat.lt_of_lt_of_le u h.fr.size) λhT=>by
   rcases h.tn y b hT with J|J
   .exact hWb J
   .omega]
  exact h.fr.block b u hWb
 .rcases hd2 b u with J|J|J
  .exact h.D2 b J hlt
  .rcases h.tn y b J with Y|Y
   .exact .inr Y
   .omega
  .have:=h.fr.size;omega
 .have J:¬x=d:=by omega
  have Y:¬x=y:=by omega
  simp only[J,Y,if_false]at u;exact h.tx x b O u
end
theorem Aq.setD{u:V}(hd:σ.getD id .dead=.dead):∀v cv,Aq σ ρ w v cv->Aq (σ.set id u) ρ w v cv:=by
 have ne:∀{p:List (Nat×Nat)}{cv W:Value}{s o:Bool}{sz n:Nat}{f:Nat->Nat->V},¬At w p .dead cv (.nd s o sz n f) W:=by
  intro p cv W s o sz n f h;cases p with
  |nil=>cases h.1
  |cons _ _=>exact h
 have get:∀{i:Nat},i≠id->(σ.set id u).getD i .dead=σ.getD i .dead:=by
  grind
 intro v cv h;cases v with
 |rs i p off len=>
  obtain⟨U,sz,n,f,cn,J,O⟩:=h;have Y:i≠id:=by
   grind
  exact⟨by simpa using U,sz,n,f,cn,by grind,O⟩
 |rp i p j k=>
  obtain⟨U,s,sz,n,f,b,o,cap,J,O⟩:=h;have Y:i≠id:=by
   grind
  exact⟨by simpa using U,s,sz,n,f,b,o,cap,by grind,O⟩
 |rm i p=>
  obtain⟨U,l,b,J,O⟩:=h;have Y:i≠id:=by
   rintro rfl
   rw[hd]at J;cases p with
   |nil=>cases J.1
   |cons _ _=>exact J
  exact⟨by simpa using U,l,b,by rw[get Y];exact J,O⟩
 |_=>exact h
theorem PR.back(h:PR C N σ ρ F t a w D T){sz:Nat}{f:Nat->Nat->V}(hy:y<N)(hid:id<σ.length)(hd:σ.getD id .dead=.dead)(ht:t y=.nd false true sz 1 f)(hsz:0<sz)(hv:a.tmps.getD y undef=ρ id):
  PR C N (σ.set id (t y)) ρ (λi b=>if i=id then T y b else F i b) (AI t y (.rp id [] 0 0)) a w D (λx b=>x≠y/\T x b):=by
 have get:∀{i:Nat},i≠id->(σ.set id (t y)).getD i .dead=σ.getD i .dead:=by
  intro i U;simp only[gDE];rw[List.getElem?_set_ne (Ne.symm U)]
 have W:(σ.set id (t y)).getD id .dead=t y:=by simp[hid]
 have J:Rel D w noR (t y) (ρ id) (T y):=by
  have O:=h.tm y hy;rw[hv,ht]at O;rw[ht];exact O
 refine⟨h.df,h.sz,λx hx=>?_,⟨λi U=>?_,λi j b hij O Z=>?_,λi b u=>?_,h.wr.Dlt,λi b U u=>?_⟩,λx hx=>?_,λx b u=>h.tD x b u.2,λi x b u hT=>?_,λx z b hxz O Z=>h.tT x z b hxz O.2 Z.2,λx b u=>h.tn x b u.2,h.fr,λi b u=>?_,h.D1,h.D2,h.rt,by simpa using h.ml,λx b hx u=>h.tx x b hx u.2⟩
 .have:¬x=y:=by omega
  simp only[AI,this,if_false];exact h.dd x hx
 .have U:i<σ.length:=by simpa using U
  by_cases Y:i=id
  .subst Y
   rw[W];exact Rel.fp_congr (λb=>by rw[if_pos rfl]) J
  .rw[get Y]
   exact Rel.fp_congr (λb=>by rw[if_neg Y]) (h.wr.rel i U)
 .split at O<;>split at Z
  .omega
  .exact h.tF j y b Z O
  .exact h.tF i y b O Z
  .exact h.wr.disj i j b hij O Z
 .split at u
  .exact h.tD y b u
  .exact h.wr.dD i b u
 .have U:σ.length<=i:=by simpa using U
  rw[if_neg (by omega)]at u
  exact h.wr.out i b U u
 .by_cases Y:x=y
  .subst Y
   simp only[AI,if_true];refine⟨?_,λb u=>u.1 rfl⟩
   rw[ht]at J;rcases J with⟨O,_⟩|⟨b,o,cap,G,hcv,_⟩
   .omega
   .refine⟨by simpa using hid,false,sz,1,f,b,o,cap,⟨by rw[W,ht],hcv.symm⟩,by omega,hsz,?_⟩
    rw[hv,hcv];simp[AC]
  .simp only[AI,Y,if_false]
   exact Rel.fp_congr (λb=>⟨λh=>⟨Y,h⟩,λh=>h.2⟩) (Rel.mono (λ_ h=>h) (Aq.setD hd) _ _ _ (λ_ _=>rfl) (h.tm x hx))
 .split at u
  .exact h.tT x y b hT.1 hT.2 u
  .exact h.tF i x b u hT.2
 .split at u
  .exact h.tn y b u
  .exact h.Fn i b u
theorem Zp{Al:Nat->Nat->Prop}{σ:List V}{t:Nat->V}{f:FuncId}{xs:Array Operand}{ats:Array TypeId}{k z:Nat}{args:List V}{c0 r c1:V}(ho:o.op=.call ⟨.value (.func f),xs,ats⟩)(hd:o.dst=some d)(hdn:d<N)(hyn:y<N)(hyd:y≠d)(u:Be P f=true)
  (hk:xs[k]? =some (.tmp z)) (hz:z=y\/Al z y) (ht:Sub (t y) c0) (hnd:∃s sz n f,c0=.nd s true sz n f) (Z:K2 c0\/c1=.dead) (hsz:xs.size=args.length) (hargs:∀i x,i≠k->xs[i]? =some x->AN (Ms.ev ⟨t,σ⟩ x)=false/\clean (Ms.ev ⟨t,σ⟩ x)/\Sub (Ms.ev ⟨t,σ⟩ x) (args.getD i .dead)) (hc:FCU P f k args c0 r c1):
  LQ P N σ Al o t [(y,.put c1)] r:=by
 intro C ρ F a w D T t' hag hal hp next Q hn
 have hopx:∀z,Operand.tmp z∈xs.toList->t' z=t z:=λz hz=>hag z (.inl<|Ds (by rw[ho];simp[Op.operands,Call.operands]at hz⊢;simp[hz]))
 have hrun:(execOp a.eval o).run P w=.ok (.enter f (xs.map a.eval)) w:=by
  unfold Be at u;split at u
  .rename_i fn hfn
   simp only[bAE,Bool.not_eq_true']at u;obtain⟨U,h2⟩:=u;have h2':fn.body.isNone=false:=by cases Z:fn.body<;>simp[Z]at h2⊢
   have e0:a.eval (.func f)=.func (.func f) #[] #[]:=rfl;unfold execOp;rw[ho];simp[resolve,e0,Deferred.ofValue,invoke,callFunc,hfn,h2'];simp at U;simp[U];intro Z;simp[Z]at h2
  .cases u
 have hks:k<xs.size:=(Array.getElem?_eq_some_iff.1 hk).1
 have hxk:(xs.map a.eval).getD k undef=a.tmps.getD y undef:=by
  have:xs[k]=.tmp z:=by
   have:=(Array.getElem?_eq_some_iff.1 hk).2;exact this
  have e:(xs.map a.eval).getD k undef=a.eval xs[k]:=by simp[hks]
  rw[e,this];show a.tmps.getD z undef=_;rcases hz with rfl|hz
  .rfl
  .exact hal z y hz
 have hty:t' y=t y:=hag y (.inr (by
  show(if y=y then some (Tk.put c1)else none)≠none
  rw[if_pos rfl];simp))
 have htm:=hp.tm y hyn;rw[hty]at htm;obtain⟨s0,sz0,n0,f0,hc0⟩:=hnd
 have hc0r:Rel D w noR c0 (a.tmps.getD y undef) (T y):=by
  have U:=Rel.sub ht htm;rw[hc0]at U⊢;exact U
 unfold Oper.wp;rw[hrun,Oper.upon_enter];refine(hc w D (T y) (xs.map a.eval) hp.ok (λp W hT=>?_) hp.wr.Dlt (hp.tD y) (by simp[hsz]) (by rw[hxk];exact hc0r) λi hi hik=>?_).mono λe w' hpost=>?_
 .rcases hp.tn y p.1 hT with U|U
  .exact C.ok.2 p W U
  .have:=C.ok.1.lt W;omega
 .have hi':i<xs.size:=by omega
  have hxi:xs[i]? =some xs[i]:=by simp[hi']
  obtain⟨U,h2,h3⟩:=hargs i xs[i] hik hxi;have hev:Ms.ev ⟨t',σ⟩ xs[i]=Ms.ev ⟨t,σ⟩ xs[i]:=by
   cases hx:xs[i]with
   |tmp z=>exact hopx z (by rw[<-hx];simp)
   |const v=>rfl
   |global g=>rfl
   |func f=>rfl
  obtain⟨fp,J,_⟩:=hp.ev xs[i];rw[hev]at J;rw[A7 (AF _ _ _ U J)]at J;have e:(xs.map a.eval).getD i undef=a.eval xs[i]:=by simp[hi']
  rw[e];exact Rel.sub h3 (Rel.clean _ _ _ _ _ h2 J)
 .obtain⟨cv,fp,D',H',rfl,hfr,hr',Y,hf,hH,hfH,hd1,hd2,hd3⟩:=hpost
  rw[hxk]at Y;have W:=hp.turn (d:=d) hyn hdn hyd hfr hr' Y hf hH hfH hd1 hd2 hd3;rw[hd]at hn⊢;refine hn _ _ _ _ W (λx b O=>?_) λ_ hx=>BL hx
  by_cases hxd:x=d
  .exact .inl (by rw[hxd])
  .right
   simp only[hxd,if_false]at O;by_cases hxy:x=y
   .rw[if_pos hxy]at O
    rw[hxy];rcases Z with Z|Z
    .exact K2.some Z hc0r
    .rw[Z]at Y
     exact absurd O (Y b)
   .simp only[hxy,if_false]at O
    exact⟨b,O⟩
theorem PR.freeze(h:PR C N σ ρ F t a w D T)(hd:d<N):
  PR C N σ ρ F (AI t d (Go.Ve.frz (t d))) a w (λb=>D b\/T d b) (λx b=>x≠d/\T x b):=by
 have O:∀x b,T x b->b<w.heap.size:=by
  intro x b u;by_cases J:x<N
  .exact Rel.lt _ _ _ (h.tm x J) b u
  .exact absurd u (h.tx x b (le_of_not_lt J))
 refine⟨h.df,h.sz,λx J=>?_,⟨λi hi=>Rel.mono (λ_ h=>.inl h) (λ_ _ h=>h) _ _ _ (λ_ _=>rfl) (h.wr.rel i hi),h.wr.disj,λi b u Z=>?_,λb u=>?_,h.wr.out⟩,λx J=>?_,λx b u Z=>?_,λi x b u hT=>h.tF i x b u hT.2,λx z b U h1 h2=>h.tT x z b U h1.2 h2.2,λx b u=>h.tn x b u.2,h.fr,h.Fn,λb u=>.inl (h.D1 b u),λb u W=>?_,h.rt,h.ml,λx b J u=>h.tx x b J u.2⟩
 .have:¬x=d:=by omega
  simp[AI,this,if_false];exact h.dd x J
 .exact Z.elim (h.wr.dD i b u) (h.tF i d b u)
 .exact u.elim (h.wr.Dlt b) (O d b)
 .by_cases Y:x=d
  .subst Y
   simp only[AI,if_true];exact Rel.fp_congr (λb=>⟨λh=>h.elim,λh=>(h.1 rfl).elim⟩) (Rel.frz _ _ _ (h.tm x J))
  .simp only[AI,Y,if_false]
   exact Rel.fp_congr (λb=>⟨λh=>⟨Y,h⟩,λh=>h.2⟩) (Rel.mono (λ_ h=>.inl h) (λ_ _ h=>h) _ _ _ (λ_ _=>rfl) (h.tm x J))
 .exact Z.elim (h.tD x b u.2) (h.tT x d b u.1 u.2)
 .rcases u with u|u
  .exact h.D2 b u W
  .rcases h.tn d b u with h1|h1
   .grind
   grind
theorem LQ.frzR{ys:List (Nat×Tk)}(h:LQ P N σ Al o t ys r)(hd:o.dst=some d)(O:d<N):LQ P N σ Al o t ys (Go.Ve.frz r):=by
 intro C ρ F a w D T u W U Z next Q hn
 refine h C ρ F a w D T u W U Z next Q λa' w' D' T' J hT' Y=>?_
 have hf:=J.freeze O
 have e:AI (Iy o.dst r (AP ys u)) d (Go.Ve.frz (Iy o.dst r (AP ys u) d))=Iy o.dst (Go.Ve.frz r) (AP ys u):=by
  rw[hd]
  funext x
  show(if x=d then Go.Ve.frz (if d=d then r else _)else(if x=d then r else AP ys u x))=(if x=d then Go.Ve.frz r else AP ys u x)
  rw[if_pos rfl];split<;>rfl
 grind
end Go.Ve


namespace Go.Ve
variable{s:Bool}{σ:List V}{id n sz:Nat}{f:Nat->Nat->V}{D:Nat->Prop}{ρ:Nat->Value}{w:World}
def KJ(id:Nat):V->V
 |.nd true _ _ n _=>.rs id [] 0 n
 |_=>.rp id [] 0 0
theorem LT{ρ:Nat->Value}{w:World}{D:Nat->Prop}{H:Nat->Prop}(J:id<σ.length)(U:σ.getD id .dead=.nd s true sz n f)(O:s=false->0<sz/\n=1)
  (h:Rel D w noR (.nd s true sz n f) (ρ id) H):Rel D w (Aq σ ρ w) (KJ id (.nd s true sz n f)) (ρ id) noF:=by
 cases s with
 |false=>
  obtain⟨h0,rfl⟩:=O rfl;refine⟨?_,λb W=>W⟩
  rcases h with⟨Y,_⟩|⟨b,o,cap,G,u,_⟩
  .omega
  .refine⟨J,false,sz,1,f,b,o,cap,⟨U.symm,u.symm⟩,by simp,h0,?_⟩
   rw[u];simp[AC]
 |true=>
  refine⟨?_,λb W=>W⟩
  rcases h with⟨Y,_,Z,_⟩|⟨b,o,cap,G,u,_⟩
  .subst Y
   refine⟨J,sz,0,f,ρ id,⟨U.symm,rfl⟩,le_refl _,.inr ⟨rfl,none,?_,(λ_ _=>rfl),λp e=>by grind⟩⟩
   rw[DK Z];rfl
  .refine⟨J,sz,n,f,ρ id,⟨U.symm,rfl⟩,by simp,.inl ⟨b,o,cap,u,?_⟩⟩
   rw[u];simp[AC]
theorem Wg{ρ:Nat->Value}{w:World}{D D':Nat->Prop}{H fp:Nat->Prop}{v:V}{cv:Value}(h1:v=.nd s true sz n f)(h2:s=false->0<sz/\n=1)(h3:σ.getD id .dead=v)
  (Y:Rel D w noR v (ρ id) H) (Z:Rel D' w (Aq σ ρ w) (KJ id v) cv fp):cv=ρ id:=by
 subst h1;cases s with
 |true=>
  obtain⟨⟨_,U,n',f',cn,J,_,u⟩,_⟩:=Z;obtain⟨O,W⟩:=J;rw[h3]at O;cases O;rw[<-W];rcases u with⟨b,o,cap,g1,g2⟩|⟨g1,ad,_,g3,_⟩
  .rw[g1,g2]
   show Value.slice (some ⟨b,o+0*sz,none⟩) n (cap-0)=Value.slice (some ⟨b,o,none⟩) n cap;simp
  grind
 |false=>
  obtain⟨⟨_,s',U,n',f',b,o,cap,J,_,_,u⟩,_⟩:=Z;obtain⟨O,W⟩:=J;rw[h3]at O;cases O;rw[<-W,u];simp[AC]
theorem PR.back2{C:Ctx}{N:Nat}{F:Nat->Nat->Prop}{t:Nat->V}{a:Act}{T:Nat->Nat->Prop}(h:PR C N σ ρ F t a w D T){y:Nat}(hy:y<N)(hid:id<σ.length)(hd:σ.getD id .dead=.dead)(ht:t y=.nd s true sz n f)(hsz:s=false->0<sz/\n=1)(hv:a.tmps.getD y undef=ρ id):
  PR C N (σ.set id (t y)) ρ (λi b=>if i=id then T y b else F i b) (AI t y (KJ id (t y))) a w D (λx b=>x≠y/\T x b):=by
 have get:∀{i:Nat},i≠id->(σ.set id (t y)).getD i .dead=σ.getD i .dead:=by
  grind
 have U:(σ.set id (t y)).getD id .dead=t y:=by simp[hid]
 have W:Rel D w noR (t y) (ρ id) (T y):=by
  have O:=h.tm y hy;rw[hv,ht]at O;rw[ht];exact O
 refine⟨h.df,h.sz,λx hx=>?_,⟨λi Y=>?_,λi j b hij O J=>?_,λi b u=>?_,h.wr.Dlt,λi b Y u=>?_⟩,λx hx=>?_,λx b u=>h.tD x b u.2,λi x b u hT=>?_,λx z b hxz O J=>h.tT x z b hxz O.2 J.2,λx b u=>h.tn x b u.2,h.fr,λi b u=>?_,h.D1,h.D2,h.rt,by simpa using h.ml,λx b hx u=>h.tx x b hx u.2⟩
 .have:¬x=y:=by omega
  simp only[AI,this,if_false];exact h.dd x hx
 .have Y:i<σ.length:=by simpa using Y
  by_cases Z:i=id
  .subst Z
   rw[U];exact Rel.fp_congr (λb=>by rw[if_pos rfl]) W
  .rw[get Z]
   exact Rel.fp_congr (λb=>by rw[if_neg Z]) (h.wr.rel i Y)
 .split at O<;>split at J
  .omega
  .exact h.tF j y b J O
  .exact h.tF i y b O J
  .exact h.wr.disj i j b hij O J
 .split at u
  .exact h.tD y b u
  .exact h.wr.dD i b u
 .have Y:σ.length<=i:=by simpa using Y
  rw[if_neg (by omega)]at u
  exact h.wr.out i b Y u
 .by_cases Z:x=y
  .subst Z
   simp only[AI,if_true];rw[hv];have J:=LT (σ:=σ.set id (t x)) (ρ:=ρ) (id:=id) (s:=s) (sz:=sz) (n:=n) (f:=f) (by simpa using hid) (by rw[U,ht]) hsz (by rw[<-ht];exact W)
   rw[<-ht]at J;exact Rel.fp_congr (λb=>⟨λh=>h.elim,λh=>(h.1 rfl).elim⟩) J
  .simp only[AI,Z,if_false]
   exact Rel.fp_congr (λb=>⟨λh=>⟨Z,h⟩,λh=>h.2⟩) (Rel.mono (λ_ h=>h) (Aq.setD hd) _ _ _ (λ_ _=>rfl) (h.tm x hx))
 .split at u
  .exact h.tT x y b hT.1 hT.2 u
  .exact h.tF i x b u hT.2
 .split at u
  .exact h.tn y b u
  .exact h.Fn i b u
end Go.Ve

