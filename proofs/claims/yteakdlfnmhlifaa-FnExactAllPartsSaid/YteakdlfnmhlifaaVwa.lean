/- In a region that draws its order. -/
import Derived.Test.YteakdlfnmhlifaaVu
import Derived.Laws.IdiomCopy
open Nat(le_refl le_of_not_lt le_trans)
open List(mem_of_getElem? mem_filterMap getElem?_map getElem_mem mem_cons_self mem_cons mem_range)
set_option linter.all false
namespace Go.Ve
variable{ps:Array (Nat×Operand)}{xs:List Operand}{zero:List Value}{N d j size y:Nat}{fp:Nat->Prop}{t:Nat->V}{o:Oper}{x:Operand}{P:Program}{tk:Tk}{ty:TypeId}
structure Zy(D:Nat->Prop)(w:World)(R:V->Value->Prop)(l:List V)(cs:Array Value)(G:Nat->Nat->Prop):Prop where
 sz:cs.size=l.length
 rel:∀j,j<l.length->Rel D w R (l.getD j .dead) (cs.getD j undef) (G j)
 dis:∀i j b,i≠j->G i b->¬G j b
def I7:V->Bool
 |.many .tu _ _=>false
 |.many .bx _ _=>false
 |.many (.cl _) _ _=>false
 |.many .ag _ _=>true
 |.dead=>false
 |_=>true
section
variable {D:Nat->Prop}{w:World}{R:V->Value->Prop}
theorem KO(hR:∀v cv,R v cv->cv.oneCell'=true){v:V}{cv:Value}(Y:I7 v=true)(h:Rel D w R v cv fp):∃H,Zy D w R (cellsV v) cv.cells H/\∀j b,H j b->fp b:=by
 have u:Zs v=true->cellsV v=[v]->∃H,Zy D w R (cellsV v) cv.cells H/\∀j b,H j b->fp b:=by
  intro hm hcv;obtain⟨hc,_⟩:=Rel.cells1 h hR hm;rw[hcv,hc];refine⟨λj=>if j=0 then fp else noF,⟨rfl,λj hj=>?_,λi j b O W U=>?_⟩,λj b J=>?_⟩
  .simp_all
  .by_cases hi:i=0
   .have hj:j≠0:=by omega
    simp only[hj,if_false]at U;exact U
   .simp only[hi,if_false]at W
    exact W
  .have J:(if j=0 then fp else noF) b:=J
   split at J
   .exact J
   .exact J.elim
 cases v with
 |c v=>exact u rfl rfl
 |dead=>cases Y
 |nd s own sz n f=>exact u rfl rfl
 |rs id p off len=>exact u rfl rfl
 |rp id p i k=>exact u rfl rfl
 |rm id p=>exact u rfl rfl
 |mp own l=>exact u rfl rfl
 |many t n f=>
  cases t with
  |bx=>cases Y
  |tu=>cases Y
  |cl _=>cases Y
  |ag=>
   obtain⟨cs,F',rfl,hn,hr,hd,Z⟩:=h;refine⟨λj b=>j<n/\F' j b,⟨by simp[cellsV,Value.cells,hn],λj hj=>?_,λi j b O W U=>hd i j b W.1 U.1 O W.2 U.2⟩,λj b J=>(Z b).2 ⟨j,J⟩⟩
   simp[cellsV]at hj;have e:(cellsV (.many .ag n f)).getD j .dead=f j:=by simp[cellsV,hj]
   rw[e];exact Rel.fp_congr (λb=>⟨λh=>⟨hj,h⟩,λh=>h.2⟩) (hr j hj)
theorem Xz(l:List V):∀(u:List Value) (k off:Nat) (cells:List V) (cs:Array Value) (G H:Nat->Nat->Prop),u.length=l.length->(∀j,j<l.length->Rel D w R (l.getD j .dead) (u.getD j undef) (H (k+j)))->(∀i j b,i≠j->H i b->¬H j b)->Zy D w R cells cs G->
  (∀j b i,k<=i->G j b->¬H i b)->∃G',Zy D w R ((l.zipIdx k).foldl (λcs (c,j)=>cs.set (off+j) c) cells) ((u.zipIdx k).foldl (λcs (c,j)=>cs.setIfInBounds (off+j) c) cs) G'/\∀j b,G' j b->G j b\/∃i,H i b:=by
 induction l with
 |nil=>intro u k off cells cs G H Y _ _ h _;cases u<;>first|exact⟨G,h,λ_ _ h=>.inl h⟩|cases Y
 |cons v l ih=>
  intro u k off cells cs G H Y hr hH h O;cases u with
  |nil=>cases Y
  |cons x u=>
   simp only[List.zipIdx_cons,List.foldl_cons];have h0:Rel D w R v x (H k):=by simpa using hr 0 (by simp)
   have g1:∀j,j<l.length->Rel D w R (l.getD j .dead) (u.getD j undef) (H (k+1+j)):=λj hj=>by
    have:=hr (j+1) (by simp;omega)
    rw[show k+1+j=k+(j+1) by omega]
    simpa using this
   have g2:Zy D w R (cells.set (off+k) v) (cs.setIfInBounds (off+k) x) (λj=>if j=off+k then H k else G j):=by
    refine⟨by simp[h.sz],λj hj=>?_,λi j b hij e J=>?_⟩
    .simp only[List.length_set]at hj
     by_cases Z:off+k=j
     .subst Z
      have e:off+k<cs.size:=by rw[h.sz];exact hj
      simp[hj,e];exact h0
     .have:=h.rel j hj
      have e:j<cs.size:=by rw[h.sz];exact hj
      simp only[Ne.symm Z,if_false];simp only[gDE,List.getElem?_set_ne Z];simp only[Array.getD_eq_getD_getElem?,Array.getElem?_setIfInBounds_ne Z];simpa using this
    .have e:(if i=off+k then H k else G i) b:=e
     have J:(if j=off+k then H k else G j) b:=J
     split at e<;>split at J
     .omega
     .exact O j b k (le_refl _) J e
     .exact O i b k (le_refl _) e J
     .exact h.dis i j b hij e J
   have g3:∀j b i,k+1<=i->(if j=off+k then H k else G j) b->¬H i b:=λj b i hi W=>by
    split at W
    .exact hH k i b (by omega) W
    .exact O j b i (by omega) W
   obtain⟨G',e,J⟩:=ih u (k+1) off _ _ _ H (by simpa using Y) g1 hH g2 g3
   refine⟨G',e,λj b W=>?_⟩
   rcases J j b W with U|U
   .have U:(if j=off+k then H k else G j) b:=U
    split at U
    .exact .inr ⟨_,U⟩
    .exact .inl U
   .exact .inr U
theorem U0(hR:∀v cv,R v cv->cv.oneCell'=true)(place:Nat->Option (Nat×Nat)):∀(J:List (Nat×V)) (u:List (Nat×Value)) (cells Z:List V) (cs:Array Value) (G Fp:Nat->Nat->Prop),Cb place cells J=some Z->Zy D w R cells cs G->
  J.length=u.length->(∀(j i:Nat) (v:V),J[j]? =some (i,v)->I7 v=true/\∃x,u[j]? =some (i,x)/\Rel D w R v x (Fp j))->(∀i j b,i≠j->Fp i b->¬Fp j b)->(∀j b i,G j b->¬Fp i b)->
  ∃O G',Instr.fill place cs u=some O/\Zy D w R Z O G'/\∀j b,G' j b->G j b\/∃i,Fp i b:=by
 intro J
 induction J with
 |nil=>
  intro u cells Z cs G Fp h hr hl _ _ _;cases u with
  |nil=>simp[Cb]at h;subst h;exact⟨cs,G,rfl,hr,λ_ _ h=>.inl h⟩
  |cons=>cases hl
 |cons p J ih=>
  intro u cells Z cs G Fp h hr hl hp hF hGF;obtain⟨i,v⟩:=p;cases u with
  |nil=>cases hl
  |cons c u=>
   obtain⟨hpl,x,hx,hrx⟩:=hp 0 i v rfl;simp at hx;subst hx;unfold Cb at h;split at h
   .cases h
   rename_i off size hplc;split at h
   .cases h
   rename_i hcond;obtain⟨H,U,W⟩:=KO hR hpl hrx;have h1:x.cells.size=(cellsV v).length:=U.sz;have h2:cs.size=cells.length:=hr.sz
   have hn:¬ ((decide (x.cells.size≠size)||decide (off+x.cells.size>cs.size))=true):=by
    simp only[Bool.or_eq_true,decide_eq_true_eq];rw[h1,h2];omega
   unfold Instr.fill;simp only[hplc];rw[if_neg hn]
   obtain⟨G1,hset,hG1⟩:∃G1,Zy D w R (ZX cells off (cellsV v)) (x.cells.zipIdx.foldl (λcs (c,j)=>cs.setIfInBounds (off+j) c) cs) G1/\∀j b,G1 j b->G j b\/∃i,H i b:=by
    have:=Xz (cellsV v) x.cells.toList 0 off cells cs G H (by simpa using h1) (λj hj=>by simpa using U.rel j hj) U.dis hr (λj b i _ hb hh=>hGF j b 0 hb (W i b hh))
    rw[<-Array.foldl_toList];simpa [ZX]using this
   obtain⟨O,G',e,h3,h4⟩:=ih u _ Z _ G1 (λj=>Fp (j+1)) h hset (by simpa using hl) (λj i v hj=>by simpa using hp (j+1) i v (by simpa using hj)) (λi j b hij=>hF (i+1) (j+1) b (by omega)) (λj b i hb hh=>by
    rcases hG1 j b hb with Y|⟨q,Y⟩
    .exact hGF j b (i+1) Y hh
    .exact hF 0 (i+1) b (by omega) (W q b Y) hh)
   refine⟨O,G',e,h3,λj b hb=>?_⟩
   rcases h4 j b hb with Y|⟨q,Y⟩
   .rcases hG1 j b Y with h6|⟨q,h6⟩
    .exact .inl h6
    .exact .inr ⟨0,W q b h6⟩
   .exact .inr ⟨q+1,Y⟩
end
def IH(t:Nat->V):Operand->Option Nat
 |.tmp y=>if AK (t y)then some y else none
 |_=>none
def C8:List (Option Nat)->Bool
 |[]=>true
 |none::l=>C8 l
 |some a::l=>l.all (λb=>match b with
  |some b=>!Nat.beq a b
  |none=>true)&&C8 l
theorem KW:∀{l:List (Option Nat)},C8 l=true->∀(i k a:Nat),i≠k->l[i]? =some (some a)->l[k]?≠some (some a)
 |none::l,h,i,k,a,hne,h1=>by
  cases i with
  |zero=>cases h1
  |succ i=>cases k with
   |zero=>intro e;cases e
   |succ k=>exact KW (l:=l) h i k a (by omega) (by simpa using h1)
 |some b::l,h,i,k,a,hne,h1=>by
  simp only[C8,bAE]at h
  have key:∀k:Nat,l[k]?≠some (some b):=by
   intro k e;have u:=aET.1 h.1 (some b) (mem_of_getElem? e)
   simp_all
  cases i with
  |zero=>
   grind
  |succ i=>cases k with
   |zero=>
    grind
   |succ k=>exact KW (l:=l) h.2 i k a (by omega) (by simpa using h1)
 |[],_,_,_,_,_,h1=>by cases h1
def Bf(t:Nat->V)(xs:List Operand):List Nat:=xs.filterMap (IH t)
def M2(h:AK (t y)=true):IH t (.tmp y)=some y:=if_pos h
theorem OX(l:List Nat)(x:Nat):Bm (l.map λy=>(y,Tk.all)) x=if x∈l then some .all else none:=by
 induction l with
 |nil=>rfl
 |cons y l e=>
  show(if y=x then some Tk.all else Bm (l.map λy=>(y,Tk.all)) x)=_
  grind
def Dl(l:List Nat)(t:Nat->V)(x:Nat):AQ (l.map λy=>(y,Tk.all)) t x=if x∈l then .dead else t x:=by
 unfold AQ;rw[OX];split<;>rfl
section
variable {C:Ctx}{N:Nat}{σ:List V}{ρ:Nat->Value}{F:Nat->Nat->Prop}{t:Nat->V}{a:Act}{w:World}{D:Nat->Prop}{T:Nat->Nat->Prop}
def opF(t:Nat->V)(T:Nat->Nat->Prop)(xs:List Operand)(j b:Nat):Prop:=∃y,xs[j]? =some (.tmp y)/\AK (t y)=true/\T y b
def DX{b:Nat}(h:opF t T xs j b):∃y,xs[j]? =some (.tmp y)/\AK (t y)=true/\y∈Bf t xs/\T y b:=by
 obtain⟨y,u,e,H⟩:=h;exact⟨y,u,e,mem_filterMap.2 ⟨.tmp y,mem_of_getElem? u,M2 e⟩,H⟩
theorem PR.opF_rel(h:PR C N σ ρ F t a w D T)(U:xs[j]? =some x):Rel D w (Ai σ ρ w) (Ms.ev ⟨t,σ⟩ x) (a.eval x) (opF t T xs j):=by
 have plain:∀v cv,Rel D w (Ai σ ρ w) v cv noF->(∀b,¬opF t T xs j b)->Rel D w (Ai σ ρ w) v cv (opF t T xs j):=λv cv hr e=>by rw[A4 e];exact hr
 have u:(∀y,x≠.tmp y)->∀b,¬opF t T xs j b:=by
  rintro W b ⟨y,H,_⟩
  rw[U]at H;exact W y (Option.some.inj H)
 cases x with
 |tmp y=>
  by_cases Y:y<N
  .have H:=h.tm y Y
   cases Z:AK (t y)with
   |true=>
    refine Rel.fp_congr (λb=>⟨λhb=>⟨y,U,Z,hb⟩,fun⟨z,O,_,J⟩=>?_⟩) H
    grind
   |false=>
    refine plain _ _ (A4 (AC _ _ _ Z H)▸H) ?_
    rintro b ⟨z,O,J,_⟩
    grind
  .have hd:=h.dd y (le_of_not_lt Y)
   refine plain _ _ ?_ ?_
   .show Rel D w _ (t y) _ noF
    rw[hd];exact λ_ h=>h
   .rintro b ⟨z,O,J,_⟩
    rw[U]at O;cases O;rw[hd]at J;cases J
 |const v=>exact plain _ _ (IS v) (u λy e=>by cases e)
 |global g=>exact plain _ _ ⟨rfl,rfl,λ_ h=>h⟩ (u λy e=>by cases e)
 |func f=>exact plain _ _ QE (u λy e=>by cases e)
theorem PR.opF_dis(h:PR C N σ ρ F t a w D T)(H:C8 (xs.map (IH t))=true):∀i j b,i≠j->opF t T xs i b->¬opF t T xs j b:=by
 intro i j b u U O;obtain⟨y,Z,J,_,t1⟩:=DX U;obtain⟨z,e2,o2,_,t2⟩:=DX O;have e:y≠z:=by
  rintro rfl
  have Y:(xs.map (IH t))[i]? =some (some y):=by rw[getElem?_map,Z];exact congrArg some (M2 J)
  have W:(xs.map (IH t))[j]? =some (some y):=by grind
  exact KW H i j y u Y W
 exact h.tT y z b e t1 t2
theorem PR.take(h:PR C N σ ρ F t a w D T){r:V}{v':Value}{w':World}(Z:Below w.heap.size w w')(hr:Rel D w' (Ai σ ρ w') r v' fp)(Y:∀b,fp b->(∃j,opF t T xs j b)\/w.heap.size<=b)(W:d<N):
  ∃T',PR C N σ ρ F (AD (AQ ((Bf t xs).map λy=>(y,.all)) t) d r) (a.put (some d) v') w' D T'/\∀x b,T' x b->d=x\/∃b',T x b':=by
 refine⟨_,h.move (T1:=λx b=>x∉Bf t xs/\T x b) (λx u=>?_) (λx b e=>e.2) (λx u=>?_) Z hr (λb e=>?_) (λ_ h=>h) (λ_ h=>.inl h) (λb e=>⟨Nat.lt_of_lt_of_le (h.wr.Dlt b e) Z.size,λU=>?_⟩) W,λx b e=>?_⟩
 .rw[Dl]
  by_cases H:x∈Bf t xs
  .rw[if_pos H];exact λb e=>e.1 H
  .rw[if_neg H]
   exact Rel.fp_congr (λb=>⟨λh=>⟨H,h⟩,λh=>h.2⟩) (h.tm x u)
 .rw[Dl]
  split
  .rfl
  .exact h.dd x u
 .rcases Y b e with⟨j,hj⟩|hj
  .obtain⟨y,_,_,H,J⟩:=DX hj
   refine .inl ⟨y,J,λx u=>?_⟩
   have O:x≠y:=by grind
   exact h.tT x y b O u.2 J
  .exact .inr hj
 .rcases Y b U with⟨j,hj⟩|hj
  .obtain⟨y,_,_,_,J⟩:=DX hj
   exact h.tD y b J e
  .have:=h.wr.Dlt b e;omega
 .split at e
  .grind
  grind
end
theorem Dr{e:Nat->V}(h:∀x∈xs,∀y,x=.tmp y->e y=t y):xs.map (IH e)=xs.map (IH t):=by
 refine List.map_congr_left λx u=>?_
 cases x with
 |tmp y=>show(if AK (e y)then some y else none)=if AK (t y)then some y else none;grind
 |const v=>rfl
 |global g=>rfl
 |func f=>rfl
def BV(t:Nat->V)(xs:List Operand):Bf t xs=(xs.map (IH t)).filterMap id:=by
 unfold Bf;simp
theorem Dz{op:Op}(h:Operand.tmp y∈op.operands):y∈HA op:=by
 exact mem_filterMap.2 ⟨.tmp y,by grind,rfl⟩
theorem Aa8{Al:Nat->Nat->Prop}{σ:List V}{t:Nat->V}{places:List (Nat×Nat)}{l:List V}(ho:o.op=.build ty ps)(hd:o.dst=some d)(hdn:d<N)(hbi:AbT P ty=some (places,zero))
  (hap:C8 ((ps.toList.map (·.2)).map (IH t))=true) (hok:∀p∈ps.toList,I7 (Ms.ev ⟨t,σ⟩ p.2)=true) (hl:Cb (λi=>places[i]?) (zero.map .c) (ps.toList.map λp=>(p.1,Ms.ev ⟨t,σ⟩ p.2))=some l):
  LQ P N σ Al o t ((Bf t (ps.toList.map (·.2))).map λy=>(y,.all)) (Ag l):=by
 intro C ρ F a w D T t' hag hal hp next Q hn
 obtain⟨xs,Z⟩:∃xs,xs=ps.toList.map (·.2):=⟨_,rfl⟩
 rw[<-Z]at hap hn;have U:∀y,Operand.tmp y∈xs->t' y=t y:=λy hy=>hag y (.inl<|Dz (by rw[ho];show _∈(ps.toList.map (·.2)).toArray;rw[Z]at hy;simpa using hy))
 have hev:∀x∈xs,Ms.ev ⟨t',σ⟩ x=Ms.ev ⟨t,σ⟩ x:=by
  intro x O;cases x with
  |tmp y=>exact U y O
  |const v=>rfl
  |global g=>rfl
  |func f=>rfl
 have W:xs.map (IH t')=xs.map (IH t):=Dr λx O y e=>U y (e▸O)
 have hap':C8 (xs.map (IH t'))=true:=by rw[W];exact hap
 have htk:Bf t' xs=Bf t xs:=by rw[BV,BV,W]
 obtain⟨z,rfl,hz1,J⟩:=Mm hbi
 have Y:Zy D w (Ai σ ρ w) (z.cells.toList.map .c) z.cells λ_=>noF:=by
  refine⟨by simp,λj hj=>?_,λ_ _ _ _ h=>h.elim⟩
  simp at hj;simp[hj];exact⟨rfl,hz1 _ (by simp),λ_ h=>h⟩
 obtain⟨H,G',hfill,u,hG⟩:=U0 (λv cv h=>Ai.one h) (λi=>places[i]?) (ps.toList.map λp=>(p.1,Ms.ev ⟨t,σ⟩ p.2)) (ps.toList.map λp=>(p.1,a.eval p.2)) _ l _ _ (opF t' T xs) hl Y (by simp) (λj i v hj=>by
  simp only[getElem?_map]at hj⊢;cases hq:ps.toList[j]? with
  |none=>simp[hq]at hj
  |some q=>
   simp only[hq,Option.map_some,Option.some.injEq,Prod.mk.injEq]at hj⊢;obtain⟨rfl,rfl⟩:=hj;have hqm:=mem_of_getElem? hq;refine⟨hok q hqm,_,⟨rfl,rfl⟩,?_⟩;have O:xs[j]? =some q.2:=by rw[Z,getElem?_map,hq];rfl
   rw[<-hev q.2 (mem_of_getElem? O)];exact hp.opF_rel O) (hp.opF_dis hap') (λ_ _ _ h=>h.elim)
 have hrun:=run_build w ty (ps.map λp=>(p.1,a.eval p.2)) H (J _ _ (by simpa using hfill))
 have hex:(execOp a.eval o).run P w=.ok (.value (.agg H)) w:=by
  unfold execOp;rw[ho];simp only[Sem.run_bind];rw[show(Array.map (λx=>match x with|(i,x)=>(i,a.eval x)) ps)=ps.map (λp=>(p.1,a.eval p.2))from rfl,hrun]
  rfl
 unfold Oper.wp;rw[hex];show next (a.put o.dst (.agg H)) w
 rw[hd]at hn⊢;have hr:Rel D w (Ai σ ρ w) (Ag l) (.agg H) (λb=>∃k,k<l.length/\G' k b):=⟨H,G',rfl,u.sz,λk hk=>u.rel k hk,λk k' b _ _ hne=>u.dis k k' b hne,λb=>Iff.rfl⟩
 obtain⟨T',hp',hT'⟩:=hp.take (xs:=xs) (d:=d) (Below.refl _ _) hr (λb ⟨k,_,hb⟩=>.inl ((hG k b hb).resolve_left λh=>h)) hdn
 rw[htk]at hp';exact hn _ _ _ _ hp' (λx b hb=>(hT' x b hb).imp (λe=>by rw[e]) λh=>h) λ_ O=>BM O
theorem NO{Al:Nat->Nat->Prop}{σ:List V}{t:Nat->V}{len:Nat}{e:TypeId}{bytes:Nat}{l:List V}(ho:o.op=.buildSlice ty len ps)(hd:o.dst=some d)(hdn:d<N)(hsi:slI P ty=some ⟨e,size,bytes,zero⟩)
  (U:0<size) (hlen:len*size<=16777216) (hap:C8 ((ps.toList.map (·.2)).map (IH t))=true) (hok:∀p∈ps.toList,I7 (Ms.ev ⟨t,σ⟩ p.2)=true) (hl:Cb (λi=>some (i*size,size)) ((List.range (len*size)).map λj=>.c (zero.getD (j % size) undef)) (ps.toList.map λp=>(p.1,Ms.ev ⟨t,σ⟩ p.2))=some l)
  (himm:∀v∈l,B9 v=true\/∃s sz n f,v=.nd s true sz n f):
  LQ P N σ Al o t ((Bf t (ps.toList.map (·.2))).map λy=>(y,.all)) (.nd true true size len λi k=>l.getD (i*size+k) .dead):=by
 intro C ρ F a w D T t' hag hal hp next Q hn
 obtain⟨xs,hxs⟩:∃xs,xs=ps.toList.map (·.2):=⟨_,rfl⟩
 rw[<-hxs]at hap hn;have hopx:∀y,Operand.tmp y∈xs->t' y=t y:=λy hy=>hag y (.inl<|Dz (by rw[ho];show _∈(ps.toList.map (·.2)).toArray;rw[hxs]at hy;simpa using hy))
 have hev:∀x∈xs,Ms.ev ⟨t',σ⟩ x=Ms.ev ⟨t,σ⟩ x:=by
  intro x hx;cases x with
  |tmp y=>exact hopx y hx
  |const v=>rfl
  |global g=>rfl
  |func f=>rfl
 have hmap:xs.map (IH t')=xs.map (IH t):=Dr λx hx y e=>hopx y (e▸hx)
 have hap':C8 (xs.map (IH t'))=true:=by rw[hmap];exact hap
 have htk:Bf t' xs=Bf t xs:=by rw[BV,BV,hmap]
 obtain⟨hu,i0,z,hi0,hz,his,_,hzl,hzs,hz1⟩:=Hj hsi;simp only at hu hi0 his hzl hzs hz1
 have hzero:Zy D w (Ai σ ρ w) ((List.range (len*size)).map λj=>.c (zero.getD (j % size) undef)) ((Array.range (len*size)).map (z.cells[· % z.cells.size]!)) λ_=>noF:=by
  refine⟨by simp,λj hj=>?_,λ_ _ _ _ h=>h.elim⟩
  simp at hj;have hm:j % size<z.cells.size:=by rw[hzs];exact Nat.mod_lt _ U
  have e1:(zero.getD (j % size) undef)=z.cells[j % z.cells.size]!:=by
   rw[<-hzl,hzs,getElem!_pos z.cells (j % size) hm];simp[hm]
  simp[hj];refine⟨?_,?_,λ_ h=>h⟩
  .have:=e1.symm
   simpa using this
  .refine hz1 _ ?_
   have hl0:j % size<zero.length:=by rw[<-hzl];simpa using hm
   simp[gEE hl0]
 obtain⟨u,G',Y,W,hG⟩:=U0 (λv cv h=>Ai.one h) (λi=>some (i*size,size)) (ps.toList.map λp=>(p.1,Ms.ev ⟨t,σ⟩ p.2)) (ps.toList.map λp=>(p.1,a.eval p.2)) _ l _ _ (opF t' T xs) hl hzero (by simp) (λj i v hj=>by
  simp only[getElem?_map]at hj⊢;cases hq:ps.toList[j]? with
  |none=>simp[hq]at hj
  |some q=>
   simp only[hq,Option.map_some,Option.some.injEq,Prod.mk.injEq]at hj⊢;obtain⟨rfl,rfl⟩:=hj;have hqm:=mem_of_getElem? hq;refine⟨hok q hqm,_,⟨rfl,rfl⟩,?_⟩;have hx:xs[j]? =some q.2:=by rw[hxs,getElem?_map,hq];rfl
   rw[<-hev q.2 (mem_of_getElem? hx)];exact hp.opF_rel hx) (hp.opF_dis hap') (λ_ _ _ h=>h.elim)
 have J:l.length=len*size:=by
  have h2:∀(H:List (Nat×V)) (cells l':List V),Cb (λi=>some (i*size,size)) cells H=some l'->l'.length=cells.length:=by
   intro H
   induction H with
   |nil=>intro cells l' h;simp[Cb]at h;rw[h]
   |cons p H ih=>
    intro cells l' h;obtain⟨i,v⟩:=p;simp only[Cb]at h;split at h
    .cases h
    .rw[ih _ _ h]
     have:∀(l:List V) (k:Nat) (c:List V),((l.zipIdx k).foldl (λcs (c,j)=>cs.set (i*size+j) c) c).length=c.length:=by
      intro l
      induction l with
      |nil=>intro k c;rfl
      |cons v l ih=>intro k c;simp only[List.zipIdx_cons,List.foldl_cons];rw[ih];simp
     exact this _ 0 _
  have:=h2 _ _ _ hl;simpa using this
 have hex:(execOp a.eval o).run P w=.ok (.value (.slice (some ⟨w.heap.size,0,none⟩) len len)) (w.alloc (.cells u e)):=by
  have hn:¬ (16777216<len*size):=by omega
  unfold execOp;rw[ho];by_cases h0:len*size=0
  .have hfill':Instr.fill (λi=>some (i*size,size)) #[] (ps.toList.map λp=>(p.1,a.eval p.2))=some u:=by
    have:(Array.range (len*size)).map (z.cells[· % z.cells.size]!)= #[]:=by rw[h0];simp
    rw[<-this];exact Y
   simp[Instr.buildSlice,run_underlying hu,sizeOf,typeInfo,hi0,his,hn,h0,newRow];simp[Array.range_zero',hfill']
  .simp[Instr.buildSlice,run_underlying hu,sizeOf,typeInfo,zeroValue,hi0,hz,his,hn,h0,newRow]
   simp[Y]
 have hB:Below w.heap.size w (w.alloc (.cells u e)):=(Below.refl _ _).alloc (le_refl _) _;have hblk:(w.alloc (.cells u e)).heap[w.heap.size]? =some (.cells u e (0,0)):=by show(w.heap.push _)[w.heap.size]? =_;simp
 have hold:∀k b,G' k b->b<w.heap.size:=by
  intro k b O;obtain⟨i,hi⟩:=(hG k b O).resolve_left λh=>h
  obtain⟨y,_,_,_,hT⟩:=DX hi;by_cases hy:y<N
  .exact Rel.lt _ _ _ (hp.tm y hy) b hT
  .exact absurd hT (hp.tx y b (le_of_not_lt hy))
 have hsz:u.size=len*size:=by rw[W.sz];exact J
 have hcell:∀i k,i<len->k<size->i*size+k<l.length:=λi k hi hk=>by
  rw[J];have:(i+1)*size<=len*size:=Nat.mul_le_mul_right _ (by omega)
  rw[Nat.add_mul]at this;omega
 have hmax:len<=maxLen:=by have:=Nat.le_mul_of_pos_right len U;unfold maxLen;omega
 have hr:Rel D (w.alloc (.cells u e)) (Ai σ ρ (w.alloc (.cells u e))) (.nd true true size len λi k=>l.getD (i*size+k) .dead) (.slice (some ⟨w.heap.size,0,none⟩) len len) (λb=>b=w.heap.size\/∃i k,i<len/\k<size/\G' (i*size+k) b):=by
  refine .inr ⟨w.heap.size,0,len,λi k=>G' (i*size+k),rfl,le_refl _,hmax,(λh=>by cases h),λi k hi hk=>?_,(λh=>by cases h),λ_=>⟨⟨u,e,.plain hblk,by rw[hsz,Nat.zero_add];exact le_refl _⟩,λi k hi hk hF=>?_,λi k i' k' b hi hk hi' hk' hne hF hF'=>?_,λ_=>Iff.rfl⟩⟩
  .have Z:=hcell i k hi hk
   refine⟨u.getD (i*size+k) undef,?_,?_⟩
   .unfold World.cell?
    have:i*size+k<u.size:=by rw[hsz,<-J];exact Z
    simp only[hblk,Option.isSome_none,Bool.false_eq_true,if_false,Nat.zero_add];simp[this]
   .have h5:=W.rel _ Z
    refine Rel.mono (λ_ h=>h) (λ_ _ h=>h) _ _ _ (λb O=>Below.heap_alloc _ _ _ ?_) (?_:Rel D w noR _ _ _)
    .rcases O with O|O
     .exact hp.wr.Dlt b O
     .exact hold _ b O
    .have hm:l.getD (i*size+k) .dead∈l:=by
      rw[gDE,gEE Z];exact getElem_mem Z
     rcases himm _ hm with h6|⟨s,sz,n,f,h6⟩
     .exact CO h6 h5
     .show Rel D w noR (l.getD (i*size+k) .dead) _ (G' (i*size+k))
      rw[h6]at h5⊢;exact h5
  .have:=hold _ _ hF
   omega
  .refine W.dis _ _ b ?_ hF hF'
   intro he;have e1:=congrArg (· /size) he
   have e2:=congrArg (· % size) he
   simp only[Nat.mul_comm i size,Nat.mul_comm i' size,Nat.mul_add_mod,Nat.mod_eq_of_lt hk,Nat.mod_eq_of_lt hk']at e2;subst e2;have:i*size=i'*size:=by omega
   have:=Nat.eq_of_mul_eq_mul_right U this;omega
 unfold Oper.wp;rw[hex];show next (a.put o.dst _) _
 rw[hd]at hn⊢
 obtain⟨T',hp',hT'⟩:=hp.take (xs:=xs) (d:=d) hB hr (λb O=>by
  rcases O with rfl|⟨i,k,_,_,O⟩
  .exact .inr (le_refl _)
  .exact .inl ((hG _ b O).resolve_left λh=>h)) hdn
 rw[htk]at hp';exact hn _ _ _ _ hp' (λx b O=>(hT' x b O).imp (λe=>by rw[e]) λh=>h) λ_ hx=>BM hx
def Hr(b:Nat):∀(e:List Value) (o:Nat) (w:World) (k:Nat),k≠b->(w.setCells b o e).heap[k]? =w.heap[k]?
 |[],_,_,_,_=>rfl
 |v::r,o,w,k,h=>by
  rw[World.setCells,Hr b r (o+1) _ k h];exact Below.heap_setCell w ⟨b,o,none⟩ v k h
theorem I5(b:Nat){T:TypeId}{fz:Nat×Nat}:∀(u:List Value) (o:Nat) (w:World) (cs:Array Value),w.heap[b]? =some (.cells cs T fz)->∃e,(w.setCells b o u).heap[b]? =some (.cells e T fz)/\e.size=cs.size
 |[],_,_,cs,h=>⟨cs,h,rfl⟩
 |v::r,o,w,cs,h=>by
  have J:(w.setCell ⟨b,o,none⟩ v).heap[b]? =some (.cells (cs.setIfInBounds o v) T fz):=by
   unfold World.setCell
   grind
  obtain⟨e,H,O⟩:=I5 b r (o+1) _ _ J;exact⟨e,H,by grind⟩
def HQ(b:Nat):∀(e:List Value) (o:Nat) (w:World),(w.setCells b o e).os=w.os/\(w.setCells b o e).tape=w.tape/\(w.setCells b o e).output=w.output/\(w.setCells b o e).heap.size=w.heap.size/\(w.setCells b o e).drawn=w.drawn
 |[],_,_=>⟨rfl,rfl,rfl,rfl,rfl⟩
 |v::r,o,w=>by
  obtain⟨U,O,J,H,u⟩:=HQ b r (o+1) (w.setCell ⟨b,o,none⟩ v);exact⟨U,O,J,by rw[World.setCells,H];simp,u⟩
def H4{x:Nat}{l:List (Nat×Tk)}(h:x≠y):Bm ((y,tk)::l) x=Bm l x:=if_neg (Ne.symm h)
def H5{l:List (Nat×Tk)}:Bm ((y,tk)::l) y=some tk:=if_pos rfl
theorem Aa7{Al:Nat->Nat->Prop}{N:Nat}{σ:List V}{t:Nat->V}{p:Nat}{agg:Bool}{lp:List V}(ho:o.op=.store ty (.tmp p) x)(hd:o.dst=none)(hti:tyI P ty=some ⟨agg,size,zero⟩)
  (htp:t p=A8 true lp) (hlp:lp.length=size) (hpn:p<N) (hxp:x≠.tmp p) (hok:I7 (Ms.ev ⟨t,σ⟩ x)=true) (hlen:(cellsV (Ms.ev ⟨t,σ⟩ x)).length=size) (himm:∀v∈cellsV (Ms.ev ⟨t,σ⟩ x),B9 v=true\/∃s sz n f,v=.nd s true sz n f)
  (hone:∀v∈cellsV (Ms.ev ⟨t,σ⟩ x),Zs v=true):
  LQ P N σ Al o t ((p,.put (A8 true (cellsV (Ms.ev ⟨t,σ⟩ x))))::(Bf t [x]).map λy=>(y,.all)) .dead:=by
 intro C ρ F a w D T t' hag hal O next Q hn
 rw[hd]at hn;have hopp:t' p=t p:=hag p (.inl<|Dz (by rw[ho];simp[Op.operands]))
 have hopx:∀y,x=.tmp y->t' y=t y:=λy Y=>hag y (.inl<|Dz (by rw[ho,Y];simp[Op.operands]))
 have hev:Ms.ev ⟨t',σ⟩ x=Ms.ev ⟨t,σ⟩ x:=by
  cases x with
  |tmp y=>exact hopx y rfl
  |const v=>rfl
  |global g=>rfl
  |func f=>rfl
 have hmap:[x].map (IH t')=[x].map (IH t):=Dr λx' hx y e=>by rw[List.mem_singleton]at hx;subst hx;exact hopx y e
 have htk:Bf t' [x]=Bf t [x]:=by rw[BV,BV,hmap]
 have hnp:p∉Bf t [x]:=by
  intro hm;obtain⟨u,hu,he⟩:=mem_filterMap.1 hm;rw[List.mem_singleton]at hu;subst hu;cases u with
  |tmp z=>
   cases ho':AK (t z)with
   |true=>
    rw[M2 ho']at he;cases he;exact hxp rfl
   |false=>
    have:IH t (.tmp z)=none:=by show(if AK (t z)=true then some z else none)=none;rw[if_neg (by simp[ho'])]
    rw[this]at he;cases he
  |const v=>cases he
  |global g=>cases he
  |func f=>cases he
 -- the value's cells
 have hrx:=O.opF_rel (xs:=[x]) (j:=0) (x:=x) rfl;rw[hev]at hrx;obtain⟨H,hcr,hHF⟩:=KO (λv cv h=>Ai.one h) hok hrx
 obtain⟨L,hL⟩:∃L,L=cellsV (Ms.ev ⟨t,σ⟩ x):=⟨_,rfl⟩;rw[<-hL]at hcr hlen himm hone hn;obtain⟨W,hvs⟩:∃W,W=(a.eval x).cells.toList:=⟨_,rfl⟩;have hvl:W.length=L.length:=by rw[hvs];simpa using hcr.sz
 have hcell:∀j,j<L.length->Rel D w (Ai σ ρ w) (L.getD j .dead) (W.getD j undef) (H j):=λj hj=>by
  have:=hcr.rel j hj;rw[hvs];simpa using this
 -- the struct's block
 have hrp:=O.tm p hpn;rw[hopp,htp]at hrp;rcases hrp with⟨h0,h1,_⟩|⟨b,of,cap,F0,hcv,hcap,hmax,hs1,hc,_,hown⟩
 .cases h1
 obtain⟨⟨cs,Tt,hb1,hb2⟩,hbF,hFd,hfp⟩:=hown rfl;have hTb:T p b:=(hfp b).2 (.inl rfl);have hcv:a.eval (.tmp p)=.pointer (some ⟨b,of,none⟩):=hcv;have hlt:b<w.heap.size:=hb1.lt;have hob:=hb1;obtain⟨fzz,hb1,hbz⟩:=hb1;have hcap1:cap*lp.length≥lp.length:=Nat.le_mul_of_pos_left _ (by omega)
 have Z:∀j,j<W.length->∃y,w.cell? ⟨b,of+j,none⟩=some y:=by
  intro j hj;have:of+j<cs.size:=by omega
  unfold World.cell?;simp only[hb1,Option.isSome_none,Bool.false_eq_true,if_false];exact⟨_,Array.getElem?_eq_getElem this⟩
 have hfz:∀j,j<W.length->w.frozen? ⟨b,of+j,none⟩=false:=λj hj=>by
  obtain⟨y,Y⟩:=Z j hj;exact hob.frozen Y
 have h1c:∀v∈W,v.oneCell'=true:=by
  intro v hv;obtain⟨j,hj,rfl⟩:=List.getElem_of_mem hv;have hj':j<L.length:=by omega
  have h1:=hcell j hj';have hm:L.getD j .dead∈L:=by
   rw[gDE,gEE hj'];exact getElem_mem hj'
  have:=(Rel.cells1 h1 (λv cv h=>Ai.one h) (hone _ hm)).2
  simpa [hj]using this
 obtain⟨dd,tii,z,hdt,hit,hz,his,_⟩:=CZ hti;simp only at his;have hrun:=run_storeCells_cells (P:=P) b of W 0 w (λj hj=>by obtain⟨y,Y⟩:=Z j hj;simp[Y]) (λj hj=>by rw[Nat.add_zero];exact hfz j hj) h1c
 obtain⟨w',hw'⟩:∃w',w'=w.setCells b (of+0) W:=⟨_,rfl⟩;rw[<-hw']at hrun;obtain⟨g1,g2,g3,g4,g5⟩:=HQ b W (of+0) w;obtain⟨cs2,hb3,hb4⟩:=I5 b W (of+0) w cs hb1;have hoth:∀k,k≠b->w'.heap[k]? =w.heap[k]?:=λk J=>by rw[hw'];exact Hr b W _ w k J
 rw[<-hw']at g1 g2 g3 g4 g5 hb3
 have hin:∀j (hj:j<W.length),w'.cell? ⟨b,of+j,none⟩=some W[j]:=by
  intro j hj;rw[hw'];exact World.cell?_setCells_in b W (of+0) w (λj hj=>by obtain⟨y,Y⟩:=Z j hj;simp[Y]) j hj
 have hsv:(storeVar ty ⟨b,of,none⟩ (a.eval x)).run P w=.ok () w':=by
  have e:(a.eval x).cells.size=size:=by rw[hcr.sz];exact hlen
  simp only[storeVar,Sem.run_bind,sizeOf,typeInfo];rw[<-hvs];simp[hit,his,hrun,e]
 have hex:(execOp a.eval o).run P w=.ok .skip w':=by
  unfold execOp;rw[ho];simp[Instr.storeAt,hcv,Instr.sureAddr,hsv]
 unfold Oper.wp;rw[hex,Oper.upon_skip,hd]
 -- nothing else lies in the block
 have hTn:∀y k,y≠p->T y k->k≠b:=λy k Y J e=>O.tT y p k Y J (e▸hTb)
 have hDn:∀k,D k->k≠b:=λk J e=>O.tD p b hTb (e▸J)
 have hFn:∀i k,F i k->k≠b:=λi k J e=>O.tF i p k J (e▸hTb)
 have hHT:∀j k,H j k->∃y,y∈Bf t [x]/\T y k:=λj k J=>by
  obtain⟨y,_,_,hm,hT⟩:=DX (hHF j k J);exact⟨y,htk▸hm,hT⟩
 have hHn:∀j k,H j k->k≠b:=λj k J=>by
  obtain⟨y,hm,hT⟩:=hHT j k J;exact hTn y k (λe=>hnp (e▸hm)) hT
 have kM:∀y,AQ ((p,.put (A8 true L))::(Bf t [x]).map λy=>(y,.all)) t' y=if y=p then A8 true L else if y∈Bf t [x]then .dead else t' y:=by
  intro y;unfold AQ;by_cases Y:y=p
  .subst Y
   rw[H5,if_pos rfl];rfl
  .rw[H4 Y,OX,if_neg Y]
   split<;>rfl
 have U:∀k,k≠b->w'.heap[k]? =w.heap[k]?:=hoth
 have hnew:Rel D w' (Ai σ ρ w') (A8 true L) (a.tmps.getD p undef) (λk=>k=b\/∃j,j<L.length/\H j k):=by
  refine .inr ⟨b,of,cap,λi j=>H j,hcv,hcap,hmax,λ_=>rfl,λi k hi J=>?_,(λh=>by cases h),λ_=>⟨⟨cs2,Tt,⟨fzz,hb3,by rw[hb4];exact hbz⟩,?_⟩,λi k hi J hF=>hHn k b hF rfl,λi k i' k' c hi J hi' hk' hne hF hF'=>?_,λc=>?_⟩⟩
  .obtain rfl:i=0:=by omega
   have hk':k<W.length:=by omega
   refine⟨W[k],by simpa using hin k hk',?_⟩
   have h5:=hcell k J;have e5:W.getD k undef=W[k]:=by simp[hk']
   rw[e5]at h5;refine Rel.mono (λ_ h=>h) (λ_ _ h=>h) _ _ _ (λc hc=>U c ?_) (?_:Rel D w noR _ _ _)
   .rcases hc with hc|hc
    .exact hDn c hc
    .exact hHn k c hc
   .have hm:L.getD k .dead∈L:=by
     rw[gDE,gEE J];exact getElem_mem J
    show Rel D w noR (L.getD k .dead) W[k] (H k);rcases himm _ hm with h6|⟨s,sz,n,f,h6⟩
    .exact CO h6 h5
    .rw[h6]at h5⊢
     exact h5
  .rw[hb4,hlen,<-hlp];exact hb2
  .exact hcr.dis k k' c (by omega) hF hF'
  .constructor
   .rintro (h|⟨j,hj,h⟩)
    .exact .inl h
    .exact .inr ⟨0,j,by omega,hj,h⟩
   .rintro (h|⟨_,j,_,hj,h⟩)
    .exact .inl h
    .exact .inr ⟨j,hj,h⟩
 have wr':Bg σ w' D ρ F:=⟨λi hi=>Rel.mono (λ_ h=>h) (λ_ _ h=>h) _ _ _ (λk J=>U k (J.elim (hDn k) (hFn i k))) (O.wr.rel i hi),O.wr.disj,O.wr.dD,λk J=>by rw[g4];exact O.wr.Dlt k J,O.wr.out⟩
 have hsub:∀k,(k=b\/∃j,j<L.length/\H j k)->T p k\/∃y,y∈Bf t [x]/\T y k:=by
  rintro k (rfl|⟨j,_,h⟩)
  .exact .inl hTb
  .exact .inr (hHT j k h)
 refine hn a w' D (λy k=>if y=p then(k=b\/∃j,j<L.length/\H j k)else y∉Bf t [x]/\T y k) ⟨O.df,O.sz,λy Y=>?_,wr',λy Y=>?_,λy k J=>?_,λi y k J hT=>?_,λy y' k hyy h1 h2=>?_,λy k J=>?_,⟨g1.trans O.fr.os,g2.trans O.fr.tape,g3.trans O.fr.output,by rw[g4];exact O.fr.size,λk J hW=>?_,by rw[g5];exact O.fr.drawn⟩,O.Fn,O.D1,O.D2,O.rt,O.ml,λy k Y J=>?_⟩ (λy k J=>?_) λ_ _=>rfl
 .show AQ _ t' y=_
  rw[kM,if_neg (by omega)]
  split
  .rfl
  .exact O.dd y Y
 .show Rel D w' (Ai σ ρ w') (AQ _ t' y) _ _
  rw[kM];by_cases hyp:y=p
  .subst hyp
   rw[if_pos rfl];exact Rel.fp_congr (λk=>by show _↔(if y=y then _ else _);rw[if_pos rfl]) hnew
  .rw[if_neg hyp]
   by_cases hm:y∈Bf t [x]
   .rw[if_pos hm]
    intro k J;have J:(if y=p then(k=b\/∃j,j<L.length/\H j k)else y∉Bf t [x]/\T y k):=J
    rw[if_neg hyp]at J;exact J.1 hm
   .rw[if_neg hm]
    refine Rel.fp_congr (fp:=T y) (λk=>by show _↔(if y=p then _ else _);rw[if_neg hyp];exact⟨λh=>⟨hm,h⟩,λh=>h.2⟩) ?_
    exact Rel.mono (λ_ h=>h) (λv cv hv=>Ai.same O.wr (λi k J=>U k (hFn i k J)) v cv hv) _ _ _ (λk J=>U k (J.elim (hDn k) (hTn y k hyp))) (O.tm y Y)
 .split at J
  .rcases hsub k J with h|⟨y',_,h⟩
   .exact O.tD p k h
   .exact O.tD y' k h
  .exact O.tD y k J.2
 .split at hT
  .rcases hsub k hT with h|⟨y',_,h⟩
   .exact O.tF i p k J h
   .exact O.tF i y' k J h
  .exact O.tF i y k J hT.2
 .have one:∀z,z≠p->z∉Bf t [x]->T z k->(k=b\/∃j,j<L.length/\H j k)->False:=by
   intro z hz hm hT h;rcases hsub k h with h|⟨y'',hm',h⟩
   .exact O.tT z p k hz hT h
   .exact O.tT z y'' k (λe=>hm (e▸hm')) hT h
  split at h1<;>split at h2
  .rename_i e1 e2;exact absurd (e1.trans e2.symm) hyy
  .rename_i e1 e2;exact one y' e2 h2.1 h2.2 h1
  .rename_i e1 e2;exact one y e1 h1.1 h1.2 h2
  .exact O.tT y y' k hyy h1.2 h2.2
 .split at J
  .rcases hsub k J with h|⟨y',_,h⟩
   .exact O.tn p k h
   .exact O.tn y' k h
  .exact O.tn y k J.2
 .have:k≠b:=λe=>by
   rcases O.tn p b hTb with h|h
   .exact hW (e▸h)
   .omega
  rw[U k this];exact O.fr.block k J hW
 .have J:(if y=p then(k=b\/∃j,j<L.length/\H j k)else y∉Bf t [x]/\T y k):=J
  rw[if_neg (by omega)]at J
  exact O.tx y k Y J.2
 .have J:(if y=p then(k=b\/∃j,j<L.length/\H j k)else y∉Bf t [x]/\T y k):=J
  split at J
  .rename_i e;exact .inr ⟨b,e▸hTb⟩
  .exact .inr ⟨k,J.2⟩
end Go.Ve


namespace Go.Ve
def K3:List (Nat×Nat×Value)->Act->Act
 |[],a=>a
 |(_,d,u)::l,a=>K3 l (a.put (some d) u)
theorem J7{d:Nat}{u:Value}:∀{l:List (Nat×Nat×Value)}{a:Act},(∀x∈l,x.2.1≠d)->K3 l (a.put (some d) u)=(K3 l a).put (some d) u
 |[],_,_=>rfl
 |(f,e,v)::l,a,h=>by
  have H:=h _ (mem_cons_self ..);show K3 l ((a.put (some d) u).put (some e) v)=_;rw[Ds (λh=>H (by grind))]
  exact J7 λx J=>h x (mCM _ J)
def MW:∀(l e:List (Nat×Nat×Value)) (a:Act),K3 (l++e) a=K3 e (K3 l a)
 |[],_,_=>rfl
 |(_,d,u)::l,e,a=>MW l e (a.put (some d) u)
section
variable {P:Program}{ops:Array Oper}{n:Nat}{fs:List Nat}
def HY{o:Oper}(H:∀cs b,o.op≠.select cs b):∀{l:List (Nat×Nat×Value)}{a:Act},(∀x∈l,x.2.1∉o.looksAt ops)->execOp (K3 l a).eval o=execOp a.eval o
 |[],_,_=>rfl
 |(f,d,u)::l,a,h=>by
  show execOp (K3 l (a.put (some d) u)).eval o=_;rw[HY H λx J=>h x (mCM _ J),execOp_put o H a (some d) u λO e=>by cases e;exact h _ (mem_cons_self ..)]
def JF{o:Oper}(h:AdS o.op=true):∀cs b,o.op≠.select cs b:=λcs b e=>by rw[e]at h;cases h
def FlH(P:Program)(ops:Array Oper)(n:Nat)(fs:List Nat)(a:Act)(w:World):Prop:=∀on,ops[n]? =some on->∃v w',(execOp a.eval on).run P w=.ok (.value v) w'/\
 ∀f∈fs,∀o,ops[f]? =some o->∀u,(execOp a.eval o).run P w=.ok (.value u) w->(execOp a.eval o).run P w'=.ok (.value u) w'
structure GI(P:Program)(ops:Array Oper)(Q:Exit->Act->World->Prop)(n:Nat)(fs:List Nat)(L:List (Nat×Nat×Value))(m:Nat)(listed:Array Bool)(a:Act)(w:World):Prop where
 sz:listed.size=ops.size
 ls:∀j,j<ops.size->listed.getD j true=decide (j<m/\∀x∈L,x.1≠j)
 nd:L.Pairwise λx y=>x.1≠y.1
 it:∀x∈L,x.1∈fs/\AF ops x.1=some x.2.1/\∀o,ops[x.1]? =some o->(execOp (K3 L a).eval o).run P w=.ok (.value x.2.2) w
 wl:wpList P ops (QN Q) (ops.toList.drop m) (K3 L a) w
 hH:m=n->FlH P ops n fs (K3 L a) w
theorem GI.go{Q:Exit->Act->World->Prop}(hq:QOK ops n)(fl:FLS ops n fs):∀(fuel:Nat) (L:List (Nat×Nat×Value)) (m:Nat) (listed:Array Bool) (a:Act) (w:World),m=n\/m=n+1->(ops.size-m)+L.length<=fuel->GI P ops Q n fs L m listed a w->wpAny P .any ops Q fuel listed a w:=by
 have hsz:=fl.lt1;obtain⟨on,dn,hon,hog,hod,hos,hfl⟩:=fl.it;intro fuel
 induction fuel with
 |zero=>intro L m listed a w hm hf;omega
 |succ g ih=>
  intro L m listed a w hm hf h;cases hL:L with
  |nil=>
   subst hL;refine JP hq (.inr fl.chain) (g+1) m listed a w (by omega) (by omega) (by simpa using le_trans (by omega) (Nat.add_le_add_left hf m)) h.sz (λj hj=>?_) (JI m _ w (by omega) h.wl)
   rw[h.ls j hj];simp
  |cons x0 L0=>
  have hne:∃x,x∈L:=⟨x0,by rw[hL];exact mem_cons_self ..⟩
  -- what is known of the pending ones
  have hx:∀x∈L,x.1<n/\∃o,ops[x.1]? =some o/\o.guard=none/\AdS o.op=true/\o.dst=some x.2.1/\x.2.1∉on.looksAt ops/\dn≠x.2.1/\dn∉o.looksAt ops:=by
   intro x H;obtain⟨h1,W,_⟩:=h.it x H;obtain⟨o,d,k1,k2,k3,k4,k5,k6,k7⟩:=hfl x.1 h1;have hd:d=x.2.1:=by
    unfold AF at W;rw[k1]at W;have W:o.dst=some x.2.1:=W;rw[k4]at W;exact Option.some.inj W
   subst hd;exact⟨(fl.lt x.1 h1).1,o,k1,k2,k3,k4,k5,k6,k7⟩
  have hdne:∀x∈L,∀y∈L,x.1≠y.1->x.2.1≠y.2.1:=by
   intro x H y hyL hxy e;obtain⟨h1,o,W,_,_,h3,_⟩:=hx x H;obtain⟨h4,o',h5,_,_,h6,_⟩:=hx y hyL;have:=(hq.ne x.1 y.1 x.2.1 o' h1 h4 hxy (h.it x H).2.1 h5).1;rw[e]at this;exact this h6
  have hun:∀j,j<ops.size->(listed.getD j false=true↔(j<m/\∀x∈L,x.1≠j)):=by
   intro j hj;have h1:=Jz h.sz hj (h.ls j hj);rw[h1,decide_eq_true_iff]
  refine⟨λh0=>?_,λi hi=>?_⟩
  .-- the Wd of them is ready
   exfalso;obtain⟨i,⟨x,H,rfl⟩,hmin⟩:=Wd (p:=λi=>∃x∈L,x.1=i) (let ⟨x,hx⟩:=hne;⟨x.1,x,hx,rfl⟩)
   obtain⟨h1,o,W,_⟩:=hx x H;have:x.1∈Region.ready .any ops listed:=by
    refine mem_ready.2 ⟨by rw[h.ls x.1 (by omega)];exact dF λhh=>hh.2 x H rfl,o,W,λe he hb=>?_⟩
    have h3:=hq.back x.1 o e W he hb;exact(hun e.on (by omega)).2 ⟨by omega,λy u e'=>hmin e.on h3 ⟨y,u,e'⟩⟩
   rw[h0]at this;cases this
  .obtain⟨hiu,oi,O,hall⟩:=mem_ready.1 hi
   have his:i<ops.size:=(Array.getElem?_eq_some_iff.1 O).1;have hdep:∀j,Region.waitsFor .any ops i j=true->j<ops.size->j<m/\∀x∈L,x.1≠j:=by
    intro j hw hj;obtain⟨o',ho',e,he',hb,hon'⟩:=Region.waitsFor_spec hw;obtain rfl:o'=oi:=Option.some.inj (ho'.symm.trans O);have h3:=hall e he' hb;rw[hon']at h3;exact(hun j hj).1 h3
   by_cases hiL:∃x∈L,x.1=i
   .-- a pending one
    obtain⟨x,H,rfl⟩:=hiL;obtain⟨hxn,o,ho,hg,hex,hd,hlo,hdn,hdo⟩:=hx x H;obtain rfl:oi=o:=Option.some.inj (O.symm.trans ho);obtain⟨hfs,hdst,J⟩:=h.it x H;have J:=J oi ho;have Z:∀y∈L,y.2.1∉oi.looksAt ops:=by
     intro y u hm';obtain⟨hyn,oy,hoy,_,_,hdy,_⟩:=hx y u;by_cases hxy:y.1=x.1
     .have e:y.2.1=x.2.1:=by
       have h1:=(h.it y u).2.1;rw[hxy,hdst]at h1;exact(Option.some.inj h1).symm
      obtain⟨oi',hoi',hnl⟩:=hq.dst x.1 hxn;obtain rfl:oi'=oi:=Option.some.inj (hoi'.symm.trans O);exact hnl x.2.1 hd (e▸hm')
     .obtain⟨e,he,hb,hon'⟩:=(hq.ne y.1 x.1 y.2.1 oi hyn hxn hxy (h.it y u).2.1 O).2 hm'
      have h3:=hall e he hb;rw[hon']at h3;exact((hun y.1 (by omega)).1 h3).2 y u rfl
    rw[HY (JF hex) Z]at J;unfold wpOp;simp only[O];have hw:Region.wanted oi (yielded ops a.tmps)=true:=by simp[Region.wanted,hg]
    rw[if_pos hw];left;unfold Oper.wp;rw[J,Oper.upon_value,hd];obtain⟨L1,L2,hsp⟩:=List.append_of_mem H;have hnd:=h.nd;rw[hsp,List.pairwise_append,List.pairwise_cons]at hnd;obtain⟨n1,⟨n2,n3⟩,n4⟩:=hnd
    have U:K3 (L1++L2) (a.put (some x.2.1) x.2.2)=K3 L a:=by
     rw[hsp,MW,MW];show _=K3 L2 ((K3 L1 a).put (some x.2.1) x.2.2);rw[J7 λy u=>hdne y (by rw[hsp];simp[u]) x H (n4 y u x (mem_cons_self ..))]
    have hLm:∀y,y∈L1++L2↔y∈L/\y.1≠x.1:=by
     intro y;rw[hsp];simp only[List.mem_append,mem_cons];constructor
     .rintro (u|u)
      .exact⟨.inl u,n4 y u x (mem_cons_self ..)⟩
      .exact⟨.inr (.inr u),λe=>n2 y u e.symm⟩
     .rintro ⟨u|rfl|u,hyx⟩
      .exact .inl u
      .exact absurd rfl hyx
      .exact .inr u
    refine ih (L1++L2) m _ _ w hm ?_ ⟨by simpa using h.sz,λj hj=>?_,?_,λy u=>?_,by rw[U];exact h.wl,λe=>by rw[U];exact h.hH e⟩
    .rw[hsp]at hf
     simp only[List.length_append,List.length_cons]at hf⊢;omega
    .by_cases hij:x.1=j
     .subst hij
      have:x.1<listed.size:=by rw[h.sz];exact his
      rw[show(listed.setIfInBounds x.1 true).getD x.1 true=true by simp[this]]
      exact(dT ⟨by omega,λy u=>((hLm y).1 u).2⟩).symm
     .rw[getD_set_ne true hij,h.ls j hj]
      refine decide_eq_decide.2 ⟨fun⟨k1,k2⟩=>⟨k1,λy u=>k2 y ((hLm y).1 u).1⟩,fun⟨k1,k2⟩=>⟨k1,λy u=>?_⟩⟩
      by_cases hyx:y.1=x.1
      .rw[hyx];exact hij
      .exact k2 y ((hLm y).2 ⟨u,hyx⟩)
    .exact List.pairwise_append.2 ⟨n1,n3,λy u z hz=>n4 y u z (mCM _ hz)⟩
    .obtain⟨k1,k2,k3⟩:=h.it y ((hLm y).1 u).1
     rw[U];exact⟨k1,k2,k3⟩
   .have hnot:¬i<m:=λhlt=>by
     rw[h.ls i his]at hiu;exact of_decide_eq_false hiu ⟨hlt,λx hx e=>hiL ⟨x,hx,e⟩⟩
    have him:i=m:=by
     have W:=aET.1 fl.chain i (mem_range.2 his);simp only[Bool.or_eq_true,decide_eq_true_eq]at W;rcases W with W|W
     .omega
     .have:=(hdep (i-1) W (by omega)).1
      omega
    rcases hm with hmn|hmn
    case inr=>
     exfalso;obtain⟨x,H⟩:=hne;obtain⟨h1,_,_⟩:=h.it x H;have W:=(fl.lt x.1 h1).2;rw[show n+1=i by omega]at W
     exact(hdep x.1 W (by have:=(fl.lt x.1 h1).1;omega)).2 x H rfl
    subst him;subst hmn;obtain rfl:oi=on:=Option.some.inj (O.symm.trans hon);obtain⟨v,w',J,hkeep⟩:=h.hH rfl oi O;have Z:∀y∈L,y.2.1∉oi.looksAt ops:=λy u=>by
     obtain⟨_,_,_,_,_,_,h5,_⟩:=hx y u;exact h5
    have hrun0:=J;rw[HY hos Z]at hrun0;have Y:=h.wl
    have hdrop:ops.toList.drop i=oi::ops.toList.drop (i+1):=by
     have h1:=List.drop_eq_getElem_cons (l:=ops.toList) (i:=i) (by simpa using his)
     rw[h1]
     congr 1
     have:ops[i]? =some ops[i]:=by simp[his]
     rw[O]at this;simpa using(Option.some.inj this).symm
    rw[hdrop]at Y;unfold wpList at Y;rw[if_pos (by simp[Region.wanted,hog])]at Y
    unfold wpOp;simp only[O];rw[if_pos (by simp[Region.wanted,hog])]
    left;unfold Oper.wp;rw[hrun0,Oper.upon_value,hod]
    have U:K3 L (a.put (some dn) v)=(K3 L a).put (some dn) v:=J7 λy u=>by
     obtain⟨_,_,_,_,_,_,_,h6,_⟩:=hx y u;exact λe=>h6 e.symm
    refine ih L (i+1) _ _ w' (.inr (by omega)) (by omega) ⟨by simpa using h.sz,λj hj=>?_,h.nd,λy u=>?_,?_,λe=>by omega⟩
    .by_cases hij:i=j
     .subst hij
      have:i<listed.size:=by rw[h.sz];exact his
      rw[show(listed.setIfInBounds i true).getD i true=true by simp[this]]
      exact(dT ⟨by omega,λy u e=>hiL ⟨y,u,e⟩⟩).symm
     .rw[getD_set_ne true hij,h.ls j hj]
      exact decide_eq_decide.2 ⟨fun⟨k1,k2⟩=>⟨by omega,k2⟩,fun⟨k1,k2⟩=>⟨by omega,k2⟩⟩
    .obtain⟨k1,k2,k3⟩:=h.it y u
     refine⟨k1,k2,λo ho=>?_⟩
     obtain⟨_,o',ho',_,hex,_,_,_,h7⟩:=hx y u;obtain rfl:o'=o:=Option.some.inj (ho'.symm.trans ho);rw[U,execOp_put o' (JF hex) _ (some dn) v λd hd=>by cases hd;exact h7]
     exact hkeep y.1 k1 o' ho _ (k3 o' ho)
    .rw[U]
     rcases Y with Y|⟨_,_,_,hno⟩
     .unfold Oper.wp at Y
      rw[J,Oper.upon_value,hod]at Y;exact Y
     .exact(AdE _ _ _ (by simp) hno).elim
end
end Go.Ve


namespace Go.Ve
open Go
variable{α E:Type}{w w':World}
def Jg{α:Type}(s:Sem α):Prop:=∀(P:Program) (w e:World) (n:α),s.run P w=.ok n e->e=w
def Zx{α:Type}(w w':World)(s:Sem α):Prop:=∀(P:Program) (n:α),s.run P w=.ok n w->s.run P w'=.ok n w'
theorem Jg.pure{α:Type}(x:α):Jg (Pure.pure x:Sem α):=λP w e n h=>by simp_all
theorem Zx.pure{α:Type}{w w':World}(x:α):Zx w w' (Pure.pure x:Sem α):=λP n h=>by simp_all
theorem Jg.bind{s:Sem α}{f:α->Sem E}(O:Jg s)(U:∀x,Jg (f x)):Jg (s>>=f):=by
 intro P w J n h;rw[Sem.run_bind]at h;cases H:s.run P w with
 |ok x u=>
  rw[H]at h;have e:=O P w u x H;subst e;exact U x P _ J n h
 |halt x u=>simp_all
theorem Zx.bind{s:Sem α}{f:α->Sem E}(O:Jg s)(J:Zx w w' s)(U:∀x,Zx w w' (f x)):Zx w w' (s>>=f):=by
 intro P n h;rw[Sem.run_bind]at h⊢;cases u:s.run P w with
 |ok x H=>
  rw[u]at h;have e:=O P w H x u;subst e;rw[J P x u];exact U x P n h
 |halt x H=>simp_all
def BA{α:Type}(s:Sem α):Prop:=∀(P:Program) (w e:World) (n:α),s.run P w≠.ok n e
theorem BA.keep{s:Sem α}(h:BA s):Jg s:=λP w u n e=>(h P w u n e).elim
theorem BA.same{s:Sem α}(h:BA s):Zx w w' s:=λP n e=>(h P w w n e).elim
theorem BA.bind{s:Sem α}{f:α->Sem E}(h:BA s):BA (s>>=f):=by
 intro P w J n e;rw[Sem.run_bind]at e;cases H:s.run P w with
 |ok x u=>exact h P w u x H
 |halt x u=>simp_all
theorem BA.bindR{s:Sem α}{f:α->Sem E}(h:∀x,BA (f x)):BA (s>>=f):=by
 intro P w H n e;rw[Sem.run_bind]at e;cases J:s.run P w with
 |ok x u=>rw[J]at e;exact h x P u H n e
 |halt x u=>simp_all
theorem BA.stuck{α:Type}{m:String}:BA (stuck m:Sem α):=λP w u n e=>by cases e
def KS{α:Type}(w w':World)(s:Sem α):Prop:=Jg s/\Zx w w' s
def KS.bind{α E:Type}{w w':World}{s:Sem α}{f:α->Sem E}(e:KS w w' s)(u:∀x,KS w w' (f x)):KS w w' (s>>=f):=⟨e.1.bind λx=>(u x).1,Zx.bind e.1 e.2 λx=>(u x).2⟩
def KS.pure{α:Type}{w w':World}(x:α):KS w w' (Pure.pure x:Sem α):=⟨Jg.pure x,Zx.pure x⟩
def BA.ks{s:Sem α}(h:BA s):KS w w' s:=⟨h.keep,h.same⟩
def FlK(P:Program)(ops:Array Oper)(fs:List Nat):Prop:=∀f∈fs,∀o,ops[f]? =some o->∀ρ w n e,(execOp ρ o).run P w=.ok n e->∃u,n=.value u/\e=w
section
variable {X A:Nat->Prop}{B:Nat->Nat->Prop}{P:Program}{C:Ctx}{h:Cd}{ops:Array Oper}{σ:List V}{ρ:Nat->Value}{F:Nat->Nat->Prop}{t0 r:Nat->V}{m:Nat->List (Nat×Tk)}{n:Nat}{fs:List Nat}
theorem replay(hq:QOK ops n)(fl:FLS ops n fs)(hk:FlK P ops fs)(hm:MOK (isA h ops) (isB h ops) ops n m)
  (hst:∀j,j<n->∀o,ops[j]? =some o->Js P h ops σ o (Ce ops r m t0 j) (r j) (m j)) {a0:Act}:∀(c:Nat) (listed:Array Bool) (a:Act) (w:World) (D:Nat->Prop) (T:Nat->Nat->Prop),unl listed n=c->HeadInv .any ops n listed->
   (∀i,i<n->listed.getD i true=false->i∈fs)->PR C h.n σ ρ F (pt ops n r m t0 listed) a w D T->(∀x b,T x b->QQ ops n X x)->(∀x,(∀i,i<n->AF ops i≠some x)->a.tmps[x]? =a0.tmps[x]?)->AlI h ops n listed a->
   ∃(L:List (Nat×Nat×Value)) (D':Nat->Prop) (T':Nat->Nat->Prop),PR C h.n σ ρ F (Ce ops r m t0 n) (K3 L a) w D' T'/\(∀x b,T' x b->QQ ops n X x)/\(∀x,(∀i,i<n->AF ops i≠some x)->(K3 L a).tmps[x]? =a0.tmps[x]?)/\
    L.Pairwise (λx y=>x.1≠y.1)/\(∀i,i<n->(listed.getD i true=false↔ ∃x∈L,x.1=i))/\(∀x∈L,x.1<n)/\
    ∀x∈L,x.1∈fs/\AF ops x.1=some x.2.1/\∀o,ops[x.1]? =some o->(execOp (K3 L a).eval o).run P w=.ok (.value x.2.2) w:=by
 intro c
 induction c with
 |zero=>
  intro listed a w D T hc Y hfs hp hT hA hI;have hall:∀i,i<n->listed.getD i true=true:=by
   intro i hi;cases Z:listed.getD i true with
   |true=>rfl
   |false=>have:=PK Z n hi;omega
  rw[X3 hq hm Y.size hall]at hp;exact⟨[],D,T,hp,hT,hA,List.Pairwise.nil,λi hi=>by rw[hall i hi];simp,λx J=>(by cases J),λx J=>(by cases J)⟩
 |succ c ih=>
  intro listed a w D T hc Y hfs hp hT hA hI;have hex:∃i,i<n/\listed.getD i true=false:=by
   apply Classical.byContradiction;intro hno;have:unl listed n=0:=by
    unfold unl;rw[List.countP_eq_zero];intro i hi;have hi:=mem_range.1 hi;cases Z:listed.getD i true with
    |true=>simp
    |false=>exact absurd ⟨i,hi,Z⟩ hno
   omega
  obtain⟨i,⟨O,hun⟩,hmin⟩:=Wd hex;have hle:=hq.le;have hminL:∀j,j<i->listed.getD j true=true:=λj hj=>by
   cases Z:listed.getD j true with
   |true=>rfl
   |false=>exact absurd ⟨by omega,Z⟩ (hmin j hj)
  have hif:=hfs i O hun;obtain⟨on,dn,hon,hog,hod,hos,hfl⟩:=fl.it;obtain⟨o,d,W,hg,hexo,hd,_,_,_⟩:=hfl i hif;have hdi:AF ops i=some d:=by unfold AF;rw[W];exact hd
  have hir:i∈Region.ready .any ops listed:=by
   refine mem_ready.2 ⟨hun,o,W,λe he hb=>?_⟩
   have h1:=hq.back i o e W he hb;have h2:=hminL e.on h1;have h3:e.on<listed.size:=by rw[Y.size];omega
   simp[h3]at h2⊢;exact h2
  have H:=JH (Q:=λ_ _ _=>False) (K:=λa' w'=>∃D' T',PR C h.n σ ρ F (pt ops n r m t0 (listed.setIfInBounds i true)) a' w' D' T'/\(∀x b,T' x b->QQ ops n X x)/\(∀x,(∀i,i<n->AF ops i≠some x)->a'.tmps[x]? =a0.tmps[x]?)/\AlI h ops n (listed.setIfInBounds i true) a')
   (Ia hq hm Y O hir hst hp hT (hI.at hq O hir) λa' w' D' T' hp' hT' htm' hmv=>⟨D',T',hp',hT',λx J=>(htm' x (J i O)).trans (hA x J),hI.set hq hst Y O hp.sz htm' hmv⟩)
  unfold wpOp at H;simp only[W]at H;have hw:Region.wanted o (yielded ops a.tmps)=true:=by simp[Region.wanted,hg]
  rw[if_pos hw]at H;rcases H with H|⟨_,_,_,hno⟩
  case inr=>exact hno.elim
  unfold Oper.wp at H;cases hrun:(execOp a.eval o).run P w with
  |halt x w2=>
   rw[hrun]at H;cases x<;>exact H.elim
  |ok nn w1=>
   obtain⟨u,rfl,rfl⟩:=hk i hif o W _ _ _ _ hrun;rw[hrun,Oper.upon_value,hd]at H;obtain⟨D1,T1,hp1,hT1,hA1,hI1⟩:=H;have hcount:=PJ (by rw[Y.size];omega) hun n
   rw[if_pos O]at hcount;have hset:∀j,i≠j->(listed.setIfInBounds i true).getD j true=listed.getD j true:=λj hj=>getD_set_ne true hj
   have hself:(listed.setIfInBounds i true).getD i true=true:=by
    have:i<listed.size:=by rw[Y.size];omega
    simp[this]
   obtain⟨L,D2,T2,h1,h2,h3,h4,h5,h6,h7⟩:=ih (listed.setIfInBounds i true) (a.put (some d) u) _ D1 T1 (by omega) (Y.set hir O) (λj hj Z=>by
    by_cases U:i=j
    .subst U;rw[hself]at Z;cases Z
    .rw[hset j U]at Z;exact hfs j hj Z) hp1 hT1 hA1 hI1
   have hLi:∀x∈L,x.1≠i/\listed.getD x.1 true=false:=by
    intro x J;have Z:=(h5 x.1 (h6 x J)).2 ⟨x,J,rfl⟩;by_cases U:i=x.1
    .rw[<-U,hself]at Z;cases Z
    .exact⟨Ne.symm U,by rw[hset _ U]at Z;exact Z⟩
   refine⟨(i,d,u)::L,D2,T2,h1,h2,h3,List.pairwise_cons.2 ⟨λx J e=>(hLi x J).1 e.symm,h4⟩,λj hj=>?_,λx J=>?_,λx J=>?_⟩
   .by_cases U:i=j
    .subst U
     exact⟨λ_=>⟨_,mem_cons_self ..,rfl⟩,λ_=>hun⟩
    .rw[<-hset j U,h5 j hj]
     constructor
     .rintro ⟨x,J,e⟩;exact⟨x,mCM _ J,e⟩
     .rintro ⟨x,J,e⟩
      rcases mem_cons.1 J with rfl|J
      .exact absurd e U
      .exact⟨x,J,e⟩
   .rcases mem_cons.1 J with rfl|J
    .exact O
    .exact h6 x J
   .rcases mem_cons.1 J with rfl|J
    .refine⟨hif,hdi,λo' ho'=>?_⟩
     obtain rfl:o'=o:=Option.some.inj (ho'.symm.trans W);show(execOp (K3 L (a.put (some d) u)).eval o').run P _=_;rw[HY (ops:=ops) (JF hexo) λy hy hm'=>?_,execOp_put (ops:=ops) o' (JF hexo) a (some d) u λd' hd'=>?_]
     .exact hrun
     .cases hd'
      obtain⟨oi',hoi',hnl⟩:=hq.dst i O;obtain rfl:oi'=o':=Option.some.inj (hoi'.symm.trans W);exact hnl _ hd
     .obtain⟨k1,k2⟩:=hLi y hy
      obtain⟨e,he,hb,hon'⟩:=(hq.ne y.1 i y.2.1 o' (h6 y hy) O k1 (h7 y hy).2.1 W).2 hm';have h8:=hq.back i o' e W he hb;rw[hon']at h8;rw[hminL y.1 h8]at k2;cases k2
    .exact h7 x J
theorem OS:∀(l e:List Nat),l.Nodup->(∀x∈l,x∈e)->l.length<=e.length
 |[],_,_,_=>Nat.zero_le _
 |a::l,e,u,hs=>by
  have u:=List.nodup_cons.1 u;have J:=OS l (e.erase a) u.2 λx H=>(List.mem_erase_of_ne (by grind)).2 (hs x (mCM _ H))
  grind
theorem AaB{Q:Exit->Act->World->Prop}(Z:QOK ops n)(fl:FLS ops n fs)(hk:FlK P ops fs)(hm:MOK (isA h ops) (isB h ops) ops n m)
  (hst:∀j,j<n->∀o,ops[j]? =some o->Js P h ops σ o (Ce ops r m t0 j) (r j) (m j))
  {a0:Act} (hend:∀a w D T,PR C h.n σ ρ F (Ce ops r m t0 n) a w D T->(∀x b,T x b->QQ ops n X x)->(∀x,(∀i,i<n->AF ops i≠some x)->a.tmps[x]? =a0.tmps[x]?)->wpList P ops Q (ops.toList.drop n) a w)
  (hend0:∀a w D T,PR C h.n σ ρ F (Ce ops r m t0 n) a w D T->(∀x b,T x b->QQ ops n X x)->(∀x,(∀i,i<n->AF ops i≠some x)->a.tmps[x]? =a0.tmps[x]?)->wpList P ops (QN Q) (ops.toList.drop n) a w)
  (hH:∀a w D T,PR C h.n σ ρ F (Ce ops r m t0 n) a w D T->(∀x b,T x b->QQ ops n X x)->(∀x,(∀i,i<n->AF ops i≠some x)->a.tmps[x]? =a0.tmps[x]?)->FlH P ops n fs a w):
  ∀(J:Nat) (listed:Array Bool) (a:Act) (w:World) (D:Nat->Prop) (T:Nat->Nat->Prop),HeadInv .any ops n listed->unl listed n+(ops.size-n)<=J->
   PR C h.n σ ρ F (pt ops n r m t0 listed) a w D T->(∀x b,T x b->QQ ops n X x)->(∀x,(∀i,i<n->AF ops i≠some x)->a.tmps[x]? =a0.tmps[x]?)->AlI h ops n listed a->wpAny P .any ops Q J listed a w:=by
 have hsz:=fl.lt1;intro J
 induction J with
 |zero=>intro listed a w D T u hf;omega
 |succ f ih=>
  intro listed a w D T u hf hp hT hA hI;have hle:=Z.le;by_cases W:∀i,i<n->listed.getD i true=true
  .rw[X3 Z hm u.size W]at hp
   refine JP Z (.inr fl.chain) (f+1) n listed a w (le_refl _) hle (by omega) u.size (λj hj=>?_) (hend _ _ _ _ hp hT hA)
   by_cases H:j<n
   .rw[W j H];simp[H]
   .rw[u.tail j (by omega) hj];simp[H]
  .have hex:∃i,i<n/\listed.getD i true=false:=by
    apply Classical.byContradiction;intro hno;apply W;intro i hi;cases O:listed.getD i true with
    |true=>rfl
    |false=>exact absurd ⟨i,hi,O⟩ hno
   obtain⟨i,⟨hin,hun⟩,hmin⟩:=Wd hex;have hoi:ops[i]? =some ops[i]:=by
    have:i<ops.size:=by omega
    simp[this]
   have hir:i∈Region.ready .any ops listed:=by
    refine mem_ready.2 ⟨hun,ops[i],hoi,λe he hb=>?_⟩
    have h1:=Z.back i ops[i] e hoi he hb;have Y:=hmin e.on h1;have h3:e.on<listed.size:=by rw[u.size];omega
    cases O:listed.getD e.on true with
    |false=>exact absurd ⟨by omega,O⟩ Y
    |true=>simp[h3]at O⊢;exact O
   refine⟨λh0=>(by rw[h0]at hir;cases hir),λj hj=>?_⟩
   have hjs:j<ops.size:=by
    obtain⟨_,o,ho,_⟩:=mem_ready.1 hj;exact(Array.getElem?_eq_some_iff.1 ho).1
   rcases Nat.lt_or_ge j n with H|H
   case inr=>
    obtain⟨hju,oj,hoj,U⟩:=mem_ready.1 hj;have hjn':j=n:=by
     have Y:=aET.1 fl.chain j (mem_range.2 hjs);simp only[Bool.or_eq_true,decide_eq_true_eq]at Y;rcases Y with Y|Y
     .omega
     .by_cases he:j=n
      .exact he
      .obtain⟨o',ho',e,he',hb,hon⟩:=Region.waitsFor_spec Y
       obtain rfl:o'=oj:=Option.some.inj (ho'.symm.trans hoj);have h3:=U e he' hb;rw[hon,getD_both (u.tail (j-1) (by omega) (by omega))]at h3
       cases h3
    subst hjn';have hlst:∀c k,j-k=c->k<j->k∉fs->listed.getD k false=true:=by
     intro c
     induction c using Nat.strongRecOn with
     |_ c ihc=>
      intro k hc hk hkf;obtain⟨j',g1,g2,g3,g4⟩:=fl.others k hk hkf;obtain⟨o',ho',e,he',hb,hon⟩:=Region.waitsFor_spec g4;rcases Nat.lt_or_ge j' j with h5|h5
      .have h6:=ihc (j-j') (by omega) j' rfl h5 g3
       have h7:=u.closed j' o' ho' h6 e he' hb;rwa [hon]at h7
      .obtain rfl:j'=j:=by omega
       obtain rfl:o'=oj:=Option.some.inj (ho'.symm.trans hoj);have h7:=U e he' hb;rwa [hon]at h7
    have hfs:∀k,k<j->listed.getD k true=false->k∈fs:=by
     intro k hk O;apply Classical.byContradiction;intro hkf;have h1:=hlst _ k rfl hk hkf;have Y:k<listed.size:=by rw[u.size];omega
     simp[Y]at h1 O;rw[h1]at O;cases O
    obtain⟨L,D2,T2,k1,k2,k3,k4,k5,k6,k7⟩:=replay (X:=X) Z fl hk hm hst (a0:=a0) _ listed a w D T rfl u hfs hp hT hA hI;have hLlen:L.length<=unl listed j:=by
     have h1:(L.map (·.1)).Nodup:=List.pairwise_map.2 k4
     have Y:∀x∈L.map (·.1),x∈(List.range j).filter λi=>!listed.getD i true:=by
      intro x hx;obtain⟨y,hy,rfl⟩:=List.mem_map.1 hx;refine List.mem_filter.2 ⟨mem_range.2 (k6 y hy),?_⟩;rw[(k5 y.1 (k6 y hy)).2 ⟨y,hy,rfl⟩];rfl
     have h3:=OS _ _ h1 Y;rw[List.length_map,<-List.countP_eq_length_filter]at h3;exact h3
    have hgi:wpAny P .any ops Q (f+1) listed a w:=by
     refine GI.go Z fl (f+1) L j listed a w (.inl rfl) (by omega) ⟨u.size,λk hk=>?_,k4,k7,hend0 _ _ _ _ k1 k2 k3,λ_=>hH _ _ _ _ k1 k2 k3⟩
     by_cases hkj:k<j
     .cases O:listed.getD k true with
      |true=>exact(dT ⟨hkj,λx hx e=>by
        have:=(k5 k hkj).2 ⟨x,hx,e⟩;rw[O]at this;cases this⟩).symm
      |false=>
       obtain⟨x,hx,e⟩:=(k5 k hkj).1 O;exact(dF λhh=>hh.2 x hx e).symm
     .rw[u.tail k (by omega) hk]
      exact(dF λhh=>hkj hh.1).symm
    exact hgi.2 j hj
   have hju:=(mem_ready.1 hj).1;have hcount:=PJ (by rw[u.size];exact hjs) hju n
   rw[if_pos H]at hcount;refine JH (Ia Z hm u H hj hst hp hT (hI.at Z H hj) λa' w' D' T' hp' hT' htm' hmv=>ih _ a' w' D' T' (u.set hj H) (by omega) hp' hT' (λx hx=>(htm' x (hx j H)).trans (hA x hx)) (hI.set Z hst u H hp.sz htm' hmv))
end
end Go.Ve


namespace Go.Ve
open Go
variable{w w':World}
theorem KS.prog:KS w w' Go.program:=⟨λP w e n h=>by simp_all,λP n h=>by simp_all⟩
def KS.under(t:TypeId):KS w w' (underlying t):=by
 refine KS.prog.bind λp=>?_
 split
 .exact KS.pure _
 .exact BA.stuck.ks
def KS.info(t:TypeId):KS w w' (typeInfo t):=by
 refine KS.prog.bind λp=>?_
 split
 .exact KS.pure _
 .exact BA.stuck.ks
def KS.size(t:TypeId):KS w w' (sizeOf t):=by
 exact(KS.info t).bind λi=>KS.pure _
theorem KS.agg(t:TypeId):KS w w' (isAgg t):=by
 refine(KS.under t).bind λd=>?_
 split<;>exact KS.pure _
def KS.sure(v:Value):KS w w' (Instr.sureAddr v):=by
 unfold Instr.sureAddr;split
 .exact KS.pure _
 .exact BA.stuck.ks
theorem KS.int(v:Value):KS w w' (asIntOf v):=by
 unfold asIntOf;split
 .exact KS.pure _
 .exact BA.ks λP w u n e=>by cases e
 .exact BA.stuck.ks
theorem BA.goPanic{α:Type}(v:Value):BA (goPanic v:Sem α):=λP w u n e=>by cases e
theorem BA.bounds{α:Type}(k:IntKind)(x y:Int)(c:BoundsCode):BA (boundsPanic k x y c:Sem α):=by
 have h:∀s,BA (runtimePanic (RuntimeError.bounds (IntKind.i64.wrap x) y s c):Sem α):=λs=>by
  exact BA.bindR λp=>BA.goPanic _
 unfold boundsPanic;split
 .exact BA.bindR h
 grind
theorem Jg.load(a:Addr)(m:Mode):Jg (load a m):=by
 intro P w e n h;rw[run_load]at h
 grind
def Jg.loadCells(a:Addr):∀(n i:Nat) (xs:Array Value),Jg (loadCellsFrom a i n xs)
 |0,i,xs=>Jg.pure _
 |n+1,i,xs=>(Jg.load _ _).bind λv=>Jg.loadCells a n (i+1) (xs.push v)
theorem Jg.loadVar(t:TypeId)(a:Addr):Jg (loadVar t a):=by
 refine(KS.agg (w:=default) (w':=default) t).1.bind λb=>?_
 split
 .refine(KS.size (w:=default) (w':=default) t).1.bind λk=>?_
  exact(Jg.loadCells a k 0 #[]).bind λl=>Jg.pure _
 .exact Jg.load _ _
theorem BA.unsup{α:Type}(u:Unsupported):BA (unsupported u:Sem α):=λP w H n e=>by cases e
def KS.place(t:TypeId)(k:IntKind)(i:Int)(tiny:Bool)(base:Option Addr)(len:Nat):KS w w' (match base with
  |some a=>if 0<=i/\i<(len:Int)then(do
    let s<-Go.sizeOf t
    Pure.pure (Value.pointer (some (a.add (i.toNat * s)))))else if tiny = true then unsupported (Unsupported.noEntry "op/indexAddr.an index out of range at an array of length 0 or 1 (ledger 616)")else boundsPanic k i (len : Int) BoundsCode.index
  |none=>boundsPanic k i 0 BoundsCode.index):=by
 split
 .split
  .exact(KS.size t).bind λs=>KS.pure _
  .split
   .exact(BA.unsup _).ks
   .exact(BA.bounds _ _ _ _).ks
 .exact(BA.bounds _ _ _ _).ks
theorem KS.indexAt{w w':World}(t:TypeId)(x i:Value):KS w w' (Instr.indexAt t x i):=by
 unfold Instr.indexAt;refine(KS.int i).bind λu=>?_
 refine(KS.under t).bind λd=>?_
 simp only;split
 .refine(KS.sure _).bind λa=>?_
  refine(KS.pure _).bind λz=>?_
  exact(KS.under t).bind λe=>KS.place _ _ _ _ _ _
 .exact(KS.under t).bind λe=>KS.place _ _ _ _ _ _
 .exact(BA.bind BA.stuck).ks
end Go.Ve
namespace Go.Ve
open Go
variable{a:Addr}{ops:Array Oper}{fs:List Nat}{P:Program}{t:TypeId}{w w':World}
theorem KB{k off sz:Nat}(h:Wm P t k=some (off,sz))(v:Value)(w:World):(∃a,v=.pointer (some a)/\(Instr.fieldAt t v k).run P w=.ok (.pointer (some (a.add off))) w)\/((∀a,v≠.pointer (some a))/\∃x,(Instr.fieldAt t v k).run P w=.halt x w):=by
 unfold Wm at h;split at h
 case h_2=>cases h
 rename_i fs hu;split at h
 case h_2=>cases h
 rename_i f W;split at h
 case h_2=>cases h
 rename_i i hi;split at h
 case isFalse=>cases h
 rename_i U;cases h
 have Z:(underlying t).run P w=.ok (.struct fs) w:=by
  unfold underlying
  simp_all
 have Y:(sizeOf f.type).run P w=.ok i.size w:=by
  unfold Go.sizeOf typeInfo
  simp_all
 unfold Instr.fieldAt;simp only[Sem.run_bind,Z,Result.andThen_ok,W]
 have key:∀a,((Instr.sureAddr v).run P w=.ok a w)->(fieldPlace a f).run P w=.ok (a.add f.offset) w:=λa _=>by
  unfold fieldPlace;have J:i.size≠0:=by omega
  simp only[Sem.run_bind,Y,Result.andThen_ok,if_neg J];rfl
 cases u:(Instr.sureAddr v).run P w with
 |halt x O=>
  right;unfold Instr.sureAddr at u;split at u
  .cases u
  .rename_i H
   cases u;exact⟨λa e=>H a e,_,rfl⟩
 |ok a O=>
  left
  have hv:v=.pointer (some a)/\O=w:=by
   unfold Instr.sureAddr at u;split at u
   .cases u;exact⟨rfl,rfl⟩
   .cases u
  simp_all
def FlT(P:Program)(ops:Array Oper)(fs:List Nat):Prop:=∀f∈fs,∀o,ops[f]? =some o->AdS o.op=true/\∀t x k,o.op=.fieldAddr t x k->∃off sz,Wm P t k=some (off,sz)
theorem FlT.keep(h:FlT P ops fs):FlK P ops fs:=by
 intro f hf o ho ρ w n w1 U;obtain⟨he,Z⟩:=h f hf o ho
 have W:∀{s:Sem Value},(∀u O,s.run P w=.ok u O->O=w)->((s>>=λv=>Pure.pure (Next.value v):Sem Next).run P w=.ok n w1)->∃u,n=.value u/\w1=w:=by
  intro s hk h;rw[Sem.run_bind]at h;cases J:s.run P w with
  |halt x O=>rw[J]at h;cases h
  |ok u O=>
   rw[J]at h;have:=hk u O J;cases h;exact⟨u,rfl,this⟩
 cases H:o.op with
 |fieldAddr t x k=>
  obtain⟨off,sz,Y⟩:=Z t x k H;have e:execOp ρ o=(Instr.fieldAt t (ρ x) k>>=λv=>Pure.pure (Next.value v)):=by unfold execOp;rw[H]
  rw[e]at U;refine W (λu O J=>?_) U
  rcases KB Y (ρ x) w with⟨a,_,h2⟩|⟨_,x,h2⟩
  .rw[h2]at J;cases J;rfl
  .rw[h2]at J;cases J
 |load t x=>
  have e:execOp ρ o=(Instr.loadAt t (ρ x)>>=λv=>Pure.pure (Next.value v)):=by unfold execOp;rw[H]
  rw[e]at U;refine W (λu O J=>?_) U
  refine Jg.bind (KS.sure (w:=w) (w':=w) (ρ x)).1 (λa=>Jg.loadVar t a) P w O u J
 |move x=>
  have e:execOp ρ o=Pure.pure (Next.value (ρ x)):=by unfold execOp;rw[H]
  rw[e]at U;cases U;exact⟨_,rfl,rfl⟩
 |indexAddr t x i=>
  have e:execOp ρ o=(Instr.indexAt t (ρ x) (ρ i)>>=λv=>Pure.pure (Next.value v)):=by unfold execOp;rw[H]
  rw[e]at U;exact W (λu O J=>(KS.indexAt (w:=w) (w':=w) t (ρ x) (ρ i)).1 P w O u J) U
 |_=>rw[H]at he;cases he
theorem Pu(h:w'.heap[a.block]? =w.heap[a.block]?):w'.cell? a=w.cell? a:=by
 unfold World.cell?
 grind
theorem Wc{m:Mode}(h:w'.heap[a.block]? =w.heap[a.block]?)(H:∃y,w.cell? a=some y){n:Value}(u:(load a m).run P w=.ok n w):(load a m).run P w'=.ok n w':=by
 obtain⟨y,e⟩:=H;rw[run_load]at u⊢;rw[Pu h,e]
 grind
theorem Zh{n:Nat}:(a.add n).block=a.block:=by
 unfold Addr.add
 grind
theorem LT{P:Program}{w w':World}{a:Addr}(h:w'.heap[a.block]? =w.heap[a.block]?):∀(n i:Nat) (xs:Array Value) (r:Array Value),(∀k,i<=k->k<i+n->∃y,w.cell? (a.add k)=some y)->(loadCellsFrom a i n xs).run P w=.ok r w->(loadCellsFrom a i n xs).run P w'=.ok r w'
 |0,i,xs,r,_,hr=>by cases hr;rfl
 |n+1,i,xs,r,hc,hr=>by
  have e:∀w,(loadCellsFrom a i (n+1) xs).run P w=((load (a.add i)).run P w).andThen λv J=>(loadCellsFrom a (i+1) n (xs.push v)).run P J:=λw=>by
   show((load (a.add i))>>=λv=>loadCellsFrom a (i+1) n (xs.push v)).run P w=_
   simp
  rw[e]at hr⊢;obtain⟨y,H⟩:=hc i (le_refl _) (by simp)
  have u:∀{w:World},w.cell? (a.add i)=some y->(load (a.add i)).run P w=.ok y w:=λO=>by simp_all
  rw[u H]at hr;rw[u ((Pu (by rw[Zh];omega)).trans H)]
  exact LT h n (i+1) (xs.push y) r (λk u U=>hc k (by omega) (by omega)) hr
theorem OZ(h:w'.heap[a.block]? =w.heap[a.block]?)(U:∃y,w.cell? a=some y)(Z:∀s,(sizeOf t).run P w=.ok s w->∀k,k<s->∃y,w.cell? (a.add k)=some y){r:Value}(e:(loadVar t a).run P w=.ok r w):(loadVar t a).run P w'=.ok r w':=by
 unfold loadVar at e⊢;rw[Sem.run_bind]at e⊢;cases O:(isAgg t).run P w with
 |halt x u=>rw[O]at e;cases e
 |ok b u=>
  have e1:=(KS.agg (w:=w) (w':=w') t).1 P w u b O;subst e1;rw[(KS.agg (w:=u) (w':=w') t).2 P b O];rw[O]at e;simp only[Result.andThen_ok]at e⊢;cases b with
  |false=>exact Wc h U e
  |true=>
   simp only[if_true]at e⊢;rw[Sem.run_bind]at e⊢;cases J:(sizeOf t).run P u with
   |halt x H=>simp_all
   |ok s H=>
    have e2:=(KS.size (w:=u) (w':=w') t).1 P u H s J;subst e2;rw[(KS.size (w:=H) (w':=w') t).2 P s J];rw[J]at e;simp only[Result.andThen_ok]at e⊢;rw[Sem.run_bind]at e⊢;cases W:(loadCells a s).run P H with
    |halt x Y=>rw[W]at e;cases e
    |ok l Y=>
     have e3:=Jg.loadCells a s 0 #[] P H Y l W;subst e3;rw[show(loadCells a s).run P w'=.ok l w' from LT h s 0 #[] l (λk _ hk=>Z s J k (by omega)) W]
     simp_all
def FlL(P:Program)(ops:Array Oper)(fs:List Nat)(a:Act)(w w':World):Prop:=∀f∈fs,∀o,ops[f]? =some o->∀t x,o.op=.load t x->∀ad,a.eval x=.pointer (some ad)->
 w'.heap[ad.block]? =w.heap[ad.block]?/\(∃y,w.cell? ad=some y)/\∀s,(sizeOf t).run P w=.ok s w->∀k,k<s->∃y,w.cell? (ad.add k)=some y
theorem FlT.same(h:FlT P ops fs){a:Act}(hl:FlL P ops fs a w w'):∀f∈fs,∀o,ops[f]? =some o->∀u,(execOp a.eval o).run P w=.ok (.value u) w->(execOp a.eval o).run P w'=.ok (.value u) w':=by
 intro f hf o ho u U;obtain⟨he,hfl⟩:=h f hf o ho
 have kv:∀{s:Sem Value},(∀O,s.run P w=.ok u O->s.run P w'=.ok u w')->((s>>=λv=>Pure.pure (Next.value v):Sem Next).run P w=.ok (.value u) w)->((s>>=λv=>Pure.pure (Next.value v):Sem Next).run P w'=.ok (.value u) w'):=by
  intro s hk h;rw[Sem.run_bind]at h⊢;cases H:s.run P w with
  |halt x O=>rw[H]at h;cases h
  |ok u2 O=>
   rw[H]at h;have e:u2=u:=by cases h;rfl
   subst e;rw[hk O H];rfl
 cases J:o.op with
 |fieldAddr t x k=>
  obtain⟨off,sz,Y⟩:=hfl t x k J;have e:execOp a.eval o=(Instr.fieldAt t (a.eval x) k>>=λv=>Pure.pure (Next.value v)):=by unfold execOp;rw[J]
  rw[e]at U⊢;refine kv (λO H=>?_) U
  rcases KB Y (a.eval x) w with⟨ad,h1,Z⟩|⟨_,x,Z⟩
  .rw[Z]at H
   cases H;rcases KB Y (a.eval x) w' with⟨ad',W,h4⟩|⟨W,y,h4⟩
   .rw[h1]at W;cases W;exact h4
   .exact absurd h1 (W ad)
  .rw[Z]at H;cases H
 |load t x=>
  have e:execOp a.eval o=(Instr.loadAt t (a.eval x)>>=λv=>Pure.pure (Next.value v)):=by unfold execOp;rw[J]
  rw[e]at U⊢;refine kv (λO H=>?_) U
  unfold Instr.loadAt at H⊢;rw[Sem.run_bind]at H⊢;unfold Instr.sureAddr at H⊢;split at H
  .rename_i ad had
   obtain⟨h1,Z,W⟩:=hl f hf o ho t x J ad had;have H:(loadVar t ad).run P w=.ok u O:=H;have:=Jg.loadVar t ad P w O u H;subst this;exact OZ h1 Z W H
  .cases H
 |move x=>
  have e:execOp a.eval o=Pure.pure (Next.value (a.eval x)):=by unfold execOp;rw[J]
  rw[e]at U⊢;cases U;rfl
 |indexAddr t x i=>
  have e:execOp a.eval o=(Instr.indexAt t (a.eval x) (a.eval i)>>=λv=>Pure.pure (Next.value v)):=by unfold execOp;rw[J]
  rw[e]at U⊢;refine kv (λO H=>?_) U
  have:=(KS.indexAt (w:=w) (w':=w') t (a.eval x) (a.eval i)).1 P w O u H;subst this;exact(KS.indexAt (w:=O) (w':=w') t (a.eval x) (a.eval i)).2 P u H
 |_=>rw[J]at he;cases he
end Go.Ve


namespace Go.Ve
variable{a:Act}{C:Ctx}{σ:List V}{N d id y:Nat}{Al F T:Nat->Nat->Prop}{D:Nat->Prop}{t:Nat->V}{ρ:Nat->Value}{o:Oper}{P:Program}{c1 r:V}{w:World}
def FCU(P:Program)(f:FuncId)(k:Nat)(args:List V)(c0 r c1:V):Prop:=
 ∀(w:World) (D H:Nat->Prop) (cvs:Array Value),Wok w->(∀p,Abf=some p->¬H p.1)->(∀b,D b->b<w.heap.size)->(∀b,H b->¬D b)->cvs.size=args.length->
  Rel D w noR c0 (cvs.getD k undef) H->(∀i,i<args.length->i≠k->Rel D w noR (args.getD i .dead) (cvs.getD i undef) noF)->
  Calls P f cvs w λe w'=>∃cv fp D' H',e=.returned cv/\Fr w w' H/\Rel D' w' noR r cv fp/\Rel D' w' noR c1 (cvs.getD k undef) H'/\
   (∀b,fp b->H b\/w.heap.size<=b)/\(∀b,H' b->H b\/w.heap.size<=b)/\(∀b,fp b->¬H' b)/\
   (∀b,D b->D' b)/\(∀b,D' b->D b\/H b\/w.heap.size<=b)/\∀b,D' b->b<w'.heap.size/\¬fp b/\¬H' b
def clean:V->Prop
 |.many _ n f=>∀k,k<n->clean (f k)
 |.rs _ _ _ _=>False
 |.rp _ _ _ _=>False
 |.rm _ _=>False
 |_=>True
theorem Rel.clean{D:Nat->Prop}{w:World}:∀(v:V) (R R':V->Value->Prop) (cv:Value) (fp:Nat->Prop),Go.Ve.clean v->Rel D w R v cv fp->Rel D w R' v cv fp:=by
 intro v
 induction v with
 |c v=>intro R R' cv fp _ h;exact h
 |dead=>intro R R' cv fp _ h;exact h
 |many t n f H=>
  intro R R' cv fp e h;obtain⟨cs,F,u,U,O,hd,W⟩:=h;exact⟨cs,F,u,U,λk J=>H k R R' _ _ (e k J) (O k J),hd,W⟩
 |nd s own sz n f H=>intro R R' cv fp _ h;exact h
 |rs=>intro R R' cv fp e h;trivial
 |rp=>intro R R' cv fp e h;trivial
 |rm=>intro R R' cv fp e h;trivial
 |mp own l=>intro R R' cv fp e h;exact h
def LX(c:V):Prop:=∃s sz n f,c=.nd s true sz n f/\(s=false\/0<n)
theorem LX.some{R:V->Value->Prop}{c:V}{cv:Value}{H:Nat->Prop}(W:LX c)(h:Rel D w R c cv H):∃b,H b:=by
 obtain⟨s,sz,n,f,rfl,Y⟩:=W;rcases h with⟨h1,h2,_⟩|⟨b,o,cap,F,U,u,e,J,Z,hi,O⟩
 .grind
 .exact⟨b,((O rfl).2.2.2 b).2 (.inl rfl)⟩
section
variable {C:Ctx}{N:Nat}{σ:List V}{ρ:Nat->Value}{F:Nat->Nat->Prop}{t:Nat->V}{a:Act}{w:World}{D:Nat->Prop}{T:Nat->Nat->Prop}
theorem PR.turn(h:PR C N σ ρ F t a w D T){v':Value}{fp H' D':Nat->Prop}{w':World}(hy:y<N)(hdn:d<N)(hyd:y≠d)(J:Fr w w' (T y))(hr:Rel D' w' noR r v' fp)(hc:Rel D' w' noR c1 (a.tmps.getD y undef) H')
  (hf:∀b,fp b->T y b\/w.heap.size<=b) (hH:∀b,H' b->T y b\/w.heap.size<=b) (hfH:∀b,fp b->¬H' b) (hd1:∀b,D b->D' b) (hd2:∀b,D' b->D b\/T y b\/w.heap.size<=b) (hd3:∀b,D' b->b<w'.heap.size/\¬fp b/\¬H' b):
  PR C N σ ρ F (AD (AQ [(y,.put c1)] t) d r) (a.put (some d) v') w' D' (λx b=>if x=d then fp b else if x=y then H' b else T x b):=by
 have hFlt:∀i b,F i b->b<w.heap.size:=h.wr.lt;have hTlt:∀x b,T x b->b<w.heap.size:=by
  intro x b e;by_cases H:x<N
  .exact Rel.lt _ _ _ (h.tm x H) b e
  .exact absurd e (h.tx x b (le_of_not_lt H))
 have kM:∀x,AQ [(y,.put c1)] t x=if x=y then c1 else t x:=by
  intro x;unfold AQ;by_cases H:x=y
  .subst H
   rw[if_pos rfl];show Iq (if x=x then some (.put c1)else none) _=_
   rw[if_pos rfl];rfl
  .rw[if_neg H]
   show Iq (if y=x then some (.put c1)else none) _=_
   rw[if_neg (Ne.symm H)];rfl
 have hD:∀b,D b->w'.heap[b]? =w.heap[b]?:=λb e=>J.block b (h.wr.Dlt b e) λZ=>h.tD y b Z e
 have hFs:∀i b,F i b->w'.heap[b]? =w.heap[b]?:=λi b e=>J.block b (hFlt i b e) λZ=>h.tF i y b e Z
 have hTs:∀x b,x≠y->T x b->w'.heap[b]? =w.heap[b]?:=λx b H e=>J.block b (hTlt x b e) λZ=>h.tT x y b H e Z
 have wr':Bg σ w' D' ρ F:=by
  refine⟨λi hi=>Rel.mono hd1 (λ_ _ h=>h) _ _ _ (λb e=>e.elim (hD b) (hFs i b)) (h.wr.rel i hi),h.wr.disj,λi b e Y=>?_,λb e=>(hd3 b e).1,h.wr.out⟩
  rcases hd2 b Y with u|u|u
  .exact h.wr.dD i b e u
  .exact h.tF i y b e u
  .have:=hFlt i b e;omega
 have hW:∀b,T y b\/w.heap.size<=b->C.W b\/C.w0.heap.size<=b:=λb e=>e.elim (h.tn y b) λe=>.inr (le_trans h.fr.size e)
 refine⟨h.df,by rw[BL];simpa using h.sz,λx H=>?_,wr',λx H=>?_,λx b e=>?_,λi x b e Z=>?_,λx z b hxz u O=>?_,λx b e=>?_,⟨J.os.trans h.fr.os,J.tape.trans h.fr.tape,J.output.trans h.fr.output,le_trans h.fr.size J.size,λb e hWb=>?_,le_trans h.fr.drawn J.drawn⟩,h.Fn,λb e=>hd1 b (h.D1 b e),λb e hlt=>?_,h.rt,h.ml,λx b H e=>?_⟩
 .have u:¬x=d:=by omega
  have O:¬x=y:=by omega
  simp only[AD,u,if_false];rw[kM,if_neg O];exact h.dd x H
 .have hlt:x<a.tmps.size:=by rw[h.sz];exact H
  rw[BL];by_cases he:x=d
  .subst he
   simp only[AD,if_true];have:Rel D' w' (Ai σ ρ w') r v' (λb=>if x=x then fp b else if x=y then H' b else T x b):=Rel.fp_congr (λb=>by rw[if_pos rfl]) (Rel.noR_mono hr)
   simpa [hlt]using this
  .simp only[AD,he,if_false]
   rw[Array.getD_eq_getD_getElem?,Array.getElem?_setIfInBounds_ne (Ne.symm he),<-Array.getD_eq_getD_getElem?,kM];by_cases U:x=y
   .subst U
    simp only[if_true];exact Rel.noR_mono hc
   .simp only[U,if_false]
    exact Rel.mono hd1 (λv cv hv=>Ai.same h.wr hFs v cv hv) _ _ _ (λb e=>e.elim (hD b) (hTs x b U)) (h.tm x H)
 .split at e
  .exact λY=>(hd3 b Y).2.1 e
  .split at e
   .exact λY=>(hd3 b Y).2.2 e
   .rename_i U
    intro Y;rcases hd2 b Y with u|u|u
    .exact h.tD x b e u
    .exact h.tT x y b U e u
    .have:=hTlt x b e;omega
 .have key:T y b\/w.heap.size<=b->False:=λu=>u.elim (h.tF i y b e) λu=>by have:=hFlt i b e;omega
  split at Z
  .exact key (hf b Z)
  .split at Z
   .exact key (hH b Z)
   .exact h.tF i x b e Z
 .have key:∀x,x≠y->T x b->T y b\/w.heap.size<=b->False:=λx U H u=>u.elim (h.tT x y b U H) λu=>by have:=hTlt x b H;omega
  split at u<;>split at O
  .omega
  .split at O
   .exact hfH b u O
   .rename_i _ _ hz;exact key z hz O (hf b u)
  .split at u
   .exact hfH b O u
   .rename_i H _;exact key x (by assumption) u (hf b O)
  .split at u<;>split at O
   .omega
   .exact key z (by assumption) O (hH b u)
   .exact key x (by assumption) u (hH b O)
   .exact h.tT x z b hxz u O
 .split at e
  .exact hW b (hf b e)
  .split at e
   .exact hW b (hH b e)
   .exact h.tn x b e
 .rw[J.block b (Nat.lt_of_lt_of_le e h.fr.size) λZ=>by
   rcases h.tn y b Z with u|u
   .exact hWb u
   .omega]
  exact h.fr.block b e hWb
 .rcases hd2 b e with u|u|u
  .exact h.D2 b u hlt
  .rcases h.tn y b u with O|O
   .exact .inr O
   .omega
  .have:=h.fr.size;omega
 .have u:¬x=d:=by omega
  have O:¬x=y:=by omega
  simp only[u,O,if_false]at e;exact h.tx x b H e
end
theorem Ai.setD{u:V}(hd:σ.getD id .dead=.dead):∀v cv,Ai σ ρ w v cv->Ai (σ.set id u) ρ w v cv:=by
 have ne:∀{p:List (Nat×Nat)}{cv O:Value}{s o:Bool}{sz n:Nat}{f:Nat->Nat->V},¬At w p .dead cv (.nd s o sz n f) O:=by
  intro p cv O s o sz n f h;cases p with
  |nil=>cases h.1
  |cons _ _=>exact h
 have get:∀{i:Nat},i≠id->(σ.set id u).getD i .dead=σ.getD i .dead:=by
  grind
 intro v cv h;cases v with
 |rs i p off len=>
  obtain⟨J,sz,n,f,U,e,H⟩:=h;have hi:i≠id:=by
   grind
  exact⟨by simpa using J,sz,n,f,U,by grind,H⟩
 |rp i p j k=>
  obtain⟨J,s,sz,n,f,b,o,cap,e,H⟩:=h;have hi:i≠id:=by
   grind
  exact⟨by simpa using J,s,sz,n,f,b,o,cap,by grind,H⟩
 |rm i p=>
  obtain⟨J,l,b,e,H⟩:=h;have hi:i≠id:=by
   rintro rfl
   rw[hd]at e;cases p with
   |nil=>cases e.1
   |cons _ _=>exact e
  exact⟨by simpa using J,l,b,by rw[get hi];exact e,H⟩
 |_=>exact h
theorem PR.back(h:PR C N σ ρ F t a w D T){sz:Nat}{f:Nat->Nat->V}(hy:y<N)(Y:id<σ.length)(hd:σ.getD id .dead=.dead)(ht:t y=.nd false true sz 1 f)(hsz:0<sz)(hv:a.tmps.getD y undef=ρ id):
  PR C N (σ.set id (t y)) ρ (λi b=>if i=id then T y b else F i b) (AD t y (.rp id [] 0 0)) a w D (λx b=>x≠y/\T x b):=by
 have get:∀{i:Nat},i≠id->(σ.set id (t y)).getD i .dead=σ.getD i .dead:=by
  intro i hi;simp only[gDE];rw[List.getElem?_set_ne (Ne.symm hi)]
 have J:(σ.set id (t y)).getD id .dead=t y:=by simp[Y]
 have u:Rel D w noR (t y) (ρ id) (T y):=by
  have H:=h.tm y hy;rw[hv,ht]at H;rw[ht];exact H
 refine⟨h.df,h.sz,λx W=>?_,⟨λi hi=>?_,λi j b hij H U=>?_,λi b e=>?_,h.wr.Dlt,λi b hi e=>?_⟩,λx W=>?_,λx b e=>h.tD x b e.2,λi x b e hT=>?_,λx z b hxz H U=>h.tT x z b hxz H.2 U.2,λx b e=>h.tn x b e.2,h.fr,λi b e=>?_,h.D1,h.D2,h.rt,by simpa using h.ml,λx b W e=>h.tx x b W e.2⟩
 .have:¬x=y:=by omega
  simp only[AD,this,if_false];exact h.dd x W
 .have hi:i<σ.length:=by simpa using hi
  by_cases O:i=id
  .subst O
   rw[J];exact Rel.fp_congr (λb=>by rw[if_pos rfl]) u
  .rw[get O]
   exact Rel.fp_congr (λb=>by rw[if_neg O]) (h.wr.rel i hi)
 .split at H<;>split at U
  .omega
  .exact h.tF j y b U H
  .exact h.tF i y b H U
  .exact h.wr.disj i j b hij H U
 .split at e
  .exact h.tD y b e
  .exact h.wr.dD i b e
 .have hi:σ.length<=i:=by simpa using hi
  rw[if_neg (by omega)]at e
  exact h.wr.out i b hi e
 .by_cases O:x=y
  .subst O
   simp only[AD,if_true];refine⟨?_,λb e=>e.1 rfl⟩
   rw[ht]at u;rcases u with⟨H,_⟩|⟨b,o,cap,G,Z,_⟩
   .omega
   .refine⟨by simpa using Y,false,sz,1,f,b,o,cap,⟨by rw[J,ht],Z.symm⟩,by omega,hsz,?_⟩
    rw[hv,Z];simp[Ay]
  .simp only[AD,O,if_false]
   exact Rel.fp_congr (λb=>⟨λh=>⟨O,h⟩,λh=>h.2⟩) (Rel.mono (λ_ h=>h) (Ai.setD hd) _ _ _ (λ_ _=>rfl) (h.tm x W))
 .split at e
  .exact h.tT x y b hT.1 hT.2 e
  .exact h.tF i x b e hT.2
 .split at e
  .exact h.tn y b e
  .exact h.Fn i b e
theorem Aa6{Al:Nat->Nat->Prop}{σ:List V}{t:Nat->V}{f:FuncId}{xs:Array Operand}{ats:Array TypeId}{k z:Nat}{args:List V}{c0 r c1:V}(ho:o.op=.call ⟨.value (.func f),xs,ats⟩)(hd:o.dst=some d)(hdn:d<N)(hyn:y<N)(hyd:y≠d)(u:AA P f=true)
  (hk:xs[k]? =some (.tmp z)) (hz:z=y\/Al z y) (ht:Sub (t y) c0) (hnd:∃s sz n f,c0=.nd s true sz n f) (Y:LX c0\/c1=.dead) (hsz:xs.size=args.length) (hargs:∀i x,i≠k->xs[i]? =some x->AK (Ms.ev ⟨t,σ⟩ x)=false/\clean (Ms.ev ⟨t,σ⟩ x)/\Sub (Ms.ev ⟨t,σ⟩ x) (args.getD i .dead)) (hc:FCU P f k args c0 r c1):
  LQ P N σ Al o t [(y,.put c1)] r:=by
 intro C ρ F a w D T t' hag hal hp next Q hn
 have hopx:∀z,Operand.tmp z∈xs.toList->t' z=t z:=λz hz=>hag z (.inl<|Dz (by rw[ho];simp[Op.operands,Call.operands]at hz⊢;simp[hz]))
 have hrun:(execOp a.eval o).run P w=.ok (.enter f (xs.map a.eval)) w:=by
  unfold AA at u;split at u
  .rename_i fn hfn
   simp only[bAE,Bool.not_eq_true']at u;obtain⟨O,h2⟩:=u;have h2':fn.body.isNone=false:=by cases Y:fn.body<;>simp[Y]at h2⊢
   have e0:a.eval (.func f)=.func (.func f) #[] #[]:=rfl;unfold execOp;rw[ho];simp[resolve,e0,Deferred.ofValue,invoke,callFunc,hfn,h2'];simp at O;simp[O];intro Y;simp[Y]at h2
  .cases u
 have hks:k<xs.size:=(Array.getElem?_eq_some_iff.1 hk).1
 have hxk:(xs.map a.eval).getD k undef=a.tmps.getD y undef:=by
  have:xs[k]=.tmp z:=by
   have:=(Array.getElem?_eq_some_iff.1 hk).2;exact this
  have e:(xs.map a.eval).getD k undef=a.eval xs[k]:=by simp[hks]
  rw[e,this];show a.tmps.getD z undef=_;rcases hz with rfl|hz
  .rfl
  .exact hal z y hz
 have hty:t' y=t y:=hag y (.inr (by
  show(if y=y then some (Tk.put c1)else none)≠none
  rw[if_pos rfl];simp))
 have htm:=hp.tm y hyn;rw[hty]at htm;obtain⟨s0,sz0,n0,f0,hc0⟩:=hnd
 have Z:Rel D w noR c0 (a.tmps.getD y undef) (T y):=by
  have O:=Rel.sub ht htm;rw[hc0]at O⊢;exact O
 unfold Oper.wp;rw[hrun,Oper.upon_enter];refine(hc w D (T y) (xs.map a.eval) hp.ok (λp U hT=>?_) hp.wr.Dlt (hp.tD y) (by simp[hsz]) (by rw[hxk];exact Z) λi hi hik=>?_).mono λe w' hpost=>?_
 .rcases hp.tn y p.1 hT with O|O
  .exact C.ok.2 p U O
  .have:=C.ok.1.lt U;omega
 .have hi':i<xs.size:=by omega
  have hxi:xs[i]? =some xs[i]:=by simp[hi']
  obtain⟨O,h2,h3⟩:=hargs i xs[i] hik hxi;have hev:Ms.ev ⟨t',σ⟩ xs[i]=Ms.ev ⟨t,σ⟩ xs[i]:=by
   cases hx:xs[i]with
   |tmp z=>exact hopx z (by rw[<-hx];simp)
   |const v=>rfl
   |global g=>rfl
   |func f=>rfl
  obtain⟨fp,H,_⟩:=hp.ev xs[i];rw[hev]at H;rw[A4 (AC _ _ _ O H)]at H;have e:(xs.map a.eval).getD i undef=a.eval xs[i]:=by simp[hi']
  rw[e];exact Rel.sub h3 (Rel.clean _ _ _ _ _ h2 H)
 .obtain⟨cv,fp,D',H',rfl,hfr,hr',W,hf,hH,hfH,hd1,hd2,hd3⟩:=hpost
  rw[hxk]at W;have U:=hp.turn (d:=d) hyn hdn hyd hfr hr' W hf hH hfH hd1 hd2 hd3;rw[hd]at hn⊢;refine hn _ _ _ _ U (λx b J=>?_) λ_ hx=>BM hx
  by_cases hxd:x=d
  .exact .inl (by rw[hxd])
  .right
   simp only[hxd,if_false]at J;by_cases hxy:x=y
   .rw[if_pos hxy]at J
    rw[hxy];rcases Y with Y|Y
    .exact LX.some Y Z
    .rw[Y]at W
     exact absurd J (W b)
   .simp only[hxy,if_false]at J
    exact⟨b,J⟩
theorem PR.freeze(h:PR C N σ ρ F t a w D T)(hd:d<N):
  PR C N σ ρ F (AD t d (Go.Ve.frz (t d))) a w (λb=>D b\/T d b) (λx b=>x≠d/\T x b):=by
 have H:∀x b,T x b->b<w.heap.size:=by
  intro x b e;by_cases u:x<N
  .exact Rel.lt _ _ _ (h.tm x u) b e
  .exact absurd e (h.tx x b (le_of_not_lt u))
 refine⟨h.df,h.sz,λx u=>?_,⟨λi hi=>Rel.mono (λ_ h=>.inl h) (λ_ _ h=>h) _ _ _ (λ_ _=>rfl) (h.wr.rel i hi),h.wr.disj,λi b e W=>?_,λb e=>?_,h.wr.out⟩,λx u=>?_,λx b e W=>?_,λi x b e Z=>h.tF i x b e Z.2,λx z b J Y h2=>h.tT x z b J Y.2 h2.2,λx b e=>h.tn x b e.2,h.fr,h.Fn,λb e=>.inl (h.D1 b e),λb e O=>?_,h.rt,h.ml,λx b u e=>h.tx x b u e.2⟩
 .have:¬x=d:=by omega
  simp[AD,this,if_false];exact h.dd x u
 .exact W.elim (h.wr.dD i b e) (h.tF i d b e)
 .exact e.elim (h.wr.Dlt b) (H d b)
 .by_cases U:x=d
  .subst U
   simp only[AD,if_true];exact Rel.fp_congr (λb=>⟨λh=>h.elim,λh=>(h.1 rfl).elim⟩) (Rel.frz _ _ _ (h.tm x u))
  .simp only[AD,U,if_false]
   exact Rel.fp_congr (λb=>⟨λh=>⟨U,h⟩,λh=>h.2⟩) (Rel.mono (λ_ h=>.inl h) (λ_ _ h=>h) _ _ _ (λ_ _=>rfl) (h.tm x u))
 .exact W.elim (h.tD x b e.2) (h.tT x d b e.1 e.2)
 .rcases e with e|e
  .exact h.D2 b e O
  .rcases h.tn d b e with Y|Y
   .grind
   grind
theorem LQ.frzR{ys:List (Nat×Tk)}(h:LQ P N σ Al o t ys r)(hd:o.dst=some d)(J:d<N):LQ P N σ Al o t ys (Go.Ve.frz r):=by
 intro C ρ F a w D T u U O Y next Q hn
 refine h C ρ F a w D T u U O Y next Q λa' w' D' T' H Z W=>?_
 have hf:=H.freeze J
 have e:AD (I1 o.dst r (AQ ys u)) d (Go.Ve.frz (I1 o.dst r (AQ ys u) d))=I1 o.dst (Go.Ve.frz r) (AQ ys u):=by
  rw[hd]
  funext x
  show(if x=d then Go.Ve.frz (if d=d then r else _)else(if x=d then r else AQ ys u x))=(if x=d then Go.Ve.frz r else AQ ys u x)
  rw[if_pos rfl];split<;>rfl
 grind
end Go.Ve


namespace Go.Ve
variable{s:Bool}{σ:List V}{id n sz:Nat}{f:Nat->Nat->V}{D:Nat->Prop}{ρ:Nat->Value}{w:World}
def MQ(id:Nat):V->V
 |.nd true _ _ n _=>.rs id [] 0 n
 |_=>.rp id [] 0 0
theorem Uq{ρ:Nat->Value}{w:World}{D:Nat->Prop}{H:Nat->Prop}(J:id<σ.length)(U:σ.getD id .dead=.nd s true sz n f)(O:s=false->0<sz/\n=1)
  (h:Rel D w noR (.nd s true sz n f) (ρ id) H):Rel D w (Ai σ ρ w) (MQ id (.nd s true sz n f)) (ρ id) noF:=by
 cases s with
 |false=>
  obtain⟨h0,rfl⟩:=O rfl;refine⟨?_,λb W=>W⟩
  rcases h with⟨Y,_⟩|⟨b,o,cap,G,u,_⟩
  .omega
  .refine⟨J,false,sz,1,f,b,o,cap,⟨U.symm,u.symm⟩,by simp,h0,?_⟩
   rw[u];simp[Ay]
 |true=>
  refine⟨?_,λb W=>W⟩
  rcases h with⟨Y,_,Z,_⟩|⟨b,o,cap,G,u,_⟩
  .subst Y
   refine⟨J,sz,0,f,ρ id,⟨U.symm,rfl⟩,le_refl _,.inr ⟨rfl,none,?_,(λ_ _=>rfl),λp e=>by grind⟩⟩
   rw[DZ Z];rfl
  .refine⟨J,sz,n,f,ρ id,⟨U.symm,rfl⟩,by simp,.inl ⟨b,o,cap,u,?_⟩⟩
   rw[u];simp[Ay]
theorem XN{ρ:Nat->Value}{w:World}{D D':Nat->Prop}{H fp:Nat->Prop}{v:V}{cv:Value}(h1:v=.nd s true sz n f)(h2:s=false->0<sz/\n=1)(Z:σ.getD id .dead=v)
  (W:Rel D w noR v (ρ id) H) (Y:Rel D' w (Ai σ ρ w) (MQ id v) cv fp):cv=ρ id:=by
 subst h1;cases s with
 |true=>
  obtain⟨⟨_,O,n',f',cn,u,_,e⟩,_⟩:=Y;obtain⟨J,U⟩:=u;rw[Z]at J;cases J;rw[<-U];rcases e with⟨b,o,cap,g1,g2⟩|⟨g1,ad,_,g3,_⟩
  .rw[g1,g2]
   show Value.slice (some ⟨b,o+0*sz,none⟩) n (cap-0)=Value.slice (some ⟨b,o,none⟩) n cap;simp
  grind
 |false=>
  obtain⟨⟨_,s',O,n',f',b,o,cap,u,_,_,e⟩,_⟩:=Y;obtain⟨J,U⟩:=u;rw[Z]at J;cases J;rw[<-U,e];simp[Ay]
theorem PR.back2{C:Ctx}{N:Nat}{F:Nat->Nat->Prop}{t:Nat->V}{a:Act}{T:Nat->Nat->Prop}(h:PR C N σ ρ F t a w D T){y:Nat}(hy:y<N)(Z:id<σ.length)(hd:σ.getD id .dead=.dead)(Y:t y=.nd s true sz n f)(hsz:s=false->0<sz/\n=1)(hv:a.tmps.getD y undef=ρ id):
  PR C N (σ.set id (t y)) ρ (λi b=>if i=id then T y b else F i b) (AD t y (MQ id (t y))) a w D (λx b=>x≠y/\T x b):=by
 have get:∀{i:Nat},i≠id->(σ.set id (t y)).getD i .dead=σ.getD i .dead:=by
  grind
 have J:(σ.set id (t y)).getD id .dead=t y:=by simp[Z]
 have O:Rel D w noR (t y) (ρ id) (T y):=by
  have H:=h.tm y hy;rw[hv,Y]at H;rw[Y];exact H
 refine⟨h.df,h.sz,λx W=>?_,⟨λi hi=>?_,λi j b hij H u=>?_,λi b e=>?_,h.wr.Dlt,λi b hi e=>?_⟩,λx W=>?_,λx b e=>h.tD x b e.2,λi x b e hT=>?_,λx z b hxz H u=>h.tT x z b hxz H.2 u.2,λx b e=>h.tn x b e.2,h.fr,λi b e=>?_,h.D1,h.D2,h.rt,by simpa using h.ml,λx b W e=>h.tx x b W e.2⟩
 .have:¬x=y:=by omega
  simp only[AD,this,if_false];exact h.dd x W
 .have hi:i<σ.length:=by simpa using hi
  by_cases U:i=id
  .subst U
   rw[J];exact Rel.fp_congr (λb=>by rw[if_pos rfl]) O
  .rw[get U]
   exact Rel.fp_congr (λb=>by rw[if_neg U]) (h.wr.rel i hi)
 .split at H<;>split at u
  .omega
  .exact h.tF j y b u H
  .exact h.tF i y b H u
  .exact h.wr.disj i j b hij H u
 .split at e
  .exact h.tD y b e
  .exact h.wr.dD i b e
 .have hi:σ.length<=i:=by simpa using hi
  rw[if_neg (by omega)]at e
  exact h.wr.out i b hi e
 .by_cases U:x=y
  .subst U
   simp only[AD,if_true];rw[hv];have u:=Uq (σ:=σ.set id (t x)) (ρ:=ρ) (id:=id) (s:=s) (sz:=sz) (n:=n) (f:=f) (by simpa using Z) (by rw[J,Y]) hsz (by rw[<-Y];exact O)
   rw[<-Y]at u;exact Rel.fp_congr (λb=>⟨λh=>h.elim,λh=>(h.1 rfl).elim⟩) u
  .simp only[AD,U,if_false]
   exact Rel.fp_congr (λb=>⟨λh=>⟨U,h⟩,λh=>h.2⟩) (Rel.mono (λ_ h=>h) (Ai.setD hd) _ _ _ (λ_ _=>rfl) (h.tm x W))
 .split at e
  .exact h.tT x y b hT.1 hT.2 e
  .exact h.tF i x b e hT.2
 .split at e
  .exact h.tn y b e
  .exact h.Fn i b e
end Go.Ve

