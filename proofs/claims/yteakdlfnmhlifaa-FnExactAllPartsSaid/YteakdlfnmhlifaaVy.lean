/- Appending to an owned slice: the run, and the tree behind it. -/
import Derived.Test.YteakdlfnmhlifaaVr
import Derived.Laws.AppendOwn
open Nat(add_assoc zero_add le_refl add_mul le_trans)
set_option linter.all false
namespace Go.Ve
variable{i k n sz:Nat}{P:Program}{T:TypeId}{w:World}
def cellRow{b off:Nat}{cs:Array Value}{fr:Nat×Nat}(h:w.heap[b]? =some (.cells cs T fr)):w.cell? ⟨b,off,none⟩=cs[off]?:=cell_of_row w b off cs T fr h
def BW.cellRow{w:World}{b off:Nat}{cs:Array Value}{T:TypeId}(h:BW w b cs T):w.cell? ⟨b,off,none⟩=cs[off]?:=by
 obtain⟨fz,h,_⟩:=h;exact Go.Ve.cellRow h
theorem BW.row{g:Nat}{e new:Array Value}(h:BW w g e T)(A:new.size=e.size):BW (w.setRow g new) g new T:=by
 obtain⟨fz,u,B⟩:=h;exact⟨fz,setRow_heap w g e new T fz u,by grind⟩
def MM{P:Program}(g o:Nat)(T:TypeId):∀(E:List Value) (i:Nat) (u:Array Value) (w:World),BW w g u T->o+i+E.length<=u.size->(∀v∈E,v.oneCell'=true)->
  (storeCells ⟨g,o,none⟩ E i).run P w=.ok () (w.setRow g (u.toList.take (o+i)++E++u.toList.drop (o+i+E.length)).toArray):=by
 intro E
 induction E with
 |nil=>
  intro i u w A _ _;obtain⟨fz,A,_⟩:=A;have e:(u.toList.take (o+i)++[]++u.toList.drop (o+i+([]:List Value).length)).toArray=u:=by simp
  rw[e,setRow_self w g u T fz A];rfl
 |cons v rest Z=>
  intro i u w A W Y;have hi:o+i<u.size:=by simp only[List.length_cons]at W;omega
  have B:w.cell? ⟨g,o+i,none⟩=some u[o+i]:=by
   obtain⟨fz,A,_⟩:=A;rw[cellRow A];simp[hi]
  have J:=A.frozen B;have H:=Z (i+1) (u.setIfInBounds (o+i) v) (w.setRow g (u.setIfInBounds (o+i) v)) (A.row (by simp)) (by simp only[List.length_cons]at W;simp only[Array.size_setIfInBounds];omega) (λx hx=>Y x (mCM _ hx))
  obtain⟨fz,A,_⟩:=A;have O:(⟨g,o,none⟩:Addr).add i=⟨g,o+i,none⟩:=A3 rfl _
  have U:(store ((⟨g,o,none⟩:Addr).add i) v).run P w=.ok () (w.setRow g (u.setIfInBounds (o+i) v)):=by
   rw[O,run_store P w _ v _ (Y v (List.mem_cons_self ..)),B];simp[J,setCell_eq_setRow w g (o+i) u T fz v A]
  simp only[storeCells,Sem.run_bind,U,Result.andThen_ok,H,setRow_setRow];have e:=list_seg_step u.toList (o+i) v rest (by simp only[List.length_cons]at W;simp only[Array.length_toList];omega)
  congr 3
  simpa [Array.toList_setIfInBounds,add_assoc]using e
def HT(w:World)(t ty e:TypeId)(i:TypeInfo)(Z:P.underlying t=some (.slice e))(hi:P.info? e=some i)
  (g o A E:Nat) (H:Array Value) (T:TypeId) (hg:BW w g H T)
  (a:Addr) (m c:Nat) (B:List Value) (hl:B.length=m*i.size) (O:∀j u,B[j]? =some u->w.cell? (a.add j)=some u) (h1:∀u∈B,u.oneCell'=true)
  (J:A+m<=E) (U:o+A*i.size+B.length<=H.size):
  (Builtin.append_ #[t,t] ty #[.slice (some ⟨g,o,none⟩) A E,.slice (some a) m c]).run P w=
   .ok (.slice (some ⟨g,o,none⟩) (A+m) E) (w.setRow g (H.toList.take (o+A*i.size)++B++H.toList.drop (o+A*i.size+B.length)).toArray):=by
 have hf:=run_firstCells_some (P:=P) w i.size m a m c B hl O;have Y:=MM (P:=P) g (o+A*i.size) T B 0 H w hg (by simpa using U) h1
 have W:(⟨g,o,none⟩:Addr).add (A*i.size)=⟨g,o+A*i.size,none⟩:=A3 rfl _;simp[Builtin.append_,run_underlying Z,sizeOf,typeInfo,hi,Builtin.lenOf,J,hf,W,Y]
def DQ(w:World)(t ty e:TypeId)(i:TypeInfo)(u:P.underlying t=some (.slice e))(hi:P.info? e=some i)
  (base:Option Addr) (n cap:Nat) (ad:Option Addr) (c:Nat) (h:n<=cap):
  (Builtin.append_ #[t,t] ty #[.slice base n cap,.slice ad 0 c]).run P w=.ok (.slice base n cap) w:=by
 have A:(Builtin.firstCells i.size 0 (.slice ad 0 c)).run P w=.ok #[] w:=by
  cases ad with
  |none=>rfl
  |some a=>simpa using run_firstCells_some (P:=P) w i.size 0 a 0 c [] (by simp) (by simp)
 cases base with
 |none=>simp[Builtin.append_,run_underlying u,sizeOf,typeInfo,hi,Builtin.lenOf,h,A]
 |some a=>simp[Builtin.append_,run_underlying u,sizeOf,typeInfo,hi,Builtin.lenOf,h,A,storeCells]
def WB(D:Nat->Prop)(w:World)(sz m:Nat)(g:Nat->Nat->V)(cv:Value)(Fy:Nat->Nat->Nat->Prop):Prop:=
 ∃(ad:Option Addr) (c:Nat),cv=.slice ad m c/\(0<m->∃b o,ad=some ⟨b,o,none⟩/\
  ∀i k,i<m->k<sz->∃x,w.cell? ⟨b,o+i*sz+k,none⟩=some x/\x.oneCell'=true/\Rel D w noR (g i k) x (Fy i k))
theorem AbJ{j:Nat}(h:j<n*sz):0<sz/\j/sz<n/\j % sz<sz/\(j/sz)*sz+j % sz=j:=by
 have e:0<sz:=by
  grind
 exact⟨e,by rw[Nat.div_lt_iff_lt_mul e];omega,Nat.mod_lt _ e,by rw[Nat.mul_comm];exact Nat.div_add_mod j sz⟩
theorem UW(hi:i<n)(e:k<sz):i*sz+k<n*sz:=by
 calc i*sz+k<i*sz+sz:=by omega
  _=(i+1)*sz:=by grind
  _<=n*sz:=Nat.mul_le_mul_right _ hi
def Ku(e:k<sz):(i*sz+k)/sz=i:=by
 rw[Nat.add_comm,Nat.add_mul_div_right _ _ (by omega),Nat.div_eq_of_lt e,zero_add]
def Ks(e:k<sz):(i*sz+k) % sz=k:=by
 rw[Nat.add_comm,Nat.add_mul_mod_self_right,Nat.mod_eq_of_lt e]
def WA(n:Nat)(f g:Nat->Nat->V):Nat->Nat->V:=λi k=>if i<n then f i k else g (i-n) k
theorem Rel.append{D:Nat->Prop}{w:World}{t ty e:TypeId}{bytes n m:Nat}{zero:List Value}(ht:slI P t=some ⟨e,sz,bytes,zero⟩)(hsz:0<sz){f g:Nat->Nat->V}{v x:Value}{O:Nat->Prop}{Fy:Nat->Nat->Nat->Prop}
  (hx:Rel D w noR (.nd true true sz n f) v O) (hDx:∀b,D b->¬O b) (Dlt:∀b,D b->b<w.heap.size) (hy:WB D w sz m g x Fy) (hyD:∀i k c,i<m->k<sz->Fy i k c->¬D c/\¬O c)
  (hyd:∀i k i' k' c,i<m->k<sz->i'<m->k'<sz->(i≠i'\/k≠k')->Fy i k c->¬Fy i' k' c)
  (h63:n+m<=maxLen) (hb:(n+m)*bytes<=140737488355328):
  ∃v' w' fp,(Builtin.append_ #[t,t] ty #[v,x]).run P w=.ok v' w'/\w'.os=w.os/\w'.tape=w.tape/\w'.output=w.output/\w.drawn<=w'.drawn/\w.heap.size<=w'.heap.size/\(∀c,c<w.heap.size->¬O c->w'.heap[c]? =w.heap[c]?)/\
   Rel D w' noR (.nd true true sz (n+m) (WA n f g)) v' fp/\∀c,fp c->O c\/(∃i k,i<m/\k<sz/\Fy i k c)\/w.heap.size<=c:=by
 obtain⟨hu,i,z,hi,hz,his,hby,_,hzs,_⟩:=Hj ht;simp only at hu hi his hby hzs;obtain⟨ad,c,rfl,hyc⟩:=hy;have hfpx:∀c,O c->c<w.heap.size:=Rel.lt _ _ _ hx;rcases Nat.eq_zero_or_pos m with rfl|hm
 .-- nothing is appended
  have hrel:Rel D w noR (.nd true true sz (n+0) (WA n f g)) v O:=by
   have he:Eqv (.nd true true sz n f) (.nd true true sz (n+0) (WA n f g)):=⟨_,rfl,λi k hi H=>by
    show Eqv _ (WA n f g i k);unfold WA;rw[if_pos hi];exact Eqv.refl _⟩
   exact Rel.eqv _ _ _ _ he hx
  have U:(Builtin.append_ #[t,t] ty #[v,.slice ad 0 c]).run P w=.ok v w:=by
   rcases hx with⟨rfl,_,hn0,_⟩|⟨b,o,cap,F,hcv,hcap,_⟩
   .rw[DZ hn0]
    exact DQ w t ty e i hu hi none 0 0 ad c (le_refl _)
   .rw[hcv]
    exact DQ w t ty e i hu hi _ n cap ad c hcap
  exact⟨v,w,O,U,rfl,rfl,rfl,le_refl _,le_refl _,λ_ _ _=>rfl,hrel,λc J=>.inl J⟩
 obtain⟨b2,o2,rfl,hyr⟩:=hyc hm
 obtain⟨A,hnl,hnews⟩:=BR (n:=m*sz) (p:=λj u=>w.cell? ⟨b2,o2+j,none⟩=some u/\u.oneCell'=true/\Rel D w noR (g (j/sz) (j % sz)) u (Fy (j/sz) (j % sz))) (by
  intro j hj;obtain⟨_,h1,h2,h3⟩:=AbJ hj;obtain⟨u,hu1,hu2,hu3⟩:=hyr _ _ h1 h2;exact⟨u,by rw[<-h3,<-add_assoc];exact hu1,hu2,hu3⟩)
 have hnc:∀j u,A[j]? =some u->w.cell? ((⟨b2,o2,none⟩:Addr).add j)=some u:=by
  intro j u hj;rw[A3 rfl];exact(hnews j u hj).1
 have hn1:∀u∈A,u.oneCell'=true:=by
  intro u hu;obtain⟨j,hj⟩:=List.mem_iff_getElem?.1 hu;exact(hnews j u hj).2.1
 have hnl':A.length=m*i.size:=by rw[hnl,his]
 have hfit:∀old,old<n+m->Builtin.nextslicecap (n+m) old*i.bytes<=281474976710656:=λold ho=>growslice_fits ho (by rw[hby];exact hb)
 have h63':((n+m:Nat):Int)<=9223372036854775807:=by simp only[maxLen]at h63;omega
 -- behind it: a block that holds all
 have fin:∀(B:List Value) (F:Nat->Nat->Nat->Prop) (w':World) (b' o' cap':Nat) (cs':Array Value) (T':TypeId),B.length=n*sz->
   (∀j u,B[j]? =some u->Rel D w noR (f (j/sz) (j % sz)) u (F (j/sz) (j % sz)))->
   (∀i k c,i<n->k<sz->F i k c->O c/\c≠b')->(∀i k i' k' c,i<n->k<sz->i'<n->k'<sz->(i≠i'\/k≠k')->F i k c->¬F i' k' c)->
   (b'=w.heap.size\/O b')->(∀c,c<w.heap.size->c≠b'->w'.heap[c]? =w.heap[c]?)->BW w' b' cs' T'->o'+cap'*sz<=cs'.size->n+m<=cap'->
   (∀j u,(B++A)[j]? =some u->cs'[o'+j]? =some u)->
   ∃fp,Rel D w' noR (.nd true true sz (n+m) (WA n f g)) (.slice (some ⟨b',o',none⟩) (n+m) cap') fp/\∀c,fp c->O c\/(∃i k,i<m/\k<sz/\Fy i k c)\/w.heap.size<=c:=by
  intro B F w' b' o' cap' cs' T' hol Z Y hFd hb' hsame W hsz' hcap' hcells
  let F':Nat->Nat->Nat->Prop:=λi k=>if i<n then F i k else Fy (i-n) k
  have hF1:∀i k,i<n->F' i k=F i k:=λi k hi=>by simp only[F',hi,if_true]
  have hF2:∀i k,¬i<n->F' i k=Fy (i-n) k:=λi k hi=>by simp only[F',hi,if_false]
  have hDb:∀c,D c->c≠b':=by
   rintro c J rfl
   rcases hb' with h|h
   .exact absurd (Dlt c J) (by omega)
   .exact hDx c J h
  refine⟨λc=>c=b'\/∃i k,i<n+m/\k<sz/\F' i k c,.inr ⟨b',o',cap',F',rfl,hcap',h63,(λh=>by cases h),?_,(λh=>by cases h),λ_=>⟨⟨cs',T',W,hsz'⟩,?_,?_,λ_=>Iff.rfl⟩⟩,?_⟩
  .intro i k hi H
   by_cases E:i<n
   .have hlt:i*sz+k<B.length:=by rw[hol];exact UW E H
    have hu:B[i*sz+k]? =some B[i*sz+k]:=gEE hlt;have hr:=Z _ _ hu;rw[Ku H,Ks H]at hr;refine⟨B[i*sz+k],?_,?_⟩
    .rw[W.cellRow,add_assoc]
     exact hcells _ _ (by rw[gAL hlt];exact hu)
    .show Rel D w' noR (WA n f g i k) _ (F' i k)
     unfold WA;rw[if_pos E,hF1 i k E];refine Rel.mono (λ_ h=>h) (λ_ _ h=>h) _ _ _ (λc J=>?_) hr
     rcases J with J|J
     .exact hsame c (Dlt c J) (hDb c J)
     .exact hsame c (hfpx c (Y i k c E H J).1) (Y i k c E H J).2
   .have him:i-n<m:=by omega
    have hlt:(i-n)*sz+k<A.length:=by rw[hnl];exact UW him H
    have hu:A[(i-n)*sz+k]? =some A[(i-n)*sz+k]:=gEE hlt;have hr:=(hnews _ _ hu).2.2;rw[Ku H,Ks H]at hr
    have hii:i*sz+k=B.length+((i-n)*sz+k):=by
     rw[hol,<-add_assoc,<-add_mul];congr 2;omega
    refine⟨A[(i-n)*sz+k],?_,?_⟩
    .rw[W.cellRow,add_assoc]
     refine hcells _ _ ?_;rw[hii,gAR (by omega),Nat.add_sub_cancel_left]
     exact hu
    .show Rel D w' noR (WA n f g i k) _ (F' i k)
     unfold WA;rw[if_neg E,hF2 i k E];refine Rel.mono (λ_ h=>h) (λ_ _ h=>h) _ _ _ (λc J=>?_) hr
     rcases J with J|J
     .exact hsame c (Dlt c J) (hDb c J)
     .have hclt:c<w.heap.size:=Rel.lt _ _ _ hr c J
      refine hsame c hclt ?_
      rintro rfl
      rcases hb' with h|h
      .omega
      .exact(hyD _ _ c him H J).2 h
  .intro i k hi H hF
   by_cases E:i<n
   .rw[hF1 i k E]at hF;exact(Y i k _ E H hF).2 rfl
   .rw[hF2 i k E]at hF
    rcases hb' with h|h
    .have him:i-n<m:=by omega
     have hlt:(i-n)*sz+k<A.length:=by rw[hnl];exact UW him H
     have hr:=(hnews _ _ (gEE hlt)).2.2;rw[Ku H,Ks H]at hr;have:=Rel.lt _ _ _ hr b' hF;omega
    .exact(hyD _ _ _ (by omega) H hF).2 h
  .intro i k i' k' c hi H hi' hk' hne hF hF'
   by_cases E:i<n<;>by_cases hin':i'<n
   .rw[hF1 i k E]at hF;rw[hF1 i' k' hin']at hF'
    exact hFd i k i' k' c E H hin' hk' hne hF hF'
   .rw[hF1 i k E]at hF;rw[hF2 i' k' hin']at hF'
    exact(hyD _ _ c (by omega) hk' hF').2 (Y i k c E H hF).1
   .rw[hF2 i k E]at hF;rw[hF1 i' k' hin']at hF'
    exact(hyD _ _ c (by omega) H hF).2 (Y i' k' c hin' hk' hF').1
   .rw[hF2 i k E]at hF;rw[hF2 i' k' hin']at hF'
    exact hyd _ _ _ _ c (by omega) H (by omega) hk' (by omega) hF hF'
  .rintro c (rfl|⟨i,k,hi,H,hF⟩)
   .rcases hb' with h|h
    .exact .inr (.inr (by omega))
    .exact .inl h
   .by_cases E:i<n
    .rw[hF1 i k E]at hF;exact .inl (Y i k c E H hF).1
    .rw[hF2 i k E]at hF;exact .inr (.inl ⟨i-n,k,by omega,H,hF⟩)
 have hzc:∀k,(Builtin.zeroCells z.cells k).size=k*sz:=λk=>by rw[size_zeroCells,hzs]
 rcases hx with⟨rfl,_,hn0,hfp⟩|⟨b,o,cap,F,hcv,hcap,hmax,hs1,J,himm,ho⟩
 .-- out of nil
  rw[DZ hn0];simp only[zero_add]at hb h63 h63' fin hfit⊢;have U:=run_append_nil (P:=P) w t ty e i z hu hi hz ⟨b2,o2,none⟩ m c A hnl' hnc hm h63' (by rw[hby];omega)
  have hge:=grownCap_ge w m 0 e
  obtain⟨fp,h1,h2⟩:=fin [] (λ_ _=>noF) (w.drew.alloc (.cells (A.toArray++Builtin.zeroCells z.cells (grownCap w m 0 e-m)) e)) w.heap.size 0 (grownCap w m 0 e) _ _ (by simp) (by simp) (λi k c hi=>by omega) (λi k _ _ c hi=>by omega) (.inl rfl)
   (λc J _=>heap_alloc_old w.drew _ J) (.plain (heap_alloc_new w.drew _)) (by
    simp only[Array.size_append,List.size_toArray,hzc,hnl,<-add_mul,zero_add];exact Nat.mul_le_mul_right _ (by omega)) hge (by
    intro j u hj;simp only[List.nil_append]at hj;have:=(List.getElem?_eq_some_iff.1 hj).1;rw[zero_add,Array.getElem?_append_left (by simpa using this)]
    simpa using hj)
  exact⟨_,_,fp,U,rfl,rfl,rfl,Nat.le_succ _,by simp,λc J _=>heap_alloc_old w.drew _ J,h1,h2⟩
 .obtain⟨⟨cs,T,W,hsize⟩,hbF,hFd,hfp⟩:=ho rfl
  obtain⟨B,hol,Z⟩:=BR (n:=n*sz) (p:=λj u=>w.cell? ⟨b,o+j,none⟩=some u/\Rel D w noR (f (j/sz) (j % sz)) u (F (j/sz) (j % sz))) (by
   intro j hj;obtain⟨_,h1,h2,h3⟩:=AbJ hj;obtain⟨u,hu1,hu2⟩:=J _ _ h1 h2;exact⟨u,by rw[<-h3,<-add_assoc];exact hu1,hu2⟩)
  have Y:∀i k c,i<n->k<sz->F i k c->O c:=λi k c hi H h=>(hfp c).2 (.inr ⟨i,k,hi,H,h⟩)
  have hbx:O b:=(hfp b).2 (.inl rfl);have hblt:b<w.heap.size:=hfpx b hbx;have hold':∀j u,B[j]? =some u->cs[o+j]? =some u:=λj u hj=>by
   have:=(Z j u hj).1;obtain⟨fz,hblk',_⟩:=W;rwa [cellRow hblk']at this
  subst hcv;have hcvv:Ay true b o n cap=.slice (some ⟨b,o,none⟩) n cap:=rfl;rw[hcvv];by_cases hroom:n+m<=cap
  .have hcs2:o+n*sz+A.length<=cs.size:=by
    rw[hnl,add_assoc,<-add_mul];exact le_trans (Nat.add_le_add_left (Nat.mul_le_mul_right _ hroom) _) hsize
   have U:=HT (P:=P) w t ty e i hu hi b o n cap cs T W ⟨b2,o2,none⟩ m c A hnl' hnc hn1 hroom (by rw[his];exact hcs2)
   rw[his]at U;have hlen:(cs.toList.take (o+n*sz)++A++cs.toList.drop (o+n*sz+A.length)).toArray.size=cs.size:=by simp;omega
   obtain⟨fp,h1,h2⟩:=fin B F (w.setRow b (cs.toList.take (o+n*sz)++A++cs.toList.drop (o+n*sz+A.length)).toArray) b o cap _ T hol (λj u hj=>(Z j u hj).2) (λi k c hi H h=>⟨Y i k c hi H h,λe=>hbF i k hi H (e▸h)⟩) hFd (.inr hbx)
    (λc _ hne=>setRow_other w b c _ (λe=>hne (by omega))) (W.row hlen) (by rw[hlen];exact hsize) hroom (by
     intro j u hj;by_cases hj1:j<B.length
     .rw[gAL hj1]at hj
      have h:=hold' j u hj;rw[hol]at hj1;have hjc:=(Array.getElem?_eq_some_iff.1 h).1;rw[List.getElem?_toArray,List.append_assoc,gAL (by simp;omega),List.getElem?_take,if_pos (by omega)]
      simpa using h
     .rw[gAR (by omega)]at hj
      have hj2:=(List.getElem?_eq_some_iff.1 hj).1;rw[hol]at hj hj1 hj2;rw[List.getElem?_toArray,List.append_assoc,gAR (by simp;omega),gAL (by simp;omega)]
      rw[<-hj]
      congr 1
      simp;omega)
   exact⟨_,_,fp,U,rfl,rfl,rfl,le_refl _,by simp,λc J hn=>setRow_other w b c _ (λe=>hn (by subst e;exact hbx)),h1,h2⟩
  .have holc:∀j u,B[j]? =some u->w.cell? ((⟨b,o,none⟩:Addr).add j)=some u:=λj u hj=>by rw[A3 rfl];exact(Z j u hj).1
   have U:=run_append_grow (P:=P) w t ty e i z hu hi hz ⟨b,o,none⟩ n cap B (by rw[his];exact hol) holc ⟨b2,o2,none⟩ m c A hnl' hnc (by omega) h63' (hfit cap (by omega))
   have hge:=grownCap_ge w (n+m) cap e
   obtain⟨fp,h1,h2⟩:=fin B F (w.drew.alloc (.cells (B.toArray++A.toArray++Builtin.zeroCells z.cells (grownCap w (n+m) cap e-(n+m))) e)) w.heap.size 0 (grownCap w (n+m) cap e) _ _ hol (λj u hj=>(Z j u hj).2) (λi k c hi H h=>⟨Y i k c hi H h,λe=>by have:=hfpx c (Y i k c hi H h);omega⟩) hFd (.inl rfl)
    (λc J _=>heap_alloc_old w.drew _ J) (.plain (heap_alloc_new w.drew _)) (by
     simp only[Array.size_append,List.size_toArray,hzc,hnl,hol,<-add_mul,zero_add];exact Nat.mul_le_mul_right _ (by omega)) hge (by
     intro j u hj;have:=(List.getElem?_eq_some_iff.1 hj).1;rw[zero_add,Array.getElem?_append_left (by simpa using this)]
     simpa using hj)
   exact⟨_,_,fp,U,rfl,rfl,rfl,Nat.le_succ _,by simp,λc J _=>heap_alloc_old w.drew _ J,h1,h2⟩
end Go.Ve


namespace Go.Ve
variable{σ:List V}{F:Nat->Nat->Prop}{D:Nat->Prop}{ρ:Nat->Value}{w:World}
def CR.own{C:Ctx}{ts:List V}{cts:Array Value}{w':World}{D':Nat->Prop}(h:CR C σ ts cts w D ρ F){G:Nat->Prop}(O:∀i b,F i b->¬G b)(hGD:∀b,D b->¬G b)
  (J:∀b,G b->C.W b\/C.w0.heap.size<=b) (hos:w'.os=w.os) (htp:w'.tape=w.tape) (Y:w'.output=w.output) (hdr:w.drawn<=w'.drawn) (hsz:w.heap.size<=w'.heap.size) (H:∀c,c<w.heap.size->¬G c->w'.heap[c]? =w.heap[c]?)
  {r:V}{v':Value}{fp:Nat->Prop} (hr:Rel D' w' noR r v' fp) (Z:∀b,fp b->G b\/w.heap.size<=b)
  (E:∀b,D b->D' b) (hd2:∀b,D' b->D b\/G b\/w.heap.size<=b) (hd3:∀b,D' b->b<w'.heap.size/\¬fp b) (d:Nat):
  WK C (σ++(prom r σ.length).2) (ts.set d (prom r σ.length).1) (cts.setIfInBounds d v') w':=by
 have A:∀i b,F i b->b<w.heap.size:=h.wr.lt;have hFs:∀i b,F i b->w'.heap[b]? =w.heap[b]?:=λi b e=>H b (A i b e) (O i b e)
 have hDs:∀b,D b->w'.heap[b]? =w.heap[b]?:=λb e=>H b (h.wr.Dlt b e) (hGD b e)
 have wr':Bg σ w' D' ρ F:=by
  refine⟨λi hi=>Rel.mono E (λ_ _ h=>h) _ _ _ (λb e=>e.elim (hDs b) (hFs i b)) (h.wr.rel i hi),h.wr.disj,λi b e hD=>?_,λb e=>(hd3 b e).1,h.wr.out⟩
  rcases hd2 b hD with u|u|u
  .exact h.wr.dD i b e u
  .exact O i b e u
  .have:=A i b e;omega
 obtain⟨ρ',F',ok,hr'⟩:=IC r σ ρ F v' fp wr' (Rel.noR_mono hr) (λb e hD=>(hd3 b hD).2 e) (λi b e hb'=>(Z b hb').elim (O i b e) λu=>by have:=A i b e;omega)
 have hfr:Fr C.w0 w' C.W:=by
  refine⟨hos.trans h.fr.os,htp.trans h.fr.tape,Y.trans h.fr.output,le_trans h.fr.size hsz,λb e hW=>?_,le_trans h.fr.drawn hdr⟩
  by_cases hG:G b
  .exact(J b hG).elim (λh=>absurd h hW) λh=>by omega
  .rw[H b (Nat.lt_of_lt_of_le e h.fr.size) hG];exact h.fr.block b e hW
 refine⟨D',ρ',F',ok.wr,by simp[h.sz],λt U=>?_,hfr,λi b e=>?_,λb e=>E b (h.D1 b e),λb e B=>?_,λi hi=>(ok.rt i (Nat.lt_of_lt_of_le hi h.ml)).trans (h.rt i hi),by have:=h.ml;simp;omega⟩
 .simp at U
  by_cases he:d=t
  .subst he
   have B:d<cts.size:=by rw[h.sz];exact U
   simpa [U,B]using hr'
  .have h1:=h.tm t U
   have B:t<cts.size:=by rw[h.sz];exact U
   simp only[gDE,List.getElem?_set_ne he,Array.getD_eq_getD_getElem?,Array.getElem?_setIfInBounds_ne he];rw[<-gDE,<-Array.getD_eq_getD_getElem?];refine Rel.mono E (λv cv hv=>Ai.ext ok.rt _ _ (Ai.same h.wr hFs v cv hv)) _ _ _ (λb e=>?_) h1
   exact e.elim (hDs b) λh=>h.elim
 .by_cases hi:i<σ.length
  .rw[ok.old i hi]at e;exact h.Fn i b e
  .rcases Z b (ok.new i b (by omega) e)with u|u
   .exact J b u
   .exact .inr (le_trans h.fr.size u)
 .rcases hd2 b e with u|u|u
  .exact h.D2 b u B
  .rcases J b u with h3|h3
   .exact .inr h3
   .omega
  .have:=h.fr.size;omega
theorem MO(wr:Bg σ w D ρ F){id sz n:Nat}{f:Nat->Nat->V}{cv:Value}(u:σ.getD id .dead=.nd true true sz n f)(W:Ai σ ρ w (.rs id [] 0 n) cv):
  cv=ρ id/\Rel D w noR (.nd true true sz n f) cv (F id):=by
 obtain⟨A,U,n',f',cn,Z,Y,B⟩:=W;obtain⟨O,h2⟩:=Z;rw[u]at O;cases O;subst h2;have E:=wr.rel id A;have e:cv=ρ id:=by
  rcases B with⟨b,o,cap,J,H⟩|⟨J,a,H,h5,_⟩
  .rw[H,J];simp[Ay]
  grind
 grind
end Go.Ve

