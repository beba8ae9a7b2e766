/- Appending to an owned slice: the run, and the tree behind it. -/
import Derived.Test.YteakdlfnmhlifaaVr
import Derived.Laws.AppendOwn
open Nat(add_assoc zero_add le_refl add_mul le_trans)
set_option linter.all false
namespace Go.Ve
variable{i k n sz:Nat}{P:Program}{T:TypeId}{w:World}
def cellRow{b off:Nat}{cs:Array Value}{fr:Nat×Nat}(h:w.heap[b]? =some (.cells cs T fr)):w.cell? ⟨b,off,none⟩=cs[off]?:=cell_of_row w b off cs T fr h
def BP.cellRow{w:World}{b off:Nat}{cs:Array Value}{T:TypeId}(h:BP w b cs T):w.cell? ⟨b,off,none⟩=cs[off]?:=by
 obtain⟨fz,h,_⟩:=h;exact Go.Ve.cellRow h
theorem BP.row{g:Nat}{A new:Array Value}(h:BP w g A T)(H:new.size=A.size):BP (w.setRow g new) g new T:=by
 obtain⟨fz,B,U⟩:=h;exact⟨fz,setRow_heap w g A new T fz B,by grind⟩
def MF{P:Program}(g o:Nat)(T:TypeId):∀(U:List Value) (i:Nat) (A:Array Value) (w:World),BP w g A T->o+i+U.length<=A.size->(∀v∈U,v.oneCell'=true)->
  (storeCells ⟨g,o,none⟩ U i).run P w=.ok () (w.setRow g (A.toList.take (o+i)++U++A.toList.drop (o+i+U.length)).toArray):=by
 intro U
 induction U with
 |nil=>
  intro i A w B _ _;obtain⟨fz,B,_⟩:=B;have e:(A.toList.take (o+i)++[]++A.toList.drop (o+i+([]:List Value).length)).toArray=A:=by simp
  rw[e,setRow_self w g A T fz B];rfl
 |cons v rest ih=>
  intro i A w B hl h1;have hi:o+i<A.size:=by simp only[List.length_cons]at hl;omega
  have H:w.cell? ⟨g,o+i,none⟩=some A[o+i]:=by
   obtain⟨fz,B,_⟩:=B;rw[cellRow B];simp[hi]
  have Y:=B.frozen H;have W:=ih (i+1) (A.setIfInBounds (o+i) v) (w.setRow g (A.setIfInBounds (o+i) v)) (B.row (by simp)) (by simp only[List.length_cons]at hl;simp only[Array.size_setIfInBounds];omega) (λx hx=>h1 x (mCM _ hx))
  obtain⟨fz,B,_⟩:=B;have Z:(⟨g,o,none⟩:Addr).add i=⟨g,o+i,none⟩:=AZ rfl _
  have hst:(store ((⟨g,o,none⟩:Addr).add i) v).run P w=.ok () (w.setRow g (A.setIfInBounds (o+i) v)):=by
   rw[Z,run_store P w _ v _ (h1 v (List.mem_cons_self ..)),H];simp[Y,setCell_eq_setRow w g (o+i) A T fz v B]
  simp only[storeCells,Sem.run_bind,hst,Result.andThen_ok,W,setRow_setRow];have e:=list_seg_step A.toList (o+i) v rest (by simp only[List.length_cons]at hl;simp only[Array.length_toList];omega)
  congr 3
  simpa [Array.toList_setIfInBounds,add_assoc]using e
def HF(w:World)(t ty e:TypeId)(i:TypeInfo)(ht:P.underlying t=some (.slice e))(hi:P.info? e=some i)
  (g o A H:Nat) (U:Array Value) (T:TypeId) (hg:BP w g U T)
  (a:Addr) (m c:Nat) (B:List Value) (hl:B.length=m*i.size) (Y:∀j u,B[j]? =some u->w.cell? (a.add j)=some u) (h1:∀u∈B,u.oneCell'=true)
  (W:A+m<=H) (Z:o+A*i.size+B.length<=U.size):
  (Builtin.append_ #[t,t] ty #[.slice (some ⟨g,o,none⟩) A H,.slice (some a) m c]).run P w=
   .ok (.slice (some ⟨g,o,none⟩) (A+m) H) (w.setRow g (U.toList.take (o+A*i.size)++B++U.toList.drop (o+A*i.size+B.length)).toArray):=by
 have hf:=run_firstCells_some (P:=P) w i.size m a m c B hl Y;have hst:=MF (P:=P) g (o+A*i.size) T B 0 U w hg (by simpa using Z) h1
 have hadd:(⟨g,o,none⟩:Addr).add (A*i.size)=⟨g,o+A*i.size,none⟩:=AZ rfl _;simp[Builtin.append_,run_underlying ht,sizeOf,typeInfo,hi,Builtin.lenOf,W,hf,hadd,hst]
def DH(w:World)(t ty e:TypeId)(i:TypeInfo)(A:P.underlying t=some (.slice e))(hi:P.info? e=some i)
  (base:Option Addr) (n cap:Nat) (ad:Option Addr) (c:Nat) (h:n<=cap):
  (Builtin.append_ #[t,t] ty #[.slice base n cap,.slice ad 0 c]).run P w=.ok (.slice base n cap) w:=by
 have B:(Builtin.firstCells i.size 0 (.slice ad 0 c)).run P w=.ok #[] w:=by
  cases ad with
  |none=>rfl
  |some a=>simpa using run_firstCells_some (P:=P) w i.size 0 a 0 c [] (by simp) (by simp)
 cases base with
 |none=>simp[Builtin.append_,run_underlying A,sizeOf,typeInfo,hi,Builtin.lenOf,h,B]
 |some a=>simp[Builtin.append_,run_underlying A,sizeOf,typeInfo,hi,Builtin.lenOf,h,B,storeCells]
def Wa(D:Nat->Prop)(w:World)(sz m:Nat)(g:Nat->Nat->V)(cv:Value)(Fy:Nat->Nat->Nat->Prop):Prop:=
 ∃(ad:Option Addr) (c:Nat),cv=.slice ad m c/\(0<m->∃b o,ad=some ⟨b,o,none⟩/\
  ∀i k,i<m->k<sz->∃x,w.cell? ⟨b,o+i*sz+k,none⟩=some x/\x.oneCell'=true/\Rel D w noR (g i k) x (Fy i k))
theorem Abe{j:Nat}(h:j<n*sz):0<sz/\j/sz<n/\j % sz<sz/\(j/sz)*sz+j % sz=j:=by
 have A:0<sz:=by
  grind
 exact⟨A,by rw[Nat.div_lt_iff_lt_mul A];omega,Nat.mod_lt _ A,by rw[Nat.mul_comm];exact Nat.div_add_mod j sz⟩
theorem Uu(hi:i<n)(A:k<sz):i*sz+k<n*sz:=by
 calc i*sz+k<i*sz+sz:=by omega
  _=(i+1)*sz:=by grind
  _<=n*sz:=Nat.mul_le_mul_right _ hi
def Kj(A:k<sz):(i*sz+k)/sz=i:=by
 rw[Nat.add_comm,Nat.add_mul_div_right _ _ (by omega),Nat.div_eq_of_lt A,zero_add]
def Ki(A:k<sz):(i*sz+k) % sz=k:=by
 rw[Nat.add_comm,Nat.add_mul_mod_self_right,Nat.mod_eq_of_lt A]
def V8(n:Nat)(f g:Nat->Nat->V):Nat->Nat->V:=λi k=>if i<n then f i k else g (i-n) k
theorem Rel.append{D:Nat->Prop}{w:World}{t ty e:TypeId}{bytes n m:Nat}{zero:List Value}(ht:slI P t=some ⟨e,sz,bytes,zero⟩)(hsz:0<sz){f g:Nat->Nat->V}{v x:Value}{Y:Nat->Prop}{Fy:Nat->Nat->Nat->Prop}
  (hx:Rel D w noR (.nd true true sz n f) v Y) (hDx:∀b,D b->¬Y b) (Dlt:∀b,D b->b<w.heap.size) (hy:Wa D w sz m g x Fy) (hyD:∀i k c,i<m->k<sz->Fy i k c->¬D c/\¬Y c)
  (hyd:∀i k i' k' c,i<m->k<sz->i'<m->k'<sz->(i≠i'\/k≠k')->Fy i k c->¬Fy i' k' c)
  (h63:n+m<=maxLen) (hb:(n+m)*bytes<=140737488355328):
  ∃v' w' fp,(Builtin.append_ #[t,t] ty #[v,x]).run P w=.ok v' w'/\w'.os=w.os/\w'.tape=w.tape/\w'.output=w.output/\w.drawn<=w'.drawn/\w.heap.size<=w'.heap.size/\(∀c,c<w.heap.size->¬Y c->w'.heap[c]? =w.heap[c]?)/\
   Rel D w' noR (.nd true true sz (n+m) (V8 n f g)) v' fp/\∀c,fp c->Y c\/(∃i k,i<m/\k<sz/\Fy i k c)\/w.heap.size<=c:=by
 obtain⟨hu,i,z,hi,hz,his,hby,_,hzs,_⟩:=D6 ht;simp only at hu hi his hby hzs;obtain⟨ad,c,rfl,hyc⟩:=hy;have hfpx:∀c,Y c->c<w.heap.size:=Rel.lt _ _ _ hx;rcases Nat.eq_zero_or_pos m with rfl|hm
 .-- nothing is appended
  have hrel:Rel D w noR (.nd true true sz (n+0) (V8 n f g)) v Y:=by
   have he:Eqv (.nd true true sz n f) (.nd true true sz (n+0) (V8 n f g)):=⟨_,rfl,λi k hi U=>by
    show Eqv _ (V8 n f g i k);unfold V8;rw[if_pos hi];exact Eqv.refl _⟩
   exact Rel.eqv _ _ _ _ he hx
  have Z:(Builtin.append_ #[t,t] ty #[v,.slice ad 0 c]).run P w=.ok v w:=by
   rcases hx with⟨rfl,_,hn0,_⟩|⟨b,o,cap,F,hcv,hcap,_⟩
   .rw[DQ hn0]
    exact DH w t ty e i hu hi none 0 0 ad c (le_refl _)
   .rw[hcv]
    exact DH w t ty e i hu hi _ n cap ad c hcap
  exact⟨v,w,Y,Z,rfl,rfl,rfl,le_refl _,le_refl _,λ_ _ _=>rfl,hrel,λc W=>.inl W⟩
 obtain⟨b2,o2,rfl,hyr⟩:=hyc hm
 obtain⟨A,hnl,hnews⟩:=BJ (n:=m*sz) (p:=λj u=>w.cell? ⟨b2,o2+j,none⟩=some u/\u.oneCell'=true/\Rel D w noR (g (j/sz) (j % sz)) u (Fy (j/sz) (j % sz))) (by
  intro j hj;obtain⟨_,h1,h2,h3⟩:=Abe hj;obtain⟨u,hu1,hu2,hu3⟩:=hyr _ _ h1 h2;exact⟨u,by rw[<-h3,<-add_assoc];exact hu1,hu2,hu3⟩)
 have hnc:∀j u,A[j]? =some u->w.cell? ((⟨b2,o2,none⟩:Addr).add j)=some u:=by
  intro j u hj;rw[AZ rfl];exact(hnews j u hj).1
 have hn1:∀u∈A,u.oneCell'=true:=by
  intro u hu;obtain⟨j,hj⟩:=List.mem_iff_getElem?.1 hu;exact(hnews j u hj).2.1
 have hnl':A.length=m*i.size:=by rw[hnl,his]
 have hfit:∀old,old<n+m->Builtin.nextslicecap (n+m) old*i.bytes<=281474976710656:=λold ho=>growslice_fits ho (by rw[hby];exact hb)
 have h63':((n+m:Nat):Int)<=9223372036854775807:=by simp only[maxLen]at h63;omega
 -- behind it: a block that holds all
 have fin:∀(B:List Value) (F:Nat->Nat->Nat->Prop) (w':World) (b' o' cap':Nat) (cs':Array Value) (T':TypeId),B.length=n*sz->
   (∀j u,B[j]? =some u->Rel D w noR (f (j/sz) (j % sz)) u (F (j/sz) (j % sz)))->
   (∀i k c,i<n->k<sz->F i k c->Y c/\c≠b')->(∀i k i' k' c,i<n->k<sz->i'<n->k'<sz->(i≠i'\/k≠k')->F i k c->¬F i' k' c)->
   (b'=w.heap.size\/Y b')->(∀c,c<w.heap.size->c≠b'->w'.heap[c]? =w.heap[c]?)->BP w' b' cs' T'->o'+cap'*sz<=cs'.size->n+m<=cap'->
   (∀j u,(B++A)[j]? =some u->cs'[o'+j]? =some u)->
   ∃fp,Rel D w' noR (.nd true true sz (n+m) (V8 n f g)) (.slice (some ⟨b',o',none⟩) (n+m) cap') fp/\∀c,fp c->Y c\/(∃i k,i<m/\k<sz/\Fy i k c)\/w.heap.size<=c:=by
  intro B F w' b' o' cap' cs' T' hol hold hFf hFd hb' hsame hblk hsz' hcap' hcells
  let F':Nat->Nat->Nat->Prop:=λi k=>if i<n then F i k else Fy (i-n) k
  have hF1:∀i k,i<n->F' i k=F i k:=λi k hi=>by simp only[F',hi,if_true]
  have hF2:∀i k,¬i<n->F' i k=Fy (i-n) k:=λi k hi=>by simp only[F',hi,if_false]
  have hDb:∀c,D c->c≠b':=by
   rintro c W rfl
   rcases hb' with h|h
   .exact absurd (Dlt c W) (by omega)
   .exact hDx c W h
  refine⟨λc=>c=b'\/∃i k,i<n+m/\k<sz/\F' i k c,.inr ⟨b',o',cap',F',rfl,hcap',h63,(λh=>by cases h),?_,(λh=>by cases h),λ_=>⟨⟨cs',T',hblk,hsz'⟩,?_,?_,λ_=>Iff.rfl⟩⟩,?_⟩
  .intro i k hi U
   by_cases H:i<n
   .have hlt:i*sz+k<B.length:=by rw[hol];exact Uu H U
    have hu:B[i*sz+k]? =some B[i*sz+k]:=gEE hlt;have hr:=hold _ _ hu;rw[Kj U,Ki U]at hr;refine⟨B[i*sz+k],?_,?_⟩
    .rw[hblk.cellRow,add_assoc]
     exact hcells _ _ (by rw[gAL hlt];exact hu)
    .show Rel D w' noR (V8 n f g i k) _ (F' i k)
     unfold V8;rw[if_pos H,hF1 i k H];refine Rel.mono (λ_ h=>h) (λ_ _ h=>h) _ _ _ (λc W=>?_) hr
     rcases W with W|W
     .exact hsame c (Dlt c W) (hDb c W)
     .exact hsame c (hfpx c (hFf i k c H U W).1) (hFf i k c H U W).2
   .have him:i-n<m:=by omega
    have hlt:(i-n)*sz+k<A.length:=by rw[hnl];exact Uu him U
    have hu:A[(i-n)*sz+k]? =some A[(i-n)*sz+k]:=gEE hlt;have hr:=(hnews _ _ hu).2.2;rw[Kj U,Ki U]at hr
    have hii:i*sz+k=B.length+((i-n)*sz+k):=by
     rw[hol,<-add_assoc,<-add_mul];congr 2;omega
    refine⟨A[(i-n)*sz+k],?_,?_⟩
    .rw[hblk.cellRow,add_assoc]
     refine hcells _ _ ?_;rw[hii,gAR (by omega),Nat.add_sub_cancel_left]
     exact hu
    .show Rel D w' noR (V8 n f g i k) _ (F' i k)
     unfold V8;rw[if_neg H,hF2 i k H];refine Rel.mono (λ_ h=>h) (λ_ _ h=>h) _ _ _ (λc W=>?_) hr
     rcases W with W|W
     .exact hsame c (Dlt c W) (hDb c W)
     .have hclt:c<w.heap.size:=Rel.lt _ _ _ hr c W
      refine hsame c hclt ?_
      rintro rfl
      rcases hb' with h|h
      .omega
      .exact(hyD _ _ c him U W).2 h
  .intro i k hi U hF
   by_cases H:i<n
   .rw[hF1 i k H]at hF;exact(hFf i k _ H U hF).2 rfl
   .rw[hF2 i k H]at hF
    rcases hb' with h|h
    .have him:i-n<m:=by omega
     have hlt:(i-n)*sz+k<A.length:=by rw[hnl];exact Uu him U
     have hr:=(hnews _ _ (gEE hlt)).2.2;rw[Kj U,Ki U]at hr;have:=Rel.lt _ _ _ hr b' hF;omega
    .exact(hyD _ _ _ (by omega) U hF).2 h
  .intro i k i' k' c hi U hi' hk' hne hF hF'
   by_cases H:i<n<;>by_cases hin':i'<n
   .rw[hF1 i k H]at hF;rw[hF1 i' k' hin']at hF'
    exact hFd i k i' k' c H U hin' hk' hne hF hF'
   .rw[hF1 i k H]at hF;rw[hF2 i' k' hin']at hF'
    exact(hyD _ _ c (by omega) hk' hF').2 (hFf i k c H U hF).1
   .rw[hF2 i k H]at hF;rw[hF1 i' k' hin']at hF'
    exact(hyD _ _ c (by omega) U hF).2 (hFf i' k' c hin' hk' hF').1
   .rw[hF2 i k H]at hF;rw[hF2 i' k' hin']at hF'
    exact hyd _ _ _ _ c (by omega) U (by omega) hk' (by omega) hF hF'
  .rintro c (rfl|⟨i,k,hi,U,hF⟩)
   .rcases hb' with h|h
    .exact .inr (.inr (by omega))
    .exact .inl h
   .by_cases H:i<n
    .rw[hF1 i k H]at hF;exact .inl (hFf i k c H U hF).1
    .rw[hF2 i k H]at hF;exact .inr (.inl ⟨i-n,k,by omega,U,hF⟩)
 have hzc:∀k,(Builtin.zeroCells z.cells k).size=k*sz:=λk=>by rw[size_zeroCells,hzs]
 rcases hx with⟨rfl,_,hn0,hfp⟩|⟨b,o,cap,F,hcv,hcap,hmax,hs1,W,himm,ho⟩
 .-- out of nil
  rw[DQ hn0];simp only[zero_add]at hb h63 h63' fin hfit⊢;have Z:=run_append_nil (P:=P) w t ty e i z hu hi hz ⟨b2,o2,none⟩ m c A hnl' hnc hm h63' (by rw[hby];omega)
  have hge:=grownCap_ge w m 0 e
  obtain⟨fp,h1,h2⟩:=fin [] (λ_ _=>noF) (w.drew.alloc (.cells (A.toArray++Builtin.zeroCells z.cells (grownCap w m 0 e-m)) e)) w.heap.size 0 (grownCap w m 0 e) _ _ (by simp) (by simp) (λi k c hi=>by omega) (λi k _ _ c hi=>by omega) (.inl rfl)
   (λc W _=>heap_alloc_old w.drew _ W) (.plain (heap_alloc_new w.drew _)) (by
    simp only[Array.size_append,List.size_toArray,hzc,hnl,<-add_mul,zero_add];exact Nat.mul_le_mul_right _ (by omega)) hge (by
    intro j u hj;simp only[List.nil_append]at hj;have:=(List.getElem?_eq_some_iff.1 hj).1;rw[zero_add,Array.getElem?_append_left (by simpa using this)]
    simpa using hj)
  exact⟨_,_,fp,Z,rfl,rfl,rfl,Nat.le_succ _,by simp,λc W _=>heap_alloc_old w.drew _ W,h1,h2⟩
 .obtain⟨⟨cs,T,hblk,hsize⟩,hbF,hFd,hfp⟩:=ho rfl
  obtain⟨B,hol,hold⟩:=BJ (n:=n*sz) (p:=λj u=>w.cell? ⟨b,o+j,none⟩=some u/\Rel D w noR (f (j/sz) (j % sz)) u (F (j/sz) (j % sz))) (by
   intro j hj;obtain⟨_,h1,h2,h3⟩:=Abe hj;obtain⟨u,hu1,hu2⟩:=W _ _ h1 h2;exact⟨u,by rw[<-h3,<-add_assoc];exact hu1,hu2⟩)
  have hFf:∀i k c,i<n->k<sz->F i k c->Y c:=λi k c hi U h=>(hfp c).2 (.inr ⟨i,k,hi,U,h⟩)
  have hbx:Y b:=(hfp b).2 (.inl rfl);have hblt:b<w.heap.size:=hfpx b hbx;have hold':∀j u,B[j]? =some u->cs[o+j]? =some u:=λj u hj=>by
   have:=(hold j u hj).1;obtain⟨fz,hblk',_⟩:=hblk;rwa [cellRow hblk']at this
  subst hcv;have hcvv:Av true b o n cap=.slice (some ⟨b,o,none⟩) n cap:=rfl;rw[hcvv];by_cases hroom:n+m<=cap
  .have hcs2:o+n*sz+A.length<=cs.size:=by
    rw[hnl,add_assoc,<-add_mul];exact le_trans (Nat.add_le_add_left (Nat.mul_le_mul_right _ hroom) _) hsize
   have Z:=HF (P:=P) w t ty e i hu hi b o n cap cs T hblk ⟨b2,o2,none⟩ m c A hnl' hnc hn1 hroom (by rw[his];exact hcs2)
   rw[his]at Z;have hlen:(cs.toList.take (o+n*sz)++A++cs.toList.drop (o+n*sz+A.length)).toArray.size=cs.size:=by simp;omega
   obtain⟨fp,h1,h2⟩:=fin B F (w.setRow b (cs.toList.take (o+n*sz)++A++cs.toList.drop (o+n*sz+A.length)).toArray) b o cap _ T hol (λj u hj=>(hold j u hj).2) (λi k c hi U h=>⟨hFf i k c hi U h,λe=>hbF i k hi U (e▸h)⟩) hFd (.inr hbx)
    (λc _ hne=>setRow_other w b c _ (λe=>hne (by omega))) (hblk.row hlen) (by rw[hlen];exact hsize) hroom (by
     intro j u hj;by_cases hj1:j<B.length
     .rw[gAL hj1]at hj
      have h:=hold' j u hj;rw[hol]at hj1;have hjc:=(Array.getElem?_eq_some_iff.1 h).1;rw[List.getElem?_toArray,List.append_assoc,gAL (by simp;omega),List.getElem?_take,if_pos (by omega)]
      simpa using h
     .rw[gAR (by omega)]at hj
      have hj2:=(List.getElem?_eq_some_iff.1 hj).1;rw[hol]at hj hj1 hj2;rw[List.getElem?_toArray,List.append_assoc,gAR (by simp;omega),gAL (by simp;omega)]
      rw[<-hj]
      congr 1
      simp;omega)
   exact⟨_,_,fp,Z,rfl,rfl,rfl,le_refl _,by simp,λc W hn=>setRow_other w b c _ (λe=>hn (by subst e;exact hbx)),h1,h2⟩
  .have holc:∀j u,B[j]? =some u->w.cell? ((⟨b,o,none⟩:Addr).add j)=some u:=λj u hj=>by rw[AZ rfl];exact(hold j u hj).1
   have Z:=run_append_grow (P:=P) w t ty e i z hu hi hz ⟨b,o,none⟩ n cap B (by rw[his];exact hol) holc ⟨b2,o2,none⟩ m c A hnl' hnc (by omega) h63' (hfit cap (by omega))
   have hge:=grownCap_ge w (n+m) cap e
   obtain⟨fp,h1,h2⟩:=fin B F (w.drew.alloc (.cells (B.toArray++A.toArray++Builtin.zeroCells z.cells (grownCap w (n+m) cap e-(n+m))) e)) w.heap.size 0 (grownCap w (n+m) cap e) _ _ hol (λj u hj=>(hold j u hj).2) (λi k c hi U h=>⟨hFf i k c hi U h,λe=>by have:=hfpx c (hFf i k c hi U h);omega⟩) hFd (.inl rfl)
    (λc W _=>heap_alloc_old w.drew _ W) (.plain (heap_alloc_new w.drew _)) (by
     simp only[Array.size_append,List.size_toArray,hzc,hnl,hol,<-add_mul,zero_add];exact Nat.mul_le_mul_right _ (by omega)) hge (by
     intro j u hj;have:=(List.getElem?_eq_some_iff.1 hj).1;rw[zero_add,Array.getElem?_append_left (by simpa using this)]
     simpa using hj)
   exact⟨_,_,fp,Z,rfl,rfl,rfl,Nat.le_succ _,by simp,λc W _=>heap_alloc_old w.drew _ W,h1,h2⟩
end Go.Ve


namespace Go.Ve
variable{σ:List V}{F:Nat->Nat->Prop}{D:Nat->Prop}{ρ:Nat->Value}{w:World}
def CR.own{C:Ctx}{ts:List V}{cts:Array Value}{w':World}{D':Nat->Prop}(h:CR C σ ts cts w D ρ F){G:Nat->Prop}(hGF:∀i b,F i b->¬G b)(hGD:∀b,D b->¬G b)
  (hGn:∀b,G b->C.W b\/C.w0.heap.size<=b) (hos:w'.os=w.os) (htp:w'.tape=w.tape) (hout:w'.output=w.output) (hdr:w.drawn<=w'.drawn) (hsz:w.heap.size<=w'.heap.size) (Z:∀c,c<w.heap.size->¬G c->w'.heap[c]? =w.heap[c]?)
  {r:V}{v':Value}{fp:Nat->Prop} (hr:Rel D' w' noR r v' fp) (hfp:∀b,fp b->G b\/w.heap.size<=b)
  (Y:∀b,D b->D' b) (hd2:∀b,D' b->D b\/G b\/w.heap.size<=b) (hd3:∀b,D' b->b<w'.heap.size/\¬fp b) (d:Nat):
  Wi C (σ++(prom r σ.length).2) (ts.set d (prom r σ.length).1) (cts.setIfInBounds d v') w':=by
 have H:∀i b,F i b->b<w.heap.size:=h.wr.lt;have hFs:∀i b,F i b->w'.heap[b]? =w.heap[b]?:=λi b A=>Z b (H i b A) (hGF i b A)
 have hDs:∀b,D b->w'.heap[b]? =w.heap[b]?:=λb A=>Z b (h.wr.Dlt b A) (hGD b A)
 have wr':Be σ w' D' ρ F:=by
  refine⟨λi hi=>Rel.mono Y (λ_ _ h=>h) _ _ _ (λb A=>A.elim (hDs b) (hFs i b)) (h.wr.rel i hi),h.wr.disj,λi b A hD=>?_,λb A=>(hd3 b A).1,h.wr.out⟩
  rcases hd2 b hD with B|B|B
  .exact h.wr.dD i b A B
  .exact hGF i b A B
  .have:=H i b A;omega
 obtain⟨ρ',F',ok,hr'⟩:=Ix r σ ρ F v' fp wr' (Rel.noR_mono hr) (λb A hD=>(hd3 b hD).2 A) (λi b A hb'=>(hfp b hb').elim (hGF i b A) λB=>by have:=H i b A;omega)
 have hfr:Fr C.w0 w' C.W:=by
  refine⟨hos.trans h.fr.os,htp.trans h.fr.tape,hout.trans h.fr.output,le_trans h.fr.size hsz,λb A hW=>?_,le_trans h.fr.drawn hdr⟩
  by_cases hG:G b
  .exact(hGn b hG).elim (λh=>absurd h hW) λh=>by omega
  .rw[Z b (Nat.lt_of_lt_of_le A h.fr.size) hG];exact h.fr.block b A hW
 refine⟨D',ρ',F',ok.wr,by simp[h.sz],λt ht=>?_,hfr,λi b A=>?_,λb A=>Y b (h.D1 b A),λb A U=>?_,λi hi=>(ok.rt i (Nat.lt_of_lt_of_le hi h.ml)).trans (h.rt i hi),by have:=h.ml;simp;omega⟩
 .simp at ht
  by_cases he:d=t
  .subst he
   have U:d<cts.size:=by rw[h.sz];exact ht
   simpa [ht,U]using hr'
  .have h1:=h.tm t ht
   have U:t<cts.size:=by rw[h.sz];exact ht
   simp only[gDE,List.getElem?_set_ne he,Array.getD_eq_getD_getElem?,Array.getElem?_setIfInBounds_ne he];rw[<-gDE,<-Array.getD_eq_getD_getElem?];refine Rel.mono Y (λv cv hv=>Ae.ext ok.rt _ _ (Ae.same h.wr hFs v cv hv)) _ _ _ (λb A=>?_) h1
   exact A.elim (hDs b) λh=>h.elim
 .by_cases hi:i<σ.length
  .rw[ok.old i hi]at A;exact h.Fn i b A
  .rcases hfp b (ok.new i b (by omega) A)with B|B
   .exact hGn b B
   .exact .inr (le_trans h.fr.size B)
 .rcases hd2 b A with B|B|B
  .exact h.D2 b B U
  .rcases hGn b B with h3|h3
   .exact .inr h3
   .omega
  .have:=h.fr.size;omega
theorem MG(wr:Be σ w D ρ F){id sz n:Nat}{f:Nat->Nat->V}{cv:Value}(A:σ.getD id .dead=.nd true true sz n f)(Z:Ae σ ρ w (.rs id [] 0 n) cv):
  cv=ρ id/\Rel D w noR (.nd true true sz n f) cv (F id):=by
 obtain⟨B,Y,n',f',cn,ha,hle,H⟩:=Z;obtain⟨W,h2⟩:=ha;rw[A]at W;cases W;subst h2;have U:=wr.rel id B;have e:cv=ρ id:=by
  rcases H with⟨b,o,cap,h3,h4⟩|⟨h3,a,h4,h5,_⟩
  .rw[h4,h3];simp[Av]
  grind
 grind
end Go.Ve

