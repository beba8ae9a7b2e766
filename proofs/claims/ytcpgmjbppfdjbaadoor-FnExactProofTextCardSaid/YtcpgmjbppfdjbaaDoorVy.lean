/- Appending to an owned slice: the run, and the tree behind it. -/
import Derived.Test.YtcpgmjbppfdjbaaDoorVr
import Derived.Laws.AppendOwn
namespace Go.Ve
variable{i k n sz:Nat}{P:Program}{T:TypeId}{w:World}
theorem cellRow{b off:Nat}{cs:Array Value}{fr:Nat×Nat}(h:w.heap[b]? =some (.cells cs T fr)):w.cell? ⟨b,off,none⟩=cs[off]?:=cell_of_row w b off cs T fr h
theorem BL.cellRow{w:World}{b off:Nat}{cs:Array Value}{T:TypeId}(h:BL w b cs T):w.cell? ⟨b,off,none⟩=cs[off]?:=by
 obtain⟨fz,h,_⟩:=h;exact Go.Ve.cellRow h
theorem BL.row{g:Nat}{cur new:Array Value}(h:BL w g cur T)(hs:new.size=cur.size):BL (w.setRow g new) g new T:=by
 obtain⟨fz,h1,h2⟩:=h;exact⟨fz,setRow_heap w g cur new T fz h1,by grind⟩
theorem LA{P:Program}(g o:Nat)(T:TypeId): ∀ (vs:List Value) (i:Nat) (cur:Array Value) (w:World),BL w g cur T->o+i+vs.length<=cur.size->(∀v∈vs,v.oneCell'=true)->
  (storeCells ⟨g,o,none⟩ vs i).run P w= .ok () (w.setRow g (cur.toList.take (o+i)++vs++cur.toList.drop (o+i+vs.length)).toArray):=by
 intro vs
 induction vs with
 |nil=>
  intro i cur w hg _ _;obtain⟨fz,hg,_⟩:=hg;have e:(cur.toList.take (o+i)++ []++cur.toList.drop (o+i+([]:List Value).length)).toArray=cur:=by simp
  rw [e,setRow_self w g cur T fz hg];rfl
 |cons v rest ih=>
  intro i cur w hg hl h1;have hi:o+i<cur.size:=by simp only [List.length_cons]at hl;omega
  have hcell:w.cell? ⟨g,o+i,none⟩=some cur[o+i]:=by
   obtain⟨fz,hg,_⟩:=hg;rw [cellRow hg];simp [hi]
  have hfro:=hg.frozen hcell;have hnext:=ih (i+1) (cur.setIfInBounds (o+i) v) (w.setRow g (cur.setIfInBounds (o+i) v)) (hg.row (by simp)) (by simp only [List.length_cons]at hl;simp only [Array.size_setIfInBounds];omega) (λx hx=>h1 x (mCM _ hx))
  obtain⟨fz,hg,_⟩:=hg;have hadd:(⟨g,o,none⟩:Addr).add i=⟨g,o+i,none⟩:=AT rfl _
  have hst:(store ((⟨g,o,none⟩:Addr).add i) v).run P w= .ok () (w.setRow g (cur.setIfInBounds (o+i) v)):=by
   rw [hadd,run_store P w _ v _ (h1 v (List.mem_cons_self ..)),hcell];simp [hfro,setCell_eq_setRow w g (o+i) cur T fz v hg]
  simp only [storeCells,Sem.run_bind,hst,Result.andThen_ok,hnext,setRow_setRow];have e:=list_seg_step cur.toList (o+i) v rest (by simp only [List.length_cons]at hl;simp only [Array.length_toList];omega)
  congr 3
  simpa [Array.toList_setIfInBounds,Nat.add_assoc]using e
theorem D9(w:World)(t ty e:TypeId)(i:TypeInfo)(ht:P.underlying t=some (.slice e))(hi:P.info? e=some i)
  (g o sLen sCap:Nat) (cur:Array Value) (T:TypeId) (hg:BL w g cur T)
  (a:Addr) (m c:Nat) (news:List Value) (hl:news.length=m*i.size) (hnews: ∀j u,news[j]? =some u->w.cell? (a.add j)=some u) (h1: ∀u∈news,u.oneCell'=true)
  (hroom:sLen+m<=sCap) (hfit:o+sLen*i.size+news.length<=cur.size):
  (Builtin.append_ #[t,t] ty #[.slice (some ⟨g,o,none⟩) sLen sCap,.slice (some a) m c]).run P w=
   .ok (.slice (some ⟨g,o,none⟩) (sLen+m) sCap) (w.setRow g (cur.toList.take (o+sLen*i.size)++news++cur.toList.drop (o+sLen*i.size+news.length)).toArray):=by
 have hf:=run_firstCells_some (P:=P) w i.size m a m c news hl hnews;have hst:=LA (P:=P) g (o+sLen*i.size) T news 0 cur w hg (by simpa using hfit) h1
 have hadd:(⟨g,o,none⟩:Addr).add (sLen*i.size)=⟨g,o+sLen*i.size,none⟩:=AT rfl _;simp [Builtin.append_,run_underlying ht,sizeOf,typeInfo,hi,Builtin.lenOf,hroom,hf,hadd,hst]
theorem Dh(w:World)(t ty e:TypeId)(i:TypeInfo)(ht:P.underlying t=some (.slice e))(hi:P.info? e=some i)
  (base:Option Addr) (n cap:Nat) (ad:Option Addr) (c:Nat) (h:n<=cap):
  (Builtin.append_ #[t,t] ty #[.slice base n cap,.slice ad 0 c]).run P w= .ok (.slice base n cap) w:=by
 have hf:(Builtin.firstCells i.size 0 (.slice ad 0 c)).run P w= .ok #[] w:=by
  cases ad with
  |none=>rfl
  |some a=>simpa using run_firstCells_some (P:=P) w i.size 0 a 0 c [] (by simp) (by simp)
 cases base with
 |none=>simp [Builtin.append_,run_underlying ht,sizeOf,typeInfo,hi,Builtin.lenOf,h,hf]
 |some a=>simp [Builtin.append_,run_underlying ht,sizeOf,typeInfo,hi,Builtin.lenOf,h,hf,storeCells]
def UF(D:Nat->Prop)(w:World)(sz m:Nat)(g:Nat->Nat->V)(cv:Value)(Fy:Nat->Nat->Nat->Prop):Prop:=
 ∃ (ad:Option Addr) (c:Nat),cv= .slice ad m c/\(0<m->∃b o,ad=some ⟨b,o,none⟩/\
  ∀i k,i<m->k<sz->∃x,w.cell? ⟨b,o+i*sz+k,none⟩=some x/\x.oneCell'=true/\Rel D w noR (g i k) x (Fy i k))
theorem Y3{j:Nat}(h:j<n*sz):0<sz/\j/sz<n/\j % sz<sz/\(j/sz)*sz+j % sz=j:=by
 have hsz:0<sz:=by
  grind
 exact⟨hsz,by rw [Nat.div_lt_iff_lt_mul hsz];omega,Nat.mod_lt _ hsz,by rw [Nat.mul_comm];exact Nat.div_add_mod j sz⟩
theorem P5(hi:i<n)(hk:k<sz):i*sz+k<n*sz:=by
 calc i*sz+k<i*sz+sz:=by omega
  _=(i+1)*sz:=by grind
  _<=n*sz:=Nat.mul_le_mul_right _ hi
theorem JE(hk:k<sz):(i*sz+k)/sz=i:=by
 rw [Nat.add_comm,Nat.add_mul_div_right _ _ (by omega),Nat.div_eq_of_lt hk,Nat.zero_add]
theorem JD(hk:k<sz):(i*sz+k) % sz=k:=by
 rw [Nat.add_comm,Nat.add_mul_mod_self_right,Nat.mod_eq_of_lt hk]
def UE(n:Nat)(f g:Nat->Nat->V):Nat->Nat->V:=λi k=>if i<n then f i k else g (i-n) k
theorem Rel.append{D:Nat->Prop}{w:World}{t ty e:TypeId}{bytes n m:Nat}{zero:List Value}(ht:slI P t=some ⟨e,sz,bytes,zero⟩)(hsz:0<sz){f g:Nat->Nat->V}{v x:Value}{fpx:Nat->Prop}{Fy:Nat->Nat->Nat->Prop}
  (hx:Rel D w noR (.nd true true sz n f) v fpx) (hDx: ∀b,D b->¬fpx b) (Dlt: ∀b,D b->b<w.heap.size) (hy:UF D w sz m g x Fy) (hyD: ∀i k c,i<m->k<sz->Fy i k c->¬D c/\¬fpx c)
  (hyd: ∀i k i' k' c,i<m->k<sz->i'<m->k'<sz->(i≠i'\/k≠k')->Fy i k c->¬Fy i' k' c)
  (h63:n+m<=maxLen) (hb:(n+m)*bytes<=140737488355328):
  ∃v' w' fp,(Builtin.append_ #[t,t] ty #[v,x]).run P w= .ok v' w'/\w'.os=w.os/\w'.tape=w.tape/\w'.output=w.output/\dz w<=dz w'/\w.heap.size<=w'.heap.size/\(∀c,c<w.heap.size->¬fpx c->w'.heap[c]? =w.heap[c]?)/\
   Rel D w' noR (.nd true true sz (n+m) (UE n f g)) v' fp/\∀c,fp c->fpx c\/(∃i k,i<m/\k<sz/\Fy i k c)\/w.heap.size<=c:=by
 obtain⟨hu,i,z,hi,hz,his,hby,_,hzs,_⟩:=CB ht;simp only at hu hi his hby hzs;obtain⟨ad,c,rfl,hyc⟩:=hy;have hfpx: ∀c,fpx c->c<w.heap.size:=Rel.lt _ _ _ hx;rcases Nat.eq_zero_or_pos m with rfl|hm
 ·-- nothing is appended
  have hrel:Rel D w noR (.nd true true sz (n+0) (UE n f g)) v fpx:=by
   have he:Eqv (.nd true true sz n f) (.nd true true sz (n+0) (UE n f g)):=⟨_,rfl,λi k hi hk=>by
    show Eqv _ (UE n f g i k);unfold UE;rw [if_pos hi];exact Eqv.refl _⟩
   exact Rel.eqv _ _ _ _ he hx
  have hrun:(Builtin.append_ #[t,t] ty #[v,.slice ad 0 c]).run P w= .ok v w:=by
   rcases hx with⟨rfl,_,hn0,_⟩|⟨b,o,cap,F,hcv,hcap,_⟩
   ·rw [Dn hn0]
    exact Dh w t ty e i hu hi none 0 0 ad c (Nat.le_refl _)
   ·rw [hcv]
    exact Dh w t ty e i hu hi _ n cap ad c hcap
  exact⟨v,w,fpx,hrun,rfl,rfl,rfl,Nat.le_refl _,Nat.le_refl _,λ_ _ _=>rfl,hrel,λc hc=>.inl hc⟩
 obtain⟨b2,o2,rfl,hyr⟩:=hyc hm
 obtain⟨news,hnl,hnews⟩:=BC (n:=m*sz) (p:=λj u=>w.cell? ⟨b2,o2+j,none⟩=some u/\u.oneCell'=true/\Rel D w noR (g (j/sz) (j % sz)) u (Fy (j/sz) (j % sz))) (by
  intro j hj;obtain⟨_,h1,h2,h3⟩:=Y3 hj;obtain⟨u,hu1,hu2,hu3⟩:=hyr _ _ h1 h2;exact⟨u,by rw [<-h3,<-Nat.add_assoc];exact hu1,hu2,hu3⟩)
 have hnc: ∀j u,news[j]? =some u->w.cell? ((⟨b2,o2,none⟩:Addr).add j)=some u:=by
  intro j u hj;rw [AT rfl];exact(hnews j u hj).1
 have hn1: ∀u∈news,u.oneCell'=true:=by
  intro u hu;obtain⟨j,hj⟩:=List.mem_iff_getElem?.1 hu;exact(hnews j u hj).2.1
 have hnl':news.length=m*i.size:=by rw [hnl,his]
 have hfit: ∀old,old<n+m->Builtin.nextslicecap (n+m) old*i.bytes<=281474976710656:=λold ho=>growslice_fits ho (by rw [hby];exact hb)
 have h63':((n+m:Nat):Int)<=9223372036854775807:=by simp only [maxLen]at h63;omega
 -- behind it: a block that holds all
 have fin: ∀ (olds:List Value) (F:Nat->Nat->Nat->Prop) (w':World) (b' o' cap':Nat) (cs':Array Value) (T':TypeId),olds.length=n*sz->
   (∀j u,olds[j]? =some u->Rel D w noR (f (j/sz) (j % sz)) u (F (j/sz) (j % sz)))->
   (∀i k c,i<n->k<sz->F i k c->fpx c/\c≠b')->(∀i k i' k' c,i<n->k<sz->i'<n->k'<sz->(i≠i'\/k≠k')->F i k c->¬F i' k' c)->
   (b'=w.heap.size\/fpx b')->(∀c,c<w.heap.size->c≠b'->w'.heap[c]? =w.heap[c]?)->BL w' b' cs' T'->o'+cap'*sz<=cs'.size->n+m<=cap'->
   (∀j u,(olds++news)[j]? =some u->cs'[o'+j]? =some u)->
   ∃fp,Rel D w' noR (.nd true true sz (n+m) (UE n f g)) (.slice (some ⟨b',o',none⟩) (n+m) cap') fp/\∀c,fp c->fpx c\/(∃i k,i<m/\k<sz/\Fy i k c)\/w.heap.size<=c:=by
  intro olds F w' b' o' cap' cs' T' hol hold hFf hFd hb' hsame hblk hsz' hcap' hcells
  let F':Nat->Nat->Nat->Prop:=λi k=>if i<n then F i k else Fy (i-n) k
  have hF1: ∀i k,i<n->F' i k=F i k:=λi k hi=>by simp only [F',hi,if_true]
  have hF2: ∀i k,¬i<n->F' i k=Fy (i-n) k:=λi k hi=>by simp only [F',hi,if_false]
  have hDb: ∀c,D c->c≠b':=by
   rintro c hc rfl
   rcases hb' with h|h
   ·exact absurd (Dlt c hc) (by omega)
   ·exact hDx c hc h
  refine⟨λc=>c=b'\/∃i k,i<n+m/\k<sz/\F' i k c,.inr ⟨b',o',cap',F',rfl,hcap',h63,(λh=>by cases h),?_,(λh=>by cases h),λ_=>⟨⟨cs',T',hblk,hsz'⟩,?_,?_,λ_=>Iff.rfl⟩⟩,?_⟩
  ·intro i k hi hk
   by_cases hin:i<n
   ·have hlt:i*sz+k<olds.length:=by rw [hol];exact P5 hin hk
    have hu:olds[i*sz+k]? =some olds[i*sz+k]:=gEE hlt;have hr:=hold _ _ hu;rw [JE hk,JD hk]at hr;refine⟨olds[i*sz+k],?_,?_⟩
    ·rw [hblk.cellRow,Nat.add_assoc]
     exact hcells _ _ (by rw [gAL hlt];exact hu)
    ·show Rel D w' noR (UE n f g i k) _ (F' i k)
     unfold UE;rw [if_pos hin,hF1 i k hin];refine Rel.mono (λ_ h=>h) (λ_ _ h=>h) _ _ _ (λc hc=>?_) hr
     rcases hc with hc|hc
     ·exact hsame c (Dlt c hc) (hDb c hc)
     ·exact hsame c (hfpx c (hFf i k c hin hk hc).1) (hFf i k c hin hk hc).2
   ·have him:i-n<m:=by omega
    have hlt:(i-n)*sz+k<news.length:=by rw [hnl];exact P5 him hk
    have hu:news[(i-n)*sz+k]? =some news[(i-n)*sz+k]:=gEE hlt;have hr:=(hnews _ _ hu).2.2;rw [JE hk,JD hk]at hr
    have hii:i*sz+k=olds.length+((i-n)*sz+k):=by
     rw [hol,<-Nat.add_assoc,<-Nat.add_mul];congr 2;omega
    refine⟨news[(i-n)*sz+k],?_,?_⟩
    ·rw [hblk.cellRow,Nat.add_assoc]
     refine hcells _ _ ?_;rw [hii,gAR (by omega),Nat.add_sub_cancel_left]
     exact hu
    ·show Rel D w' noR (UE n f g i k) _ (F' i k)
     unfold UE;rw [if_neg hin,hF2 i k hin];refine Rel.mono (λ_ h=>h) (λ_ _ h=>h) _ _ _ (λc hc=>?_) hr
     rcases hc with hc|hc
     ·exact hsame c (Dlt c hc) (hDb c hc)
     ·have hclt:c<w.heap.size:=Rel.lt _ _ _ hr c hc
      refine hsame c hclt ?_
      rintro rfl
      rcases hb' with h|h
      ·omega
      ·exact(hyD _ _ c him hk hc).2 h
  ·intro i k hi hk hF
   by_cases hin:i<n
   ·rw [hF1 i k hin]at hF;exact(hFf i k _ hin hk hF).2 rfl
   ·rw [hF2 i k hin]at hF
    rcases hb' with h|h
    ·have him:i-n<m:=by omega
     have hlt:(i-n)*sz+k<news.length:=by rw [hnl];exact P5 him hk
     have hr:=(hnews _ _ (gEE hlt)).2.2;rw [JE hk,JD hk]at hr;have:=Rel.lt _ _ _ hr b' hF;omega
    ·exact(hyD _ _ _ (by omega) hk hF).2 h
  ·intro i k i' k' c hi hk hi' hk' hne hF hF'
   by_cases hin:i<n<;>by_cases hin':i'<n
   ·rw [hF1 i k hin]at hF;rw [hF1 i' k' hin']at hF'
    exact hFd i k i' k' c hin hk hin' hk' hne hF hF'
   ·rw [hF1 i k hin]at hF;rw [hF2 i' k' hin']at hF'
    exact(hyD _ _ c (by omega) hk' hF').2 (hFf i k c hin hk hF).1
   ·rw [hF2 i k hin]at hF;rw [hF1 i' k' hin']at hF'
    exact(hyD _ _ c (by omega) hk hF).2 (hFf i' k' c hin' hk' hF').1
   ·rw [hF2 i k hin]at hF;rw [hF2 i' k' hin']at hF'
    exact hyd _ _ _ _ c (by omega) hk (by omega) hk' (by omega) hF hF'
  ·rintro c (rfl|⟨i,k,hi,hk,hF⟩)
   ·rcases hb' with h|h
    ·exact .inr (.inr (by omega))
    ·exact .inl h
   ·by_cases hin:i<n
    ·rw [hF1 i k hin]at hF;exact .inl (hFf i k c hin hk hF).1
    ·rw [hF2 i k hin]at hF;exact .inr (.inl ⟨i-n,k,by omega,hk,hF⟩)
 have hzc: ∀k,(Builtin.zeroCells z.cells k).size=k*sz:=λk=>by rw [size_zeroCells,hzs]
 rcases hx with⟨rfl,_,hn0,hfp⟩|⟨b,o,cap,F,hcv,hcap,hmax,hs1,hc,himm,ho⟩
 ·-- out of nil
  rw [Dn hn0];simp only [Nat.zero_add]at hb h63 h63' fin hfit⊢;have hrun:=run_append_nil (P:=P) w t ty e i z hu hi hz ⟨b2,o2,none⟩ m c news hnl' hnc hm h63' (by rw [hby];omega)
  have hge:=grownCap_ge w m 0 e
  obtain⟨fp,h1,h2⟩:=fin [] (λ_ _=>noF) (w.drew.alloc (.cells (news.toArray++Builtin.zeroCells z.cells (grownCap w m 0 e-m)) e)) w.heap.size 0 (grownCap w m 0 e) _ _ (by simp) (by simp) (λi k c hi=>by omega) (λi k _ _ c hi=>by omega) (.inl rfl)
   (λc hc _=>heap_alloc_old w.drew _ hc) (.plain (heap_alloc_new w.drew _)) (by
    simp only [Array.size_append,List.size_toArray,hzc,hnl,<-Nat.add_mul,Nat.zero_add];exact Nat.mul_le_mul_right _ (by omega)) hge (by
    intro j u hj;simp only [List.nil_append]at hj;have:=(List.getElem?_eq_some_iff.1 hj).1;rw [Nat.zero_add,Array.getElem?_append_left (by simpa using this)]
    simpa using hj)
  exact⟨_,_,fp,hrun,rfl,rfl,rfl,Nat.le_refl _,by simp,λc hc _=>heap_alloc_old w.drew _ hc,h1,h2⟩
 ·obtain⟨⟨cs,T,hblk,hsize⟩,hbF,hFd,hfp⟩:=ho rfl
  obtain⟨olds,hol,hold⟩:=BC (n:=n*sz) (p:=λj u=>w.cell? ⟨b,o+j,none⟩=some u/\Rel D w noR (f (j/sz) (j % sz)) u (F (j/sz) (j % sz))) (by
   intro j hj;obtain⟨_,h1,h2,h3⟩:=Y3 hj;obtain⟨u,hu1,hu2⟩:=hc _ _ h1 h2;exact⟨u,by rw [<-h3,<-Nat.add_assoc];exact hu1,hu2⟩)
  have hFf: ∀i k c,i<n->k<sz->F i k c->fpx c:=λi k c hi hk h=>(hfp c).2 (.inr ⟨i,k,hi,hk,h⟩)
  have hbx:fpx b:=(hfp b).2 (.inl rfl);have hblt:b<w.heap.size:=hfpx b hbx;have hold': ∀j u,olds[j]? =some u->cs[o+j]? =some u:=λj u hj=>by
   have:=(hold j u hj).1;obtain⟨fz,hblk',_⟩:=hblk;rwa [cellRow hblk']at this
  subst hcv;have hcvv:As true b o n cap= .slice (some ⟨b,o,none⟩) n cap:=rfl;rw [hcvv];by_cases hroom:n+m<=cap
  ·have hcs2:o+n*sz+news.length<=cs.size:=by
    rw [hnl,Nat.add_assoc,<-Nat.add_mul];exact Nat.le_trans (Nat.add_le_add_left (Nat.mul_le_mul_right _ hroom) _) hsize
   have hrun:=D9 (P:=P) w t ty e i hu hi b o n cap cs T hblk ⟨b2,o2,none⟩ m c news hnl' hnc hn1 hroom (by rw [his];exact hcs2)
   rw [his]at hrun;have hlen:(cs.toList.take (o+n*sz)++news++cs.toList.drop (o+n*sz+news.length)).toArray.size=cs.size:=by simp;omega
   obtain⟨fp,h1,h2⟩:=fin olds F (w.setRow b (cs.toList.take (o+n*sz)++news++cs.toList.drop (o+n*sz+news.length)).toArray) b o cap _ T hol (λj u hj=>(hold j u hj).2) (λi k c hi hk h=>⟨hFf i k c hi hk h,λe=>hbF i k hi hk (e▸h)⟩) hFd (.inr hbx)
    (λc _ hne=>setRow_other w b c _ (λe=>hne (by omega))) (hblk.row hlen) (by rw [hlen];exact hsize) hroom (by
     intro j u hj;by_cases hj1:j<olds.length
     ·rw [gAL hj1]at hj
      have h:=hold' j u hj;rw [hol]at hj1;have hjc:=(Array.getElem?_eq_some_iff.1 h).1;rw [List.getElem?_toArray,List.append_assoc,gAL (by simp;omega),List.getElem?_take,if_pos (by omega)]
      simpa using h
     ·rw [gAR (by omega)]at hj
      have hj2:=(List.getElem?_eq_some_iff.1 hj).1;rw [hol]at hj hj1 hj2;rw [List.getElem?_toArray,List.append_assoc,gAR (by simp;omega),gAL (by simp;omega)]
      rw [<-hj]
      congr 1
      simp;omega)
   exact⟨_,_,fp,hrun,rfl,rfl,rfl,Nat.le_refl _,by simp,λc hc hn=>setRow_other w b c _ (λe=>hn (by subst e;exact hbx)),h1,h2⟩
  ·have holc: ∀j u,olds[j]? =some u->w.cell? ((⟨b,o,none⟩:Addr).add j)=some u:=λj u hj=>by rw [AT rfl];exact(hold j u hj).1
   have hrun:=run_append_grow (P:=P) w t ty e i z hu hi hz ⟨b,o,none⟩ n cap olds (by rw [his];exact hol) holc ⟨b2,o2,none⟩ m c news hnl' hnc (by omega) h63' (hfit cap (by omega))
   have hge:=grownCap_ge w (n+m) cap e
   obtain⟨fp,h1,h2⟩:=fin olds F (w.drew.alloc (.cells (olds.toArray++news.toArray++Builtin.zeroCells z.cells (grownCap w (n+m) cap e-(n+m))) e)) w.heap.size 0 (grownCap w (n+m) cap e) _ _ hol (λj u hj=>(hold j u hj).2) (λi k c hi hk h=>⟨hFf i k c hi hk h,λe=>by have:=hfpx c (hFf i k c hi hk h);omega⟩) hFd (.inl rfl)
    (λc hc _=>heap_alloc_old w.drew _ hc) (.plain (heap_alloc_new w.drew _)) (by
     simp only [Array.size_append,List.size_toArray,hzc,hnl,hol,<-Nat.add_mul,Nat.zero_add];exact Nat.mul_le_mul_right _ (by omega)) hge (by
     intro j u hj;have:=(List.getElem?_eq_some_iff.1 hj).1;rw [Nat.zero_add,Array.getElem?_append_left (by simpa using this)]
     simpa using hj)
   exact⟨_,_,fp,hrun,rfl,rfl,rfl,Nat.le_refl _,by simp,λc hc _=>heap_alloc_old w.drew _ hc,h1,h2⟩
end Go.Ve


namespace Go.Ve
variable{σ:List V}{F:Nat->Nat->Prop}{D:Nat->Prop}{ρ:Nat->Value}{w:World}
theorem CR.own{C:Ctx}{ts:List V}{cts:Array Value}{w':World}{D':Nat->Prop}(h:CR C σ ts cts w D ρ F){G:Nat->Prop}(hGF: ∀i b,F i b->¬G b)(hGD: ∀b,D b->¬G b)
  (hGn: ∀b,G b->C.W b\/C.w0.heap.size<=b) (hos:w'.os=w.os) (htp:w'.tape=w.tape) (hout:w'.output=w.output) (hdr:dz w<=dz w') (hsz:w.heap.size<=w'.heap.size) (hbl: ∀c,c<w.heap.size->¬G c->w'.heap[c]? =w.heap[c]?)
  {r:V} {v':Value} {fp:Nat->Prop} (hr:Rel D' w' noR r v' fp) (hfp: ∀b,fp b->G b\/w.heap.size<=b)
  (hd1: ∀b,D b->D' b) (hd2: ∀b,D' b->D b\/G b\/w.heap.size<=b) (hd3: ∀b,D' b->b<w'.heap.size/\¬fp b) (d:Nat):
  UK C (σ++(prom r σ.length).2) (ts.set d (prom r σ.length).1) (cts.setIfInBounds d v') w':=by
 have hFlt: ∀i b,F i b->b<w.heap.size:=h.wr.lt;have hFs: ∀i b,F i b->w'.heap[b]? =w.heap[b]?:=λi b hb=>hbl b (hFlt i b hb) (hGF i b hb)
 have hDs: ∀b,D b->w'.heap[b]? =w.heap[b]?:=λb hb=>hbl b (h.wr.Dlt b hb) (hGD b hb)
 have wr':Bj σ w' D' ρ F:=by
  refine⟨λi hi=>Rel.mono hd1 (λ_ _ h=>h) _ _ _ (λb hb=>hb.elim (hDs b) (hFs i b)) (h.wr.rel i hi),h.wr.disj,λi b hb hD=>?_,λb hb=>(hd3 b hb).1,h.wr.out⟩
  rcases hd2 b hD with h2|h2|h2
  ·exact h.wr.dD i b hb h2
  ·exact hGF i b hb h2
  ·have:=hFlt i b hb;omega
 obtain⟨ρ',F',ok,hr'⟩:=HU r σ ρ F v' fp wr' (Rel.noR_mono hr) (λb hb hD=>(hd3 b hD).2 hb) (λi b hb hb'=>(hfp b hb').elim (hGF i b hb) λh2=>by have:=hFlt i b hb;omega)
 have hfr:Fr C.w0 w' C.W:=by
  refine⟨hos.trans h.fr.os,htp.trans h.fr.tape,hout.trans h.fr.output,Nat.le_trans h.fr.size hsz,λb hb hW=>?_,Nat.le_trans h.fr.drawn hdr⟩
  by_cases hG:G b
  ·exact(hGn b hG).elim (λh=>absurd h hW) λh=>by omega
  ·rw [hbl b (Nat.lt_of_lt_of_le hb h.fr.size) hG];exact h.fr.block b hb hW
 refine⟨D',ρ',F',ok.wr,by simp [h.sz],λt ht=>?_,hfr,λi b hb=>?_,λb hb=>hd1 b (h.D1 b hb),λb hb hlt=>?_,λi hi=>(ok.rt i (Nat.lt_of_lt_of_le hi h.ml)).trans (h.rt i hi),by have:=h.ml;simp;omega⟩
 ·simp at ht
  by_cases he:d=t
  ·subst he
   have hlt:d<cts.size:=by rw [h.sz];exact ht
   simpa [ht,hlt]using hr'
  ·have h1:=h.tm t ht
   have hlt:t<cts.size:=by rw [h.sz];exact ht
   simp only [gDE,List.getElem?_set_ne he,Array.getD_eq_getD_getElem?,Array.getElem?_setIfInBounds_ne he];rw [<-gDE,<-Array.getD_eq_getD_getElem?];refine Rel.mono hd1 (λv cv hv=>Ag.ext ok.rt _ _ (Ag.same h.wr hFs v cv hv)) _ _ _ (λb hb=>?_) h1
   exact hb.elim (hDs b) λh=>h.elim
 ·by_cases hi:i<σ.length
  ·rw [ok.old i hi]at hb;exact h.Fn i b hb
  ·rcases hfp b (ok.new i b (by omega) hb)with h2|h2
   ·exact hGn b h2
   ·exact .inr (Nat.le_trans h.fr.size h2)
 ·rcases hd2 b hb with h2|h2|h2
  ·exact h.D2 b h2 hlt
  ·rcases hGn b h2 with h3|h3
   ·exact .inr h3
   ·omega
  ·have:=h.fr.size;omega
theorem Pt(wr:Bj σ w D ρ F){id sz n:Nat}{f:Nat->Nat->V}{cv:Value}(hσ:σ.getD id .dead= .nd true true sz n f)(hr:Ag σ ρ w (.rs id [] 0 n) cv):
  cv=ρ id/\Rel D w noR (.nd true true sz n f) cv (F id):=by
 obtain⟨hid,sz',n',f',cn,ha,hle,hcv⟩:=hr;obtain⟨h1,h2⟩:=ha;rw [hσ]at h1;cases h1;subst h2;have hrel:=wr.rel id hid;have e:cv=ρ id:=by
  rcases hcv with⟨b,o,cap,h3,h4⟩|⟨h3,a,h4,h5,_⟩
  ·rw [h4,h3];simp [As]
  grind
 grind
end Go.Ve

