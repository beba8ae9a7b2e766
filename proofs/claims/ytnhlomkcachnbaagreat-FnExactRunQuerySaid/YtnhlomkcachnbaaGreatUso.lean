/- slices.SortFunc, as a call that changes a tree. -/
import Derived.Test.YtnhlomkcachnbaaGreatTv
import Derived.Shelf.SlSortCmp.Whole1
namespace Go.Ve
open Go.Proofs Go.Shelf
theorem BH{α:Type} [Inhabited α]{enc:α->Value}{w:World}{blk off m:Nat}{dk:Array α}{os:Array Obj}{c:Nat}(hc:c≠blk)(hlt:c<w.heap.size):(sortWorld enc w blk off m dk os).heap[c]? =w.heap[c]?:=by
 unfold sortWorld;rw [Go.Sort.heap_grow_old _ _ (by simpa [Go.Sort.putRow,Go.Sort.mapBlock,Go.Sort.ahead]using hlt)]
 simp [Go.Sort.putRow,Go.Sort.mapBlock,Go.Sort.ahead,Array.getElem?_modify,Ne.symm hc]
theorem DG{P:Program}{g:Nat}(h:Ab P g=true): ∀args w,(callFunc g args).run P w= .ok (.enter g args) w:=by
 intro args w;unfold Ab at h;split at h
 ·rename_i fn hfn
  simp only [bAE,Bool.not_eq_true']at h;obtain⟨h1,h2⟩:=h;have h2':fn.body.isNone=false:=by cases hb:fn.body<;>simp [hb]at h2⊢
  simp at h1;simp [callFunc,hfn,h1,h2'];intro hb;simp [hb]at h2
 ·cases h
theorem Kb{W w':World}(hB:Below W.heap.size W w'): ∃q os',w'=Go.Sort.grow (W.drewN q) os':=by
 refine⟨w'.drawn-W.drawn,w'.heap.extract W.heap.size w'.heap.size,?_⟩;have h1:w'.heap=W.heap++w'.heap.extract W.heap.size w'.heap.size:=by
  apply Array.ext_getElem?;intro k;rw [Array.getElem?_append];split
  ·rename_i hk
   exact hB.block k hk
  ·rename_i hk
   rw [Array.getElem?_extract];have e:W.heap.size+(k-W.heap.size)=k:=by omega
   rw [e];split
   ·rfl
   ·rename_i h2
    exact Array.getElem?_eq_none (by omega)
 obtain⟨b1,b2,b3,b4,b5,b6⟩:=hB;cases w' with
 |mk heap tape drawn os output=>
  cases W with
  |mk heap' tape' drawn' os' output'=>
   simp only at b1 b2 b3 b6 h1;subst b1 b2 b3;have e:drawn'+(drawn-drawn')=drawn:=by omega
   simp only [Go.Sort.grow,World.drewN,e];rw [<-h1]
def leC{α:Type}(cf:α->α->Int)(x y:α):Bool:=!ltOf cf y x
def Bo{α:Type}(cf:α->α->Int)(xs:List α):List α:=xs.mergeSort (leC cf)
theorem MX{α:Type}{cf:α->α->Int}(hO:Go.Sort.SWO (ltOf cf))(hA: ∀x y,ltOf cf x y=false->ltOf cf y x=false->x=y){xs ys:List α}(hp:ys.Perm xs)(hs:ys.Pairwise fun x y=>leC cf x y=true):ys=Bo cf xs:=by
 refine List.Perm.eq_of_pairwise (le:=fun x y=>leC cf x y=true) (fun a b _ _ h1 h2=>hA a b ?_ ?_) hs (List.pairwise_mergeSort (fun a b c h1 h2=>?_) (fun a b=>?_) xs) (hp.trans (List.mergeSort_perm xs _).symm)
 ·have:(!ltOf cf a b)=true:=h2
  simpa using this
 ·have:(!ltOf cf b a)=true:=h1
  simpa using this
 ·have h1:(!ltOf cf b a)=true:=h1
  have h2:(!ltOf cf c b)=true:=h2;show(!ltOf cf c a)=true;rw [Bool.not_eq_true']at*;exact hO.ntrans _ _ _ h2 h1
 ·show(!ltOf cf b a|| !ltOf cf a b)=true
  cases h1:ltOf cf b a with
  |false=>rfl
  |true=>
   cases h2:ltOf cf a b with
   |false=>rfl
   |true=>
    have:=hO.trans _ _ _ h1 h2;rw [hO.irrefl]at this;cases this
noncomputable def QQ{α:Type}(ok:α->Prop)(cf:α->α->Int)(xs:List α):Option (Unit×List α):=by
 classical exact if 0<xs.length/\xs.length<4611686018427387904/\∀x∈xs,ok x then some ((),Bo cf xs)else none
theorem XJ{P:Program}{ρ:Ren}(L:SlLaysF.n6 P ρ){t:Ty}(ht:t.one=true){d:Nat}{g:FuncId}(hg:Nat.blt g 1000000=true)(hcg:Ab P g=true){G:t.T×t.T->Option Int}(hG:FT P g ⟨[(false,t),(false,t)],[(false,0,.int .i64)]⟩ G)
  (ok:t.T->Prop) (cf:t.T->t.T->Int) (hok: ∀x y,ok x->ok y->G (x,y)=some (cf x y)) (hO:Go.Sort.SWO (ltOf cf)) (hA: ∀x y,ltOf cf x y=false->ltOf cf y x=false->x=y) (hcell1: ∀ (D:Nat->Prop) (w:World) (x:t.T) (cv:Value) (fp:Nat->Prop),Rel D w noR (cV t d x) cv fp->cv.oneCell'=true):
  FTU P (ρ.f 6) ⟨0,[(false,.clo g .unit)],.sl t,d+1,false,[]⟩ (fun _ xs=>QQ ok cf xs):=by
 intro z (xs:List t.T) u hu;have hw1:t.w=1:=by cases t<;>first|rfl|cases ht
 have hu:QQ ok cf xs=some u:=hu;unfold QQ at hu;split at hu
 case isFalse=>cases hu
 rename_i hcond;cases hu;obtain⟨hn,hbig,hall⟩:=hcond;intro w D H cvs hk htab hD hHD hsz hrel0 hargs;have hsz:cvs.size=2:=hsz;have h0:Rel D w noR (arr (decide (0<d+1)) t.w (tyV t (d+1-1)) t.dflt xs) (cvs.getD 0 undef) H:=hrel0
 have e0:arr (decide (0<d+1)) t.w (tyV t (d+1-1)) t.dflt xs=V.nd true true 1 xs.length (fun i k=>(tyV t d (xs.getD i t.dflt)).getD k .dead):=by
  rw [dT (Nat.succ_pos d),hw1];rfl
 rw [e0]at h0;have h1:=hargs 1 (show 1<2 from Nat.lt_succ_self 1) (show(1:Nat)≠0 from Nat.one_ne_zero)
 have h1:Rel D w noR (.many (.cl g) 0 fun k=>(tyV .unit 0 ()).getD k .dead) (cvs.getD 1 undef) noF:=h1
 obtain⟨cs1,_,hpk,hcs1,_⟩:=h1;have hc1:cvs.getD 1 undef= .func (.func g) #[] #[]:=by
  have hp:cvs.getD 1 undef=Qk g cs1:=hpk;rw [hp,KZ hg,Array.eq_empty_of_size_eq_zero hcs1]
 rcases h0 with⟨h,_⟩|⟨b,o,cap,F,hcv,hcap,hmax,_,hcell,_,hown⟩
 ·omega
 obtain⟨⟨bcs,bT,hblk,hroom⟩,hFb,hFd,hHiff⟩:=hown rfl
 have hcell: ∀i:Fin xs.length,∃x,w.cell? ⟨b,o+i.val,none⟩=some x/\Rel D w noR (cV t d (xs.getD i.val t.dflt)) x (F i.val 0):=by
  intro i;obtain⟨x,hx,hr⟩:=hcell i.val 0 i.isLt (by omega)
  refine⟨x,by simpa using hx,?_⟩
  have hr:Rel D w noR ((tyV t d (xs.getD i.val t.dflt)).getD 0 V.dead) x (F i.val 0):=hr;rw [A2 ht]at hr;exact hr
 let enc:Fin xs.length->Value:=fun i=>Classical.choose (hcell i)
 have henc: ∀i:Fin xs.length,w.cell? ⟨b,o+i.val,none⟩=some (enc i)/\Rel D w noR (cV t d (xs.getD i.val t.dflt)) (enc i) (F i.val 0):=fun i=>Classical.choose_spec (hcell i)
 haveI:Inhabited (Fin xs.length):=⟨⟨0,hn⟩⟩
 let dd:Array (Fin xs.length):=Array.ofFn fun i=>i
 have hdd:dd.size=xs.length:=Array.size_ofFn
 have hddi: ∀j (hj:j<xs.length),dd[j]! =⟨j,hj⟩:=by
  intro j hj;have:j<dd.size:=by rw [hdd];exact hj
  rw [getElem!_pos dd j this];exact Array.getElem_ofFn _
 have hblt:b<w.heap.size:=by
  obtain⟨fz,hb,_⟩:=hblk;exact(Array.getElem?_eq_some_iff.1 hb).1
 have hbH:H b:=(hHiff b).2 (.inl rfl);have hFH: ∀i,i<xs.length->∀c,F i 0 c->H c:=fun i hi c hc=>(hHiff c).2 (.inr ⟨i,0,hi,by omega,hc⟩)
 have hFlt: ∀i:Fin xs.length,∀c,F i.val 0 c->c<w.heap.size:=fun i c hc=>Rel.lt _ _ _ (henc i).2 c hc
 have hFne: ∀i:Fin xs.length,∀c,F i.val 0 c->c≠b:=fun i c hc e=>hFb i.val 0 i.isLt (by omega) (e▸hc)
 have hDne: ∀c,D c->c≠b:=fun c hc e=>hHD b hbH (e▸hc)
 have hH:Go.Sort.Holds enc w b o dd:=by
  intro j hj;rw [hdd]at hj;rw [hddi j hj];have h1:=(henc ⟨j,hj⟩).1;exact⟨h1,BC.frozen hblk h1⟩
 have hone:OneCell enc:=fun i=>hcell1 _ _ _ _ _ (henc i).2
 have hmem: ∀i:Fin xs.length,xs.getD i.val t.dflt∈xs:=fun i=>by
  rw [gDE,gEE i.isLt];exact List.getElem_mem _
 have hO':Go.Sort.SWO (ltOf fun i j:Fin xs.length=>cf (xs.getD i.val t.dflt) (xs.getD j.val t.dflt)):=⟨fun x=>hO.irrefl _,fun x y z=>hO.trans _ _ _,fun x y z=>hO.ntrans _ _ _⟩
 have hfrz: ∀x:t.T,Go.Ve.frz (cV t d x)=cV t 0 x:=fun x=>by
  have h1:=A4 t d x;rw [A2 ht,A2 ht]at h1;exact List.singleton_inj.1 h1
 have hcmp:CmpLays1 P g #[] enc (fun i j:Fin xs.length=>cf (xs.getD i.val t.dflt) (xs.getD j.val t.dflt)) b o dd.size w:=by
  intro m os dk hdk i j;obtain⟨W,hW⟩: ∃W,W=sortWorld enc w b o m dk os:=⟨_,rfl⟩;rw [<-hW];have hWb: ∀c,c≠b->c<w.heap.size->W.heap[c]? =w.heap[c]?:=fun c h1 h2=>by rw [hW];exact BH h1 h2
  have hWs:w.heap.size<=W.heap.size:=by rw [hW];simp [sortWorld,Go.Sort.grow,Go.Sort.putRow,Go.Sort.mapBlock,Go.Sort.ahead]
  have hkW:Wok W:=hk.same fun p hp=>hWb _ (fun e=>htab p hp (e▸hbH)) (hk.lt hp)
  have hrel: ∀k:Fin xs.length,Rel (fun c=>D c\/∃k:Fin xs.length,F k.val 0 c) W noR (cV t 0 (xs.getD k.val t.dflt)) (enc k) noF:=by
   intro k;have h1:=Rel.frz _ _ _ (henc k).2;rw [hfrz]at h1;refine Rel.mono (fun c hc=>hc.imp (fun h=>h) fun h=>⟨k,h⟩) (fun _ _ h=>h) _ _ _ (fun c hc=>?_) h1
   rcases hc with(hc|hc)|hc
   ·exact hWb c (hDne c hc) (hD c hc)
   ·exact hWb c (hFne k c hc) (hFlt k c hc)
   ·exact hc.elim
  have hfc:=hG (xs.getD i.val t.dflt,xs.getD j.val t.dflt) _ (hok _ _ (hall _ (hmem i)) (hall _ (hmem j))) W (fun c=>D c\/∃k:Fin xs.length,F k.val 0 c) #[enc i,enc j] hkW (fun c hc=>Nat.lt_of_lt_of_le (hc.elim (hD c) fun⟨k,h⟩=>hFlt k c h) hWs) rfl (fun q hq=>by
   have hq:q<2:=hq
   match q,hq with
   |0,_=>exact hrel i
   |1,_=>exact hrel j)
  refine hfc.mono ?_
  rintro e w' ⟨cv,fp,D',rfl,hB,hr,_⟩
  have hcv2:cv= .int .i64 (cf (xs.getD i.val t.dflt) (xs.getD j.val t.dflt)):=hr.1;exact⟨by rw [hcv2],Kb hB⟩
 have hcvs:cvs= #[.slice (some ⟨b,o,none⟩) dd.size cap,.func (.func g) #[] #[]]:=by
  apply Array.ext
  ·simpa using hsz
  ·intro q h1 h2
   have h2:q<2:=h2
   match q,h2 with
   |0,_=>
    have e:cvs[0]=cvs.getD 0 undef:=by simp [hsz]
    rw [e,hcv,hdd];rfl
   |1,_=>
    have e:cvs[1]=cvs.getD 1 undef:=by simp [hsz]
    rw [e,hc1];rfl
 show Calls P (ρ.f 6) cvs w _;have hcv0:=hcv;rw [hcvs];refine(Any.slices_SortFunc L enc hone _ hO' g #[] b o cap dd w (DG hcg) hcmp hH hblt (by rw [hdd];exact hbig)).mono ?_
 rintro e w' ⟨rfl,d',m,os,hperm,hsort,rfl⟩
 obtain⟨hsz',_,hpm⟩:=hperm;rw [hdd]at hsz';have hpm:d'.toList.Perm dd.toList:=by
  have e1:d'.extract 0 dd.size=d':=by
   apply Array.ext_getElem?;intro q;rw [Array.getElem?_extract];simp only [Nat.zero_add,Nat.sub_zero,hdd,hsz',Nat.min_self];split
   ·rfl
   ·exact(Array.getElem?_eq_none (by omega)).symm
  have e2:dd.extract 0 dd.size=dd:=by simp
  rw [e1,e2]at hpm;exact hpm
 have hdn:dd.toList.Nodup:=by
  rw [List.Nodup,List.pairwise_iff_getElem];intro i j hi hj hij he;have hi:i<xs.length:=by simpa [hdd]using hi
  have hj:j<xs.length:=by simpa [hdd]using hj
  have e1: ∀q (hq:q<xs.length),dd.toList[q]'(by simpa [hdd]using hq)=⟨q,hq⟩:=fun q hq=>by
   rw [<-hddi q hq,getElem!_pos dd q (by rw [hdd];exact hq)];rfl
  rw [e1 i hi,e1 j hj]at he;have:=congrArg Fin.val he;simp at this;omega
 have hdn':d'.toList.Nodup:=hpm.nodup_iff.2 hdn
 have hget: ∀i (hi:i<xs.length),d'.toList[i]'(by simpa [hsz']using hi)=d'[i]!:=fun i hi=>by
  rw [getElem!_pos d' i (by rw [hsz'];exact hi)];rfl
 have hinj: ∀i j,i<xs.length->j<xs.length->d'[i]! =d'[j]!->i=j:=by
  intro i j hi hj he;rw [<-hget i hi,<-hget j hj]at he;exact(List.getElem_inj hdn').1 he
 have hsurj: ∀k:Fin xs.length,∃i,i<xs.length/\d'[i]! =k:=by
  intro k;have h1:k∈dd.toList:=by
   have:=hddi k.val k.isLt;rw [getElem!_pos dd k.val (by rw [hdd];exact k.isLt)]at this
   have h2:dd[k.val]'(by rw [hdd];exact k.isLt)∈dd.toList:=by simp
   rw [this]at h2;exact h2
  have h2:=hpm.mem_iff.2 h1;obtain⟨i,hi,he⟩:=List.getElem_of_mem h2;have hi:i<xs.length:=by simpa [hsz']using hi
  exact⟨i,hi,by rw [<-hget i hi];exact he⟩
 have hxs:dd.toList.map (fun k:Fin xs.length=>xs.getD k.val t.dflt)=xs:=by
  apply List.ext_getElem
  ·simp [hdd]
  ·intro i h1 h2
   have e:dd.toList[i]'(by simpa [hdd]using h2)=⟨i,h2⟩:=by
    rw [<-hddi i h2,getElem!_pos dd i (by rw [hdd];exact h2)];rfl
   rw [List.getElem_map,e];simp [gDE,h2]
 have hys:d'.toList.map (fun k:Fin xs.length=>xs.getD k.val t.dflt)=Bo cf xs:=by
  refine MX hO hA ?_ ?_
  ·have:=hpm.map fun k:Fin xs.length=>xs.getD k.val t.dflt
   rw [hxs]at this;exact this
  ·rw [List.pairwise_map,List.pairwise_iff_getElem]
   intro i j hi hj hij;have hi:i<xs.length:=by simpa [hsz']using hi
   have hj:j<xs.length:=by simpa [hsz']using hj
   have:=hsort i j (Nat.zero_le _) hij (by rw [hdd];exact hj)
   rw [hget i hi,hget j hj];show(!ltOf cf _ _)=true;rw [Bool.not_eq_true'];exact this
 have hysi: ∀i (hi:i<xs.length),(Bo cf xs).getD i t.dflt=xs.getD (d'[i]!).val t.dflt:=by
  intro i hi;rw [<-hys,gDE,List.getElem?_map,gEE (by simpa [hsz']using hi),hget i hi]
  rfl
 have hlen:(Bo cf xs).length=xs.length:=by rw [<-hys];simp [hsz']
 have hSW:SW enc w b o d' (sortWorld enc w b o m d' os):=⟨m,os,rfl⟩;have hHo:=hSW.holds hblt hH (by rw [hsz',hdd])
 have hWb: ∀c,c≠b->c<w.heap.size->(sortWorld enc w b o m d' os).heap[c]? =w.heap[c]?:=fun c h1 h2=>BH h1 h2
 have hWs:w.heap.size<=(sortWorld enc w b o m d' os).heap.size:=by simp [sortWorld,Go.Sort.grow,Go.Sort.putRow,Go.Sort.mapBlock,Go.Sort.ahead]
 refine⟨.tuple #[],noF,D,H,rfl,⟨rfl,rfl,rfl,hWs,fun c hc hn=>hWb c (fun e=>hn (e▸hbH)) hc,by simp [sortWorld,Go.Sort.grow,Go.Sort.putRow,Go.Sort.mapBlock,Go.Sort.ahead]⟩,?_,?_,fun _ h=>h.elim,fun _ h=>.inl h,fun _ h=>h.elim,fun _ h=>h,fun _ h=>.inl h,fun c hc=>⟨Nat.lt_of_lt_of_le (hD c hc) hWs,fun h=>h,fun h=>hHD c h hc⟩⟩
 ·exact⟨#[],fun _=>noF,rfl,rfl,fun k hk=>absurd hk (Nat.not_lt_zero _),fun k _ _ hk=>absurd hk (Nat.not_lt_zero _),fun c=>⟨fun h=>h.elim,fun⟨k,hk,_⟩=>absurd hk (Nat.not_lt_zero _)⟩⟩
 ·have e1:(#[Value.slice (some ⟨b,o,none⟩) dd.size cap,.func (.func g) #[] #[]]:Array Value).getD 0 undef= .slice (some ⟨b,o,none⟩) dd.size cap:=rfl
  show Rel D _ noR (arr (decide (0<d+1)) t.w (tyV t (d+1-1)) t.dflt (Bo cf xs)) _ H
  have e2:arr (decide (0<d+1)) t.w (tyV t (d+1-1)) t.dflt (Bo cf xs)=V.nd true true 1 xs.length (fun i k=>(tyV t d ((Bo cf xs).getD i t.dflt)).getD k .dead):=by
   rw [<-hlen,dT (Nat.succ_pos d),hw1];rfl
  rw [e2];refine .inr ⟨b,o,cap,fun i _=>F (d'[i]!).val 0,by rw [hdd];rfl,hcap,hmax,(fun h=>by cases h),fun i k hi hk=>?_,(fun h=>by cases h),fun _=>⟨?_,fun i k hi hk=>hFb _ 0 (d'[i]!).isLt (by omega),fun i k i' k' c hi hk hi' hk' hne h1 h2=>?_,fun c=>?_⟩⟩
  ·obtain rfl:k=0:=by omega
   have h1:=(hHo i (by rw [hsz'];exact hi)).1
   refine⟨enc d'[i]!,by simpa using h1,?_⟩
   show Rel D _ noR ((tyV t d ((Bo cf xs).getD i t.dflt)).getD 0 V.dead) (enc d'[i]!) (F (d'[i]!).val 0);rw [A2 ht];show Rel D _ noR (cV t d ((Bo cf xs).getD i t.dflt)) _ _;rw [hysi i hi];refine Rel.mono (fun _ h=>h) (fun _ _ h=>h) _ _ _ (fun c hc=>?_) (henc d'[i]!).2
   rcases hc with hc|hc
   ·exact hWb c (hDne c hc) (hD c hc)
   ·exact hWb c (hFne _ c hc) (hFlt _ c hc)
  ·obtain⟨fz,hb1,hb2⟩:=hblk
   refine⟨Go.Sort.putCells enc o d' bcs,bT,⟨fz,?_,?_⟩,?_⟩
   ·unfold sortWorld
    rw [Go.Sort.heap_grow_old _ _ (by simpa [Go.Sort.putRow,Go.Sort.mapBlock,Go.Sort.ahead]using hblt)]
    simp [Go.Sort.putRow,Go.Sort.mapBlock,Go.Sort.ahead,Array.getElem?_modify,hb1,Go.Sort.onCells]
   ·simpa [Go.Sort.putCells]using hb2
   ·simpa [Go.Sort.putCells]using hroom
  ·obtain rfl:k=0:=by omega
   obtain rfl:k'=0:=by omega
   have hii:i≠i':=by rcases hne with h|h<;>omega
   refine hFd (d'[i]!).val 0 (d'[i']!).val 0 c (d'[i]!).isLt (by omega) (d'[i']!).isLt (by omega) (.inl fun e=>hii (hinj i i' hi hi' (Fin.ext e))) h1 h2
  ·rw [hHiff]
   constructor
   ·rintro (h|⟨i,k,hi,hk,h⟩)
    ·exact .inl h
    ·obtain rfl:k=0:=by omega
     obtain⟨j,hj,he⟩:=hsurj ⟨i,hi⟩;exact .inr ⟨j,0,hj,by omega,by show F (d'[j]!).val 0 c;rw [he];exact h⟩
   ·rintro (h|⟨i,k,hi,hk,h⟩)
    ·exact .inl h
    ·exact .inr ⟨(d'[i]!).val,0,(d'[i]!).isLt,by omega,h⟩
theorem oneSl{t:Ty}{d:Nat}(D:Nat->Prop)(w:World)(x:(Ty.sl t).T)(cv:Value)(fp:Nat->Prop)(h:Rel D w noR (cV (.sl t) d x) cv fp):cv.oneCell'=true:=by
 rcases h with⟨_,_,h3,_⟩|⟨b,o,cap,F,hcv,_⟩
 ·obtain⟨a,ha⟩:=BZ h3
  rw [ha];rfl
 ·rw [hcv];rfl
end Go.Ve

