/- slices.SortFunc, as a call that changes a tree. -/
import Derived.Test.YteakdlfnmhlifaaTv
import Derived.Shelf.SlSortCmp.Whole1
import Derived.Test.YteakdlfnmhlifaaUsys
import Derived.Test.YteakdlfnmhlifaaLt
import Derived.Shelf.SlSortCmp.NoneTotal
import Derived.Shelf.SlGeneric
import Derived.Shelf.SlLaysF
import Derived.Ground.SlsfProg
open Nat(not_lt_zero)
set_option linter.all false
namespace Go.Ve
open Go.Proofs Go.Shelf
variable{d:Nat}{P:Program}{t:Ty}{α:Type}
def DD [Inhabited α]{enc:α->Value}{w:World}{A off m:Nat}{H:Array α}{os:Array Obj}{c:Nat}(F:c≠A)(B:c<w.heap.size):(sortWorld enc w A off m H os).heap[c]? =w.heap[c]?:=by
 unfold sortWorld;rw[Go.Sort.heap_grow_old _ _ (by simpa [Go.Sort.putRow,Go.Sort.mapBlock,Go.Sort.ahead]using B)]
 simp[Go.Sort.putRow,Go.Sort.mapBlock,Go.Sort.ahead,Array.getElem?_modify,Ne.symm F]
def KF{g:Nat}(h:AE P g=true):∀args w,(callFunc g args).run P w=.ok (.enter g args) w:=by
 intro args w;unfold AE at h;split at h
 .rename_i fn A
  simp only[bAE,Bool.not_eq_true']at h;obtain⟨U,H⟩:=h;have F:fn.body.isNone=false:=by cases B:fn.body<;>simp[B]at H⊢
  simp at U;simp[callFunc,A,U,F];intro B;simp[B]at H
 .cases h
def UX{W w':World}(Y:Below W.heap.size W w'):∃q B,w'=Go.Sort.grow (W.drewN q) B:=by
 refine⟨w'.drawn-W.drawn,w'.heap.extract W.heap.size w'.heap.size,?_⟩;have Z:w'.heap=W.heap++w'.heap.extract W.heap.size w'.heap.size:=by
  apply Array.ext_getElem?;intro k;rw[Array.getElem?_append];split
  .rename_i U
   exact Y.block k U
  .rename_i U
   rw[Array.getElem?_extract];have e:W.heap.size+(k-W.heap.size)=k:=by omega
   rw[e];split
   .rfl
   .rename_i h2
    exact Array.getElem?_eq_none (by omega)
 obtain⟨b1,b2,b3,b4,b5,b6⟩:=Y;cases w' with
 |mk heap tape drawn os output=>
  cases W with
  |mk H F A B output'=>
   simp only at b1 b2 b3 b6 Z;subst b1 b2 b3;have e:A+(drawn-A)=drawn:=by omega
   simp only[Go.Sort.grow,World.drewN,e];rw[<-Z]
def leC{α:Type}(A:α->α->Int)(x y:α):Bool:=!ltOf A y x
def B0{α:Type}(A:α->α->Int)(xs:List α):List α:=xs.mergeSort (leC A)
def DE{A:α->α->Int}(H:Go.Sort.SWO (ltOf A))(Y:∀x y,ltOf A x y=false->ltOf A y x=false->x=y){xs ys:List α}(W:ys.Perm xs)(U:ys.Pairwise λx y=>leC A x y=true):ys=B0 A xs:=by
 refine List.Perm.eq_of_pairwise (le:=λx y=>leC A x y=true) (λa b _ _ F B=>Y a b ?_ ?_) U (List.pairwise_mergeSort (λa b c F B=>?_) (λa b=>?_) xs) (W.trans (List.mergeSort_perm xs _).symm)
 .have:(!ltOf A a b)=true:=B
  simpa using this
 .have:(!ltOf A b a)=true:=F
  simpa using this
 .have F:(!ltOf A b a)=true:=F
  have B:(!ltOf A c b)=true:=B;show(!ltOf A c a)=true;rw[Bool.not_eq_true']at*;exact H.ntrans _ _ _ B F
 .show(!ltOf A b a|| !ltOf A a b)=true
  cases F:ltOf A b a with
  |false=>rfl
  |true=>
   cases B:ltOf A a b with
   |false=>rfl
   |true=>
    have:=H.trans _ _ _ F B;rw[H.irrefl]at this;cases this
noncomputable def Vj{α:Type}(ok:α->Prop)(A:α->α->Int)(xs:List α):Option (Unit×List α):=by
 classical exact if 0<xs.length/\xs.length<4611686018427387904/\∀x∈xs,ok x then some ((),B0 A xs)else none
theorem Zl{ρ:Ren}(L:SlLaysF.n6 P ρ)(ht:t.one=true){d:Nat}{g:FuncId}(hg:Nat.blt g 1000000=true)(hcg:AE P g=true){G:t.T×t.T->Option Int}(hG:FT P g ⟨[(false,t),(false,t)],[(false,0,.int .i64)]⟩ G)
  (ok:t.T->Prop) (cf:t.T->t.T->Int) (hok:∀x y,ok x->ok y->G (x,y)=some (cf x y)) (hO:Go.Sort.SWO (ltOf cf)) (hA:∀x y,ltOf cf x y=false->ltOf cf y x=false->x=y) (hcell1:∀(D:Nat->Prop) (w:World) (x:t.T) (cv:Value) (fp:Nat->Prop),Rel D w noR (cV t d x) cv fp->cv.oneCell'=true):
  FTU P (ρ.f 6) ⟨0,[(false,.clo g .unit)],.sl t,d+1,false,[]⟩ (λ_ xs=>Vj ok cf xs):=by
 intro z (xs:List t.T) u hu;have hw1:t.w=1:=by cases t<;>first|rfl|cases ht
 have hu:Vj ok cf xs=some u:=hu;unfold Vj at hu;split at hu
 case isFalse=>cases hu
 rename_i hcond;cases hu;obtain⟨hn,hbig,hall⟩:=hcond;intro w D H cvs hk htab hD hHD hsz hrel0 hargs;have hsz:cvs.size=2:=hsz;have h0:Rel D w noR (arr (decide (0<d+1)) t.w (tyV t (d+1-1)) t.dflt xs) (cvs.getD 0 undef) H:=hrel0
 have e0:arr (decide (0<d+1)) t.w (tyV t (d+1-1)) t.dflt xs=V.nd true true 1 xs.length (λi k=>(tyV t d (xs.getD i t.dflt)).getD k .dead):=by
  rw[dT (Nat.succ_pos d),hw1];rfl
 rw[e0]at h0;have Z:=hargs 1 (show 1<2 from Nat.lt_succ_self 1) (show(1:Nat)≠0 from Nat.one_ne_zero)
 have Z:Rel D w noR (.many (.cl g) 0 λk=>(tyV .unit 0 ()).getD k .dead) (cvs.getD 1 undef) noF:=Z
 obtain⟨cs1,_,hpk,hcs1,_⟩:=Z;have hc1:cvs.getD 1 undef=.func (.func g) #[] #[]:=by
  have hp:cvs.getD 1 undef=Abi g cs1:=hpk;rw[hp,Pb hg,Array.eq_empty_of_size_eq_zero hcs1]
 rcases h0 with⟨h,_⟩|⟨b,o,cap,F,hcv,hcap,hmax,_,hcell,_,hown⟩
 .omega
 obtain⟨⟨bcs,bT,hblk,hroom⟩,hFb,hFd,hHiff⟩:=hown rfl
 have hcell:∀i:Fin xs.length,∃x,w.cell? ⟨b,o+i.val,none⟩=some x/\Rel D w noR (cV t d (xs.getD i.val t.dflt)) x (F i.val 0):=by
  intro i;obtain⟨x,hx,hr⟩:=hcell i.val 0 i.isLt (by omega)
  refine⟨x,by simpa using hx,?_⟩
  have hr:Rel D w noR ((tyV t d (xs.getD i.val t.dflt)).getD 0 V.dead) x (F i.val 0):=hr;rw[Bm ht]at hr;exact hr
 let enc:Fin xs.length->Value:=λi=>Classical.choose (hcell i)
 have henc:∀i:Fin xs.length,w.cell? ⟨b,o+i.val,none⟩=some (enc i)/\Rel D w noR (cV t d (xs.getD i.val t.dflt)) (enc i) (F i.val 0):=λi=>Classical.choose_spec (hcell i)
 haveI:Inhabited (Fin xs.length):=⟨⟨0,hn⟩⟩
 let dd:Array (Fin xs.length):=Array.ofFn λi=>i
 have A:dd.size=xs.length:=Array.size_ofFn
 have hddi:∀j (hj:j<xs.length),dd[j]! =⟨j,hj⟩:=by
  intro j hj;have:j<dd.size:=by rw[A];exact hj
  rw[getElem!_pos dd j this];exact Array.getElem_ofFn _
 have hblt:b<w.heap.size:=by
  obtain⟨fz,hb,_⟩:=hblk;exact(Array.getElem?_eq_some_iff.1 hb).1
 have hbH:H b:=(hHiff b).2 (.inl rfl);have hFH:∀i,i<xs.length->∀c,F i 0 c->H c:=λi hi c U=>(hHiff c).2 (.inr ⟨i,0,hi,by omega,U⟩)
 have hFlt:∀i:Fin xs.length,∀c,F i.val 0 c->c<w.heap.size:=λi c U=>Rel.lt _ _ _ (henc i).2 c U
 have hFne:∀i:Fin xs.length,∀c,F i.val 0 c->c≠b:=λi c U e=>hFb i.val 0 i.isLt (by omega) (e▸U)
 have hDne:∀c,D c->c≠b:=λc U e=>hHD b hbH (e▸U)
 have hH:Go.Sort.Holds enc w b o dd:=by
  intro j hj;rw[A]at hj;rw[hddi j hj];have Z:=(henc ⟨j,hj⟩).1;exact⟨Z,BP.frozen hblk Z⟩
 have hone:OneCell enc:=λi=>hcell1 _ _ _ _ _ (henc i).2
 have hmem:∀i:Fin xs.length,xs.getD i.val t.dflt∈xs:=λi=>by
  rw[gDE,gEE i.isLt];exact List.getElem_mem _
 have hO':Go.Sort.SWO (ltOf λi j:Fin xs.length=>cf (xs.getD i.val t.dflt) (xs.getD j.val t.dflt)):=⟨λx=>hO.irrefl _,λx y z=>hO.trans _ _ _,λx y z=>hO.ntrans _ _ _⟩
 have hfrz:∀x:t.T,Go.Ve.frz (cV t d x)=cV t 0 x:=λx=>by
  have Z:=Ba t d x;rw[Bm ht,Bm ht]at Z;exact List.singleton_inj.1 Z
 have hcmp:CmpLays1 P g #[] enc (λi j:Fin xs.length=>cf (xs.getD i.val t.dflt) (xs.getD j.val t.dflt)) b o dd.size w:=by
  intro m os dk hdk i j;obtain⟨W,hW⟩:∃W,W=sortWorld enc w b o m dk os:=⟨_,rfl⟩;rw[<-hW];have hWb:∀c,c≠b->c<w.heap.size->W.heap[c]? =w.heap[c]?:=λc Z h2=>by rw[hW];exact DD Z h2
  have hWs:w.heap.size<=W.heap.size:=by rw[hW];simp[sortWorld,Go.Sort.grow,Go.Sort.putRow,Go.Sort.mapBlock,Go.Sort.ahead]
  have hkW:Wok W:=hk.same λp hp=>hWb _ (λe=>htab p hp (e▸hbH)) (hk.lt hp)
  have hrel:∀k:Fin xs.length,Rel (λc=>D c\/∃k:Fin xs.length,F k.val 0 c) W noR (cV t 0 (xs.getD k.val t.dflt)) (enc k) noF:=by
   intro k;have Z:=Rel.frz _ _ _ (henc k).2;rw[hfrz]at Z;refine Rel.mono (λc U=>U.imp (λh=>h) λh=>⟨k,h⟩) (λ_ _ h=>h) _ _ _ (λc U=>?_) Z
   rcases U with(U|U)|U
   .exact hWb c (hDne c U) (hD c U)
   .exact hWb c (hFne k c U) (hFlt k c U)
   .exact U.elim
  have hfc:=hG (xs.getD i.val t.dflt,xs.getD j.val t.dflt) _ (hok _ _ (hall _ (hmem i)) (hall _ (hmem j))) W (λc=>D c\/∃k:Fin xs.length,F k.val 0 c) #[enc i,enc j] hkW (λc U=>Nat.lt_of_lt_of_le (U.elim (hD c) fun⟨k,h⟩=>hFlt k c h) hWs) rfl (λq hq=>by
   have hq:q<2:=hq
   match q,hq with
   |0,_=>exact hrel i
   |1,_=>exact hrel j)
  refine hfc.mono ?_
  rintro e w' ⟨cv,fp,D',rfl,hB,hr,_⟩
  have hcv2:cv=.int .i64 (cf (xs.getD i.val t.dflt) (xs.getD j.val t.dflt)):=hr.1;exact⟨by rw[hcv2],UX hB⟩
 have hcvs:cvs= #[.slice (some ⟨b,o,none⟩) dd.size cap,.func (.func g) #[] #[]]:=by
  apply Array.ext
  .simpa using hsz
  .intro q Z h2
   have h2:q<2:=h2
   match q,h2 with
   |0,_=>
    have e:cvs[0]=cvs.getD 0 undef:=by simp[hsz]
    rw[e,hcv,A];rfl
   |1,_=>
    have e:cvs[1]=cvs.getD 1 undef:=by simp[hsz]
    rw[e,hc1];rfl
 show Calls P (ρ.f 6) cvs w _;have hcv0:=hcv;rw[hcvs];refine(Any.slices_SortFunc L enc hone _ hO' g #[] b o cap dd w (KF hcg) hcmp hH hblt (by rw[A];exact hbig)).mono ?_
 rintro e w' ⟨rfl,Y,m,os,hperm,hsort,rfl⟩
 obtain⟨B,_,hpm⟩:=hperm;rw[A]at B;have hpm:Y.toList.Perm dd.toList:=by
  have e1:Y.extract 0 dd.size=Y:=by
   apply Array.ext_getElem?;intro q;rw[Array.getElem?_extract];simp only[Nat.zero_add,Nat.sub_zero,A,B,Nat.min_self];split
   .rfl
   .exact(Array.getElem?_eq_none (by omega)).symm
  have e2:dd.extract 0 dd.size=dd:=by simp
  rw[e1,e2]at hpm;exact hpm
 have hdn:dd.toList.Nodup:=by
  rw[List.Nodup,List.pairwise_iff_getElem];intro i j hi hj hij he;have hi:i<xs.length:=by simpa [A]using hi
  have hj:j<xs.length:=by simpa [A]using hj
  have e1:∀q (hq:q<xs.length),dd.toList[q]'(by simpa [A]using hq)=⟨q,hq⟩:=λq hq=>by
   rw[<-hddi q hq,getElem!_pos dd q (by rw[A];exact hq)];rfl
  rw[e1 i hi,e1 j hj]at he;have:=congrArg Fin.val he;simp at this;omega
 have hdn':Y.toList.Nodup:=hpm.nodup_iff.2 hdn
 have hget:∀i (hi:i<xs.length),Y.toList[i]'(by simpa [B]using hi)=Y[i]!:=λi hi=>by
  rw[getElem!_pos Y i (by rw[B];exact hi)];rfl
 have hinj:∀i j,i<xs.length->j<xs.length->Y[i]! =Y[j]!->i=j:=by
  intro i j hi hj he;rw[<-hget i hi,<-hget j hj]at he;exact(List.getElem_inj hdn').1 he
 have hsurj:∀k:Fin xs.length,∃i,i<xs.length/\Y[i]! =k:=by
  intro k;have Z:k∈dd.toList:=by
   have:=hddi k.val k.isLt;rw[getElem!_pos dd k.val (by rw[A];exact k.isLt)]at this
   have h2:dd[k.val]'(by rw[A];exact k.isLt)∈dd.toList:=by simp
   rw[this]at h2;exact h2
  have h2:=hpm.mem_iff.2 Z;obtain⟨i,hi,he⟩:=List.getElem_of_mem h2;have hi:i<xs.length:=by simpa [B]using hi
  exact⟨i,hi,by rw[<-hget i hi];exact he⟩
 have hxs:dd.toList.map (λk:Fin xs.length=>xs.getD k.val t.dflt)=xs:=by
  apply List.ext_getElem
  .simp[A]
  .intro i Z h2
   have e:dd.toList[i]'(by simpa [A]using h2)=⟨i,h2⟩:=by
    rw[<-hddi i h2,getElem!_pos dd i (by rw[A];exact h2)];rfl
   rw[List.getElem_map,e];simp[gDE,h2]
 have hys:Y.toList.map (λk:Fin xs.length=>xs.getD k.val t.dflt)=B0 cf xs:=by
  refine DE hO hA ?_ ?_
  .have:=hpm.map λk:Fin xs.length=>xs.getD k.val t.dflt
   rw[hxs]at this;exact this
  .rw[List.pairwise_map,List.pairwise_iff_getElem]
   intro i j hi hj hij;have hi:i<xs.length:=by simpa [B]using hi
   have hj:j<xs.length:=by simpa [B]using hj
   have:=hsort i j (Nat.zero_le _) hij (by rw[A];exact hj)
   rw[hget i hi,hget j hj];show(!ltOf cf _ _)=true;rw[Bool.not_eq_true'];exact this
 have hysi:∀i (hi:i<xs.length),(B0 cf xs).getD i t.dflt=xs.getD (Y[i]!).val t.dflt:=by
  intro i hi;rw[<-hys,gDE,List.getElem?_map,gEE (by simpa [B]using hi),hget i hi]
  rfl
 have hlen:(B0 cf xs).length=xs.length:=by rw[<-hys];simp[B]
 have hSW:SW enc w b o Y (sortWorld enc w b o m Y os):=⟨m,os,rfl⟩;have hHo:=hSW.holds hblt hH (by rw[B,A])
 have hWb:∀c,c≠b->c<w.heap.size->(sortWorld enc w b o m Y os).heap[c]? =w.heap[c]?:=λc Z h2=>DD Z h2
 have hWs:w.heap.size<=(sortWorld enc w b o m Y os).heap.size:=by simp[sortWorld,Go.Sort.grow,Go.Sort.putRow,Go.Sort.mapBlock,Go.Sort.ahead]
 refine⟨.tuple #[],noF,D,H,rfl,⟨rfl,rfl,rfl,hWs,λc U hn=>hWb c (λe=>hn (e▸hbH)) U,by simp[sortWorld,Go.Sort.grow,Go.Sort.putRow,Go.Sort.mapBlock,Go.Sort.ahead]⟩,?_,?_,λ_ h=>h.elim,λ_ h=>.inl h,λ_ h=>h.elim,λ_ h=>h,λ_ h=>.inl h,λc U=>⟨Nat.lt_of_lt_of_le (hD c U) hWs,λh=>h,λh=>hHD c h U⟩⟩
 .exact⟨#[],λ_=>noF,rfl,rfl,λk hk=>absurd hk (not_lt_zero _),λk _ _ hk=>absurd hk (not_lt_zero _),λc=>⟨λh=>h.elim,fun⟨k,hk,_⟩=>absurd hk (not_lt_zero _)⟩⟩
 .have e1:(#[Value.slice (some ⟨b,o,none⟩) dd.size cap,.func (.func g) #[] #[]]:Array Value).getD 0 undef=.slice (some ⟨b,o,none⟩) dd.size cap:=rfl
  show Rel D _ noR (arr (decide (0<d+1)) t.w (tyV t (d+1-1)) t.dflt (B0 cf xs)) _ H
  have e2:arr (decide (0<d+1)) t.w (tyV t (d+1-1)) t.dflt (B0 cf xs)=V.nd true true 1 xs.length (λi k=>(tyV t d ((B0 cf xs).getD i t.dflt)).getD k .dead):=by
   rw[<-hlen,dT (Nat.succ_pos d),hw1];rfl
  rw[e2];refine .inr ⟨b,o,cap,λi _=>F (Y[i]!).val 0,by rw[A];rfl,hcap,hmax,(λh=>by cases h),λi k hi hk=>?_,(λh=>by cases h),λ_=>⟨?_,λi k hi hk=>hFb _ 0 (Y[i]!).isLt (by omega),λi k i' k' c hi hk hi' hk' hne Z h2=>?_,λc=>?_⟩⟩
  .obtain rfl:k=0:=by omega
   have Z:=(hHo i (by rw[B];exact hi)).1
   refine⟨enc Y[i]!,by simpa using Z,?_⟩
   show Rel D _ noR ((tyV t d ((B0 cf xs).getD i t.dflt)).getD 0 V.dead) (enc Y[i]!) (F (Y[i]!).val 0);rw[Bm ht];show Rel D _ noR (cV t d ((B0 cf xs).getD i t.dflt)) _ _;rw[hysi i hi];refine Rel.mono (λ_ h=>h) (λ_ _ h=>h) _ _ _ (λc U=>?_) (henc Y[i]!).2
   rcases U with U|U
   .exact hWb c (hDne c U) (hD c U)
   .exact hWb c (hFne _ c U) (hFlt _ c U)
  .obtain⟨fz,hb1,hb2⟩:=hblk
   refine⟨Go.Sort.putCells enc o Y bcs,bT,⟨fz,?_,?_⟩,?_⟩
   .unfold sortWorld
    rw[Go.Sort.heap_grow_old _ _ (by simpa [Go.Sort.putRow,Go.Sort.mapBlock,Go.Sort.ahead]using hblt)]
    simp[Go.Sort.putRow,Go.Sort.mapBlock,Go.Sort.ahead,Array.getElem?_modify,hb1,Go.Sort.onCells]
   .simpa [Go.Sort.putCells]using hb2
   .simpa [Go.Sort.putCells]using hroom
  .obtain rfl:k=0:=by omega
   obtain rfl:k'=0:=by omega
   have hii:i≠i':=by rcases hne with h|h<;>omega
   refine hFd (Y[i]!).val 0 (Y[i']!).val 0 c (Y[i]!).isLt (by omega) (Y[i']!).isLt (by omega) (.inl λe=>hii (hinj i i' hi hi' (Fin.ext e))) Z h2
  .rw[hHiff]
   constructor
   .rintro (h|⟨i,k,hi,hk,h⟩)
    .exact .inl h
    .obtain rfl:k=0:=by omega
     obtain⟨j,hj,he⟩:=hsurj ⟨i,hi⟩;exact .inr ⟨j,0,hj,by omega,by show F (Y[j]!).val 0 c;rw[he];exact h⟩
   .rintro (h|⟨i,k,hi,hk,h⟩)
    .exact .inl h
    .exact .inr ⟨(Y[i]!).val,0,(Y[i]!).isLt,by omega,h⟩
def oneSl(D:Nat->Prop)(w:World)(x:(Ty.sl t).T)(cv:Value)(fp:Nat->Prop)(h:Rel D w noR (cV (.sl t) d x) cv fp):cv.oneCell'=true:=by
 rcases h with⟨_,_,h3,_⟩|⟨b,o,cap,F,A,_⟩
 .obtain⟨a,B⟩:=B5 h3
  rw[B];rfl
 .rw[A];rfl
end Go.Ve


namespace Go.Ve.D
open Go Go.Ve Go.Proofs
variable{x y:List Int}
def okI(x:List Int):Prop:=x.length<4611686018427387904
def BG:List Int->List Int->Int
 |[],[]=>0
 |[],_::_=>-1
 |_::_,[]=>1
 |a::x,b::y=>if a=b then BG x y else if a<b then-1 else 1
noncomputable def b105(x y:List Int)(v0:Int):Option (LO Int Int):=(bif(decide (v0<((x.length:Nat):Int)))then(bif(decide (v0=((y.length:Nat):Int)))then(Ck (some (1:Int)))else(if(((0:Int)<=v0)/\(v0<((x.length:Nat):Int)))then(if(((0:Int)<=v0)/\(v0<((y.length:Nat):Int)))then(bif(!decide ((x.getD (v0).toNat (0:Int))=(y.getD (v0).toNat (0:Int))))then(if(((0:Int)<=v0)/\(v0<((x.length:Nat):Int)))then(if(((0:Int)<=v0)/\(v0<((y.length:Nat):Int)))then(bif(decide ((x.getD (v0).toNat (0:Int))<(y.getD (v0).toNat (0:Int))))then(Ck (some (-(1:Int))))else(Ck (some (1:Int))))else none)else none)else(some (LO.next (IntKind.wrap .i64 (v0+(1:Int))))))else none)else none))else(some (LO.brk 0 v0)))
def Adf(x y:List Int):G105 (x,y)=Option.bind (Aq (b105 x y) (0:Int)) (LO.fin λA (v0:Int)=>(if A=0 then(bif(decide (((x.length:Nat):Int)<((y.length:Nat):Int)))then(some (-(1:Int)))else(some (0:Int)))else none)):=rfl
def p105(hx:okI x)(hy:okI y):G105 (x,y)=some (BG x y):=by
 unfold okI at hx hy
 have U:b105 x y (x.length:Int)=some (.brk 0 (x.length:Int)):=by
  unfold b105;rw[dF (by omega)];rfl
 have H:∀i:Nat,i<x.length->i=y.length->b105 x y (i:Int)=some (.ret 1):=by
  intro i F A;unfold b105;rw[dT (by omega:((i:Nat):Int)<((x.length:Nat):Int)),dT (by omega:((i:Nat):Int)=((y.length:Nat):Int))]
  rfl
 have Y:∀i:Nat,i<x.length->i<y.length->x.getD i 0≠y.getD i 0->b105 x y (i:Int)=some (.ret (if x.getD i 0<y.getD i 0 then-1 else 1)):=by
  intro i F A h3;unfold b105;rw[dT (by omega:((i:Nat):Int)<((x.length:Nat):Int)),dF (by omega:¬ ((i:Nat):Int)=((y.length:Nat):Int)),cond_true,cond_false]
  have c1:((0:Int)<=(i:Int))/\((i:Int)<((x.length:Nat):Int)):=by omega
  have c2:((0:Int)<=(i:Int))/\((i:Int)<((y.length:Nat):Int)):=by omega
  rw[if_pos c1,if_pos c2,if_pos c1,if_pos c2,tNC,dF h3,Bool.not_false,cond_true];by_cases B:x.getD i 0<y.getD i 0
  .rw[dT B,if_pos B];rfl
  .rw[dF B,if_neg B];rfl
 have heq:∀i:Nat,i<x.length->i<y.length->x.getD i 0=y.getD i 0->b105 x y (i:Int)=some (.next ((i+1:Nat):Int)):=by
  intro i F A h3;unfold b105;rw[dT (by omega:((i:Nat):Int)<((x.length:Nat):Int)),dF (by omega:¬ ((i:Nat):Int)=((y.length:Nat):Int)),cond_true,cond_false]
  have c1:((0:Int)<=(i:Int))/\((i:Int)<((x.length:Nat):Int)):=by omega
  have c2:((0:Int)<=(i:Int))/\((i:Int)<((y.length:Nat):Int)):=by omega
  rw[if_pos c1,if_pos c2,tNC,dT h3,Bool.not_true,cond_false,Ij (by omega) (by omega)]
  rfl
 have key:∀k i,i+k=x.length->i<=y.length->(Aq (b105 x y) (i:Int)=some (.ret (BG (x.drop i) (y.drop i))))\/(Aq (b105 x y) (i:Int)=some (.brk 0 (x.length:Int))/\BG (x.drop i) (y.drop i)=if x.length<y.length then-1 else 0):=by
  intro k
  induction k with
  |zero=>
   intro i hi W;obtain rfl:i=x.length:=by omega
   right;refine⟨by rw[A7,U];rfl,?_⟩
   rw[List.drop_length];cases hd:y.drop x.length with
   |nil=>
    have:=List.drop_eq_nil_iff.1 hd;rw[if_neg (by omega)];rfl
   |cons a l=>
    have:x.length<y.length:=by
     rcases Nat.lt_or_ge x.length y.length with h|h
     .exact h
     .rw[List.drop_eq_nil_iff.2 h]at hd;cases hd
    rw[if_pos this];rfl
  |succ k ih=>
   intro i hi W;have F:i<x.length:=by omega
   have Z:x.drop i=x.getD i 0::x.drop (i+1):=by
    rw[List.drop_eq_getElem_cons F,gDE,gEE F];rfl
   by_cases A:i=y.length
   .left
    rw[A7,H i F A,Z,A,List.drop_length];rfl
   .have A:i<y.length:=by omega
    have ey:y.drop i=y.getD i 0::y.drop (i+1):=by
     rw[List.drop_eq_getElem_cons A,gDE,gEE A];rfl
    by_cases h3:x.getD i 0=y.getD i 0
    .have e:Aq (b105 x y) (i:Int)=Aq (b105 x y) ((i+1:Nat):Int):=by rw[A7,heq i F A h3];rfl
     have ec:BG (x.drop i) (y.drop i)=BG (x.drop (i+1)) (y.drop (i+1)):=by
      rw[Z,ey];show(if x.getD i 0=y.getD i 0 then _ else _)=_
      rw[if_pos h3]
     rw[e,ec];exact ih (i+1) (by omega) (by omega)
    .left
     rw[A7,Y i F A h3,Z,ey];show _=some (LO.ret (if x.getD i 0=y.getD i 0 then _ else if x.getD i 0<y.getD i 0 then-1 else 1))
     rw[if_neg h3];rfl
 rw[Adf];have h0:=key x.length 0 (by omega) (Nat.zero_le _)
 rw[List.drop_zero,List.drop_zero]at h0;rcases h0 with h|⟨h,hc⟩
 .refine Af h rfl
 .refine Af h ?_
  show(bif decide (((x.length:Nat):Int)<((y.length:Nat):Int))then some (-(1:Int))else some (0:Int))=_;rw[hc];by_cases hl:x.length<y.length
  .rw[dT (by omega),if_pos hl];rfl
  .rw[dF (by omega),if_neg hl];rfl
def Pa:∀x:List Int,BG x x=0
 |[]=>rfl
 |a::x=>by
  show(if a=a then BG x x else _)=0
  rw[if_pos rfl];exact Pa x
def CX:∀x y:List Int,BG y x= -BG x y
 |[],[]=>rfl
 |[],_::_=>rfl
 |_::_,[]=>rfl
 |a::x,b::y=>by
  show(if b=a then BG y x else if b<a then-1 else 1)= -(if a=b then BG x y else if a<b then-1 else 1)
  by_cases h:a=b
  .rw[if_pos h,if_pos h.symm];exact CX x y
  .rw[if_neg h,if_neg (Ne.symm h)]
   by_cases A:a<b
   .rw[if_pos A,if_neg (by omega)];rfl
   .rw[if_neg A,if_pos (by omega)]
def IN:∀x y:List Int,BG x y=0->x=y
 |[],[],_=>rfl
 |[],_::_,h=>by cases h
 |_::_,[],h=>by cases h
 |a::x,b::y,h=>by
  have h:(if a=b then BG x y else if a<b then-1 else 1)=0:=h
  by_cases A:a=b
  .rw[if_pos A]at h
   rw[A,IN x y h]
  .rw[if_neg A]at h
   split at h<;>cases h
def Ha:∀x y z:List Int,BG x y<0->BG y z<0->BG x z<0
 |[],[],_,h,_=>by cases h
 |[],_::_,[],_,h=>by cases h
 |[],_::_,_::_,_,_=>by show(-1:Int)<0;decide
 |_::_,[],_,h,_=>by cases h
 |_::_,_::_,[],_,h=>by cases h
 |a::x,b::y,c::z,H,B=>by
  have H:(if a=b then BG x y else if a<b then-1 else 1)<0:=H
  have B:(if b=c then BG y z else if b<c then-1 else 1)<0:=B
  show(if a=c then BG x z else if a<c then-1 else 1)<0
  by_cases F:a=b
  .rw[if_pos F]at H
   by_cases A:b=c
   .rw[if_pos A]at B
    rw[if_pos (F.trans A)];exact Ha x y z H B
   .rw[if_neg A]at B
    rw[if_neg (by omega)]
    split at B
    .rw[if_pos (by omega)];decide
    .cases B
  .rw[if_neg F]at H
   split at H
   .rename_i U
    by_cases A:b=c
    .rw[if_neg (by omega),if_pos (by omega)];decide
    .rw[if_neg A]at B
     split at B
     .rw[if_neg (by omega),if_pos (by omega)];decide
     .cases B
   .cases H
def P5:ltOf BG x y=true↔BG x y<0:=by unfold ltOf;simp
def Hl:ltOf BG x y=false↔0<=BG x y:=by unfold ltOf;simp
theorem swoL:Go.Sort.SWO (ltOf BG):=by
 refine⟨λx=>Hl.2 (by rw[Pa];decide),λx y z B A=>P5.2 (Ha x y z (P5.1 B) (P5.1 A)),λx y z B A=>Hl.2 ?_⟩
 have B:=Hl.1 B;have A:=Hl.1 A;by_cases H:BG x y=0
 .rw[IN x y H];exact A
 by_cases F:BG y z=0
 .rw[<-IN y z F];exact B
 have Y:=CX x y;have W:=CX y z;have:=Ha z y x (by omega) (by omega)
 have U:=CX z x;omega
def Ac9(x y:List Int)(B:ltOf BG x y=false)(A:ltOf BG y x=false):x=y:=by
 have B:=Hl.1 B;have A:=Hl.1 A;have n:=CX x y;exact IN x y (by omega)
end Go.Ve.D


namespace Go.Proofs
open Go.Shelf
def Try.sortL104_ren:Go.Shelf.Ren:=⟨fun|6=>104|15=>123|14=>150|28=>160|29=>161|20=>180|21=>181|22=>182|23=>183|24=>184|25=>185|26=>186|27=>187|46=>197|47=>189|48=>190|49=>198|50=>199|57=>201|n=>n,fun|22=>23|24=>22|25=>134|3=>3|39=>88|0=>0|53=>193|55=>195|4=>4|46=>186|45=>185|50=>190|5=>5|9=>9|66=>212|70=>216|76=>222|77=>223|n=>n,fun|n=>n⟩
def Try.sortL104:Go.Proofs.SlLaysF.n6 Try.prog Try.sortL104_ren:={
 mixed:=by kernel_rfl
 f6:=⟨Try.f104.name,by decide,Try.func104.trans (congrArg some (by kernel_rfl))⟩
 f14:=⟨Try.f150.name,by decide,Try.func150.trans (congrArg some (by kernel_rfl))⟩
 f15:=Try.func123.trans (congrArg some (by kernel_rfl))
 f20:=⟨Try.f180.name,by decide,Try.func180.trans (congrArg some (by kernel_rfl))⟩
 f21:=⟨Try.f181.name,by decide,Try.func181.trans (congrArg some (by kernel_rfl))⟩
 f22:=⟨Try.f182.name,by decide,Try.func182.trans (congrArg some (by kernel_rfl))⟩
 f23:=⟨Try.f183.name,by decide,Try.func183.trans (congrArg some (by kernel_rfl))⟩
 f24:=⟨Try.f184.name,by decide,Try.func184.trans (congrArg some (by kernel_rfl))⟩
 f25:=⟨Try.f185.name,by decide,Try.func185.trans (congrArg some (by kernel_rfl))⟩
 f26:=⟨Try.f186.name,by decide,Try.func186.trans (congrArg some (by kernel_rfl))⟩
 f27:=⟨Try.f187.name,by decide,Try.func187.trans (congrArg some (by kernel_rfl))⟩
 f28:=Try.func160.trans (congrArg some (by kernel_rfl))
 f29:=Try.func161.trans (congrArg some (by kernel_rfl))
 f46:=⟨Try.f197.name,by decide,Try.func197.trans (congrArg some (by kernel_rfl))⟩
 f47:=Try.func189.trans (congrArg some (by kernel_rfl))
 f48:=Try.func190.trans (congrArg some (by kernel_rfl))
 f49:=⟨Try.f198.name,by decide,Try.func198.trans (congrArg some (by kernel_rfl))⟩
 f50:=⟨Try.f199.name,by decide,Try.func199.trans (congrArg some (by kernel_rfl))⟩
 f57:=⟨Try.f201.name,by decide,Try.func201.trans (congrArg some (by kernel_rfl))⟩
 t0:=Try.underlying0
 a0:=Try.isAgg0
 z0:=Try.sizeOf0
 v0:=Try.zeroValue0
 t3:=Try.underlying3
 a3:=Try.isAgg3
 z3:=Try.sizeOf3
 v3:=Try.zeroValue3
 t4:=Try.underlying4
 a4:=Try.isAgg4
 z4:=Try.sizeOf4
 v4:=Try.zeroValue4
 t5:=Try.underlying5
 a5:=Try.isAgg5
 z5:=Try.sizeOf5
 v5:=Try.zeroValue5
 t9:=Try.underlying9
 a9:=Try.isAgg9
 z9:=Try.sizeOf9
 v9:=Try.zeroValue9
 t22:=Try.underlying23
 a22:=Try.isAgg23
 z22:=Try.sizeOf23
 v22:=Try.zeroValue23
 a24:=Try.isAgg22
 z24:=Try.sizeOf22
 t25:=Try.underlying134
 a25:=Try.isAgg134
 z25:=Try.sizeOf134
 v25:=Try.zeroValue134
 t39:=Try.underlying88
 a39:=Try.isAgg88
 z39:=Try.sizeOf88
 v39:=Try.zeroValue88
 t45:=Try.underlying185
 a45:=Try.isAgg185
 z45:=Try.sizeOf185
 v45:=Try.zeroValue185
 t46:=Try.underlying186
 a46:=Try.isAgg186
 z46:=Try.sizeOf186
 v46:=Try.zeroValue186
 t50:=Try.underlying190
 a50:=Try.isAgg190
 z50:=Try.sizeOf190
 v50:=Try.zeroValue190
 t53:=Try.underlying193
 a53:=Try.isAgg193
 z53:=Try.sizeOf193
 v53:=Try.zeroValue193
 t55:=Try.underlying195
 a55:=Try.isAgg195
 z55:=Try.sizeOf195
 v55:=Try.zeroValue195
 t66:=Try.underlying212
 a66:=Try.isAgg212
 z66:=Try.sizeOf212
 v66:=Try.zeroValue212
 t70:=Try.underlying216
 a70:=Try.isAgg216
 z70:=Try.sizeOf216
 v70:=Try.zeroValue216
 t76:=Try.underlying222
 a76:=Try.isAgg222
 z76:=Try.sizeOf222
 v76:=Try.zeroValue222
 t77:=Try.underlying223
 a77:=Try.isAgg223
 z77:=Try.sizeOf223
 v77:=Try.zeroValue223}
end Go.Proofs
namespace Go.Ve.D
open Go Go.Ve Go.Proofs Go.Shelf Go.RowKit
theorem c104:FTU Try.prog 104 ⟨0,[(false,(.clo 105 .unit))],(.sl (.sl (.int .i64))),2,false,[]⟩ (λ_ x=>Vj okI BG x):=Zl (ρ:=Try.sortL104_ren) Try.sortL104 (t:=.sl (.int .i64)) rfl (d:=1) (g:=105) rfl c105.1 c105.2 okI BG (λ_ _ B A=>p105 B A) swoL Ac9 oneSl
def W0(p:Option Addr)(cap:Nat)(A:Value)(w:World):Calls Try.prog 104 #[.slice p 0 cap,A] w λe w'=>e=.returned (.tuple #[])/\w'=w:=AnyF.slices_SortFunc_none (ρ:=Try.sortL104_ren) {Try.sortL104 with} p cap A w
def Zk{xs:List (List Int)}(U:xs.length<4611686018427387904)(Y:∀x∈xs,okI x)(w:World)(D H:Nat->Prop)(v:Value)(A:Wok w)(B:∀p,WD=some p->¬H p.1)(hD:∀b,D b->b<w.heap.size)(Z:∀b,H b->¬D b)
  (hr:Rel D w noR (cV (.sl (.sl (.int .i64))) 2 xs) v H):
  Calls Try.prog 104 #[v,.func (.func 105) #[] #[]] w λe w'=>e=.returned (.tuple #[])/\∃D' H',Fr w w' H/\Rel D' w' noR (cV (.sl (.sl (.int .i64))) 2 (B0 BG xs)) v H'/\(∀b,H' b->H b\/w.heap.size<=b)/\(∀b,D b->D' b)/\(∀b,D' b->D b\/H b\/w.heap.size<=b)/\∀b,D' b->b<w'.heap.size/\¬H' b:=by
 by_cases h0:0<xs.length
 .have h:=c104 () xs ((),B0 BG xs) (by
   show Vj okI BG xs=_;unfold Vj;rw[if_pos ⟨h0,U,Y⟩];rfl) w D H #[v,.func (.func 105) #[] #[]] A B hD Z rfl hr (λi hi h1=>by
   have hi:i<2:=hi;have h1:i≠0:=h1;obtain rfl:i=1:=by omega
   exact⟨#[],λ_=>noF,(show(_:Value)=Abi 105 #[]from(Pb rfl).symm),rfl,λk A=>absurd A (not_lt_zero _),λk _ _ A=>absurd A (not_lt_zero _),λc=>⟨λh=>h.elim,fun⟨k,A,_⟩=>absurd A (not_lt_zero _)⟩⟩)
  refine h.mono ?_
  rintro e w' ⟨cv,fp,D',H',rfl,hF,hr1,hr2,_,h4,_,h6,h7,h8⟩
  obtain⟨cs,_,hp,hz,_⟩:=hr1;have hp:cv=.tuple cs:=hp;refine⟨by rw[hp,Array.eq_empty_of_size_eq_zero hz],D',H',hF,hr2,h4,h6,h7,λb W=>⟨(h8 b W).1,(h8 b W).2.2⟩⟩
 .have hx:xs=[]:=List.length_eq_zero_iff.1 (by omega)
  subst hx;have hs:B0 BG ([]:List (List Int))=[]:=by unfold B0;simp
  have hv:∃p cap,v=.slice p 0 cap:=by
   rcases hr with⟨_,_,h3,_⟩|⟨b,o,cap,F,hcv,_⟩
   .obtain⟨a,ha⟩:=B5 h3
    exact⟨a,0,ha⟩
   .exact⟨_,cap,hcv⟩
  obtain⟨p,cap,rfl⟩:=hv;refine(W0 p cap _ w).mono ?_
  rintro e w' ⟨rfl,rfl⟩
  rw[hs];exact⟨rfl,D,H,⟨rfl,rfl,rfl,Nat.le_refl _,λc _ _=>rfl,Nat.le_refl _⟩,hr,λ_ h=>.inl h,λ_ h=>h,λ_ h=>.inl h,λb W=>⟨hD b W,λh=>Z b h W⟩⟩
noncomputable def ascG(xs:List (List Int)):Option (List (List Int)×List (List Int)):=by
 classical exact if xs.length<4611686018427387904/\∀x∈xs,okI x then some (B0 BG xs,[])else none
def S60:Add:=⟨0,[],(.sl (.sl (.int .i64))),2,true,[(false,2,(.sl (.sl (.int .i64))))]⟩
noncomputable def G60(_:Unit)(x:List (List Int)):Option (List (List Int)×List (List Int)):=ascG x
def a60:AE Try.prog 60=true:=by kernel_rfl
set_option maxRecDepth 1000000 in
def Aaw(v:Value)(w:World)(Q:World->Prop)(h0:Calls Try.prog 104 #[v,.func (.func 105) #[] #[]] w λe w'=>e=.returned (.tuple #[])/\Q w'):
  Calls Try.prog 60 #[v] w λe w'=>e=.returned v/\Q w':=by
 have mixed:Try.prog.follows .mixedOrders=true:=by kernel_rfl
 go_enter Try.func60,(show Try.f60.ntmps=6 from rfl)
 go_wp2_with (first|(refine h0.mono ?_;rintro e w' ⟨rfl,hq⟩))
 go_ret
 exact⟨rfl,hq⟩
def c60:FTU Try.prog 60 S60 G60:=by
 intro z xs u F;have F:ascG xs=some u:=F;unfold ascG at F;split at F
 case isFalse=>cases F
 rename_i hc;cases F;intro w D H cvs hk U hD Z A B _;have A:cvs.size=1:=A;have W:cvs= #[cvs.getD 0 undef]:=by
  apply Array.ext
  .simpa using A
  .intro q h1 h2
   have h2:q<1:=h2;obtain rfl:q=0:=by omega
   simp[A]
 have hr:Rel D w noR (cV (.sl (.sl (.int .i64))) 2 xs) (cvs.getD 0 undef) H:=B;show Calls Try.prog 60 cvs w _;rw[W];generalize cvs.getD 0 undef=v at hr;refine(Aaw v w (λw'=>∃D' H',Fr w w' H/\Rel D' w' noR (cV (.sl (.sl (.int .i64))) 2 (B0 BG xs)) v H'/\(∀b,H' b->H b\/w.heap.size<=b)/\(∀b,D b->D' b)/\(∀b,D' b->D b\/H b\/w.heap.size<=b)/\∀b,D' b->b<w'.heap.size/\¬H' b) (Zk hc.1 hc.2 w D H v hk U hD Z hr)).mono ?_
 .rintro e w' ⟨rfl,D',H',hF,Y,h4,h6,h7,h8⟩
  exact⟨v,H',D',noF,rfl,hF,Y,λ_ h=>h,h4,λ_ h=>h.elim,λ_ _ h=>h,h6,h7,λb hb=>⟨(h8 b hb).1,(h8 b hb).2,λh=>h⟩⟩
end Go.Ve.D

