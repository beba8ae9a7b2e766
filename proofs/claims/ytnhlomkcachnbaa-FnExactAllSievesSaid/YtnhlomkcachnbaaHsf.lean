/- Sieves: both answers are the same. -/
import Derived.Test.YtnhlomkcachnbaaHsd
namespace Go.Ve.D
open Go Go.Ve Go.Proofs
theorem U7{xs ys:List (List Int)}(hp:ys.Perm xs):CI Bg ys=CI Bg xs:=by
 refine Dj XM ZA ((List.mergeSort_perm ys _).trans hp) (List.pairwise_mergeSort (fun a b c h1 h2=>?_) (fun a b=>?_) ys)
 ·exact Na h1 h2
 ·show(!ltOf Bg b a|| !ltOf Bg a b)=true
  cases h1:ltOf Bg b a with
  |false=>rfl
  |true=>
   cases h2:ltOf Bg a b with
   |false=>rfl
   |true=>
    have:=XM.trans _ _ _ h1 h2;rw [XM.irrefl]at this;cases this
def okLL(p:List (List Int)):Prop:=p.length<=1048576/\∀y∈p,y.length<=1048576
theorem p77{c:Cat}(hc:Dd c=true){x:Int}:(∃L,okLL L/\G79 (c,x)=some (L,true)/\G77 (c,x)=some (L,true))\/(∃L,G79 (c,x)=some ([],false)/\G77 (c,x)=some (L,false)):=by
 have h:=Hx hc;have har:ar c<=40:=h.hd.2.1;have har':c.2.1.length=ar c:=rfl;obtain⟨F,hF,hD,_,hcl⟩:=p134 hc (x:=x) 4096 [] [] .nil ⟨.nil,(fun s hs=>by cases hs),Nat.zero_le _⟩ (by simp)
 have h88:G88 F=some (CI Bg F):=p88 (fun s hs=>(hD.rc s hs).ok h) (by have:=hD.le;omega)
 have h77:G77 (c,x)=some (CI Bg F,decide ((F.length:Int)<=16)):=by
  refine Aj (p135 (c:=c) (by omega) x) ?_
  refine Aj (a:=G134 (c,(H0 c x,[])) []) hF ?_;exact Aj h88 rfl
 have hend:F.length<=16->∀s,Rch c x s->s∈F:=fun h16=>by
  obtain⟨k1,k2⟩:=hcl h16;exact UY k1 fun t ht a ha=>k2 t ht (by simp) a ha
 rcases p79 hc (x:=x)with⟨out,hB,hoc,h79⟩|⟨⟨L,l1,l2,l3⟩,h79⟩
 ·left
  have hsub:F.length<=out.length:=List.Nodup.length_le_of_subset hD.nd fun s hs=>UY hB.nil hoc s (hD.rc s hs)
  have h16:F.length<=16:=Nat.le_trans hsub hB.le;have hp:F.Perm out:=(List.perm_ext_iff_of_nodup hD.nd hB.nd).2 fun s=>⟨fun hs=>UY hB.nil hoc s (hD.rc s hs),fun hs=>hend h16 s (hB.rc s hs)⟩
  refine⟨CI Bg out,⟨?_,fun y hy=>?_⟩,h79,?_⟩
  ·unfold CI
   rw [(List.mergeSort_perm out _).length_eq];have:=hB.le;omega
  ·have hy:=(List.mergeSort_perm out _).mem_iff.1 hy
   have:=(hB.rc y hy).len;omega
  ·rw [h77,U7 hp,dT (by omega)]
 ·right
  have h17: ¬F.length<=16:=fun h16=>by
   have:=List.Nodup.length_le_of_subset l1 fun s hs=>hend h16 s (l3 s hs)
   omega
  exact⟨CI Bg F,h79,by rw [h77,dF (by omega)]⟩
def svC(c:Cat)(x:Int):Int:=bif Dd c then(bif inn c.1 x then 0 else 2)else 1
theorem p76{c:Cat}(hc:okC c){x:Int}:G76 (c,x)=some (svC c x):=by
 refine Aj (a:=G82 c) (p82 hc) ?_;unfold svC;cases Dd c with
 |false=>rfl
 |true=>
  show Option.bind (G133 (c,x)) _=_;unfold G133 inn;simp only;cases decide ((0:Int)<=x)<;>cases decide (x<c.1)<;>rfl
theorem p78{c:Cat}(hc:okC c){x:Int}:G78 (c,[x])=some (svC c x):=by
 refine Aj (a:=G89 c) (p89 hc) ?_;unfold svC;cases h:Dd c with
 |false=>rfl
 |true=>
  have h:=Hx h;have hn:=h.hd.1;refine Aj (a:=G127 ([x],c.1)) (p127 (n:=c.1) (x:=[x]) ⟨hn.1,by omega⟩ (by simp)) ?_
  show(bif !([x].all (inn c.1))then some (2:Int)else some 0)=_;rw [List.all_cons,List.all_nil,Bool.and_true];cases inn c.1 x<;>rfl
def msk(l:List (List Int))(i:Nat):List (Option (List Int)):=(List.range l.length).map fun j=>if j<i then none else some (l.getD j [])
theorem Y6{l:List (List Int)}{i:Nat}:(msk l i).length=l.length:=by simp [msk]
theorem Y7{l:List (List Int)}{i:Nat}(hi:i<l.length):(msk l i).getD i (some ([]:List Int))=some (l.getD i []):=by
 unfold msk;rw [gDE,List.getElem?_map,List.getElem?_range hi];show(if i<i then none else some (l.getD i []))=_
 rw [if_neg (Nat.lt_irrefl _)]
theorem Y5{l:List (List Int)}{i:Nat}(hi:i<l.length):(msk l i).set i none=msk l (i+1):=by
 unfold msk;refine List.ext_getElem? fun j=>?_
 rw [List.getElem?_set];by_cases hj:j<l.length
 ·rw [List.getElem?_map,List.getElem?_map,List.getElem?_range hj,List.length_map,List.length_range]
  by_cases e:i=j
  ·subst e
   rw [if_pos rfl,if_pos hi];show some none=some (if i<i+1 then none else _)
   rw [if_pos (Nat.lt_succ_self _)]
  ·rw [if_neg e]
   show some (if j<i then none else some (l.getD j []))=some (if j<i+1 then none else some (l.getD j []))
   by_cases h1:j<i
   ·rw [if_pos h1,if_pos (by omega)]
   ·rw [if_neg h1,if_neg (by omega)]
 ·have e1:(List.range l.length)[j]? =none:=List.getElem?_eq_none (by simp;omega)
  rw [List.getElem?_map,List.getElem?_map,e1,if_neg (by omega)]
  rfl
theorem msk_0{l:List (List Int)}:JI l=msk l 0:=by
 unfold msk JI;refine List.ext_getElem? fun j=>?_
 by_cases hj:j<l.length
 ·rw [List.getElem?_map,List.getElem?_map,List.getElem?_range hj,gEE hj]
  show some (some l[j])=some (if j<0 then none else some (l.getD j []))
  rw [if_neg (Nat.not_lt_zero _),gDE,gEE hj];rfl
 ·rw [List.getElem?_map,List.getElem?_map,List.getElem?_eq_none (by omega),List.getElem?_eq_none (by simp;omega)]
  rfl
theorem Xf{x:List Int}:isO (some x)=true:=rfl
theorem VH{x:List Int}:X5 (some x)=x:=rfl
theorem p4042{c:Cat}(hc:okC c){x:Int}: ∃r:List (List Int)×Int,okLL r.1/\G40 (c,x)=some r/\G42 (c,x)=some r:=by
 have e76:=p76 hc (x:=x);have e78:=p78 hc (x:=x);by_cases h0:svC c x=0
 ·have hcat:Dd c=true:=by
   unfold svC at h0;cases h:Dd c with
   |true=>rfl
   |false=>rw [h]at h0;cases h0
  rw [h0]at e76 e78;rcases p77 hcat (x:=x)with⟨L,hL,h79,h77⟩|⟨L,h79,h77⟩
  ·refine⟨(L,0),hL,?_,?_⟩
   ·refine Aj (a:=G76 (c,x)) e76 ?_
    exact Aj (a:=G77 (c,x)) h77 rfl
   ·refine Aj (a:=G78 (c,[x])) e78 ?_
    refine Aj (a:=G79 (c,x)) h79 ?_;refine Aj (v:=.brk 0 ((L.length:Int),(msk L L.length,L))) ?_ rfl
    have key:=A7 (R:=List (List Int)×Int) (st:=fun i:Nat=>((i:Int),(msk L i,L.take i))) (n:=L.length) (o:=.brk 0 ((L.length:Int),(msk L L.length,L)))
     (f:=(fun(v2:(Int×((List (Option (List Int)))×(List (List Int)))))=>(bif(decide (v2.1<((L.length:Nat):Int)))then(if(((0:Int)<=v2.1)/\(v2.1<((v2.2.1.length:Nat):Int)))then(if((isO (v2.2.1.getD (v2.1).toNat (some ([]:(List Int)))))=true)then(if True then(if((v2.2.2.length+((X5 (v2.2.1.getD (v2.1).toNat (some ([]:(List Int)))))::([]:(List (List Int)))).length)<=5864062014805)then(some (LO.next ((IntKind.wrap .i64 (v2.1+(1:Int))),((v2.2.1.set (v2.1).toNat (none:Option (List Int))),(v2.2.2++((X5 (v2.2.1.getD (v2.1).toNat (some ([]:(List Int)))))::([]:(List (List Int)))))))))else none)else none)else none)else none)else(some (LO.brk 0 (v2.1,(v2.2.1,v2.2.2)))))))
     (fun i hi=>?_) ?_ (fun y=>by simp)
    ·rw [show(([]:List (List Int))=L.take 0) by simp]
     show Au _ ((0:Int),(JI L,L.take 0))=_;rw [msk_0];exact key
    ·have hl:=hL.1
     have hm:i<(msk L i).length:=by rw [Y6];exact hi
     have hfl:(L.take i).length<=i:=by rw [List.length_take];omega
     simp only [Am,hi,decide_true,cond_true,Af hm,and_self,if_true,tNC,Y7 hi,Xf,VH];rw [Ax (by omega) (by omega),if_pos (show(L.take i).length+ [L.getD i []].length<=5864062014805 by show _+1<=_;omega),CH [] hi,Y5 hi]
     rfl
    ·simp only [Am,Nat.lt_irrefl,decide_false,cond_false,List.take_length]
  ·refine⟨([],3),⟨Nat.zero_le _,fun y hy=>by cases hy⟩,?_,?_⟩
   ·refine Aj (a:=G76 (c,x)) e76 ?_
    exact Aj (a:=G77 (c,x)) h77 rfl
   ·refine Aj (a:=G78 (c,[x])) e78 ?_
    exact Aj (a:=G79 (c,x)) h79 rfl
 ·have hd:decide (svC c x=0)=false:=dF h0
  refine⟨([],svC c x),⟨Nat.zero_le _,fun y hy=>by cases hy⟩,?_,?_⟩
  ·refine Aj (a:=G76 (c,x)) e76 ?_
   simp only [hd,Bool.not_false,cond_true]
  ·refine Aj (a:=G78 (c,[x])) e78 ?_
   simp only [hd,Bool.not_false,cond_true]
end Go.Ve.D


namespace Go.Ve.D
open Go Go.Ve Go.Proofs
theorem p22{x:List (List Int)}{k:Int}(h0:0<=k)(h1:k<=1125899906842624)(h:x.length<=1048576)(hx: ∀y∈x,y.length<=1048576):G22 (mks x k,k)=some (k+(tot x x.length:Int)):=by
 unfold G22;have hst:((k,(0:Int)):Int×Int)=(fun i:Nat=>(k+(tot x i:Int),(i:Int))) 0:=by simp [tot]
 simp only [hst];refine Aj (v:=.brk 0 (k+(tot x x.length:Int),(x.length:Int))) (A7 (st:=fun i:Nat=>(k+(tot x i:Int),(i:Int))) (n:=x.length) (fun i hi=>?_) ?_ (fun y=>by simp)) rfl
 ·have ht:=L9 hx i (Nat.le_of_lt hi)
  have hr:=hx _ (Bo [] hi);have m: ¬ (k+(tot x i:Int)+((x.getD i []).length:Int)<0):=by omega
  simp only [C7,Am,hi,decide_true,cond_true,Af hi,if_true,tNC,and_self,Vj hi,p65 (x:=x.getD i []) (k:=k+(tot x i:Int)) (by omega) (by omega) hr,Option.bind_some,m,decide_false,cond_false]
  rw [Ax (by omega) (by omega),KV hi]
  simp only [Int.natCast_add,Int.add_assoc];rfl
 ·simp only [C7,Am,Nat.lt_irrefl,decide_false,cond_false]
theorem mk21{x:List (List Int)}{k:Int}(h0:0<=k)(h1:k<=1125899906842624)(h:x.length<=1048576)(hx: ∀y∈x,y.length<=1048576): ∃k' y,G21 (x,k)=some (k',y)/\0<=k'/\k'<=k+1099511627776:=by
 have ht:=L9 hx x.length (Nat.le_refl _);exact⟨_,_,p21 h0 h1 h hx,by omega,by omega⟩
theorem mk44{c:Cat}{k:Int}(h0:0<=k)(h1:k<=562949953421312)(h:okC c): ∃r,G44 (c,k)=some r/\0<=r.1/\r.1<=k+8796093022208:=by
 obtain⟨g1,g2,g3,g4,g5⟩:=h;obtain⟨k1,y1,a1,b1,c1,d1⟩:=mh27 h0 (by omega) g1
 obtain⟨k2,y2,a2,b2,c2,d2⟩:=mh27 b1 (by omega) g2
 obtain⟨k3,y3,a3,b3,c3,d3⟩:=mh27 b2 (by omega) g3
 obtain⟨k4,y4,a4,b4,c4⟩:=mk21 b3 (by omega) g4 g5
 refine⟨(k4,(y1,(y2,(y3,y4)))),?_,b4,by show k4<=_;omega⟩
 unfold G44;simp only [a1,a2,a3,a4,Option.bind_some]
theorem mh21{p:List (List Int)}(hp:okLL p): ∃k y,G21 (p,1)=some (k,y)/\0<=k/\G22 (y,1)=some k:=by
 have ht:=L9 hp.2 p.length (Nat.le_refl _);exact⟨1+(tot p p.length:Int),mks p 1,p21 (x:=p) (k:=1) (by omega) (by omega) hp.1 hp.2,by omega,p22 (x:=p) (k:=1) (by omega) (by omega) hp.1 hp.2⟩
theorem p6(x:Cat×Int)(h:okT (PT S6.ps) x):G6 x=some true:=by
 obtain⟨c,x⟩:=x;obtain⟨⟨_,h1,h2,h3,h4⟩,_⟩:=h;obtain⟨r,e0,f0⟩:=p39 (c:=c) h1.1 h2.1 h3.1 h4.1 (fun y hy=>(h4.2 y hy).1)
 by_cases n0:r<0
 ·unfold G6
  simp only [Prod.eta,e0,n0,Option.bind_some,decide_true,cond_true]
 have hc:=(f0.resolve_left n0).2.2;have e41:=p41 hc;obtain⟨a,ha,e40,e42⟩:=p4042 hc (x:=x);have g1:=p16 ha.1 ha.2;have g2:=p43 hc;obtain⟨r44,e44,b2,_⟩:=mk44 (c:=c) (k:=1) (by omega) (by omega) hc
 obtain⟨k,y,e21,c4,e22⟩:=mh21 ha;have m1: ¬ (r44.1<0):=by omega
 have m2: ¬ (k<0):=by omega
 unfold G6;simp only [Prod.eta,e0,n0,decide_false,cond_false,e41,e40,e42,g1,g2,e44,e21,e22,m1,m2,Option.bind_some,Bool.not_true,decide_true,cond_true]
end Go.Ve.D

