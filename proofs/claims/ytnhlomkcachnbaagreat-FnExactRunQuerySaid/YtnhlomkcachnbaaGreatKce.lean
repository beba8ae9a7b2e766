/- Queries: the tuple of a number. -/
import Derived.Test.YtnhlomkcachnbaaGreatKca
namespace Go.Ve.D
open Go Go.Ve
noncomputable section
def nmN(x:List Int)(k:Nat):Nat->Nat
 |0=>k
 |j+1=>nmN x k j/(x.getD (x.length-1-j) 0).toNat
def dig(x:List Int)(k e:Nat):Int:=((nmN x k (x.length-1-e) % (x.getD e 0).toNat:Nat):Int)
def CB(x:List Int)(k:Nat):List Int:=(List.range x.length).map (dig x k)
theorem nm_le(x:List Int)(k:Nat): ∀j,nmN x k j<=k
 |0=>Nat.le_refl _
 |j+1=>Nat.le_trans (Nat.div_le_self _ _) (nm_le x k j)
theorem WW{x:List Int}(h:Few x)(hz: ∀i,i<x.length->x.getD i 0≠0){k:Nat}(hk:k<=1000000000000){R:Type}{F:Int×Int×List Int->Option (LO (Int×Int×List Int) R)}
  (hF:F=fun v0=>(bif(decide ((0:Int)<=v0.2.1))then(if(((0:Int)<=v0.2.1)/\(v0.2.1<((x.length:Nat):Int)))then(if((x.getD (v0.2.1).toNat (0:Int))≠(0:Int))then(if(((0:Int)<=v0.2.1)/\(v0.2.1<((v0.2.2.length:Nat):Int)))then(if(((0:Int)<=v0.2.1)/\(v0.2.1<((x.length:Nat):Int)))then(if((x.getD (v0.2.1).toNat (0:Int))≠(0:Int))then(some (LO.next ((IntKind.wrap .i64 (Int.tdiv v0.1 (x.getD (v0.2.1).toNat (0:Int)))),((IntKind.wrap .i64 (v0.2.1-(1:Int))),(v0.2.2.set (v0.2.1).toNat (Int.tmod v0.1 (x.getD (v0.2.1).toNat (0:Int))))))))else none)else none)else none)else none)else none)else(some (LO.brk 0 (v0.1,(v0.2.1,v0.2.2)))))):
  Au F ((k:Int),((IntKind.wrap .i64 ((x.length:Int)-1)),List.replicate x.length (0:Int)))=some (.brk 0 (((nmN x k x.length:Nat):Int),((x.length:Int)-1-(x.length:Int),CB x k))):=by
 subst hF;have hl:=h.l;have ew:IntKind.wrap .i64 ((x.length:Int)-1)=(x.length:Int)-1-((0:Nat):Int):=by rw [Cm (by omega) (by omega)];omega
 have e0:List.replicate x.length (0:Int)=(List.range x.length).map fun e=>if x.length<=e+0 then dig x k e else 0:=by
  have:((List.range x.length).map fun e=>if x.length<=e+0 then dig x k e else 0)=(List.range x.length).map fun _=>(0:Int):=List.map_congr_left fun e he=>if_neg (by have:=List.mem_range.1 he;omega)
  rw [this];simp [List.map_const']
 rw [ew,e0];refine AC (st:=fun j:Nat=>(((nmN x k j:Nat):Int),((x.length:Int)-1-(j:Int),(List.range x.length).map fun e=>if x.length<=e+j then dig x k e else 0))) (n:=x.length) (fun j hj=>?_) ?_ (fun y=>by simp)
 ·obtain⟨i,hi⟩: ∃i:Nat,i=x.length-1-j:=⟨_,rfl⟩
  have hii:(x.length:Int)-1-(j:Int)=(i:Int):=by omega
  have hix:i<x.length:=by omega
  obtain⟨g1,g2⟩:=h.get hix;obtain⟨b,hb⟩: ∃b:Nat,x.getD i 0=(b:Int):=⟨(x.getD i 0).toNat,by omega⟩
  have hbz:(b:Int)≠0:=by rw [<-hb];exact hz i hix
  have hnm:=nm_le x k j;have hdv:nmN x k (j+1)=nmN x k j/b:=by show _/(x.getD (x.length-1-j) 0).toNat=_;rw [<-hi,hb,tNC]
  have hdg:dig x k i=((nmN x k j % b:Nat):Int):=by
   unfold dig;rw [show x.length-1-i=j by omega,hb,tNC]
  have h0:decide ((0:Int)<=(i:Int))=true:=dT (by omega)
  simp only [hii,h0,cond_true,Ad hix,hb,List.length_map,List.length_range,and_self,if_true,tNC];rw [if_pos hbz,if_pos hbz];have e1:Int.tdiv ((nmN x k j:Nat):Int) (b:Int)=((nmN x k j/b:Nat):Int):=rfl;have e2:Int.tmod ((nmN x k j:Nat):Int) (b:Int)=((nmN x k j % b:Nat):Int):=rfl;have hle:nmN x k j/b<=nmN x k j:=Nat.div_le_self _ _;rw [e1,e2,An (n:=((nmN x k j/b:Nat):Int)) (by omega) (by omega),Cm (n:=(i:Int)-1) (by omega) (by omega),Lz,<-hdv,<-hdg]
  have e3:((List.range x.length).map fun e=>if e=i then dig x k i else if x.length<=e+j then dig x k e else 0)=(List.range x.length).map fun e=>if x.length<=e+(j+1)then dig x k e else 0:=List.map_congr_left fun e he=>by
   have:=List.mem_range.1 he;by_cases h1:e=i
   ·subst h1;rw [if_pos rfl,if_pos (by omega)]
   ·rw [if_neg h1]
    by_cases h2:x.length<=e+j
    ·rw [if_pos h2,if_pos (by omega)]
    ·rw [if_neg h2,if_neg (by omega)]
  rw [e3,show(i:Int)-1=(x.length:Int)-1-((j+1:Nat):Int) by omega]
  rfl
 ·have e:decide ((0:Int)<=(x.length:Int)-1-(x.length:Int))=false:=dF (by omega)
  have e4:((List.range x.length).map fun e=>if x.length<=e+x.length then dig x k e else 0)=CB x k:=List.map_congr_left fun e _=>if_pos (by omega)
  simp only [e,cond_false,e4]
theorem p44{x:List Int}(h:Few x)(hz: ∀i,i<x.length->x.getD i 0≠0){k:Nat}(hk:k<=1000000000000):G44 (x,(k:Int))=some (CB x k):=by
 have hl:=h.l;unfold G44;have hG:(0:Int)<=(x.length:Int)/\((x.length:Int)<=(x.length:Int)/\((8:Int)*(x.length:Int)<=(281474976710656:Int)/\(x.length:Int)<=(9223372036854775807:Int))):=by omega
 simp only;rw [if_pos hG,tNC];exact Ap (WW h hz hk rfl) rfl
theorem p80{x:List Int}(h:Few x):G80 x=some true:=by
 have hl:=h.l;unfold G80;refine Zj (n:=x.length) (p:=fun _=>true) (bad:=fun r:Bool=>r=false) (id:=0) (Post:=fun b (o:Option Bool)=>b=true->o=some true) (fun i hi=>?_) ?_ (fun _=>rfl) (fun r hr h=>by cases h) (aET.2 fun _ _=>rfl)
 ·obtain⟨g1,g2⟩:=h.get hi
  have e:G87 (x.getD i 0)=some true:=Ap (a:=G77 (x.getD i 0,((0:Int),(256:Int)))) (p77 _ _ _) (by rw [dT g1,dT (show x.getD i 0<=256 by omega)];rfl)
  simp only [Ag,hi,decide_true,cond_true,Ad hi,and_self,if_true,tNC,e,Option.bind_some];rw [An (by omega) (by omega)]
  exact DB rfl
 ·simp only [Ag,Nat.lt_irrefl,decide_false,cond_false]
theorem p66{x:List Int}(h:Few x)(hz: ∀i,i<x.length->x.getD i 0≠0){k:Nat}(hk:k<Go.Ve.D.prd x):G66 (x,(k:Int))=some (CB x k,0):=by
 have hl:=h.l;have hp:=h.prd x.length;rw [List.take_length]at hp;have hG:(0:Int)<=(x.length:Int)/\((x.length:Int)<=(x.length:Int)/\((8:Int)*(x.length:Int)<=(281474976710656:Int)/\(x.length:Int)<=(9223372036854775807:Int))):=by omega
 refine Ap (a:=G80 x) (p80 h) ?_;refine Ap (a:=G64 x) (p64 h) ?_;have n1: ¬ ((1000000000000:Int)<((Go.Ve.D.prd x:Nat):Int)):=by omega
 simp only [dF n1,cond_false];rw [Cm (by omega) (by omega)]
 refine Ap (p77 _ _ _) ?_;rw [dT (show(0:Int)<=(k:Int) by omega),dT (show(k:Int)<=((Go.Ve.D.prd x:Nat):Int)-1 by omega)]
 simp only [Bool.and_self,Bool.not_true,cond_false];rw [if_pos hG,tNC];exact Ap (WW h hz (by omega) rfl) rfl
end
end Go.Ve.D


namespace Go.Ve.D
open Go Go.Ve
noncomputable section
theorem DK{x:List Int}{k:Nat}:(CB x k).length=x.length:=by simp [CB]
theorem Lg{x:List Int}{k e:Nat}(he:e<x.length):(CB x k).getD e 0=dig x k e:=by
 unfold CB;rw [gDE,List.getElem?_map,List.getElem?_range he];rfl
theorem Zf{x:List Int}(h:Few x){k e:Nat}(he:e<x.length)(hz:x.getD e 0≠0):0<=dig x k e/\dig x k e<x.getD e 0:=by
 obtain⟨g1,g2⟩:=h.get he;unfold dig;have:=Nat.mod_lt (nmN x k (x.length-1-e)) (show 0<(x.getD e 0).toNat by omega)
 omega
theorem NN{x:List Int}{k:Nat}(hk:k<Go.Ve.D.prd x): ∀i,i<x.length->x.getD i 0≠0:=fun i hi e=>by
 rw [PK hi e]at hk;omega
theorem Xw{f:SF}(hf:FS f){vs:List Int}(hv:wi f.1 vs=true)(hfew:Few (thn vs (szF f))){k:Nat}(hk:k<Go.Ve.D.prd (thn vs (szF f))){l:Int×Int}(hl:Cc (shS f) vs l=true):TK f (CB (thn vs (szF f)) k) l:=by
 unfold Cc at hl;rw [bAE,bAE,decide_eq_true_eq]at hl;obtain⟨h1,h2,h3⟩:=hl;obtain⟨a1,a2⟩:=Cu.1 h1;obtain⟨b1,b2⟩:=Cu.1 h2;have hlen:(thn vs (szF f)).length=vs.length:=CK;have hv1:l.1.toNat<(thn vs (szF f)).length:=by omega
 have har:l.2.toNat<ar (shS f):=by show l.2.toNat<(shS f).2.1.length;omega
 have hd:=Zf hfew (k:=k) hv1 (NN hk _ hv1);have hal:=hf.al _ har;have l2:f.2.2.2.2.2.2.length=ar (shS f):=hf.l2
 have hg:(thn vs (szF f)).getD l.1.toNat 0=(szF f).getD (vs.getD l.1.toNat 0).toNat 0:=by
  unfold thn;rw [gDE,List.getElem?_map,List.getElem?_range (by omega)];rfl
 have hft:fT (shS f) l.2.toNat=vs.getD l.1.toNat 0:=h3;refine⟨⟨b1,by have:((ar (shS f):Nat):Int)=((shS f).2.1.length:Int):=rfl;omega⟩,⟨a1,by rw [DK];omega⟩,?_⟩
 rw [Lg hv1];rw [hft]at hal;have e:(((f.2.2.2.2.2.2.getD l.2.toNat []).length:Nat):Int)=(thn vs (szF f)).getD l.1.toNat 0:=by rw [hg];exact hal
 rw [e];exact hd
end
end Go.Ve.D


namespace Go.Ve.D
open Go Go.Ve
noncomputable section
def szQ(f:SF)(q:Qry):List Int:=thn q.1 (szF f)
def WB(f:SF)(q:Qry)(k:Nat):Bool:=(List.range (Mk f q).length).all fun i=>UA (CB (szQ f q) k) ((Mk f q).getD i c0)
def I5(f:SF)(q:Qry)(n:Nat):List (List Int):=((List.range n).filter (WB f q)).map (CB (szQ f q))
theorem MY{f:SF}{q:Qry}{n:Nat}:I5 f q (n+1)=bif WB f q n then I5 f q n++ [CB (szQ f q) n]else I5 f q n:=by
 unfold I5;rw [List.range_succ,List.filter_append,List.map_append];cases hq:WB f q n<;>simp [hq]
theorem Hj{f:SF}{q:Qry}{n:Nat}:(I5 f q n).length<=n:=by
 unfold I5;rw [List.length_map];have:=List.length_filter_le (WB f q) (List.range n);rwa [List.length_range]at this
structure QK(f:SF)(q:Qry):Prop where
 hf:FS f
 v:wi f.1 q.1=true
 l4:q.1.length<=4
 l6:q.2.1.length<=6
 lr:q.2.2.1.length=q.2.1.length
 c: ∀i,i<q.2.1.length->Cc (shS f) q.1 (q.2.1.getD i (0,0))=true/\Cc (shS f) q.1 (q.2.2.1.getD i (0,0))=true
theorem QK.few{f:SF}{q:Qry}(h:QK f q):Few (szQ f q):=by
 refine⟨by unfold szQ;rw [CK];exact h.l4,fun y hy=>?_⟩
 obtain⟨i,hi,rfl⟩:=List.mem_map.1 hy;obtain⟨g1,g2⟩:=Cb h.v (List.mem_range.1 hi);exact h.hf.szi (x:=q.1.getD i 0) ⟨g1,g2⟩
theorem QK.szw{f:SF}{q:Qry}(h:QK f q):wi ((szF f).length:Int) q.1=true:=by rw [h.hf.l1];exact h.v
theorem p48{f:SF}{q:Qry}(h:QK f q):G48 (q,f)=some (bif decide (4096<Go.Ve.D.prd (szQ f q))then([],false)else(I5 f q (Go.Ve.D.prd (szQ f q)),true)):=by
 have hl4:=h.l4;have hfew:=h.few;refine Ap (a:=G28 (q.1,szF f)) (p28 (by omega) h.szw) ?_
 refine Ap (a:=G64 (szQ f q)) (p64 hfew) ?_;have ed:decide ((4096:Int)<((Go.Ve.D.prd (szQ f q):Nat):Int))=decide (4096<Go.Ve.D.prd (szQ f q)):=by rw [Bool.eq_iff_iff];simp only [decide_eq_true_eq];omega
 simp only [ed];cases hd:decide (4096<Go.Ve.D.prd (szQ f q))with
 |true=>rfl
 |false=>
 have hd:=of_decide_eq_false hd;refine Ap (a:=G65 (q,f)) (p65 h.l6 h.lr) ?_;refine Ap (v:=.brk 0 (((Go.Ve.D.prd (szQ f q):Nat):Int),(szQ f q,(Mk f q,I5 f q (Go.Ve.D.prd (szQ f q)))))) (AC (st:=fun k:Nat=>((k:Int),(szQ f q,(Mk f q,I5 f q k)))) (n:=Go.Ve.D.prd (szQ f q)) (fun k hk=>?_) ?_ (fun y=>by simp)) rfl
 ·have hc:(Mk f q).length=q.2.1.length:=by simp [Mk]
  have e188:=p66 hfew (NN hk) hk
  have e189:=p67 (t:=CB (szQ f q) k) (cs:=Mk f q) (by rw [hc];exact h.l6) fun i hi=>by
   have hi:i<q.2.1.length:=by omega
   have eg:(Mk f q).getD i c0=(f,(q.2.1.getD i (0,0),q.2.2.1.getD i (0,0))):=by
    unfold Mk;rw [gDE,List.getElem?_map,List.getElem?_range hi];rfl
   rw [eg];exact⟨Xw h.hf h.v hfew hk (h.c i hi).1,Xw h.hf h.v hfew hk (h.c i hi).2⟩
  have hs:=Hj (f:=f) (q:=q) (n:=k);simp only [Ag,hk,decide_true,cond_true,e188,e189,Option.bind_some,Bool.not_not,if_true,List.length_cons,List.length_nil];rw [An (by omega) (by omega),if_pos (show(I5 f q k).length+(0+1)<=5864062014805 by omega),MY]
  show _=some (LO.next (((k+1:Nat):Int),(szQ f q,(Mk f q,bif WB f q k then _ else _))))
  unfold WB;cases (List.range (Mk f q).length).all fun i=>UA (CB (szQ f q) k) ((Mk f q).getD i c0)<;>rfl
 ·simp only [Ag,Nat.lt_irrefl,decide_false,cond_false]
end
end Go.Ve.D


namespace Go.Ve.D
open Go Go.Ve
noncomputable section
theorem p59{f:SF}{q:Qry}(h:QK f q):G59 (f,q)=some (szQ f q):=Ap (a:=G43 (q.1,szF f)) (p43 (by have:=h.l4;omega) h.szw) rfl
theorem p39{f:SF}{q:Qry}(h:QK f q):G39 (f,q)=some (!decide (4096<Go.Ve.D.prd (szQ f q))):=by
 refine Ap (a:=G59 (f,q)) (p59 h) ?_;refine Ap (a:=G41 (szQ f q)) (p41 h.few) ?_;refine Ap (p58 _ _ _) ?_;rw [dT (show(0:Int)<=((Go.Ve.D.prd (szQ f q):Nat):Int) by omega),Bool.true_and]
 congr 1
 rw [Bool.eq_iff_iff];simp only [Bool.not_eq_true',decide_eq_true_eq,decide_eq_false_iff_not];omega
end
end Go.Ve.D

