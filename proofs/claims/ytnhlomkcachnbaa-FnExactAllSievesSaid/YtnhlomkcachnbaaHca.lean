/- Categories that are equal; natural maps: their shape. -/
import Derived.Test.YtnhlomkcachnbaaHsa
namespace Go.Ve.D
open Go Go.Ve
noncomputable section
theorem Za{x y:List Int}(h:x.length=y.length):decide (x=y)=(List.range x.length).all fun i=>decide (x.getD i 0=y.getD i 0):=by
 rw [Bool.eq_iff_iff,decide_eq_true_eq,aET];constructor
 ·rintro rfl i _
  exact dT rfl
 ·intro H
  refine List.ext_getElem h fun i h1 h2=>?_
  have:=of_decide_eq_true (H i (List.mem_range.2 h1));simpa [h1,h2]using this
theorem p66{x y:List Int}(hx:x.length<=1048576):G66 (x,y)=some (decide (x=y)):=by
 unfold G66;cases hl:decide ((x.length:Int)=(y.length:Int))with
 |false=>
  have hl:=of_decide_eq_false hl;have:decide (x=y)=false:=dF fun h=>hl (by rw [h])
  rw [this];rfl
 |true=>
  have hl:=of_decide_eq_true hl;have hl:x.length=y.length:=by omega
  rw [Za hl];simp only [Bool.not_true,cond_false];refine chkT (n:=x.length) (p:=fun i=>decide (x.getD i 0=y.getD i 0)) (bad:=fun r:Bool=>r=false) (id:=0) (Post:=fun b (o:Option Bool)=>o=some b) (fun i hi=>?_) ?_ rfl (fun r hr=>by rw [hr])
  ·have hy:i<y.length:=by omega
   simp only [Am,hi,decide_true,cond_true,Af hi,Af hy,and_self,if_true,tNC];rw [Ax (by omega) (by omega)]
   cases decide (x.getD i 0=y.getD i 0)with
   |true=>exact inn1_t rfl
   |false=>exact inn1_f ⟨_,rfl,rfl⟩
  ·simp only [Am,Nat.lt_irrefl,decide_false,cond_false]
end
end Go.Ve.D


namespace Go.Ve.D
open Go Go.Ve Go.Proofs
theorem Im(F:List (List Int))(s:List Int):F.contains s= !(List.range F.length).all fun i=>!decide (F.getD i []=s):=by
 rw [Zz [] (fun a=>decide (a=s)) F,Bool.not_not,Bool.eq_iff_iff,List.any_eq_true,List.contains_iff_mem]
 constructor
 ·intro h;exact⟨s,h,dT rfl⟩
 ·rintro ⟨a,ha,e⟩;rw [<-of_decide_eq_true e];exact ha
theorem p86{F:List (List Int)}{s:List Int}(hF:F.length<=1048576)(hr: ∀y∈F,y.length<=1048576): ∃r,G86 (F,s)=some r/\decide ((0:Int)<=r)=F.contains s:=by
 unfold G86;rw [Im F s];refine BL (Post:=fun(z:Option Int)=>∃r,z=some r/\decide ((0:Int)<=r)=_) (st:=fun i=>(i:Int)) (n:=F.length) (p:=fun i=>!decide (F.getD i []=s)) (Q:=fun r:Int=>0<=r) (o:=.brk 0 (F.length:Int)) (fun i hi=>?_) ?_ (fun y=>by simp) (fun h=>?_) (fun h r hq=>?_)
 ·simp only [Am,hi,decide_true,cond_true,Af hi,if_true,and_self,tNC,p66 (hr _ (Bo [] hi)),Option.bind_some]
  rw [Ax (by omega) (by omega)]
  cases decide (F.getD i []=s)with
  |true=>exact⟨(fun h=>by cases h),fun _=>⟨_,rfl,by omega⟩⟩
  |false=>exact⟨fun _=>rfl,(fun h=>by cases h)⟩
 ·simp only [Am,Nat.lt_irrefl,decide_false,cond_false]
 ·exact⟨_,rfl,by rw [h];rfl⟩
 ·exact⟨r,rfl,by rw [h,dT hq];rfl⟩
theorem p138{F:List (List Int)}{s:List Int}(hF:F.length<=1048576)(hr: ∀y∈F,okL y)(hs:okL s):G138 (F,s)=some (F.contains s):=by
 have key: ∃r,G198 (F,s)=some r/\decide ((0:Int)<=r)=F.contains s:=by
  unfold G198;rw [Im F s];refine BL (Post:=fun(z:Option Int)=>∃r,z=some r/\decide ((0:Int)<=r)=_) (st:=fun i=>(i:Int)) (n:=F.length) (p:=fun i=>!decide (F.getD i []=s)) (Q:=fun r:Int=>0<=r) (o:=.brk 0 (F.length:Int)) (fun i hi=>?_) ?_ (fun y=>by simp) (fun h=>?_) (fun h r hq=>?_)
  ·have e:decide (s=F.getD i [])=decide (F.getD i []=s):=by rw [decide_eq_decide];exact eq_comm
   simp only [Am,hi,decide_true,cond_true,Af hi,if_true,and_self,tNC,p139 (hr _ (Bo [] hi)) hs,Option.bind_some,e];rw [Ax (by omega) (by omega)]
   cases decide (F.getD i []=s)with
   |true=>exact⟨(fun h=>by cases h),fun _=>⟨_,rfl,by omega⟩⟩
   |false=>exact⟨fun _=>rfl,(fun h=>by cases h)⟩
  ·simp only [Am,Nat.lt_irrefl,decide_false,cond_false]
  ·exact⟨_,rfl,by rw [h];rfl⟩
  ·exact⟨r,rfl,by rw [h,dT hq];rfl⟩
 obtain⟨r,h1,h2⟩:=key;unfold G138;exact Aj h1 (by rw [h2])
def Many(c:Cat)(x:Int):Prop:=∃L:List (List Int),L.Nodup/\L.length=17/\∀s∈L,Rch c x s
structure ZH(c:Cat)(x:Int)(out:List (List Int)):Prop where
 nd:out.Nodup
 rc: ∀s∈out,Rch c x s
 le:out.length<=16
 nil: []∈out
theorem Rch.ok{c:Cat}(h:Sh c){x:Int}{s:List Int}(hs:Rch c x s):okL s:=by
 have:=hs.len;have h2:ar c<=40:=h.hd.2.1;unfold okL;omega
theorem p79{c:Cat}(hc:Dd c=true){x:Int}:(∃out,ZH c x out/\(∀t∈out,∀a∈H0 c x,nx c t a∈out)/\G79 (c,x)=some (CI Bg out,true))\/(Many c x/\G79 (c,x)=some ([],false)):=by
 have h:=Hx hc;have har:ar c<=40:=h.hd.2.1;have har':c.2.1.length=ar c:=rfl;obtain⟨os,hos⟩: ∃os,os=H0 c x:=⟨_,rfl⟩;have hol:os.length<=ar c:=by rw [hos];exact Po
 have hox: ∀j,j<os.length->∃b:Nat,b<ar c/\os.getD j 0=(b:Int):=fun j hj=>by
  rw [hos]at hj⊢;obtain⟨b,h1,_,h2⟩:=Va hj;exact⟨b,h1,h2⟩
 have homem: ∀j,j<os.length->os.getD j 0∈os:=fun j hj=>Bo (0:Int) hj
 unfold G79;simp only [if_true]
 have hout: ∃o,Au (R:=List (List Int)×Bool) (fun(v0:(Int×(List (List Int))))=>(bif(decide (v0.1<((v0.2.length:Nat):Int)))then(Option.bind (G131 (c,x)) (fun(v1:(List Int))=>(Option.bind (Au (fun(v2:(Int×((List (List Int))×(List Int))))=>(bif(decide (v2.1<((v1.length:Nat):Int)))then(if(((0:Int)<=v2.1)/\(v2.1<((v2.2.2.length:Nat):Int)))then(if(((0:Int)<=v0.1)/\(v0.1<((v2.2.1.length:Nat):Int)))then(Option.bind (G137 (v2.2.1.getD (v0.1).toNat ([]:(List Int)))) (fun(v3:(List Int))=>(if((v3.length+((v2.2.2.getD (v2.1).toNat (0:Int))::([]:(List Int))).length)<=17592186044416)then(Option.bind (G136 (c,(v3++((v2.2.2.getD (v2.1).toNat (0:Int))::([]:(List Int)))))) (fun(v4:(List Int))=>(Option.bind (G138 (v2.2.1,v4)) (fun(v5:Bool)=>(bif v5 then(some (LO.next ((IntKind.wrap .i64 (v2.1+(1:Int))),(v2.2.1,v2.2.2))))else(bif(decide (((v2.2.1.length:Nat):Int)=(16:Int)))then(BT (BT (some (([]:(List (List Int))),false))))else(if((v2.2.1.length+(v4::([]:(List (List Int)))).length)<=5864062014805)then(some (LO.next ((IntKind.wrap .i64 (v2.1+(1:Int))),((v2.2.1++(v4::([]:(List (List Int))))),v2.2.2))))else none)))))))else none)))else none)else none)else(some (LO.brk 2 (v2.1,(v2.2.1,v2.2.2)))))) ((0:Int),(v0.2,v1))) (LO.fin fun i2 (v2:(Int×((List (List Int))×(List Int))))=>(if i2=2 then(some (LO.next ((IntKind.wrap .i64 (v0.1+(1:Int))),v2.2.1)))else none)))))else(some (LO.brk 0 (v0.1,v0.2))))) ((0:Int),[[]])=some o/\((∃out,o= .brk 0 (((out.length:Nat):Int),out)/\ZH c x out/\∀t∈out,∀a∈os,nx c t a∈out)\/(o= .ret ([],false)/\Many c x)):=by
  refine CG (I:=fun i X=>∃out,X=((i:Int),out)/\ZH c x out/\i<=out.length/\∀t∈out.take i,∀a∈os,nx c t a∈out) (n:=16) (x:=((0:Int),[[]])) (Q:=fun o=>(∃out,o= .brk 0 (((out.length:Nat):Int),out)/\ZH c x out/\∀t∈out,∀a∈os,nx c t a∈out)\/(o= .ret ([],false)/\Many c x)) ⟨[[]],rfl,⟨by simp,fun s hs=>by rw [List.mem_singleton.1 hs];exact .nil,by simp,by simp⟩,by simp,fun t ht=>by simp at ht⟩ (fun i hi X hX=>?_) (fun X hX=>?_)
  ·obtain⟨out,rfl,hB,hle,hcl⟩:=hX
   rcases Nat.lt_or_ge i out.length with hlt|hge
   rotate_left
   ·have e:i=out.length:=by omega
    subst e;right;refine⟨_,?_,(fun y=>by simp),.inl ⟨out,rfl,hB,by rw [List.take_length]at hcl;exact hcl⟩⟩
    simp only [Am,Nat.lt_irrefl,decide_false,cond_false]
   simp only [Am,hlt,decide_true,cond_true];rw [p131 (by omega) x,<-hos]
   simp only [Option.bind_some];obtain⟨t,ht⟩: ∃t,t=out.getD i []:=⟨_,rfl⟩;have htm:t∈out:=by rw [ht];exact Bo [] hlt
   have htr:=hB.rc t htm
   have hin: ∃o,Au (R:=LO (Int×List (List Int)) (List (List Int)×Bool)) (fun(v2:(Int×((List (List Int))×(List Int))))=>(bif(decide (v2.1<((os.length:Nat):Int)))then(if(((0:Int)<=v2.1)/\(v2.1<((v2.2.2.length:Nat):Int)))then(if(((0:Int)<=(i:Int))/\((i:Int)<((v2.2.1.length:Nat):Int)))then(Option.bind (G137 (v2.2.1.getD ((i:Int)).toNat ([]:(List Int)))) (fun(v3:(List Int))=>(if((v3.length+((v2.2.2.getD (v2.1).toNat (0:Int))::([]:(List Int))).length)<=17592186044416)then(Option.bind (G136 (c,(v3++((v2.2.2.getD (v2.1).toNat (0:Int))::([]:(List Int)))))) (fun(v4:(List Int))=>(Option.bind (G138 (v2.2.1,v4)) (fun(v5:Bool)=>(bif v5 then(some (LO.next ((IntKind.wrap .i64 (v2.1+(1:Int))),(v2.2.1,v2.2.2))))else(bif(decide (((v2.2.1.length:Nat):Int)=(16:Int)))then(BT (BT (some (([]:(List (List Int))),false))))else(if((v2.2.1.length+(v4::([]:(List (List Int)))).length)<=5864062014805)then(some (LO.next ((IntKind.wrap .i64 (v2.1+(1:Int))),((v2.2.1++(v4::([]:(List (List Int))))),v2.2.2))))else none)))))))else none)))else none)else none)else(some (LO.brk 2 (v2.1,(v2.2.1,v2.2.2)))))) ((0:Int),(out,os))=some o/\((∃out',o= .brk 2 (((os.length:Nat):Int),(out',os))/\ZH c x out'/\(∃l,out'=out++l)/\∀a∈os,nx c t a∈out')\/(o= .ret (LO.ret ([],false))/\Many c x)):=by
    refine CG (I:=fun j X=>∃out',X=((j:Int),(out',os))/\ZH c x out'/\(∃l,out'=out++l)/\∀a∈os.take j,nx c t a∈out') (n:=os.length) (x:=((0:Int),(out,os))) (Q:=fun o=>(∃out',o= .brk 2 (((os.length:Nat):Int),(out',os))/\ZH c x out'/\(∃l,out'=out++l)/\∀a∈os,nx c t a∈out')\/(o= .ret (LO.ret ([],false))/\Many c x)) ⟨out,rfl,hB,⟨[],by simp⟩,fun a ha=>by simp at ha⟩ (fun j hj X hX=>?_) (fun X hX=>?_)
    ·obtain⟨out',rfl,hB',⟨l,hl⟩,hcl'⟩:=hX
     obtain⟨b,hb,eb⟩:=hox j hj;have hlt':i<out'.length:=by rw [hl,List.length_append];omega
     have hget:out'.getD i []=t:=by rw [hl,gDE,gAL hlt,<-gDE,ht]
     have htl:=htr.len;have hwi:wi (ar c) (t++ [(b:Int)])=true:=Q9 htr.wi (by omega)
     have hlen:(t++ [(b:Int)]).length<=1048576:=by simp;omega
     have hnr:Rch c x (nx c t (b:Int)):=.step htr (by rw [<-hos,<-eb];exact homem j hj)
     have h137:G137 t=some t:=p137 (by omega)
     have h136:G136 (c,t++ [(b:Int)])=some (nx c t b):=p136 h hwi hlen;have h138:G138 (out',nx c t b)=some (out'.contains (nx c t b)):=p138 (by have:=hB'.le;omega) (fun y hy=>(hB'.rc y hy).ok h) (hnr.ok h)
     have hta:os.take (j+1)=os.take j++ [(b:Int)]:=by rw [<-CH 0 hj,eb]
     simp only [Am,hj,decide_true,cond_true,Af hj,if_true,and_self,tNC,eb,Af hlt',hget,h137,Option.bind_some,List.length_cons,List.length_nil];rw [if_pos (by omega),h136]
     simp only [Option.bind_some,h138];rw [Ax (by omega) (by omega)]
     cases hcn:out'.contains (nx c t b)with
     |true=>
      left;refine⟨_,rfl,out',rfl,hB',⟨l,hl⟩,fun a ha=>?_⟩
      rw [hta]at ha;rcases List.mem_append.1 ha with ha|ha
      ·exact hcl' a ha
      ·rw [List.mem_singleton.1 ha];exact List.contains_iff_mem.1 hcn
     |false=>
      have hnm:nx c t b∉out':=fun hm=>by rw [List.contains_iff_mem.2 hm]at hcn;cases hcn
      have hnd:(out'++ [nx c t b]).Nodup:=by
       rw [List.nodup_append];refine⟨hB'.nd,by simp,fun a ha b' hb' e=>hnm ?_⟩
       rw [List.mem_singleton.1 hb']at e;rw [<-e];exact ha
      by_cases h16:out'.length=16
      ·right
       rw [dT (by omega)]
       refine⟨_,rfl,(fun y=>by simp),.inr ⟨rfl,out'++ [nx c t b],hnd,by simp [h16],fun s hs=>?_⟩⟩
       rcases List.mem_append.1 hs with hs|hs
       ·exact hB'.rc s hs
       ·rw [List.mem_singleton.1 hs];exact hnr
      ·left
       rw [dF (by omega)]
       have:=hB'.le;refine⟨_,if_pos (by omega),out'++ [nx c t b],rfl,⟨hnd,fun s hs=>?_,by simp;omega,List.mem_append_left _ hB'.nil⟩,⟨l++ [nx c t b],by rw [hl,List.append_assoc]⟩,fun a ha=>?_⟩
       ·rcases List.mem_append.1 hs with hs|hs
        ·exact hB'.rc s hs
        ·rw [List.mem_singleton.1 hs];exact hnr
       ·rw [hta]at ha
        rcases List.mem_append.1 ha with ha|ha
        ·exact List.mem_append_left _ (hcl' a ha)
        ·rw [List.mem_singleton.1 ha];exact List.mem_append_right _ (List.mem_singleton.2 rfl)
    ·obtain⟨out',rfl,hB',hl,hcl'⟩:=hX
     refine⟨_,?_,(fun y=>by simp),.inl ⟨out',rfl,hB',hl,by rw [List.take_length]at hcl';exact hcl'⟩⟩
     simp only [Am,Nat.lt_irrefl,decide_false,cond_false]
   obtain⟨o,ho,hQ⟩:=hin;rcases hQ with⟨out',rfl,hB',⟨l,hl⟩,hcl'⟩|⟨rfl,hM⟩
   ·left
    refine⟨_,Aj ho (show(if 2=2 then some (LO.next (IntKind.wrap .i64 ((i:Int)+1),out'))else none)=some (LO.next (((i+1:Nat):Int),out')) by rw [if_pos rfl,Ax (by omega) (by omega)];rfl),out',rfl,hB',by rw [hl,List.length_append];omega,fun s hs a ha=>?_⟩
    have e1:out'.take (i+1)=out.take (i+1):=by rw [hl,List.take_append_of_le_length (by omega)]
    rw [e1,<-CH [] hlt]at hs;rcases List.mem_append.1 hs with hs|hs
    ·rw [hl];exact List.mem_append_left _ (hcl s hs a ha)
    ·rw [List.mem_singleton.1 hs,<-ht];exact hcl' a ha
   ·right
    exact⟨_,Aj ho rfl,(fun y=>by simp),.inr ⟨rfl,hM⟩⟩
  ·obtain⟨out,rfl,hB,hle,hcl⟩:=hX
   have:=hB.le;have e:out.length=16:=by omega
   refine⟨_,?_,(fun y=>by simp),.inl ⟨out,rfl,hB,?_⟩⟩
   ·simp only [e];rfl
   ·rw [<-e,List.take_length]at hcl;exact hcl
 obtain⟨o,ho,hQ⟩:=hout;rw [ho,Option.bind_some];rcases hQ with⟨out,rfl,hB,hcl⟩|⟨rfl,hM⟩
 ·left
  refine⟨out,hB,fun t ht a ha=>hcl t ht a (by rw [hos];exact ha),?_⟩
  show(if 0=0 then _ else none)=_
  have hpos:0<out.length:=List.length_pos_of_mem hB.nil;rw [if_pos rfl];simp only;rw [dT (by omega),cond_true]
  refine Aj (v:=((),CI Bg out)) ?_ rfl;unfold G140 UB;rw [if_pos ⟨hpos,by have:=hB.le;omega,fun s hs=>(hB.rc s hs).ok h⟩]
 ·exact .inr ⟨hM,rfl⟩
end Go.Ve.D

