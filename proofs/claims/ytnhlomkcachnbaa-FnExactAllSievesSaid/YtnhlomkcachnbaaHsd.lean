/- Sieves: all of them, by the reference. -/
import Derived.Test.YtnhlomkcachnbaaHca
namespace Go.Ve.D
open Go Go.Ve Go.Proofs
structure ZR(c:Cat)(x:Int)(F:List (List Int)):Prop where
 nd:F.Nodup
 rc: ∀s∈F,Rch c x s
 le:F.length<=17
theorem p134{c:Cat}(hc:Dd c=true){x:Int}: ∀ (n:Nat) (s:List Int) (F:List (List Int)),Rch c x s->ZR c x F->18<=n+F.length->
  ∃F',R134 n (c,(H0 c x,s)) F=some (F',[])/\ZR c x F'/\(∃l,F'=F++l)/\(F'.length<=16->s∈F'/\∀t∈F',t∉F->∀a∈H0 c x,nx c t a∈F')
 |0,s,F,hs,hF,hn=>by have:=hF.le;omega
 |n+1,s,F,hs,hF,hn=>by
  have h:=Hx hc;have har:ar c<=40:=h.hd.2.1;obtain⟨os,hos⟩: ∃os,os=H0 c x:=⟨_,rfl⟩;have hol:os.length<=ar c:=by rw [hos];exact Po
  have hox: ∀j,j<os.length->∃b:Nat,b<ar c/\os.getD j 0=(b:Int):=fun j hj=>by
   rw [hos]at hj⊢;obtain⟨b,h1,_,h2⟩:=Va hj;exact⟨b,h1,h2⟩
  have homem: ∀j,j<os.length->os.getD j 0∈os:=fun j hj=>Bo (0:Int) hj
  have hsl:=hs.len;obtain⟨r,hr,hrc⟩:=p86 (F:=F) (s:=s) (by have:=hF.le;omega) fun y hy=>by have:=(hF.rc y hy).len;omega
  rw [<-hos];show ∃F',B134 (R134 n) (c,(os,s)) F=some (F',[])/\_;unfold B134;simp only [hr,Option.bind_some,hrc];cases hcn:F.contains s with
  |true=>
   have hm:=List.contains_iff_mem.1 hcn;exact⟨F,rfl,hF,⟨[],by simp⟩,fun _=>⟨hm,fun t ht hn=>absurd ht hn⟩⟩
  |false=>
   have hnm:s∉F:=fun hm=>by rw [List.contains_iff_mem.2 hm]at hcn;cases hcn
   simp only [cond_false,Option.bind_some];by_cases h16:16<F.length
   ·rw [dT (by omega)]
    exact⟨F,rfl,hF,⟨[],by simp⟩,fun h=>absurd h (by omega)⟩
   ·rw [dF (by omega),cond_false,if_pos (by simp;omega)]
    have hF1:ZR c x (F++ [s]):=⟨by
     rw [List.nodup_append];refine⟨hF.nd,by simp,fun a ha b hb e=>hnm ?_⟩
     rw [List.mem_singleton.1 hb]at e;rw [<-e];exact ha,fun t ht=>by
     rcases List.mem_append.1 ht with h|h
     ·exact hF.rc t h
     ·rw [List.mem_singleton.1 h];exact hs,by simp;omega⟩
    have hl: ∃o,Au (R:=List (List Int)×List (List Int)) (fun(v2:(Int×(List (List Int))))=>(bif(decide (v2.1<((os.length:Nat):Int)))then(if(((0:Int)<=v2.1)/\(v2.1<((os.length:Nat):Int)))then(Option.bind (G121 (s,(os.getD (v2.1).toNat (0:Int)))) (fun(v3:Bool)=>(bif(!v3)then(Option.bind (G171 s) (fun(v4:(List Int))=>(if(((0:Int)<=v2.1)/\(v2.1<((os.length:Nat):Int)))then(if((v4.length+((os.getD (v2.1).toNat (0:Int))::([]:(List Int))).length)<=17592186044416)then(Option.bind (G196 ((c.1,(c.2.1,(c.2.2.1,(c.2.2.2.1,c.2.2.2.2)))),(v4++((os.getD (v2.1).toNat (0:Int))::([]:(List Int)))))) (fun(v5:(List Int))=>(Option.bind (R134 n ((c.1,(c.2.1,(c.2.2.1,(c.2.2.2.1,c.2.2.2.2)))),(os,v5)) v2.2) (fun(v6:((List (List Int))×(List (List Int))))=>(some (LO.next ((IntKind.wrap .i64 (v2.1+(1:Int))),v6.1)))))))else none)else none)))else(some (LO.next ((IntKind.wrap .i64 (v2.1+(1:Int))),v2.2))))))else none)else(some (LO.brk 0 (v2.1,v2.2))))) ((0:Int),F++ [s])=some o/\
      ∃F1,o= .brk 0 (((os.length:Nat):Int),F1)/\ZR c x F1/\(∃l,F1=F++ [s]++l)/\(F1.length<=16->(∀a∈os,nx c s a∈F1)/\∀t∈F1,t∉F++ [s]->∀a∈os,nx c t a∈F1):=by
     refine CG (n:=os.length) (x:=((0:Int),F++ [s])) (I:=fun j X=>∃F1,X=((j:Int),F1)/\ZR c x F1/\(∃l,F1=F++ [s]++l)/\(F1.length<=16->(∀a∈os.take j,nx c s a∈F1)/\∀t∈F1,t∉F++ [s]->∀a∈os,nx c t a∈F1))
      (Q:=fun o=>∃F1,o= .brk 0 (((os.length:Nat):Int),F1)/\ZR c x F1/\(∃l,F1=F++ [s]++l)/\(F1.length<=16->(∀a∈os,nx c s a∈F1)/\∀t∈F1,t∉F++ [s]->∀a∈os,nx c t a∈F1))
      ⟨F++ [s],rfl,hF1,⟨[],by simp⟩,fun _=>⟨fun a ha=>by simp at ha,fun t ht hn=>absurd ht hn⟩⟩ (fun j hj X hX=>?_) (fun X hX=>?_)
     ·obtain⟨F1,rfl,hD,⟨l,hl⟩,hcl⟩:=hX
      left;obtain⟨b,hb,eb⟩:=hox j hj;have hta:os.take (j+1)=os.take j++ [(b:Int)]:=by rw [<-CH 0 hj,eb]
      have hbm:(b:Int)∈H0 c x:=by rw [<-hos,<-eb];exact homem j hj
      have hsF:s∈F1:=by rw [hl];exact List.mem_append_left _ (List.mem_append_right _ (List.mem_singleton.2 rfl))
      simp only [Am,hj,decide_true,cond_true,Af hj,if_true,and_self,tNC,eb,p121 (show s.length<=1048576 by omega),Option.bind_some]
      rw [Ax (by omega) (by omega)]
      cases hsc:s.contains (b:Int)with
      |true=>
       refine⟨_,rfl,F1,rfl,hD,⟨l,hl⟩,fun h16=>⟨fun a ha=>?_,(hcl h16).2⟩⟩
       rw [hta]at ha;rcases List.mem_append.1 ha with ha|ha
       ·exact(hcl h16).1 a ha
       ·rw [List.mem_singleton.1 ha,Y1 hc hs (List.contains_iff_mem.1 hsc)];exact hsF
      |false=>
       have hnr:Rch c x (nx c s (b:Int)):=.step hs hbm;have hwi:wi (ar c) (s++ [(b:Int)])=true:=Q9 hs.wi (by omega)
       have h196:G196 (c,s++ [(b:Int)])=some (nx c s b):=p196 h hwi (by simp;omega)
       have hlen1:F.length+1<=F1.length:=by rw [hl];simp
       obtain⟨F2,e2,hD2,⟨l2,hl2⟩,hcl2⟩:=p134 hc n (nx c s (b:Int)) F1 hnr hD (by omega)
       rw [<-hos]at e2 hcl2;simp only [Bool.not_false,cond_true,p171 (show s.length<=1048576 by omega),Option.bind_some,List.length_cons,List.length_nil,Prod.eta]
       rw [if_pos (by omega),h196]
       simp only [Option.bind_some,e2];refine⟨_,rfl,F2,rfl,hD2,⟨l++l2,by rw [hl2,hl,List.append_assoc]⟩,fun h16=>?_⟩
       obtain⟨g1,g2⟩:=hcl2 h16;have hF1':F1.length<=16:=by rw [hl2,List.length_append]at h16;omega
       obtain⟨k1,k2⟩:=hcl hF1';refine⟨fun a ha=>?_,fun t ht hn a ha=>?_⟩
       ·rw [hta]at ha
        rcases List.mem_append.1 ha with ha|ha
        ·rw [hl2];exact List.mem_append_left _ (k1 a ha)
        ·rw [List.mem_singleton.1 ha];exact g1
       ·by_cases htF:t∈F1
        ·rw [hl2];exact List.mem_append_left _ (k2 t htF hn a ha)
        ·exact g2 t ht htF a ha
     ·obtain⟨F1,rfl,hD,hl,hcl⟩:=hX
      refine⟨_,?_,(fun y=>by simp),F1,rfl,hD,hl,fun h16=>?_⟩
      ·simp only [Am,Nat.lt_irrefl,decide_false,cond_false]
      ·obtain⟨k1,k2⟩:=hcl h16
       rw [List.take_length]at k1;exact⟨k1,k2⟩
    obtain⟨o,ho,F1,rfl,hD,⟨l,hl⟩,hcl⟩:=hl;refine⟨F1,Aj ho (show(if 0=0 then some (F1,([]:List (List Int)))else none)=_ from if_pos rfl),hD,⟨[s]++l,by rw [hl,List.append_assoc]⟩,fun h16=>?_⟩
    obtain⟨k1,k2⟩:=hcl h16;refine⟨by rw [hl];exact List.mem_append_left _ (List.mem_append_right _ (List.mem_singleton.2 rfl)),fun t ht hn a ha=>?_⟩
    by_cases hts:t=s
    ·rw [hts];exact k1 a ha
    ·exact k2 t ht (fun hm=>by
      rcases List.mem_append.1 hm with h|h
      ·exact hn h
      ·exact hts (List.mem_singleton.1 h)) a ha
theorem UY{c:Cat}{x:Int}{F:List (List Int)}(h0: []∈F)(hcl: ∀t∈F,∀a∈H0 c x,nx c t a∈F): ∀s,Rch c x s->s∈F:=by
 intro s h
 induction h with
 |nil=>exact h0
 |step _ ha ih=>exact hcl _ ih _ ha
end Go.Ve.D


namespace Go.Ve.D
open Go Go.Ve Go.Proofs
noncomputable def b156(x y:List Int)(v0:Int):Option (LO Int Bool):=(Option.bind (bif(decide (v0<((x.length:Nat):Int)))then(some (decide (v0<((y.length:Nat):Int))))else(some false)) (fun(v1:Bool)=>(bif v1 then(if(((0:Int)<=v0)/\(v0<((x.length:Nat):Int)))then(if(((0:Int)<=v0)/\(v0<((y.length:Nat):Int)))then(bif(!decide ((x.getD (v0).toNat (0:Int))=(y.getD (v0).toNat (0:Int))))then(if(((0:Int)<=v0)/\(v0<((x.length:Nat):Int)))then(if(((0:Int)<=v0)/\(v0<((y.length:Nat):Int)))then(BT (some (decide ((x.getD (v0).toNat (0:Int))<(y.getD (v0).toNat (0:Int))))))else none)else none)else(some (LO.next (IntKind.wrap .i64 (v0+(1:Int))))))else none)else none)else(some (LO.brk 0 v0)))))
theorem ZE(x y:List Int):G156 (x,y)=Option.bind (Au (b156 x y) (0:Int)) (LO.fin fun i0 (v0:Int)=>(if i0=0 then(some (decide (((x.length:Nat):Int)<((y.length:Nat):Int))))else none)):=rfl
theorem p156{x y:List Int}(hx:okL x)(hy:okL y):G156 (x,y)=some (ltOf Bg x y):=by
 unfold okL at hx hy
 have hend: ∀i:Nat,i<=x.length->i<=y.length->(i=x.length\/i=y.length)->b156 x y (i:Int)=some (.brk 0 (i:Int)):=by
  intro i h1 h2 h3;unfold b156;rcases Nat.lt_or_ge i x.length with h|h
  ·rw [dT (by omega:((i:Nat):Int)<((x.length:Nat):Int)),dF (by omega: ¬ ((i:Nat):Int)<((y.length:Nat):Int))];rfl
  ·rw [dF (by omega: ¬ ((i:Nat):Int)<((x.length:Nat):Int))];rfl
 have hstep: ∀i:Nat,i<x.length->i<y.length->b156 x y (i:Int)=if x.getD i 0=y.getD i 0 then some (.next ((i+1:Nat):Int))else some (.ret (decide (x.getD i 0<y.getD i 0))):=by
  intro i h1 h2;unfold b156;rw [dT (by omega:((i:Nat):Int)<((x.length:Nat):Int)),dT (by omega:((i:Nat):Int)<((y.length:Nat):Int))]
  have c1:((0:Int)<=(i:Int))/\((i:Int)<((x.length:Nat):Int)):=by omega
  have c2:((0:Int)<=(i:Int))/\((i:Int)<((y.length:Nat):Int)):=by omega
  simp only [cond_true,Option.bind_some];rw [if_pos c1,if_pos c2,if_pos c1,if_pos c2,tNC];by_cases h:x.getD i 0=y.getD i 0
  ·rw [if_pos h,dT h,Bool.not_true,cond_false,Dg (by omega) (by omega)];rfl
  ·rw [if_neg h,dF h];rfl
 have key: ∀k i,i+k=x.length->i<=y.length->(Au (b156 x y) (i:Int)=some (.ret (ltOf Bg (x.drop i) (y.drop i))))\/(∃j:Int,Au (b156 x y) (i:Int)=some (.brk 0 j)/\ltOf Bg (x.drop i) (y.drop i)=decide (x.length<y.length)):=by
  intro k
  induction k with
  |zero=>
   intro i hi hy';obtain rfl:i=x.length:=by omega
   right;refine⟨_,by rw [A2,hend _ (Nat.le_refl _) hy' (.inl rfl)];rfl,?_⟩
   rw [List.drop_length];cases hd:y.drop x.length with
   |nil=>
    have:=List.drop_eq_nil_iff.1 hd;rw [dF (by omega)];rfl
   |cons a l=>
    have:x.length<y.length:=by
     rcases Nat.lt_or_ge x.length y.length with h|h
     ·exact h
     ·rw [List.drop_eq_nil_iff.2 h]at hd;cases hd
    rw [dT this];rfl
  |succ k ih=>
   intro i hi hy';have h1:i<x.length:=by omega
   have ex:x.drop i=x.getD i 0::x.drop (i+1):=by
    rw [List.drop_eq_getElem_cons h1,gDE,gEE h1];rfl
   by_cases h2:i=y.length
   ·right
    refine⟨_,by rw [A2,hend i (by omega) hy' (.inr h2)];rfl,?_⟩
    rw [ex,h2,List.drop_length,dF (by omega)]
    rfl
   ·have h2:i<y.length:=by omega
    have ey:y.drop i=y.getD i 0::y.drop (i+1):=by
     rw [List.drop_eq_getElem_cons h2,gDE,gEE h2];rfl
    by_cases h3:x.getD i 0=y.getD i 0
    ·have e:Au (b156 x y) (i:Int)=Au (b156 x y) ((i+1:Nat):Int):=by rw [A2,hstep i h1 h2,if_pos h3];rfl
     have ec:ltOf Bg (x.drop i) (y.drop i)=ltOf Bg (x.drop (i+1)) (y.drop (i+1)):=by
      have e0:Bg (x.drop i) (y.drop i)=Bg (x.drop (i+1)) (y.drop (i+1)):=by
       rw [ex,ey];show(if x.getD i 0=y.getD i 0 then _ else _)=_
       rw [if_pos h3]
      unfold ltOf;simp only [e0]
     rw [e,ec];exact ih (i+1) (by omega) (by omega)
    ·left
     have e0:Bg (x.drop i) (y.drop i)=if x.getD i 0<y.getD i 0 then(-1:Int)else 1:=by
      rw [ex,ey];show(if x.getD i 0=y.getD i 0 then _ else _)=_
      rw [if_neg h3]
     rw [A2,hstep i h1 h2,if_neg h3];show some (LO.ret (decide (x.getD i 0<y.getD i 0)))=_
     congr 2
     unfold ltOf;simp only [e0]
     have gen: ∀u v:Int,decide (u<v)=decide ((if u<v then(-1:Int)else 1)<0):=fun u v=>by
      by_cases hl:u<v
      ·simp [hl]
      ·simp [hl]
     exact gen _ _
 rw [ZE];have h0:=key x.length 0 (by omega) (Nat.zero_le _)
 rw [List.drop_zero,List.drop_zero]at h0;rcases h0 with h|⟨j,h,hc⟩
 ·exact Aj h rfl
 ·refine Aj h ?_
  show some (decide (((x.length:Nat):Int)<((y.length:Nat):Int)))=_;rw [hc]
  congr 1
  rw [decide_eq_decide];omega
def gL(l:List (List Int))(i:Nat):List Int:=l.getD i []
noncomputable def b88(v1:(Int×(List (List Int)))):Option (LO (Int×(List (List Int))) (LO (Int×(List (List Int))) (List (List Int)))):=(Option.bind (bif(decide ((0:Int)<v1.1))then(if(((0:Int)<=v1.1)/\(v1.1<((v1.2.length:Nat):Int)))then(if(((0:Int)<=(IntKind.wrap .i64 (v1.1-(1:Int))))/\((IntKind.wrap .i64 (v1.1-(1:Int)))<((v1.2.length:Nat):Int)))then(Option.bind (G156 ((v1.2.getD (v1.1).toNat ([]:(List Int))),(v1.2.getD ((IntKind.wrap .i64 (v1.1-(1:Int)))).toNat ([]:(List Int))))) (fun(v2:Bool)=>(some v2)))else none)else none)else(some false)) (fun(v2:Bool)=>(bif v2 then(if(((0:Int)<=v1.1)/\(v1.1<((v1.2.length:Nat):Int)))then(if(((0:Int)<=(IntKind.wrap .i64 (v1.1-(1:Int))))/\((IntKind.wrap .i64 (v1.1-(1:Int)))<((v1.2.length:Nat):Int)))then(if(((0:Int)<=v1.1)/\(v1.1<((v1.2.length:Nat):Int)))then(if(((0:Int)<=(IntKind.wrap .i64 (v1.1-(1:Int))))/\((IntKind.wrap .i64 (v1.1-(1:Int)))<(((v1.2.set (v1.1).toNat (v1.2.getD ((IntKind.wrap .i64 (v1.1-(1:Int)))).toNat ([]:(List Int)))).length:Nat):Int)))then(some (LO.next ((IntKind.wrap .i64 (v1.1-(1:Int))),((v1.2.set (v1.1).toNat (v1.2.getD ((IntKind.wrap .i64 (v1.1-(1:Int)))).toNat ([]:(List Int)))).set ((IntKind.wrap .i64 (v1.1-(1:Int)))).toNat (v1.2.getD (v1.1).toNat ([]:(List Int)))))))else none)else none)else none)else none)else(some (LO.brk 2 (v1.1,v1.2))))))
theorem Na{a b c:List Int}(h1:leC Bg a b=true)(h2:leC Bg b c=true):leC Bg a c=true:=by
 have h1:(!ltOf Bg b a)=true:=h1;have h2:(!ltOf Bg c b)=true:=h2;show(!ltOf Bg c a)=true;rw [Bool.not_eq_true']at*;exact XM.ntrans _ _ _ h2 h1
theorem Vu{a b:List Int}(h:ltOf Bg a b=true):leC Bg a b=true:=by
 show(!ltOf Bg b a)=true;cases h2:ltOf Bg b a with
 |false=>rfl
 |true=>
  have:=XM.trans _ _ _ h h2;rw [XM.irrefl]at this;cases this
theorem X6{l:List (List Int)}{i j:Nat}{v:List Int}(hi:i<l.length):gL (l.set i v) j=if j=i then v else gL l j:=by
 unfold gL;by_cases h:j=i
 ·subst h;rw [if_pos rfl];simp [hi]
 ·rw [if_neg h,gDE,List.getElem?_set_ne (Ne.symm h),<-gDE]
theorem ins88{x:List (List Int)}(hx: ∀s∈x,okL s)(hn:x.length<=1048576){i:Nat}(hi:i<x.length){out:List (List Int)}(hp:out.Perm x)(hs: ∀p q,p<q->q<i->leC Bg (gL out p) (gL out q)=true):
  ∃m out',Au b88 ((i:Int),out)=some (.brk 2 (m,out'))/\out'.Perm x/\∀p q,p<q->q<=i->leC Bg (gL out' p) (gL out' q)=true:=by
 have hlen: ∀ {o:List (List Int)},o.Perm x->o.length=x.length:=fun h=>h.length_eq
 have hl: ∃o,Au b88 ((i:Int),out)=some o/\∃m out',o= .brk 2 (m,out')/\out'.Perm x/\∀p q,p<q->q<=i->leC Bg (gL out' p) (gL out' q)=true:=by
  refine CG (n:=i) (x:=((i:Int),out)) (I:=fun j X=>∃out',X=(((i-j:Nat):Int),out')/\out'.Perm x/\(∀p q,p<q->q<=i->q≠i-j->p≠i-j->leC Bg (gL out' p) (gL out' q)=true)/\∀q,i-j<q->q<=i->leC Bg (gL out' (i-j)) (gL out' q)=true)
   (Q:=fun o=>∃m out',o= .brk 2 (m,out')/\out'.Perm x/\∀p q,p<q->q<=i->leC Bg (gL out' p) (gL out' q)=true) ⟨out,rfl,hp,fun p q h1 h2 h3 _=>hs p q h1 (by omega),fun q h1 h2=>by omega⟩ (fun j hj X hX=>?_) (fun X hX=>?_)
  ·obtain⟨o,rfl,hpo,h1,h2⟩:=hX
   obtain⟨m,hm⟩: ∃m,m=i-j:=⟨_,rfl⟩;rw [<-hm]at h1 h2⊢;have hm0:0<m:=by omega
   have hmi:m<=i:=by omega
   have hol:=hlen hpo;have c1:m<o.length:=by omega
   have c2:m-1<o.length:=by omega
   have ok1:okL (gL o m):=hx _ (hpo.mem_iff.1 (Bo [] c1));have ok2:okL (gL o (m-1)):=hx _ (hpo.mem_iff.1 (Bo [] c2));have ew:IntKind.wrap .i64 ((m:Int)-1)=((m-1:Nat):Int):=by rw [Dg (by omega) (by omega)];omega
   have e156:G156 (o.getD m [],o.getD (m-1) [])=some (ltOf Bg (gL o m) (gL o (m-1))):=p156 ok1 ok2
   have hb:b88 ((m:Int),o)=bif ltOf Bg (gL o m) (gL o (m-1))then some (.next (((m-1:Nat):Int),(o.set m (gL o (m-1))).set (m-1) (gL o m)))else some (.brk 2 ((m:Int),o)):=by
    unfold b88;simp only;rw [dT (by omega),cond_true,if_pos (Af c1),ew,if_pos (Af c2)]
    simp only [tNC,e156,Option.bind_some];cases ltOf Bg (gL o m) (gL o (m-1))with
    |false=>rfl
    |true=>
     simp only [cond_true];rw [if_pos (Af c1),if_pos (Af c2),if_pos (Af c1),if_pos (by rw [List.length_set];exact Af c2)]
     rfl
   cases hlt:ltOf Bg (gL o m) (gL o (m-1))with
   |true=>
    left;rw [hlt,cond_true]at hb;have hmj:i-(j+1)=m-1:=by omega
    have hg: ∀q,gL ((o.set m (gL o (m-1))).set (m-1) (gL o m)) q=if q=m-1 then gL o m else if q=m then gL o (m-1)else gL o q:=fun q=>by
     rw [X6 (by rw [List.length_set];exact c2),X6 c1]
    refine⟨_,hb,_,by rw [hmj],?_,fun p q g1 g2 g3 g4=>?_,fun q g1 g2=>?_⟩
    ·have e1:gL o (m-1)=o[m-1]:=by unfold gL;rw [gDE,gEE c2];rfl
     have e2:gL o m=o[m]:=by unfold gL;rw [gDE,gEE c1];rfl
     rw [e1,e2];exact(List.set_set_perm c1 c2).trans hpo
    ·rw [hmj]at g3 g4
     rw [hg,hg,if_neg g4,if_neg g3];by_cases hq:q=m
     ·rw [if_pos hq,if_neg (by omega)]
      exact h1 p (m-1) (by omega) (by omega) (by omega) (by omega)
     ·rw [if_neg hq]
      by_cases hpm:p=m
      ·rw [if_pos hpm]
       exact h1 (m-1) q (by omega) g2 hq (by omega)
      ·rw [if_neg hpm]
       exact h1 p q g1 g2 hq hpm
    ·rw [hmj]at g1⊢
     rw [hg,hg,if_pos rfl,if_neg (by omega)]
     by_cases hq:q=m
     ·rw [if_pos hq];exact Vu hlt
     ·rw [if_neg hq];exact h2 q (by omega) g2
   |false=>
    right;rw [hlt,cond_false]at hb;refine⟨_,hb,(fun y=>by simp),_,o,rfl,hpo,fun p q g1 g2=>?_⟩
    have hle:leC Bg (gL o (m-1)) (gL o m)=true:=by show(!ltOf Bg (gL o m) (gL o (m-1)))=true;rw [hlt];rfl
    by_cases hq:q=m
    ·rw [hq]
     by_cases hpm:p=m-1
     ·rw [hpm];exact hle
     ·exact Na (h1 p (m-1) (by omega) (by omega) (by omega) (by omega)) hle
    ·by_cases hpm:p=m
     ·rw [hpm];exact h2 q (by omega) g2
     ·exact h1 p q g1 g2 hq hpm
  ·obtain⟨o,rfl,hpo,h1,h2⟩:=hX
   rw [Nat.sub_self]at h1 h2⊢;refine⟨.brk 2 (((0:Nat):Int),o),?_,(fun y=>by simp),_,o,rfl,hpo,fun p q g1 g2=>?_⟩
   ·unfold b88
    simp only;rw [dF (by omega)];rfl
   ·by_cases hp0:p=0
    ·rw [hp0];exact h2 q (by omega) g2
    ·exact h1 p q g1 g2 (by omega) hp0
 obtain⟨o,ho,m,out',rfl,k1,k2⟩:=hl;exact⟨m,out',ho,k1,k2⟩
theorem p88{x:List (List Int)}(hx: ∀s∈x,okL s)(hn:x.length<=1048576):G88 x=some (CI Bg x):=by
 have hb:G88 x=if((([]:(List (List Int))).length+x.length)<=5864062014805)then(Option.bind (Au (fun(v0:(Int×(List (List Int))))=>(bif(decide (v0.1<((v0.2.length:Nat):Int)))then(Option.bind (Au b88 (v0.1,v0.2)) (LO.fin fun i1 (v1:(Int×(List (List Int))))=>(if i1=2 then(some (LO.next ((IntKind.wrap .i64 (v0.1+(1:Int))),v1.2)))else none)))else(some (LO.brk 0 (v0.1,v0.2))))) ((1:Int),(([]:(List (List Int)))++x))) (LO.fin fun i0 (v0:(Int×(List (List Int))))=>(if i0=0 then(some v0.2)else none)))else none:=rfl
 rw [hb,if_pos (by simp;omega),List.nil_append]
 have hl: ∃o,Au (R:=List (List Int)) (fun(v0:(Int×(List (List Int))))=>(bif(decide (v0.1<((v0.2.length:Nat):Int)))then(Option.bind (Au b88 (v0.1,v0.2)) (LO.fin fun i1 (v1:(Int×(List (List Int))))=>(if i1=2 then(some (LO.next ((IntKind.wrap .i64 (v0.1+(1:Int))),v1.2)))else none)))else(some (LO.brk 0 (v0.1,v0.2))))) ((1:Int),x)=some o/\∃m out,o= .brk 0 (m,out)/\out.Perm x/\∀p q,p<q->q<x.length->leC Bg (gL out p) (gL out q)=true:=by
  refine CG (n:=x.length-1) (x:=((1:Int),x)) (I:=fun k X=>∃out,X=(((k+1:Nat):Int),out)/\out.Perm x/\∀p q,p<q->q<k+1->leC Bg (gL out p) (gL out q)=true)
   (Q:=fun o=>∃m out,o= .brk 0 (m,out)/\out.Perm x/\∀p q,p<q->q<x.length->leC Bg (gL out p) (gL out q)=true) ⟨x,rfl,.refl _,fun p q h1 h2=>by omega⟩ (fun k hk X hX=>?_) (fun X hX=>?_)
  ·obtain⟨out,rfl,hp,hs⟩:=hX
   have hlen:=hp.length_eq;left;obtain⟨m,out',e,hp',hs'⟩:=ins88 hx hn (i:=k+1) (by omega) hp hs
   refine⟨(((k+1+1:Nat):Int),out'),?_,out',rfl,hp',fun p q h1 h2=>hs' p q h1 (by omega)⟩
   simp only;rw [dT (by omega),cond_true]
   refine Aj e ?_;show(if 2=2 then some (LO.next (IntKind.wrap .i64 (((k+1:Nat):Int)+1),out'))else none)=_
   rw [if_pos rfl,Ax (by omega) (by omega)];rfl
  ·obtain⟨out,rfl,hp,hs⟩:=hX
   have hlen:=hp.length_eq;refine⟨.brk 0 (((x.length-1+1:Nat):Int),out),?_,(fun y=>by simp),_,out,rfl,hp,fun p q h1 h2=>hs p q h1 (by omega)⟩
   simp only;rw [dF (by omega),cond_false]
 obtain⟨o,ho,m,out,rfl,hp,hs⟩:=hl;refine Aj ho ?_;show(if 0=0 then some out else none)=_
 rw [if_pos rfl]
 congr 1
 refine Dj XM ZA hp ?_;rw [List.pairwise_iff_getElem];intro p q hp1 hq1 hpq;have:=hs p q hpq (by rw [<-hp.length_eq];exact hq1)
 unfold gL at this;rw [gDE,gDE,gEE hp1,gEE hq1]at this;exact this
end Go.Ve.D

