/- Inverses. -/
import Derived.Test.YtpaekmpjbalnfabBda
import Derived.Test.YtpaekmpjbalnfabBba
namespace Go.Ve.D
open Go Go.Ve
noncomputable section
def ivOK(c:Cat)(f g:Nat):Bool:=Ha c (T c f g).toNat&&Ha c (T c g f).toNat
def bk(c:Cat)(f:Nat):List Int:=I5 c (tT c f) (fT c f)
def Aai(c:Cat)(f i:Nat):Option Int:=bif ivOK c f ((bk c f).getD i 0).toNat then some ((bk c f).getD i 0)else none
def inv(c:Cat)(f:Nat):Int:=((List.range (bk c f).length).findSome? (Aai c f)).getD (-1)
theorem Zh{c:Cat}{f i:Nat}(hi:i<(bk c f).length): ∃k:Nat,k<ar c/\mt c f k=true/\mt c k f=true/\(bk c f).getD i 0=(k:Int):=by
 obtain⟨k,hk,q,ek⟩:=Qh hi;rw [bAE,decide_eq_true_eq,decide_eq_true_eq]at q;exact⟨k,hk,dT q.1.symm,dT q.2,ek⟩
theorem Xa{c:Cat}(h:Sh c){f g:Nat}(hf:f<ar c)(hg:g<ar c)(hm:mt c f g=true): ∃t:Nat,T c f g=(t:Int)/\t<ar c/\fT c t=fT c f/\tT c t=tT c g:=by
 obtain⟨t1,t2,t3,t4⟩:=h.pos f g hf hg hm;obtain⟨t,et,ht⟩:=BG (n:=ar c) ⟨t1,t2⟩;rw [et,tNC]at t3 t4;exact⟨t,et,ht,t3,t4⟩
theorem Xb{c:Cat}(h:Sh c){f g:Nat}(hf:f<ar c)(hg:g<ar c):G70 (c,((f:Int),(g:Int)))=some (T c f g):=by
 have:=p70 h (f:=(f:Int)) (g:=(g:Int)) (Ad hf) (Ad hg);rwa [tNC,tNC]at this
theorem Xs{c:Cat}(h:Sh c){f g:Nat}(hf:f<ar c)(hg:g<ar c):G67 (c,((f:Int),(g:Int)))=some (T c f g):=Xb h hf hg
theorem p114{c:Cat}(h:Sh c){f:Nat}(hf:f<ar c):G114 (c,(f:Int))=some (inv c f):=by
 obtain⟨a1,a2,a3,a4,a5,a6,a7,a8⟩:=h.hd;have hac:ar c=c.2.1.length:=rfl;have hl:(bk c f).length<=ar c:=NS;have e:G43 (c,(c.2.2.1.getD f 0,c.2.1.getD f 0))=some (bk c f):=p43 (by omega) a3 _ _
 unfold G114 inv;simp (disch:=omega) only [Prod.eta,tNC,leN,ltN,and_self,if_true,e,Option.bind_some];refine As (v:=fLO (fun r=>r) 0 (bk c f).length ((List.range (bk c f).length).findSome? (Aai c f))) (Kl (id:=0) (fun r=>r) (fun i hi=>?_) ?_) ?_
 ·obtain⟨k,hk,m1,m2,ek⟩:=Zh hi
  obtain⟨t,et,ht,_,_⟩:=Xa h hf hk m1;obtain⟨s,es,hs,_,_⟩:=Xa h hk hf m2;unfold Aai ivOK;rw [ek,tNC,et,es,tNC,tNC];simp (disch:=omega) only [decide_true,cond_true,leN,ltN,and_self,if_true,tNC,ek,Xb h hf hk,Xb h hk hf,et,es,p69 h ht,p69 h hs,Option.bind_some,wN];cases Ha c t with
  |false=>exact⟨fun _=>rfl,fun r hr=>by cases hr⟩
  |true=>
  cases Ha c s with
  |false=>exact⟨fun _=>rfl,fun r hr=>by cases hr⟩
  |true=>exact⟨(fun h=>by cases h),fun r hr=>by cases hr;rfl⟩
 ·simp only [A5,cond_false]
 ·cases (List.range (bk c f).length).findSome? (Aai c f)with
  |some r=>rfl
  |none=>rfl
theorem Aal{c:Cat}{f t:Nat}(e:fT c t=fT c f):decide ((t:Int)=c.2.2.2.1.getD (c.2.1.getD f 0).toNat 0)=Ha c t:=by
 unfold Ha;rw [e];exact decide_eq_decide.2 eq_comm
theorem p59{c:Cat}(h:Sh c){f:Nat}(hf:f<ar c):G59 (c,(f:Int))=some (inv c f):=by
 obtain⟨a1,a2,a3,a4,a5,a6,a7,a8⟩:=h.hd;have hac:ar c=c.2.1.length:=rfl;have hl:(bk c f).length<=ar c:=NS;have e:G48 (c,(c.2.2.1.getD f 0,c.2.1.getD f 0))=some (bk c f):=p48 (by omega) a3 _ _
 have i1:(0:Int)<=c.2.1.getD f 0/\c.2.1.getD f 0<((c.2.2.2.1.length:Nat):Int):=by have:=h.fr f hf;omega
 have i2:(0:Int)<=c.2.2.1.getD f 0/\c.2.2.1.getD f 0<((c.2.2.2.1.length:Nat):Int):=by have:=h.to f hf;omega
 unfold G59 inv;simp (disch:=omega) only [tNC,leN,ltN,and_self,if_true,e,Option.bind_some];refine As (v:=fLO (fun r=>r) 0 (bk c f).length ((List.range (bk c f).length).findSome? (Aai c f))) (Kl (id:=0) (fun r=>r) (fun i hi=>?_) ?_) ?_
 ·obtain⟨k,hk,m1,m2,ek⟩:=Zh hi
  obtain⟨t,et,ht,et2,_⟩:=Xa h hf hk m1;obtain⟨s,es,hs,es2,_⟩:=Xa h hk hf m2;have d1:=Aal et2;have es3:fT c s=fT c k:=es2
  have d2:decide ((s:Int)=c.2.2.2.1.getD (c.2.2.1.getD f 0).toNat 0)=Ha c s:=by
   unfold Ha;rw [es3];have:c.2.2.1.getD f 0=fT c k:=of_decide_eq_true m1;rw [this];exact decide_eq_decide.2 eq_comm
  unfold Aai ivOK;rw [ek,tNC,et,es,tNC,tNC];simp (disch:=omega) only [decide_true,cond_true,leN,ltN,and_self,if_true,tNC,ek,Xs h hf hk,Xs h hk hf,et,es,i1,i2,and_self,if_true,d1,d2,Option.bind_some,wN];cases Ha c t with
  |false=>exact⟨fun _=>rfl,fun r hr=>by cases hr⟩
  |true=>
  cases Ha c s with
  |false=>exact⟨fun _=>rfl,fun r hr=>by cases hr⟩
  |true=>exact⟨(fun h=>by cases h),fun r hr=>by cases hr;rfl⟩
 ·simp only [A5,cond_false]
 ·cases (List.range (bk c f).length).findSome? (Aai c f)with
  |some r=>rfl
  |none=>rfl
end
end Go.Ve.D


namespace Go.Ve.D
open Go Go.Ve
noncomputable section
theorem accC{α C R:Type}{F:C×(Int×List α)->Option (LO (C×(Int×List α)) R)}{n K L:Nat}{g:Nat->List α}{φ:List α->C}{id:Nat}(hg: ∀i,i<n->(g i).length<=K)
  (h1: ∀i,i<n->∀acc:List α,acc.length<=L+i*K->F (φ acc,((i:Int),acc))=some (.next (φ (acc++g i),(((i+1:Nat):Int),acc++g i)))) (h2: ∀acc:List α,F (φ acc,((n:Int),acc))=some (.brk id (φ acc,((n:Int),acc)))) (acc0:List α) (h0:acc0.length<=L):
  Ah F (φ acc0,((0:Int),acc0))=some (.brk id (φ (acc0++(List.range n).flatMap g),((n:Int),acc0++(List.range n).flatMap g))):=by
 have hl: ∀i,i<=n->(acc0++(List.range i).flatMap g).length<=L+i*K:=by
  intro i hi;have:=HW (g:=g) (K:=K) i fun j hj=>hg j (by omega)
  rw [List.length_append];omega
 have hst:=A8 (f:=F) (st:=fun i:Nat=>(φ (acc0++(List.range i).flatMap g),((i:Int),acc0++(List.range i).flatMap g))) (n:=n) (o:=.brk id (φ (acc0++(List.range n).flatMap g),((n:Int),acc0++(List.range n).flatMap g))) (fun i hi=>?_) (h2 _) (fun y=>by simp)
 ·simpa using hst
 ·rw [h1 i hi _ (hl i (by omega)),List.range_succ,List.flatMap_append,<-List.append_assoc]
  simp
theorem fillD{R:Type}{F:Int×(Int×List Int)->Option (LO (Int×(Int×List Int)) R)}{n:Nat}{nm:Nat->Int}{y:Nat->Int}{id:Nat}
  (h1: ∀j i,j+i+1=n->∀o:List Int,o.length=n->F (nm j,((i:Int),o))=some (.next (nm (j+1),((i:Int)-1,o.set i (y i))))) (h2: ∀o:List Int,F (nm n,(-1,o))=some (.brk id (nm n,(-1,o)))):
  Ah F (nm 0,((n:Int)-1,List.replicate n 0))=some (.brk id (nm n,(-1,(List.range n).map y))):=by
 have e0:List.replicate n (0:Int)=(List.range n).map fun i=>if n-0<=i then y i else 0:=by
  apply List.ext_getElem (by simp)
  intro i h1 h2;have:i<n:=by simpa using h1
  simp;omega
 have e1:(List.range n).map y=(List.range n).map fun i=>if n-n<=i then y i else 0:=by
  apply List.map_congr_left;intro i _;rw [if_pos (by omega)]
 rw [e0,e1];have hst:=A8 (f:=F) (st:=fun j:Nat=>(nm j,((n:Int)-1-(j:Int),(List.range n).map fun i=>if n-j<=i then y i else 0))) (n:=n) (o:=.brk id (nm n,(-1,(List.range n).map fun i=>if n-n<=i then y i else 0))) (fun j hj=>?_) ?_ (fun y=>by simp)
 ·simpa using hst
 ·obtain⟨i,hi⟩: ∃i,j+i+1=n:=⟨n-1-j,by omega⟩
  have ei:(n:Int)-1-(j:Int)=(i:Int):=by omega
  have ei2:(n:Int)-1-((j+1:Nat):Int)=(i:Int)-1:=by omega
  simp only [ei,ei2];rw [h1 j i hi _ (by simp)]
  congr 4
  apply List.ext_getElem (by simp)
  intro k g1 g2;have hk:k<n:=by simpa using g2
  rw [List.getElem_set];by_cases h:i=k
  ·subst h
   simp;omega
  ·rw [if_neg h]
   simp;by_cases h3:n<=k+j
   ·rw [if_pos h3,if_pos (by omega)]
   ·rw [if_neg h3,if_neg (by omega)]
 ·have ei:(n:Int)-1-(n:Int)= -1:=by omega
  simp only [ei];exact h2 _
def nmS(sz:List Int)(k:Int):Nat->Int
 |0=>k
 |j+1=>Int.tdiv (nmS sz k j) (sz.getD (sz.length-1-j) 0)
def dgS(sz:List Int)(k:Int)(i:Nat):Int:=Int.tmod (nmS sz k (sz.length-1-i)) (sz.getD i 0)
def posL(sz:List Int):Prop:=∀i,i<sz.length->0<sz.getD i 0
theorem KK{sz:List Int}(hp:posL sz){k:Int}(hk:0<=k/\k<=200): ∀j,j<=sz.length->0<=nmS sz k j/\nmS sz k j<=200
 |0,_=>hk
 |j+1,h=>by
  obtain⟨h1,h2⟩:=KK hp hk j (by omega)
  have hp:=hp (sz.length-1-j) (by omega)
  unfold nmS;refine⟨Int.tdiv_nonneg h1 (by omega),?_⟩
  rw [Int.tdiv_eq_ediv_of_nonneg h1];exact Int.le_trans (Int.ediv_le_self _ h1) h2
theorem WI{sz:List Int}(hp:posL sz){k:Int}(hk:0<=k/\k<=200){i:Nat}(hi:i<sz.length):0<=dgS sz k i/\dgS sz k i<sz.getD i 0:=by
 obtain⟨h1,h2⟩:=KK hp hk (sz.length-1-i) (by omega)
 have hp:=hp i hi;unfold dgS;exact⟨Int.tmod_nonneg _ h1,Int.tmod_lt_of_pos _ hp⟩
theorem p64{sz:List Int}(hp:posL sz)(hl:sz.length<=1000){k:Int}(hk:0<=k/\k<=200):G64 (sz,k)=some ((List.range sz.length).map (dgS sz k)):=by
 unfold G64
 dsimp only
 rw [if_pos (by omega),Cw (by omega) (by omega),tNC]
 refine As (v:=.brk 0 (nmS sz k sz.length,(-1,(List.range sz.length).map (dgS sz k)))) (fillD (nm:=nmS sz k) (y:=dgS sz k) (fun j i hj o ho=>?_) fun o=>?_) rfl
 ·have p:=hp i (by omega)
  obtain⟨n1,n2⟩:=KK hp hk j (by omega)
  obtain⟨m1,m2⟩:=KK hp hk (j+1) (by omega)
  have e1:sz.length-1-j=i:=by omega
  have e2:sz.length-1-i=j:=by omega
  have e3:nmS sz k (j+1)=Int.tdiv (nmS sz k j) (sz.getD i 0):=by
   show Int.tdiv _ (sz.getD (sz.length-1-j) 0)=_;rw [e1]
  have e4:dgS sz k i=Int.tmod (nmS sz k j) (sz.getD i 0):=by
   unfold dgS;rw [e2]
  rw [e4];have hne:sz.getD i 0≠0:=by omega
  simp (disch:=omega) only [leN,ltN,and_self,if_true,decide_true,cond_true,tNC,if_pos hne];rw [<-e3,Cw (by omega) (by omega),Cw (by omega) (by omega)]
 ·rfl
end
end Go.Ve.D


namespace Go.Ve.D
open Go Go.Ve
noncomputable section
theorem Yq{α β:Type}{f:α->β}: ∀l:List α,(l.flatMap fun y=>[f y])=l.map f
 | []=>rfl
 |a::l=>by rw [List.flatMap_cons,Yq l];rfl
def swG(c:Cat)(ob:List (List Int))(x y:Nat):List Int:=I5 c (cell ob x y) (cell ob y x)
def swp(c:Cat)(ob:List (List Int))(x y:Nat):List Int:=((List.range (swG c ob x y).length).filter fun i=>decide (0<=inv c ((swG c ob x y).getD i 0).toNat)).map fun i=>(swG c ob x y).getD i 0
def swR(c:Cat)(ob:List (List Int))(n x:Nat):List (List Int):=(List.range n).flatMap fun y=>[swp c ob x y]
def AE(c:Cat)(ob:List (List Int))(n:Nat):List (List Int):=(List.range n).flatMap (swR c ob n)
theorem Ox{c:Cat}{ob:List (List Int)}{x y:Nat}:(swG c ob x y).length<=ar c:=NS
theorem Vv{c:Cat}{ob:List (List Int)}{x y:Nat}:(swp c ob x y).length<=ar c:=by
 unfold swp;rw [List.length_map];have:=List.length_filter_le (fun i=>decide (0<=inv c ((swG c ob x y).getD i 0).toNat)) (List.range (swG c ob x y).length)
 rw [List.length_range]at this;have:=Ox (c:=c) (ob:=ob) (x:=x) (y:=y);omega
theorem Oy{c:Cat}{ob:List (List Int)}{x y i:Nat}(hi:i<(swG c ob x y).length): ∃k:Nat,k<ar c/\fT c k=cell ob x y/\tT c k=cell ob y x/\(swG c ob x y).getD i 0=(k:Int):=by
 obtain⟨k,hk,q,ek⟩:=Qh hi;rw [bAE,decide_eq_true_eq,decide_eq_true_eq]at q;exact⟨k,hk,q.1,q.2,ek⟩
theorem ZH{c:Cat}{ob:List (List Int)}{x y i:Nat}(hi:i<(swp c ob x y).length): ∃k:Nat,k<ar c/\fT c k=cell ob x y/\tT c k=cell ob y x/\0<=inv c k/\(swp c ob x y).getD i 0=(k:Int):=by
 have hm:=BI (0:Int) hi;obtain⟨j,hj,e⟩:=List.mem_map.1 hm;obtain⟨h1,h2⟩:=List.mem_filter.1 hj;obtain⟨k,hk,f1,f2,ek⟩:=Oy (List.mem_range.1 h1);rw [ek,tNC]at h2;exact⟨k,hk,f1,f2,of_decide_eq_true h2,by rw [<-e,ek]⟩
theorem Lw{c:Cat}{ob:List (List Int)}{n x:Nat}:(swR c ob n x).length=n:=by
 unfold swR;rw [Yq];simp
theorem Jh{c:Cat}{ob:List (List Int)}{n:Nat}:(AE c ob n).length=n*n:=by
 unfold AE
 have: ∀m,((List.range m).flatMap (swR c ob n)).length=m*n:=by
  intro m
  induction m with
  |zero=>simp
  |succ m ih=>
   rw [List.range_succ,List.flatMap_append,List.length_append,ih,Nat.succ_mul];simp [Lw]
 exact this n
theorem MZ{c:Cat}{ob:List (List Int)}{n x y:Nat}(hx:x<n)(hy:y<n):(AE c ob n).getD (x*n+y) []=swp c ob x y:=by
 have hr:(swR c ob n x).getD y []=swp c ob x y:=by
  unfold swR;rw [Yq];simp [hy]
 have: ∀m,x<m->((List.range m).flatMap (swR c ob n)).getD (x*n+y) []=swp c ob x y:=by
  intro m
  induction m with
  |zero=>intro h;omega
  |succ m ih=>
   intro h
   have hl:((List.range m).flatMap (swR c ob n)).length=m*n:=by
    have: ∀m,((List.range m).flatMap (swR c ob n)).length=m*n:=by
     intro m
     induction m with
     |zero=>simp
     |succ m ih=>
      rw [List.range_succ,List.flatMap_append,List.length_append,ih,Nat.succ_mul];simp [Lw]
    exact this m
   rw [List.range_succ,List.flatMap_append,gDE];by_cases hm:x<m
   ·have:(x+1)*n<=m*n:=Nat.mul_le_mul_right n hm
    rw [gAL (by rw [hl,Nat.succ_mul]at*;omega),<-gDE]
    exact ih hm
   ·obtain rfl:x=m:=by omega
    rw [gAR (by omega),hl,<-gDE]
    have:x*n+y-x*n=y:=by omega
    rw [this];simpa using hr
 exact this n hx
theorem p63{c:Cat}{u:Int}{ob am:List (List Int)}{n:Nat}(h:MH c u ob am n):G63 (mkM c u ob am)=some (AE c ob n):=by
 obtain⟨a1,a2,a3,a4,a5,a6,a7,a8⟩:=h.sh.hd;have hm:ar c<=40:=a2;have hac:ar c=c.2.1.length:=rfl;have hn:=h.hn;have hn8:n<=8:=by omega
 have lo:=h.ho.len;have ltc: ∀x:Nat,x<n->((x:Int)<c.1)=True:=fun x hx=>eq_true (by omega)
 have ltn:decide ((n:Int)<c.1)=false:=dF (by omega)
 unfold G63 mkM AE;simp only [Prod.eta];refine As (v:=.brk 0 ((n:Int),[]++(List.range n).flatMap (swR c ob n))) (Oc (K:=8) (L:=0) (fun i hi=>by rw [Lw];exact hn8) (fun x hx acc ha=>?_) (fun acc=>?_) [] (Nat.zero_le _)) (by rw [List.nil_append];rfl)
 ·have hacc:acc.length<=64:=by omega
  have rx:=h.ho.row x hx;simp only [ltc x hx,decide_true,cond_true];refine As (v:=.brk 2 ((n:Int),acc++swR c ob n x)) (Oc (K:=1) (L:=acc.length) (g:=fun y=>[swp c ob x y]) (n:=n) (fun b hb=>Nat.le_refl _) (fun y hy acc2 ha2=>?_) (fun acc2=>?_) acc (Nat.le_refl _)) ?_
  ·have ry:=h.ho.row y hy
   have e:G43 (c,((ob.getD x []).getD y 0,(ob.getD y []).getD x 0))=some (swG c ob x y):=p43 (by omega) a3 _ _
   have hl:=Ox (c:=c) (ob:=ob) (x:=x) (y:=y);simp (disch:=omega) only [ltc y hy,leN,ltN,and_self,if_true,decide_true,cond_true,tNC,e,Option.bind_some];refine As (v:=.brk 4 (((swG c ob x y).length:Int),swp c ob x y)) (KT (fun i hi acc3 ha3=>?_) fun acc3=>?_) ?_
   ·obtain⟨k,hk,_,_,ek⟩:=Oy hi
    simp (disch:=omega) only [leN,ltN,and_self,if_true,decide_true,cond_true,tNC,ek,p114 h.sh hk,Option.bind_some,wN,List.length_cons,List.length_nil];rw [if_pos (show acc3.length+(0+1)<=17592186044416 by omega)]
    cases decide (0<=inv c k)<;>rfl
   ·simp only [A5,cond_false]
   ·show(if 4=4 then _ else none)=_
    simp (disch:=omega) only [if_true,wN,List.length_cons,List.length_nil];rw [if_pos (show acc2.length+(0+1)<=5864062014805 by omega)]
  ·simp only [ltn,cond_false]
  ·show(if 2=2 then _ else none)=_
   rw [if_pos rfl,wN (by omega)]
 ·simp only [ltn,cond_false]
def BH(ch:List (List Int)):List Int:=ch.map fun s=>(s.length:Int)
theorem HO{ch:List (List Int)}:(BH ch).length=ch.length:=by simp [BH]
theorem HP{ch:List (List Int)}{i:Nat}(hi:i<ch.length):(BH ch).getD i 0=((ch.getD i []).length:Int):=by
 simp [BH,hi]
def DZ(ch:List (List Int))(k:Int)(i:Nat):Int:=(ch.getD i []).getD (dgS (BH ch) k i).toNat 0
def Le(ch:List (List Int))(n:Nat)(k:Int):List (List Int):=(List.range n).map fun x=>(List.range n).map fun y=>DZ ch k (x*n+y)
def full(ch:List (List Int)):Prop:=∀i,i<ch.length->0<(ch.getD i []).length
theorem Md{ch:List (List Int)}(h:full ch):posL (BH ch):=fun i hi=>by
 rw [HO]at hi;rw [HP hi];have:=h i hi;omega
theorem p98{x:List Int}(hx:x.length<=1000):G98 x=some x:=by
 unfold G98;rw [if_pos (by simp only [List.length_nil];omega),List.nil_append]
theorem ix_lt{n x y:Nat}(hx:x<n)(hy:y<n):x*n+y<n*n:=by
 have:(x+1)*n<=n*n:=Nat.mul_le_mul_right n hx;rw [Nat.succ_mul]at this;omega
theorem p60{c:Cat}{u:Int}{ob am:List (List Int)}{n:Nat}(hn:c.1=(n:Int))(hn8:n<=8){ch:List (List Int)}(hl:ch.length=n*n)(hf:full ch){k:Int}(hk:0<=k/\k<=200):G60 (mkM c u ob am,(ch,k))=some (Le ch n k):=by
 have hp:=Md hf;have h64:n*n<=64:=Nat.mul_le_mul hn8 hn8;unfold G60 mkM
 dsimp only
 rw [if_pos (by omega),Cw (by omega) (by omega),tNC,hn]
 refine As (v:=.brk 0 (nmS (BH ch) k ch.length,(-1,(List.range ch.length).map (DZ ch k)))) (fillD (nm:=nmS (BH ch) k) (y:=DZ ch k) (fun j i hj o ho=>?_) fun o=>?_) ?_
 ·have p:=hf i (by omega)
  have hl2:=HO (ch:=ch);obtain⟨n1,n2⟩:=KK hp hk j (by omega)
  obtain⟨m1,m2⟩:=KK hp hk (j+1) (by omega)
  have e1:(BH ch).length-1-j=i:=by omega
  have e2:(BH ch).length-1-i=j:=by omega
  have e0:=HP (ch:=ch) (i:=i) (by omega)
  have e3:nmS (BH ch) k (j+1)=Int.tdiv (nmS (BH ch) k j) ((ch.getD i []).length:Int):=by
   show Int.tdiv _ ((BH ch).getD ((BH ch).length-1-j) 0)=_;rw [e1,e0]
  have e4:dgS (BH ch) k i=Int.tmod (nmS (BH ch) k j) ((ch.getD i []).length:Int):=by
   unfold dgS;rw [e2,e0]
  obtain⟨d1,d2⟩:=WI hp hk (i:=i) (by omega)
  rw [e0]at d2;obtain⟨d,ed,hd⟩:=BG (a:=dgS (BH ch) k i) (n:=(ch.getD i []).length) ⟨d1,d2⟩;have hne:((ch.getD i []).length:Int)≠0:=by omega
  unfold DZ;rw [ed,tNC];rw [ed]at e4;simp (disch:=omega) only [leN,ltN,and_self,if_true,decide_true,cond_true,tNC,if_pos hne,<-e4];rw [<-e3,Cw (by omega) (by omega),Cw (by omega) (by omega)]
 ·rfl
 ·show(if 0=0 then _ else none)=_
  rw [if_pos rfl];refine As (v:=.brk 2 ((n:Int),Le ch n k)) (O6 (fun x hx acc ha=>?_) fun acc=>?_) rfl
  ·have h1:(x+1)*n<=n*n:=Nat.mul_le_mul_right n hx
   have h2:(x+1)*n=x*n+n:=Nat.succ_mul x n
   have q1:IntKind.wrap .i64 ((x:Int)*(n:Int))=((x*n:Nat):Int):=by
    rw [<-Int.natCast_mul,Cw (by omega) (by omega)]
   have q2:IntKind.wrap .i64 (((x+1:Nat):Int)*(n:Int))=(((x+1)*n:Nat):Int):=by
    rw [<-Int.natCast_mul,Cw (by omega) (by omega)]
   simp (disch:=omega) only [decide_true,ltN,cond_true,wN,q1,q2];rw [if_pos ⟨by omega,by omega,by rw [List.length_map,List.length_range];omega⟩]
   have e5:Ly ((x*n:Nat):Int).toNat ((((x+1)*n:Nat):Int).toNat-((x*n:Nat):Int).toNat) ((List.range ch.length).map (DZ ch k)) (0:Int)=(List.range n).map fun y=>DZ ch k (x*n+y):=by
    unfold Ly;rw [tNC,tNC,h2,Nat.add_sub_cancel_left];apply List.map_congr_left;intro y hy;have hy:=List.mem_range.1 hy;simp [show x*n+y<ch.length by omega]
   rw [e5,p98 (by simp;omega),Option.bind_some]
   rw [if_pos (by simp only [List.length_cons,List.length_nil];omega)]
  ·simp only [A5,cond_false]
end
end Go.Ve.D


namespace Go.Ve.D
open Go Go.Ve
noncomputable section
structure BT(c:Cat)(ob b:List (List Int))(n:Nat):Prop where
 len:b.length=n
 row: ∀x,x<n->(b.getD x []).length=n
 val: ∀x y,x<n->y<n->∃k:Nat,k<ar c/\cell b x y=(k:Int)/\fT c k=cell ob x y/\tT c k=cell ob y x/\0<=inv c k
def X5(c:Cat)(am b:List (List Int))(f g:Nat):Bool:=decide (T c (cell am f g).toNat (cell b (tT c f).toNat (tT c g).toNat).toNat=T c (cell b (fT c f).toNat (fT c g).toNat).toNat (cell am g f).toNat)
def ND(c:Cat)(am b:List (List Int)):Bool:=(List.range (ar c)).all fun f=>(List.range (ar c)).all (X5 c am b f)
def Wu(c:Cat)(ob am b:List (List Int))(x y z:Nat):Bool:=decide (cell b x (cell ob y z).toNat=T c (cell am (cell b x y).toNat (idA c z)).toNat (cell am (idA c y) (cell b x z).toNat).toNat)&&decide (cell b (cell ob x y).toNat z=T c (cell am (idA c x) (cell b y z).toNat).toNat (cell am (cell b x z).toNat (idA c y)).toNat)
def NP(c:Cat)(ob am b:List (List Int))(n:Nat):Bool:=(List.range n).all fun x=>(List.range n).all fun y=>(List.range n).all (Wu c ob am b x y)
theorem p65{c:Cat}{u:Int}{ob am b:List (List Int)}{n:Nat}(h:MH c u ob am n)(hb:BT c ob b n):G65 (mkM c u ob am,b)=some (ND c am b&&NP c ob am b n):=by
 obtain⟨a1,a2,a3,a4,a5,a6,a7,a8⟩:=h.sh.hd;have hm:ar c<=40:=a2;have hac:ar c=c.2.1.length:=rfl;have hn:=h.hn;have lo:=h.ho.len;have la:=h.ha.len;have lb:=hb.len;have ltc: ∀x:Nat,x<n->((x:Int)<c.1)=True:=fun x hx=>eq_true (by omega)
 have ltn:decide ((n:Int)<c.1)=false:=dF (by omega)
 unfold G65 mkM ND
 dsimp only
 refine UH (n:=ar c) (p:=fun f=>(List.range (ar c)).all (X5 c am b f)) (bad:=Hb) (id:=0) (Post:=fun t (o:Option Bool)=>o=some (t&&NP c ob am b n)) (fun f hf=>?_) ?_ ?_ (fun r hr=>by rw [hr];rfl)
 ·have hf2:f<c.2.1.length:=hf
  simp only [ltN hf2,decide_true,cond_true];refine Mk (n:=ar c) (p:=X5 c am b f) (bad:=Hb) (id:=2) (s:=((f+1:Nat):Int)) (fun g hg=>?_) ?_ ?_
  ·obtain⟨x,hx,ex⟩:=h.ha.val f g hf hg
   obtain⟨y,hy,ey⟩:=h.ha.val g f hg hf;have ex':(am.getD f []).getD g 0=(x:Int):=ex;have ey':(am.getD g []).getD f 0=(y:Int):=ey;have w1:=h.ha.row f hf;have w2:=h.ha.row g hg;obtain⟨f1,ef1,hf1⟩:=BG (a:=c.2.1.getD f 0) (n:=n) (by rw [<-hn];exact h.sh.fr f hf)
   obtain⟨g1,eg1,hg1⟩:=BG (a:=c.2.1.getD g 0) (n:=n) (by rw [<-hn];exact h.sh.fr g hg)
   obtain⟨f2,ef2,hf2⟩:=BG (a:=c.2.2.1.getD f 0) (n:=n) (by rw [<-hn];exact h.sh.to f hf)
   obtain⟨g2,eg2,hg2⟩:=BG (a:=c.2.2.1.getD g 0) (n:=n) (by rw [<-hn];exact h.sh.to g hg)
   obtain⟨p,hp,ep,_⟩:=hb.val f2 g2 hf2 hg2;obtain⟨q,hq,eq,_⟩:=hb.val f1 g1 hf1 hg1;have ep':(b.getD f2 []).getD g2 0=(p:Int):=ep;have eq':(b.getD f1 []).getD g1 0=(q:Int):=eq;have w3:=hb.row f1 hf1;have w4:=hb.row f2 hf2;simp (disch:=omega) only [leN,ltN,and_self,if_true,decide_true,cond_true,tNC,ex',ey',ef1,eg1,ef2,eg2,ep',eq',Prod.eta,Xb h.sh hx hp,Xb h.sh hq hy,Option.bind_some,wN]
   have e9:X5 c am b f g=decide (T c x p=T c q y):=by
    unfold X5 fT tT;exact decide_eq_decide.2 (by simp only [ef1,eg1,ef2,eg2,ex,ey,ep,eq,tNC])
   rw [e9];cases decide (T c x p=T c q y)with
   |true=>exact Cp rfl
   |false=>exact C0 rfl rfl
  ·have e:decide (ar c<c.2.1.length)=false:=dF (Nat.lt_irrefl _)
   simp only [Aw,e,cond_false]
  ·show(if 2=2 then _ else none)=_
   rw [if_pos rfl,wN (by omega)]
 ·have e:decide (ar c<c.2.1.length)=false:=dF (Nat.lt_irrefl _)
  simp only [Aw,e,cond_false]
 show(if 0=0 then _ else none)=_
 rw [if_pos rfl,Bool.true_and];unfold NP;refine UH (n:=n) (p:=fun x=>(List.range n).all fun y=>(List.range n).all (Wu c ob am b x y)) (bad:=Hb) (id:=4) (Post:=fun t (o:Option Bool)=>o=some t) (fun x hx=>?_) ?_ rfl (fun r hr=>by rw [hr])
 ·obtain⟨ix,hix,eix,_,_⟩:=idX h.sh h.cat (x:=x) (by omega)
  have rx:=h.ho.row x hx;have sx:=hb.row x hx;simp only [ltc x hx,leN,and_self,if_true,decide_true,cond_true,tNC];refine Mk (n:=n) (p:=fun y=>(List.range n).all (Wu c ob am b x y)) (bad:=Hb) (id:=6) (s:=((x+1:Nat):Int)) (fun y hy=>?_) ?_ ?_
  ·obtain⟨iy,hiy,eiy,_,_⟩:=idX h.sh h.cat (x:=y) (by omega)
   have ry:=h.ho.row y hy;have sy:=hb.row y hy;simp only [ltc y hy,leN,and_self,if_true,decide_true,cond_true,tNC];refine Mk (n:=n) (p:=Wu c ob am b x y) (bad:=Uo Hb) (id:=8) (s:=((y+1:Nat):Int)) (fun z hz=>?_) ?_ ?_
   ·obtain⟨iz,hiz,eiz,_,_⟩:=idX h.sh h.cat (x:=z) (by omega)
    obtain⟨yz,hyz,eyz⟩:=h.ho.val y z hy hz;obtain⟨xy,hxy,exy⟩:=h.ho.val x y hx hy;have eyz':(ob.getD y []).getD z 0=(yz:Int):=eyz;have exy':(ob.getD x []).getD y 0=(xy:Int):=exy;have sxy:=hb.row xy hxy;obtain⟨p,hp,ep,_⟩:=hb.val x y hx hy;obtain⟨q,hq,eq,_⟩:=hb.val x z hx hz;obtain⟨r,hr,er,_⟩:=hb.val y z hy hz;have ep':(b.getD x []).getD y 0=(p:Int):=ep;have eq':(b.getD x []).getD z 0=(q:Int):=eq;have er':(b.getD y []).getD z 0=(r:Int):=er;obtain⟨s1,hs1,es1⟩:=h.ha.val p iz hp hiz;obtain⟨s2,hs2,es2⟩:=h.ha.val iy q hiy hq;obtain⟨s3,hs3,es3⟩:=h.ha.val ix r hix hr;obtain⟨s4,hs4,es4⟩:=h.ha.val q iy hq hiy;have es1':(am.getD p []).getD iz 0=(s1:Int):=es1;have es2':(am.getD iy []).getD q 0=(s2:Int):=es2;have es3':(am.getD ix []).getD r 0=(s3:Int):=es3;have es4':(am.getD q []).getD iy 0=(s4:Int):=es4;have v1:=h.ha.row p hp;have v2:=h.ha.row iy hiy;have v3:=h.ha.row ix hix;have v4:=h.ha.row q hq;simp (disch:=omega) only [ltc z hz,leN,ltN,and_self,if_true,decide_true,cond_true,tNC,eix,eiy,eiz,eyz',exy',ep',eq',er',es1',es2',es3',es4',Prod.eta,Xb h.sh hs1 hs2,Xb h.sh hs3 hs4,Option.bind_some,wN]
    have e9:Wu c ob am b x y z=(decide (cell b x yz=T c s1 s2)&&decide (cell b xy z=T c s3 s4)):=by
     unfold Wu idA;exact congr (congrArg and (decide_eq_decide.2 (by simp only [eix,eiy,eiz,eyz,exy,ep,eq,er,es1,es2,es3,es4,tNC]))) (decide_eq_decide.2 (by simp only [eix,eiy,eiz,eyz,exy,ep,eq,er,es1,es2,es3,es4,tNC]))
    rw [e9];show Oe _ _ (decide ((b.getD x []).getD yz 0=T c s1 s2)&&decide ((b.getD xy []).getD z 0=T c s3 s4)) _;cases decide ((b.getD x []).getD yz 0=T c s1 s2)with
    |false=>exact Cq ⟨_,rfl,_,rfl,_,rfl,rfl⟩
    |true=>
    cases decide ((b.getD xy []).getD z 0=T c s3 s4)with
    |false=>exact Cq ⟨_,rfl,_,rfl,_,rfl,rfl⟩
    |true=>exact Cp rfl
   ·simp only [ltn,cond_false]
   ·show(if 8=8 then _ else none)=_
    rw [if_pos rfl,wN (by omega)]
  ·simp only [ltn,cond_false]
  ·show(if 6=6 then _ else none)=_
   rw [if_pos rfl,wN (by omega)]
 ·simp only [ltn,cond_false]
theorem p109{c:Cat}{u:Int}{ob am b:List (List Int)}{n:Nat}(h:MH c u ob am n)(hb:BT c ob b n):G109 (mkM c u ob am,b)=some (ND c am b):=by
 obtain⟨a1,a2,a3,a4,a5,a6,a7,a8⟩:=h.sh.hd;have hm:ar c<=40:=a2;have hac:ar c=c.2.1.length:=rfl;have hn:=h.hn;have lo:=h.ho.len;have la:=h.ha.len;have lb:=hb.len;unfold G109 mkM ND
 dsimp only
 refine UH (n:=ar c) (p:=fun f=>(List.range (ar c)).all (X5 c am b f)) (bad:=Hb) (id:=0) (Post:=fun t (o:Option Bool)=>o=some t) (fun f hf=>?_) ?_ rfl (fun r hr=>by rw [hr])
 ·have hf2:f<c.2.1.length:=hf
  simp only [ltN hf2,decide_true,cond_true];refine Mk (n:=ar c) (p:=X5 c am b f) (bad:=Hb) (id:=2) (s:=((f+1:Nat):Int)) (fun g hg=>?_) ?_ ?_
  ·obtain⟨x,hx,ex⟩:=h.ha.val f g hf hg
   obtain⟨y,hy,ey⟩:=h.ha.val g f hg hf;have ex':(am.getD f []).getD g 0=(x:Int):=ex;have ey':(am.getD g []).getD f 0=(y:Int):=ey;have w1:=h.ha.row f hf;have w2:=h.ha.row g hg;obtain⟨f1,ef1,hf1⟩:=BG (a:=c.2.1.getD f 0) (n:=n) (by rw [<-hn];exact h.sh.fr f hf)
   obtain⟨g1,eg1,hg1⟩:=BG (a:=c.2.1.getD g 0) (n:=n) (by rw [<-hn];exact h.sh.fr g hg)
   obtain⟨f2,ef2,hf2⟩:=BG (a:=c.2.2.1.getD f 0) (n:=n) (by rw [<-hn];exact h.sh.to f hf)
   obtain⟨g2,eg2,hg2⟩:=BG (a:=c.2.2.1.getD g 0) (n:=n) (by rw [<-hn];exact h.sh.to g hg)
   obtain⟨p,hp,ep,_⟩:=hb.val f2 g2 hf2 hg2;obtain⟨q,hq,eq,_⟩:=hb.val f1 g1 hf1 hg1;have ep':(b.getD f2 []).getD g2 0=(p:Int):=ep;have eq':(b.getD f1 []).getD g1 0=(q:Int):=eq;have w3:=hb.row f1 hf1;have w4:=hb.row f2 hf2;simp (disch:=omega) only [leN,ltN,and_self,if_true,decide_true,cond_true,tNC,ex',ey',ef1,eg1,ef2,eg2,ep',eq',Prod.eta,Xs h.sh hx hp,Xs h.sh hq hy,Option.bind_some,wN]
   have e9:X5 c am b f g=decide (T c x p=T c q y):=by
    unfold X5 fT tT;exact decide_eq_decide.2 (by simp only [ef1,eg1,ef2,eg2,ex,ey,ep,eq,tNC])
   rw [e9];cases decide (T c x p=T c q y)with
   |true=>exact Cp rfl
   |false=>exact C0 rfl rfl
  ·have e:decide (ar c<c.2.1.length)=false:=dF (Nat.lt_irrefl _)
   simp only [Aw,e,cond_false]
  ·show(if 2=2 then _ else none)=_
   rw [if_pos rfl,wN (by omega)]
 ·have e:decide (ar c<c.2.1.length)=false:=dF (Nat.lt_irrefl _)
  simp only [Aw,e,cond_false]
theorem p110{c:Cat}{u:Int}{ob am b:List (List Int)}{n:Nat}(h:MH c u ob am n)(hb:BT c ob b n):G110 (mkM c u ob am,b)=some (NP c ob am b n):=by
 obtain⟨a1,a2,a3,a4,a5,a6,a7,a8⟩:=h.sh.hd;have hm:ar c<=40:=a2;have hac:ar c=c.2.1.length:=rfl;have hn:=h.hn;have lo:=h.ho.len;have la:=h.ha.len;have lb:=hb.len;have ltc: ∀x:Nat,x<n->((x:Int)<((c.2.2.2.1.length:Nat):Int))=True:=fun x hx=>eq_true (by omega)
 have ltn:decide ((n:Int)<((c.2.2.2.1.length:Nat):Int))=false:=dF (by omega)
 unfold G110 mkM NP
 dsimp only
 refine UH (n:=n) (p:=fun x=>(List.range n).all fun y=>(List.range n).all (Wu c ob am b x y)) (bad:=Hb) (id:=0) (Post:=fun t (o:Option Bool)=>o=some t) (fun x hx=>?_) ?_ rfl (fun r hr=>by rw [hr])
 ·obtain⟨ix,hix,eix,_,_⟩:=idX h.sh h.cat (x:=x) (by omega)
  have rx:=h.ho.row x hx;have sx:=hb.row x hx;simp only [ltc x hx,leN,and_self,if_true,decide_true,cond_true,tNC];refine Mk (n:=n) (p:=fun y=>(List.range n).all (Wu c ob am b x y)) (bad:=Hb) (id:=2) (s:=((x+1:Nat):Int)) (fun y hy=>?_) ?_ ?_
  ·obtain⟨iy,hiy,eiy,_,_⟩:=idX h.sh h.cat (x:=y) (by omega)
   have ry:=h.ho.row y hy;have sy:=hb.row y hy;simp only [ltc y hy,leN,and_self,if_true,decide_true,cond_true,tNC];refine Mk (n:=n) (p:=Wu c ob am b x y) (bad:=Uo Hb) (id:=4) (s:=((y+1:Nat):Int)) (fun z hz=>?_) ?_ ?_
   ·obtain⟨iz,hiz,eiz,_,_⟩:=idX h.sh h.cat (x:=z) (by omega)
    obtain⟨yz,hyz,eyz⟩:=h.ho.val y z hy hz;obtain⟨xy,hxy,exy⟩:=h.ho.val x y hx hy;have eyz':(ob.getD y []).getD z 0=(yz:Int):=eyz;have exy':(ob.getD x []).getD y 0=(xy:Int):=exy;have sxy:=hb.row xy hxy;obtain⟨p,hp,ep,_⟩:=hb.val x y hx hy;obtain⟨q,hq,eq,_⟩:=hb.val x z hx hz;obtain⟨r,hr,er,_⟩:=hb.val y z hy hz;have ep':(b.getD x []).getD y 0=(p:Int):=ep;have eq':(b.getD x []).getD z 0=(q:Int):=eq;have er':(b.getD y []).getD z 0=(r:Int):=er;obtain⟨s1,hs1,es1⟩:=h.ha.val p iz hp hiz;obtain⟨s2,hs2,es2⟩:=h.ha.val iy q hiy hq;obtain⟨s3,hs3,es3⟩:=h.ha.val ix r hix hr;obtain⟨s4,hs4,es4⟩:=h.ha.val q iy hq hiy;have es1':(am.getD p []).getD iz 0=(s1:Int):=es1;have es2':(am.getD iy []).getD q 0=(s2:Int):=es2;have es3':(am.getD ix []).getD r 0=(s3:Int):=es3;have es4':(am.getD q []).getD iy 0=(s4:Int):=es4;have v1:=h.ha.row p hp;have v2:=h.ha.row iy hiy;have v3:=h.ha.row ix hix;have v4:=h.ha.row q hq;simp (disch:=omega) only [ltc z hz,leN,ltN,and_self,if_true,decide_true,cond_true,tNC,eix,eiy,eiz,eyz',exy',ep',eq',er',es1',es2',es3',es4',Prod.eta,Xs h.sh hs1 hs2,Xs h.sh hs3 hs4,Option.bind_some,wN]
    have e9:Wu c ob am b x y z=(decide (cell b x yz=T c s1 s2)&&decide (cell b xy z=T c s3 s4)):=by
     unfold Wu idA;exact congr (congrArg and (decide_eq_decide.2 (by simp only [eix,eiy,eiz,eyz,exy,ep,eq,er,es1,es2,es3,es4,tNC]))) (decide_eq_decide.2 (by simp only [eix,eiy,eiz,eyz,exy,ep,eq,er,es1,es2,es3,es4,tNC]))
    rw [e9];show Oe _ _ (decide ((b.getD x []).getD yz 0=T c s1 s2)&&decide ((b.getD xy []).getD z 0=T c s3 s4)) _;cases decide ((b.getD x []).getD yz 0=T c s1 s2)with
    |false=>exact Cq ⟨_,rfl,_,rfl,_,rfl,rfl⟩
    |true=>
    cases decide ((b.getD xy []).getD z 0=T c s3 s4)with
    |false=>exact Cq ⟨_,rfl,_,rfl,_,rfl,rfl⟩
    |true=>exact Cp rfl
   ·simp only [ltn,cond_false]
   ·show(if 4=4 then _ else none)=_
    rw [if_pos rfl,wN (by omega)]
  ·simp only [ltn,cond_false]
  ·show(if 2=2 then _ else none)=_
   rw [if_pos rfl,wN (by omega)]
 ·simp only [ltn,cond_false]
end
end Go.Ve.D


namespace Go.Ve.D
open Go Go.Ve
noncomputable section
theorem p61{c:Cat}{u:Int}{ob am b:List (List Int)}{n:Nat}(h:MH c u ob am n)(hb:BT c ob b n):G61 (mkM c u ob am,b)=some (ND c am b&&NP c ob am b n):=by
 obtain⟨a1,a2,a3,a4,a5,a6,a7,a8⟩:=h.sh.hd;have hm:ar c<=40:=a2;have hac:ar c=c.2.1.length:=rfl;have hn:=h.hn;have lo:=h.ho.len;have lb:=hb.len;have e0:decide (((b.length:Nat):Int)=c.1)=true:=dT (by omega)
 have e1:=p109 h hb;have e2:=p110 h hb;unfold mkM at e1 e2;unfold G61 mkM
 dsimp only
 simp only [e0,Bool.not_true,cond_false];refine As (v:=.brk 0 (b.length:Int)) (A8 (st:=fun x:Nat=>(x:Int)) (n:=b.length) (fun x hx=>?_) ?_ (fun y=>by simp)) ?_
 ·have hx':x<n:=by omega
  have sx:=hb.row x hx';have rx:=h.ho.row x hx';have e3:decide ((((b.getD x []).length:Nat):Int)=c.1)=true:=dT (by omega)
  have e4:wi ((c.2.1.length:Nat):Int) (b.getD x [])=true:=by
   unfold wi;rw [<-IC (0:Int) (inn ((c.2.1.length:Nat):Int)) (b.getD x [])];refine aET.2 fun y hy=>?_
   have hy:=List.mem_range.1 hy;obtain⟨k,hk,ek,_⟩:=hb.val x y hx' (by omega)
   have ek':(b.getD x []).getD y 0=(k:Int):=ek;rw [ek'];exact Hk.2 (by omega)
  have e5:=p74 (n:=((c.2.1.length:Nat):Int)) (x:=b.getD x []) (by omega) (by omega)
  rw [e4]at e5;simp only [ltN hx,leN,and_self,if_true,decide_true,cond_true,tNC,e3,e5,p75,Option.bind_some,Bool.not_true,cond_false];refine As (v:=.brk 2 ((b.getD x []).length:Int)) (A8 (st:=fun y:Nat=>(y:Int)) (n:=(b.getD x []).length) (fun y hy=>?_) ?_ (fun y=>by simp)) ?_
  ·have hy':y<n:=by omega
   have ry:=h.ho.row y hy';obtain⟨k,hk,ek,ef,et,ei⟩:=hb.val x y hx' hy';have ek':(b.getD x []).getD y 0=(k:Int):=ek;have e114:=AaM (c:=c) (a:=(k:Int)) (by omega) (by omega)
   rw [tNC]at e114;have ef':c.2.1.getD k 0=(ob.getD x []).getD y 0:=ef;have et':c.2.2.1.getD k 0=(ob.getD y []).getD x 0:=et;have e6:decide (inv c k<0)=false:=dF (by omega)
   simp (disch:=omega) only [leN,ltN,and_self,if_true,decide_true,cond_true,tNC,ek',e114,ef',et',Prod.eta,p59 h.sh hk,e6,Option.bind_some,Bool.not_true,Bool.and_true,cond_false,wN]
  ·simp only [A5,cond_false]
  ·show(if 2=2 then _ else none)=_
   rw [if_pos rfl,wN (by omega)]
 ·simp only [A5,cond_false]
 ·show(if 0=0 then _ else none)=_
  rw [if_pos rfl,e1];cases ND c am b with
  |false=>rfl
  |true=>simp only [Option.bind_some,cond_true,e2,Bool.true_and]
def stC(a:Int)(s:List Int):Int:=YY (a*(s.length:Int)) 201
def D4(l:List (List Int)):Int:=l.foldl stC 1
theorem WQ{l:List (List Int)}{s:List Int}:D4 (l++ [s])=stC (D4 l) s:=by
 unfold D4;rw [List.foldl_append];rfl
theorem JR(l:List (List Int)):0<=D4 l/\D4 l<=201:=by
 unfold D4
 have: ∀ (l:List (List Int)) (a:Int),0<=a->a<=201->0<=l.foldl stC a/\l.foldl stC a<=201:=by
  intro l
  induction l with
  |nil=>intro a h1 h2;exact⟨h1,h2⟩
  |cons s l ih=>
   intro a h1 h2;refine ih _ ?_ ?_
   ·have:0<=a*(s.length:Int):=Int.mul_nonneg h1 (by omega)
    unfold stC YY;split<;>omega
   ·unfold stC YY
    split<;>omega
 exact this l 1 (by omega) (by omega)
theorem UX{l:List (List Int)}{s:List Int}(hs:s.length<=40):IntKind.wrap .i64 (D4 l*(s.length:Int))=D4 l*(s.length:Int):=by
 obtain⟨h1,h2⟩:=JR l;have g1:0<=D4 l*(s.length:Int):=Int.mul_nonneg h1 (by omega)
 have g2:D4 l*(s.length:Int)<=201*40:=Int.mul_le_mul h2 (by omega) (by omega) (by omega)
 exact Cw (by omega) (by omega)
def emp(ch:List (List Int))(i:Nat):Bool:=decide (((ch.getD i []).length:Int)=0)
def Xo(ch:List (List Int)):Bool:=(List.range ch.length).any (emp ch)
theorem O7{ch:List (List Int)}(h:Xo ch=false):full ch:=by
 intro i hi;unfold Xo at h;rw [List.any_eq_false]at h;have:=h i (List.mem_range.2 hi);unfold emp at this;simp only [decide_eq_true_eq]at this;omega
def goodB(c:Cat)(ob am:List (List Int))(n:Nat)(ch:List (List Int))(k:Nat):Bool:=ND c am (Le ch n k)&&NP c ob am (Le ch n k) n
def brs(c:Cat)(ob am:List (List Int))(n N:Nat)(ch:List (List Int)):List (List (List Int)):=((List.range N).filter (goodB c ob am n ch)).map fun(k:Nat)=>Le ch n (k:Int)
def Ij(c:Cat)(u:Int)(ob am:List (List Int)):List (List (List Int))×Int:=
 bif !CK c u ob am then([],1)else bif Xo (AE c ob c.1.toNat)then([],0)else bif decide (200<D4 (AE c ob c.1.toNat))then([],3)else(brs c ob am c.1.toNat (D4 (AE c ob c.1.toNat)).toNat (AE c ob c.1.toNat),0)
theorem AaB{c:Cat}{ob:List (List Int)}{n:Nat}(hf:full (AE c ob n)){k:Int}(hk:0<=k/\k<=200):BT c ob (Le (AE c ob n) n k) n:=by
 refine⟨by simp [Le],fun x hx=>?_,fun x y hx hy=>?_⟩
 ·simp [Le,hx]
 ·have e:cell (Le (AE c ob n) n k) x y=DZ (AE c ob n) k (x*n+y):=by
   unfold cell Le;simp [hx,hy]
  have hi:=ix_lt hx hy;have hl:=Jh (c:=c) (ob:=ob) (n:=n);obtain⟨d1,d2⟩:=WI (Md hf) hk (i:=x*n+y) (by rw [HO];omega)
  rw [HP (by omega),MZ hx hy]at d2
  obtain⟨d,ed,hd⟩:=BG (a:=dgS (BH (AE c ob n)) k (x*n+y)) (n:=(swp c ob x y).length) ⟨d1,d2⟩;obtain⟨v,hv,f1,f2,f3,ev⟩:=ZH hd;refine⟨v,hv,?_,f1,f2,f3⟩;rw [e];unfold DZ;rw [MZ hx hy,ed,tNC,ev]
theorem AaC{c:Cat}{ob am:List (List Int)}{n N:Nat}{ch:List (List Int)}:(brs c ob am n N ch).length<=N:=by
 unfold brs;rw [List.length_map];have:=List.length_filter_le (goodB c ob am n ch) (List.range N);rwa [List.length_range]at this
theorem p20{c:Cat}{u:Int}{ob am:List (List Int)}(ok:OR c ob am):G20 (mkM c u ob am)=some (Ij c u ob am):=by
 have e68:=p54 (u:=u) ok;unfold mkM at e68;unfold G20 mkM Ij
 dsimp only
 rw [e68];cases hmon:CK c u ob am with
 |false=>rfl
 |true=>
 have hh:HU c u ob am=true:=by
  unfold CK at hmon;rw [bAE]at hmon;exact hmon.1
 obtain⟨n,h⟩:=V9 hh;obtain⟨a1,a2,a3,a4,a5,a6,a7,a8⟩:=h.sh.hd;have hm:ar c<=40:=a2;have hac:ar c=c.2.1.length:=rfl;have hn:=h.hn;have hn8:n<=8:=by omega
 have h64:n*n<=64:=Nat.mul_le_mul hn8 hn8;have lo:=h.ho.len;have ent:c.1.toNat=n:=by omega
 have ltc: ∀x:Nat,x<n->((x:Int)<c.1)=True:=fun x hx=>eq_true (by omega)
 have ltn:decide ((n:Int)<c.1)=false:=dF (by omega)
 have hch:=Jh (c:=c) (ob:=ob) (n:=n);rw [ent];simp only [Bool.not_true,cond_false,Option.bind_some];refine As (v:=.brk 0 (D4 (AE c ob n),((n:Int),AE c ob n))) ?_ ?_
 ·have:=accC (R:=List (List (List Int))×Int) (φ:=D4) (K:=8) (L:=0) (g:=swR c ob n) (n:=n) (id:=0) (F:=?_) (fun i hi=>by rw [Lw];exact hn8) (fun x hx acc ha=>?_) (fun acc=>?_) [] (Nat.zero_le _)
  ·rw [List.nil_append]at this
   exact this
  ·have hacc:acc.length<=64:=by omega
   have rx:=h.ho.row x hx;simp only [ltc x hx,decide_true,cond_true];refine As (v:=.brk 2 (D4 (acc++swR c ob n x),((n:Int),acc++swR c ob n x))) (accC (φ:=D4) (K:=1) (L:=acc.length) (g:=fun y=>[swp c ob x y]) (n:=n) (fun b hb=>Nat.le_refl _) (fun y hy acc2 ha2=>?_) (fun acc2=>?_) acc (Nat.le_refl _)) ?_
   ·have ry:=h.ho.row y hy
    have e:G48 (c,((ob.getD x []).getD y 0,(ob.getD y []).getD x 0))=some (swG c ob x y):=p48 (by omega) a3 _ _
    have hl:=Ox (c:=c) (ob:=ob) (x:=x) (y:=y);have hl2:=Vv (c:=c) (ob:=ob) (x:=x) (y:=y);simp (disch:=omega) only [ltc y hy,leN,ltN,and_self,if_true,decide_true,cond_true,tNC,Prod.eta,e,Option.bind_some];refine As (v:=.brk 4 (((swG c ob x y).length:Int),swp c ob x y)) (KT (fun i hi acc3 ha3=>?_) fun acc3=>?_) ?_
    ·obtain⟨k,hk,_,_,ek⟩:=Oy hi
     simp (disch:=omega) only [leN,ltN,and_self,if_true,decide_true,cond_true,tNC,ek,p59 h.sh hk,Option.bind_some,wN,List.length_cons,List.length_nil];rw [if_pos (show acc3.length+(0+1)<=17592186044416 by omega)]
     cases decide (0<=inv c k)<;>rfl
    ·simp only [A5,cond_false]
    ·show(if 4=4 then _ else none)=_
     simp (disch:=omega) only [if_true,wN,List.length_cons,List.length_nil,List.length_replicate,UX (show(swp c ob x y).length<=40 by omega)]
     rw [if_pos (show acc2.length+(0+1)<=5864062014805 by omega),WQ]
     rfl
   ·simp only [ltn,cond_false]
   ·show(if 2=2 then _ else none)=_
    rw [if_pos rfl,wN (by omega)]
  ·simp only [ltn,cond_false]
 ·show(if 0=0 then _ else none)=_
  rw [if_pos rfl];obtain⟨c1,c2⟩:=JR (AE c ob n);refine As (v:=.brk 6 (bif Xo (AE c ob n)then 0 else D4 (AE c ob n),((AE c ob n).length:Int))) (A8 (st:=fun i:Nat=>(bif(List.range i).any (emp (AE c ob n))then 0 else D4 (AE c ob n),(i:Int))) (n:=(AE c ob n).length) (fun i hi=>?_) ?_ (fun y=>by simp)) ?_
  ·simp (disch:=omega) only [leN,ltN,and_self,if_true,decide_true,cond_true,tNC,wN]
   rw [List.range_succ,List.any_append];show(bif emp (AE c ob n) i then _ else _)=some (LO.next (bif _||(emp (AE c ob n) i||false)then _ else _,_))
   rw [Bool.or_false];cases emp (AE c ob n) i with
   |true=>rw [Bool.or_true];rfl
   |false=>rw [Bool.or_false];rfl
  ·simp only [A5,cond_false];rfl
  ·show(if 6=6 then _ else none)=_
   rw [if_pos rfl];cases hem:Xo (AE c ob n)with
   |true=>
    simp only [cond_true];rw [Bg];rfl
   |false=>
    simp only [cond_false];have hf:=O7 hem;cases h200:decide (200<D4 (AE c ob n))with
    |true=>rfl
    |false=>
    have h200:=of_decide_eq_false h200;obtain⟨N,eN,hN⟩:=BG (a:=D4 (AE c ob n)) (n:=201) ⟨c1,by omega⟩
    simp only [cond_false];rw [eN,tNC];refine As (v:=.brk 8 ((N:Int),brs c ob am n N (AE c ob n))) (KT (fun k hk acc ha=>?_) fun acc=>?_) rfl
    ·have e71:=p60 (u:=u) (am:=am) (ob:=ob) hn hn8 hch hf (k:=(k:Int)) ⟨by omega,by omega⟩
     have e72:=p61 h (AaB (k:=(k:Int)) hf ⟨by omega,by omega⟩)
     unfold mkM at e71 e72;simp only [ltN hk,decide_true,cond_true,e71,e72,Option.bind_some,wN (show k<9223372036854775807 by omega),List.length_cons,List.length_nil,if_true]
     rw [if_pos (show acc.length+(0+1)<=5864062014805 by omega)]
     show _=some (LO.next (_,bif(ND c am (Le (AE c ob n) n k)&&NP c ob am (Le (AE c ob n) n k) n)then _ else _))
     cases ND c am (Le (AE c ob n) n k)&&NP c ob am (Le (AE c ob n) n k) n<;>rfl
    ·simp only [A5,cond_false]
end
end Go.Ve.D


namespace Go.Ve.D
open Go Go.Ve
noncomputable section
def stI(a s:Int):Int:=YY (a*s) 201
def Y9(l:List Int):Int:=l.foldl stI 1
theorem WO{ch:List (List Int)}:Y9 (BH ch)=D4 ch:=by
 unfold Y9 D4 BH;rw [List.foldl_map];rfl
theorem Vw{c:Cat}{ob:List (List Int)}{n i:Nat}(hi:i<(AE c ob n).length):((AE c ob n).getD i []).length<=ar c:=by
 have hm:=BI ([]:List Int) hi;obtain⟨x,_,h2⟩:=List.mem_flatMap.1 hm;unfold swR at h2;rw [Yq]at h2;obtain⟨y,_,h3⟩:=List.mem_map.1 h2;rw [<-h3];exact Vv
theorem Up{ch:List (List Int)}:(List.range ch.length).map (fun i=>((ch.getD i []).length:Int))=BH ch:=by
 apply List.ext_getElem (by simp [BH])
 intro i h1 h2;have:i<ch.length:=by simpa using h1
 simp [BH,this]
theorem WN{ch:List (List Int)}{i:Nat}:Y9 (((List.range i).map fun j=>((ch.getD j []).length:Int)))=D4 ((List.range i).map fun j=>ch.getD j []):=by
 unfold Y9 D4;rw [List.foldl_map,List.foldl_map];rfl
theorem p21{c:Cat}{u:Int}{ob am:List (List Int)}(ok:OR c ob am):G21 (mkM c u ob am)=some (Ij c u ob am):=by
 have e64:=p62 (u:=u) ok;unfold mkM at e64;unfold G21 mkM Ij
 dsimp only
 rw [e64];cases hmon:CK c u ob am with
 |false=>rfl
 |true=>
 have hh:HU c u ob am=true:=by
  unfold CK at hmon;rw [bAE]at hmon;exact hmon.1
 obtain⟨n,h⟩:=V9 hh;obtain⟨a1,a2,a3,a4,a5,a6,a7,a8⟩:=h.sh.hd;have hm:ar c<=40:=a2;have hn:=h.hn;have hn8:n<=8:=by omega
 have h64:n*n<=64:=Nat.mul_le_mul hn8 hn8;have ent:c.1.toNat=n:=by omega
 have ltc: ∀x:Nat,x<n->((x:Int)<c.1)=True:=fun x hx=>eq_true (by omega)
 have ltn:decide ((n:Int)<c.1)=false:=dF (by omega)
 have hch:=Jh (c:=c) (ob:=ob) (n:=n);have e65:=p63 h;unfold mkM at e65;rw [ent];simp only [Bool.not_true,cond_false,Option.bind_some,e65];refine srch (st:=fun i:Nat=>(i:Int)) (n:=(AE c ob n).length) (q:=emp (AE c ob n)) (Q:=fun r:List (List (List Int))×Int=>r=([],0)) (o:=.brk 0 ((AE c ob n).length:Int)) (Post:=fun t (o:Option (List (List (List Int))×Int))=>Xo (AE c ob n)=t->o=some (bif t then([],0)else bif decide (200<D4 (AE c ob n))then([],3)else(brs c ob am n (D4 (AE c ob n)).toNat (AE c ob n),0))) (fun i hi=>?_) ?_ (fun y=>by simp) (fun hem=>?_) (fun r hr _=>by rw [hr];rfl) rfl
 ·simp (disch:=omega) only [leN,ltN,and_self,if_true,decide_true,cond_true,tNC,wN]
  show(emp (AE c ob n) i=false->(bif emp (AE c ob n) i then _ else _)=_)/\(_->∃r,(bif emp (AE c ob n) i then _ else _)=_/\_);cases emp (AE c ob n) i with
  |true=>exact⟨(fun h=>by cases h),fun _=>⟨_,rfl,rfl⟩⟩
  |false=>exact⟨fun _=>rfl,(fun h=>by cases h)⟩
 ·simp only [A5,cond_false]
 show(if 0=0 then _ else none)=_
 rw [if_pos rfl,cond_false];have hf:=O7 hem;obtain⟨c1,c2⟩:=JR (AE c ob n);refine As (v:=.brk 2 (D4 (AE c ob n),(((AE c ob n).length:Int),BH (AE c ob n)))) ?_ ?_
 ·have:=A8 (R:=List (List (List Int))×Int) (f:=?_) (st:=fun i:Nat=>(Y9 ((List.range i).map fun j=>(((AE c ob n).getD j []).length:Int)),((i:Int),(List.range i).map fun j=>(((AE c ob n).getD j []).length:Int)))) (n:=(AE c ob n).length) (o:=.brk 2 (D4 (AE c ob n),(((AE c ob n).length:Int),BH (AE c ob n)))) (fun i hi=>?_) ?_ (fun y=>by simp)
  ·exact this
  ·have hr:=Vw hi
   have hb:(((List.range i).map fun j=>(((AE c ob n).getD j []).length:Int))).length=i:=by simp
   simp (disch:=omega) only [leN,ltN,and_self,if_true,decide_true,cond_true,tNC,wN,List.length_cons,List.length_nil,hb];rw [if_pos (show i+(0+1)<=17592186044416 by omega)]
   have e1:(List.range (i+1)).map (fun j=>(((AE c ob n).getD j []).length:Int))=((List.range i).map fun j=>(((AE c ob n).getD j []).length:Int))++ [(((AE c ob n).getD i []).length:Int)]:=by
    rw [List.range_succ,List.map_append];rfl
   have e2:Y9 (((List.range i).map fun j=>(((AE c ob n).getD j []).length:Int))++ [(((AE c ob n).getD i []).length:Int)])=YY (Y9 ((List.range i).map fun j=>(((AE c ob n).getD j []).length:Int))*(((AE c ob n).getD i []).length:Int)) 201:=by
    unfold Y9;rw [List.foldl_append];rfl
   rw [e1,e2,WN,UX (show((AE c ob n).getD i []).length<=40 by omega)]
  ·simp only [A5,cond_false]
   rw [Up,WO]
 ·show(if 2=2 then _ else none)=_
  rw [if_pos rfl]
  dsimp only
  cases h200:decide (200<D4 (AE c ob n))with
  |true=>rfl
  |false=>
  have h200:=of_decide_eq_false h200;obtain⟨N,eN,hN⟩:=BG (a:=D4 (AE c ob n)) (n:=201) ⟨c1,by omega⟩
  simp only [cond_false];rw [eN,tNC];have hp:=Md hf;have hl:=HO (ch:=AE c ob n);refine As (v:=.brk 4 ((N:Int),brs c ob am n N (AE c ob n))) (KT (fun k hk acc ha=>?_) fun acc=>?_) rfl
  ·have hk2:0<=(k:Int)/\(k:Int)<=200:=⟨by omega,by omega⟩
   have e66:=p64 hp (by omega) hk2
   have e67:=p65 h (AaB hf hk2);unfold mkM at e67;simp only [ltN hk,decide_true,cond_true,e66,Option.bind_some,wN (show k<9223372036854775807 by omega),List.length_cons,List.length_nil,if_true]
   refine As (v:=.brk 6 ((n:Int),Le (AE c ob n) n k)) (O6 (fun x hx acc2 ha2=>?_) fun acc2=>?_) ?_
   ·simp only [ltc x hx,decide_true,cond_true]
    refine As (v:=.brk 8 ((n:Int),(List.range n).map fun y=>DZ (AE c ob n) k (x*n+y))) (O6 (fun y hy acc3 ha3=>?_) fun acc3=>?_) ?_
    ·have hxy:=ix_lt hx hy
     have q1:IntKind.wrap .i64 (IntKind.wrap .i64 ((x:Int)*c.1)+(y:Int))=((x*n+y:Nat):Int):=by
      have q0:IntKind.wrap .i64 ((x:Int)*c.1)=((x*n:Nat):Int):=by
       rw [hn,<-Int.natCast_mul,Cw (by omega) (by omega)]
      rw [q0,<-Int.natCast_add,Cw (by omega) (by omega)]
     have e3:((List.range (BH (AE c ob n)).length).map (dgS (BH (AE c ob n)) (k:Int))).getD (x*n+y) 0=dgS (BH (AE c ob n)) k (x*n+y):=by
      simp [show x*n+y<(BH (AE c ob n)).length by omega]
     have e4:((List.range (BH (AE c ob n)).length).map (dgS (BH (AE c ob n)) (k:Int))).length=(BH (AE c ob n)).length:=by simp
     obtain⟨d1,d2⟩:=WI hp hk2 (i:=x*n+y) (by omega)
     rw [HP (by omega)]at d2
     simp (disch:=omega) only [ltc y hy,q1,leN,ltN,e3,e4,d1,d2,and_self,if_true,decide_true,cond_true,tNC,wN,List.length_cons,List.length_nil];rw [if_pos (show acc3.length+(0+1)<=17592186044416 by omega)]
     rfl
    ·simp only [ltn,cond_false]
    ·show(if 8=8 then _ else none)=_
     simp (disch:=omega) only [if_true,wN,List.length_cons,List.length_nil];rw [if_pos (show acc2.length+(0+1)<=5864062014805 by omega)]
   ·simp only [ltn,cond_false]
   ·show(if 6=6 then _ else none)=_
    rw [if_pos rfl];simp only [e67,Option.bind_some];rw [if_pos (show acc.length+(0+1)<=5864062014805 by omega)]
    show _=some (LO.next (_,bif(ND c am (Le (AE c ob n) n k)&&NP c ob am (Le (AE c ob n) n k) n)then _ else _))
    cases ND c am (Le (AE c ob n) n k)&&NP c ob am (Le (AE c ob n) n k) n<;>rfl
  ·simp only [A5,cond_false]
end
end Go.Ve.D

