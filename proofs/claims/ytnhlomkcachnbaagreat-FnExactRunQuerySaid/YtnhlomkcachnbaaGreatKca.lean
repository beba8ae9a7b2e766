/- Queries: sizes; conditions as function values. -/
import Derived.Test.YtnhlomkcachnbaaGreatKba
namespace Go.Ve.D
open Go Go.Ve
noncomputable section
theorem Lz{α:Type}{n d:Nat}{q:Nat->α}{b:α}:((List.range n).map q).set d b=(List.range n).map fun e=>if e=d then b else q e:=by
 apply List.ext_getElem (by simp)
 intro i h1 h2;simp only [List.getElem_set,List.getElem_map,List.getElem_range];by_cases h:d=i
 ·rw [if_pos h,if_pos h.symm]
 ·rw [if_neg h,if_neg fun e=>h e.symm]
def thn(f g:List Int):List Int:=(List.range f.length).map fun i=>g.getD (f.getD i 0).toNat 0
theorem CK{f g:List Int}:(thn f g).length=f.length:=by simp [thn]
theorem p43{f g:List Int}(hf:f.length<=1048576)(hw:wi g.length f=true):G43 (f,g)=some (thn f g):=by
 unfold G43;simp only
 have hmem: ∀i,i<f.length->∃d:Nat,f.getD i 0=(d:Int)/\d<g.length:=fun i hi=>by
  obtain⟨h1,h2⟩:=Cb hw hi;exact⟨(f.getD i 0).toNat,by omega,by omega⟩
 refine Ap (v:=.brk 0 ((f.length:Int),thn f g)) ?_ rfl;have key: ∀i,i<=f.length->((List.range i).map fun i=>g.getD (f.getD i 0).toNat 0).length=i:=fun i _=>by simp
 refine AC (st:=fun i:Nat=>((i:Int),(List.range i).map fun i=>g.getD (f.getD i 0).toNat 0)) (n:=f.length) (fun i hi=>?_) ?_ (fun y=>by simp)
 ·obtain⟨d,hd,hdg⟩:=hmem i hi
  simp only [Ag,hi,decide_true,cond_true,Ad hi,hd,Ad hdg,and_self,if_true,tNC,List.length_map,List.length_range,List.length_cons,List.length_nil];rw [An (by omega) (by omega),if_pos (show i+(0+1)<=17592186044416 by omega),List.range_succ,List.map_append]
  simp only [List.map_cons,List.map_nil,hd,tNC];rfl
 ·simp only [Ag,Nat.lt_irrefl,decide_false,cond_false]
  rfl
theorem p28{f g:List Int}(hf:f.length<=1048576)(hw:wi g.length f=true):G28 (f,g)=some (thn f g):=by
 unfold G28;have hG:(0:Int)<=(f.length:Int)/\((f.length:Int)<=(f.length:Int)/\((8:Int)*(f.length:Int)<=(281474976710656:Int)/\(f.length:Int)<=(9223372036854775807:Int))):=by omega
 simp only [hG,and_self,if_true,tNC]
 have hmem: ∀i,i<f.length->∃d:Nat,f.getD i 0=(d:Int)/\d<g.length:=fun i hi=>by
  obtain⟨h1,h2⟩:=Cb hw hi;exact⟨(f.getD i 0).toNat,by omega,by omega⟩
 have e0:List.replicate f.length (0:Int)=(List.range f.length).map fun j=>if j<0 then g.getD (f.getD j 0).toNat 0 else 0:=by simp [List.map_const']
 rw [e0];refine Ap (v:=.brk 0 ((f.length:Int),thn f g)) ?_ rfl;refine AC (st:=fun i:Nat=>((i:Int),(List.range f.length).map fun j=>if j<i then g.getD (f.getD j 0).toNat 0 else 0)) (n:=f.length) (fun i hi=>?_) ?_ (fun y=>by simp)
 ·obtain⟨d,hd,hdg⟩:=hmem i hi
  simp only [Ag,hi,decide_true,cond_true,Ad hi,hd,Ad hdg,and_self,if_true,tNC,List.length_map,List.length_range];rw [An (by omega) (by omega),Lz]
  have e:((List.range f.length).map fun e=>if e=i then g.getD d 0 else if e<i then g.getD (f.getD e 0).toNat 0 else 0)=(List.range f.length).map fun j=>if j<i+1 then g.getD (f.getD j 0).toNat 0 else 0:=List.map_congr_left fun e _=>by
   by_cases h:e=i
   ·subst h
    rw [if_pos rfl,if_pos (Nat.lt_succ_self _),hd,tNC]
   ·rw [if_neg h]
    by_cases h2:e<i
    ·rw [if_pos h2,if_pos (by omega)]
    ·rw [if_neg h2,if_neg (by omega)]
  rw [e];rfl
 ·have e:((List.range f.length).map fun j=>if j<f.length then g.getD (f.getD j 0).toNat 0 else 0)=thn f g:=List.map_congr_left fun j hj=>if_pos (List.mem_range.1 hj)
  simp only [Ag,Nat.lt_irrefl,decide_false,cond_false,e]
end
end Go.Ve.D


namespace Go.Ve.D
open Go Go.Ve
noncomputable section
def prd:List Int->Nat
 | []=>1
 |a::l=>a.toNat*prd l
theorem OE: ∀ (a b:List Int),prd (a++b)=prd a*prd b
 | [],b=>by simp [prd]
 |x::a,b=>by
  show x.toNat*prd (a++b)=x.toNat*prd a*prd b;rw [OE a b,Nat.mul_assoc]
theorem YZ: ∀ {x:List Int},(∀y∈x,y<=16)->prd x<=16 ^ x.length
 | [],_=>Nat.le_refl _
 |a::l,h=>by
  have h1:=h a (List.mem_cons_self ..);have h2:=YZ fun y hy=>h y (mCM _ hy)
  show a.toNat*prd l<=16 ^ (l.length+1);rw [Nat.pow_succ,Nat.mul_comm];exact Nat.mul_le_mul h2 (by omega)
theorem IH{x:List Int}{i:Nat}(hi:i<x.length):prd (x.take (i+1))=prd (x.take i)*(x.getD i 0).toNat:=by
 rw [<-IV 0 hi,OE];show _*((x.getD i 0).toNat*1)=_;rw [Nat.mul_one]
theorem PK{x:List Int}{i:Nat}(hi:i<x.length)(h:x.getD i 0=0):prd x=0:=by
 have e:x=x.take (i+1)++x.drop (i+1):=(List.take_append_drop _ _).symm;rw [e,OE,IH hi,h];simp
structure Few(x:List Int):Prop where
 l:x.length<=4
 b: ∀y∈x,0<=y/\y<=16
theorem Few.get{x:List Int}(h:Few x){i:Nat}(hi:i<x.length):0<=x.getD i 0/\x.getD i 0<=16:=h.b _ (CW 0 hi)
theorem Few.prd{x:List Int}(h:Few x)(i:Nat):Go.Ve.D.prd (x.take i)<=65536:=by
 have h1:=YZ (x:=x.take i) fun y hy=>(h.b y (List.mem_of_mem_take hy)).2
 have h2:(x.take i).length<=4:=by have:=h.l;rw [List.length_take];omega
 have h3:16 ^ (x.take i).length<=16 ^ 4:=Nat.pow_le_pow_right (by omega) h2
 have h4:(16:Nat) ^ 4=65536:=by decide
 omega
def noZ(x:List Int)(i:Nat):Bool:=!decide (x.getD i 0=0)
theorem noZ_f{x:List Int}(h:(List.range x.length).all (noZ x)=false):Go.Ve.D.prd x=0:=by
 rw [List.all_eq_false]at h;obtain⟨i,hi,h⟩:=h;have hi:=List.mem_range.1 hi;unfold noZ at h;exact PK hi (by simpa using h)
theorem p64{x:List Int}(h:Few x):G64 x=some ((Go.Ve.D.prd x:Nat):Int):=by
 unfold G64;have hl:=h.l;refine Bq (st:=fun i:Nat=>(((Go.Ve.D.prd (x.take i):Nat):Int),(i:Int))) (n:=x.length) (p:=noZ x) (Q:=fun r:Int=>r=0) (o:=.brk 0 (((Go.Ve.D.prd x:Nat):Int),(x.length:Int))) (Post:=fun o:Option Int=>o=some ((Go.Ve.D.prd x:Nat):Int)) (fun i hi=>?_) ?_ (fun y=>by simp) (fun _=>?_) (fun hall r hr=>?_)
 ·have hp:=h.prd i
  obtain⟨g1,g2⟩:=h.get hi;obtain⟨k,hk⟩: ∃k:Nat,x.getD i 0=(k:Int):=⟨(x.getD i 0).toNat,by omega⟩
  have hc:((Go.Ve.D.prd (x.take i):Nat):Int)<=1000000000000:=by omega
  have hmul:Go.Ve.D.prd (x.take i)*k<=65536*16:=Nat.mul_le_mul hp (by omega)
  have hs:Go.Ve.D.prd (x.take (i+1))=Go.Ve.D.prd (x.take i)*k:=by rw [IH hi,hk,tNC]
  unfold noZ;simp only [Ag,hi,decide_true,cond_true,Ad hi,and_self,if_true,tNC,hk,hc];cases hz:decide ((k:Int)=0)with
  |true=>exact⟨(fun h=>by cases h),fun _=>⟨_,rfl,rfl⟩⟩
  |false=>
   refine⟨fun _=>?_,(fun h=>by cases h)⟩
   simp only [cond_false];rw [An (n:=(i:Int)+1) (by omega) (by omega),show((Go.Ve.D.prd (x.take i):Nat):Int)*(k:Int)=((Go.Ve.D.prd (x.take i)*k:Nat):Int) by simp,An (by omega) (by omega),<-hs]
   rfl
 ·simp only [Ag,Nat.lt_irrefl,decide_false,cond_false,List.take_length]
 ·have hp:=h.prd x.length
  rw [List.take_length]at hp;show some (minI _ _)=_;unfold minI
  congr 1
  first|omega|(rw [Int.min_eq_left (by omega)])|(rw [if_pos (by omega)])|simp;omega
 ·rw [noZ_f hall,hr];rfl
end
end Go.Ve.D


namespace Go.Ve.D
open Go Go.Ve
noncomputable section
theorem XA{k:Nat}(h0:k≠0)(h:k<=16):62500000000<=Int.tdiv 1000000000000 (k:Int)/\Int.tdiv 1000000000000 (k:Int)<=1000000000000:=by
 rw [Int.tdiv_eq_ediv_of_nonneg (by decide)]
 exact⟨Int.le_ediv_of_mul_le (by omega) (by omega),Int.ediv_le_self _ (by decide)⟩
theorem p41{x:List Int}(h:Few x):G41 x=some ((Go.Ve.D.prd x:Nat):Int):=by
 unfold G41;have hl:=h.l;refine Bq (st:=fun i:Nat=>(i:Int)) (n:=x.length) (p:=noZ x) (Q:=fun r:Int=>r=0) (o:=.brk 0 (x.length:Int)) (Post:=fun o:Option Int=>o=some ((Go.Ve.D.prd x:Nat):Int)) (fun i hi=>?_) ?_ (fun y=>by simp) (fun hall=>?_) (fun hall r hr=>by rw [noZ_f hall,hr];rfl)
 ·unfold noZ
  simp only [Ag,hi,decide_true,cond_true,Ad hi,and_self,if_true,tNC];rw [An (by omega) (by omega)]
  cases hz:decide (x.getD i 0=0)with
  |true=>exact⟨(fun h=>by cases h),fun _=>⟨_,rfl,rfl⟩⟩
  |false=>exact⟨fun _=>rfl,(fun h=>by cases h)⟩
 ·simp only [Ag,Nat.lt_irrefl,decide_false,cond_false]
 ·show(if 0=0 then _ else none)=_
  rw [if_pos rfl];refine Ap (v:=.brk 2 (((Go.Ve.D.prd x:Nat):Int),(x.length:Int))) (AC (st:=fun i:Nat=>(((Go.Ve.D.prd (x.take i):Nat):Int),(i:Int))) (n:=x.length) (fun i hi=>?_) ?_ (fun y=>by simp)) rfl
  ·have hp:=h.prd i
   obtain⟨g1,g2⟩:=h.get hi;obtain⟨k,hk⟩: ∃k:Nat,x.getD i 0=(k:Int):=⟨(x.getD i 0).toNat,by omega⟩
   have hz: ¬ ((k:Int)=0):=by
    have:=aET.1 hall i (List.mem_range.2 hi);unfold noZ at this;rw [hk]at this;simpa using this
   have hk16:k<=16:=by omega
   obtain⟨t1,t2⟩:=XA (k:=k) (by omega) hk16
   have hmul:Go.Ve.D.prd (x.take i)*k<=65536*16:=Nat.mul_le_mul hp hk16;have hs:Go.Ve.D.prd (x.take (i+1))=Go.Ve.D.prd (x.take i)*k:=by rw [IH hi,hk,tNC]
   have ew:IntKind.wrap .i64 (Int.tdiv (1000000000000:Int) (k:Int))=Int.tdiv (1000000000000:Int) (k:Int):=An (by omega) (by omega)
   have hn: ¬ (Int.tdiv (1000000000000:Int) (k:Int)<((Go.Ve.D.prd (x.take i):Nat):Int)):=by omega
   simp only [Ag,hi,decide_true,cond_true,Ad hi,and_self,if_true,tNC,hk];rw [if_pos hz];simp only [ew,dF hn,cond_false];rw [An (n:=(i:Int)+1) (by omega) (by omega),show((Go.Ve.D.prd (x.take i):Nat):Int)*(k:Int)=((Go.Ve.D.prd (x.take i)*k:Nat):Int) by simp,An (by omega) (by omega),<-hs]
   rfl
  ·simp only [Ag,Nat.lt_irrefl,decide_false,cond_false,List.take_length]
end
end Go.Ve.D


namespace Go.Ve.D
open Go Go.Ve
noncomputable section
theorem OX{α R:Type}{F:(Int×List α)->Option (LO (Int×List α) R)}{n:Nat}{g:Nat->α}{id:Nat}
  (h1: ∀i,i<n->∀acc:List α,acc.length=i->F ((i:Int),acc)=some (.next (((i+1:Nat):Int),acc++ [g i])))
  (h2: ∀acc:List α,F ((n:Int),acc)=some (.brk id ((n:Int),acc))):
  Au F ((0:Int),[])=some (.brk id ((n:Int),(List.range n).map g)):=by
 refine AC (st:=fun i:Nat=>((i:Int),(List.range i).map g)) (n:=n) (fun i hi=>?_) (h2 _) (fun y=>by simp)
 rw [h1 i hi _ (by simp),List.range_succ,List.map_append]
 rfl
abbrev CF:=SF×(Int×Int)×(Int×Int)
def Mk(f:SF)(q:Qry):List CF:=(List.range q.2.1.length).map fun i=>(f,(q.2.1.getD i (0,0),q.2.2.1.getD i (0,0)))
theorem p65{f:SF}{q:Qry}(h1:q.2.1.length<=6)(h2:q.2.2.1.length=q.2.1.length):G65 (q,f)=some (Mk f q):=by
 unfold G65;simp only;refine Ap (OX (n:=q.2.1.length) (g:=fun i=>((f,(q.2.1.getD i (0,0),q.2.2.1.getD i (0,0))):CF)) (id:=0) (fun i hi acc ha=>?_) fun acc=>?_) rfl
 ·have hi2:i<q.2.2.1.length:=by omega
  simp only [Ag,hi,decide_true,cond_true,Ad hi,Ad hi2,and_self,if_true,tNC,List.length_cons,List.length_nil];rw [An (by omega) (by omega),if_pos (show acc.length+(0+1)<=17592186044416 by omega)]
  rfl
 ·simp only [Ag,Nat.lt_irrefl,decide_false,cond_false]
def trm(f:SF)(t:List Int)(l:Int×Int):Int:=(act f l.2.toNat).getD (t.getD l.1.toNat 0).toNat 0
structure TK(f:SF)(t:List Int)(l:Int×Int):Prop where
 a:0<=l.2/\l.2<((f.2.2.2.2.2.2.length:Nat):Int)
 v:0<=l.1/\l.1<((t.length:Nat):Int)
 e:0<=t.getD l.1.toNat 0/\t.getD l.1.toNat 0<(((f.2.2.2.2.2.2.getD l.2.toNat []).length:Nat):Int)
def UA(t:List Int)(c:CF):Bool:=decide (trm c.1 t c.2.1=trm c.1 t c.2.2)
theorem p79{t:List Int}{c:CF}(hl:TK c.1 t c.2.1)(hr:TK c.1 t c.2.2):G79 (t,c)=some (UA t c):=by
 obtain⟨f,l,r⟩:=c;unfold G79;simp only;rw [if_pos hl.a,if_pos hl.v,if_pos hl.e,if_pos hr.a,if_pos hr.v,if_pos hr.e];rfl
theorem p68{t:List Int}{c:CF}(hl:TK c.1 t c.2.1)(hr:TK c.1 t c.2.2):G68 (c,t)=some (!UA t c):=Ap (a:=G79 (t,c)) (p79 hl hr) rfl
def c0:CF:=(((0:Int),(([]:List Int),(([]:List Int),(([]:List Int),(([]:List (List Int)),(([]:List Int),([]:List (List Int)))))))),(((0:Int),(0:Int)),((0:Int),(0:Int))))
theorem p67{t:List Int}{cs:List CF}(hn:cs.length<=6)(h: ∀i,i<cs.length->TK (cs.getD i c0).1 t (cs.getD i c0).2.1/\TK (cs.getD i c0).1 t (cs.getD i c0).2.2):G67 (cs,t)=some (!(List.range cs.length).all fun i=>UA t (cs.getD i c0)):=by
 have key: ∃r,G81 (cs,t)=some r/\decide (0<=r)= !(List.range cs.length).all fun i=>UA t (cs.getD i c0):=by
  unfold G81;refine Bq (st:=fun i:Nat=>(i:Int)) (n:=cs.length) (p:=fun i=>UA t (cs.getD i c0)) (Q:=fun r:Int=>decide (0<=r)=true) (o:=.brk 0 (cs.length:Int)) (Post:=fun o:Option Int=>∃r,o=some r/\decide (0<=r)= !(List.range cs.length).all fun i=>UA t (cs.getD i c0)) (fun i hi=>?_) ?_ (fun y=>by simp) (fun hall=>⟨-1,rfl,by rw [hall];rfl⟩) (fun hall r hr=>⟨r,rfl,by rw [hall,hr];rfl⟩)
  ·obtain⟨hl,hr⟩:=h i hi
   have e:=p68 hl hr;unfold c0 at e;simp only [Ag,hi,decide_true,cond_true,Ad hi,and_self,if_true,tNC,e,Option.bind_some];rw [An (by omega) (by omega)]
   show P8 (fun r:Int=>decide (0<=r)=true) _ (UA t (cs.getD i c0)) (bif !UA t (cs.getD i c0)then _ else _)
   cases UA t (cs.getD i c0)with
   |true=>exact DB rfl
   |false=>exact HH ⟨_,rfl,dT (by omega)⟩
  ·simp only [Ag,Nat.lt_irrefl,decide_false,cond_false]
 obtain⟨r,e1,e2⟩:=key;refine Ap (a:=G81 (cs,t)) e1 ?_;rw [e2]
end
end Go.Ve.D

