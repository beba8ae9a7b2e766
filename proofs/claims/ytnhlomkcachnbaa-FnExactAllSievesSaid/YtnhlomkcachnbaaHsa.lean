/- Sieves: lists, marks, the least sieve. -/
import Derived.Test.YtnhlomkcachnbaaHba
namespace Go.Ve.D
open Go Go.Ve Go.Proofs
theorem Ha{X R:Type}{f:X->Option (LO X R)}{st:Nat->X}{n:Nat}{o:LO X R}{x:X}(h0:x=st 0)(h1: ∀i,i<n->f (st i)=some (.next (st (i+1))))(h2:f (st n)=some o)(ho: ∀y,o≠.next y):Au f x=some o:=by
 subst h0;exact A7 h1 h2 ho
theorem p68{x y:List Int}(hx:okL x)(hy:okL y):G68 (x,y)=some (decide (x=y)):=by
 unfold G68;refine Aj (p115 hx hy) ?_;show some (decide (Bg x y=0))=_
 congr 1
 by_cases h:x=y
 ·rw [dT h,h,Jp];rfl
 ·rw [dF h]
  exact dF fun e=>h (Jq _ _ e)
theorem p139{x y:List Int}(hx:okL x)(hy:okL y):G139 (x,y)=some (decide (y=x)):=by
 unfold G139;exact Aj (p68 hy hx) rfl
theorem p137{x:List Int}(h:x.length<=1048576):G137 x=some x:=by
 unfold G137;rw [if_pos (by simp;omega)];rfl
theorem p171{x:List Int}(h:x.length<=1048576):G171 x=some x:=p137 h
theorem p210{c:Cat}(h:Sh c){f g:Int}(hf:0<=f/\f<(c.2.1.length:Int))(hg:0<=g/\g<(c.2.1.length:Int)):G210 (c,(f,g))=some (T c f.toNat g.toNat):=by
 unfold G210;have e1:c.2.2.2.2.length=c.2.1.length:=h.hd.2.2.2.2.2.1;have e2:=h.row f.toNat (inN hf);have h1:0<=f/\f<(c.2.2.2.2.length:Int):=by rw [e1];exact hf
 have h2:0<=g/\g<((c.2.2.2.2.getD f.toNat []).length:Int):=by rw [e2];exact hg
 simp only [h1,h2,and_self,if_true];rfl
theorem p135{c:Cat}(hm:c.2.1.length<=1048576)(x:Int):G135 (c,x)=some (H0 c x):=p131 hm x
def mrk(n:Nat)(g:Nat->Bool):List Bool:=(List.range n).map g
theorem H2{n:Nat}{g:Nat->Bool}:(mrk n g).length=n:=by simp [mrk]
theorem Vi{n i:Nat}{g:Nat->Bool}(h:i<n):(mrk n g).getD i false=g i:=by simp [mrk,h]
theorem Vg{n k:Nat}{g:Nat->Bool}:(mrk n g).set k true=mrk n fun f=>g f||decide ((k:Int)=(f:Int)):=by
 apply List.ext_getElem
 ·simp [mrk]
 ·intro i h1 h2
  have hi:i<n:=by simpa [mrk]using h2
  rw [List.getElem_set];simp only [mrk,List.getElem_map,List.getElem_range];by_cases h:k=i
  ·rw [if_pos h,dT (by omega),Bool.or_true]
  ·rw [if_neg h,dF (by omega),Bool.or_false]
theorem Vh{n:Nat}:List.replicate n false=mrk n fun _=>false:=by
 apply List.ext_getElem
 ·simp [mrk]
 ·intro i h1 h2;simp [mrk]
theorem Cp{n:Nat}{g g':Nat->Bool}(h: ∀f,f<n->g f=g' f):mrk n g=mrk n g':=by
 unfold mrk;exact List.map_congr_left fun f hf=>h f (List.mem_range.1 hf)
def gS(n:Nat)(g:Nat->Bool):List Int:=((List.range n).filter g).map fun(f:Nat)=>(f:Int)
theorem p94{n:Nat}(hn:n<=1048576)(g:Nat->Bool):G94 (mrk n g)=some (gS n g):=by
 unfold G94;refine Aj (v:=.brk 0 ((n:Int),gS n g)) (VK (fun i hi acc ha=>?_) fun acc=>?_) rfl
 ·simp only [H2,Am,hi,decide_true,cond_true,Af hi,if_true,and_self,tNC,List.length_cons,List.length_nil,Vi hi]
  rw [Ax (by omega) (by omega),if_pos (show acc.length+(0+1)<=17592186044416 by omega)]
  cases g i<;>rfl
 ·simp only [H2,Am,Nat.lt_irrefl,decide_false,cond_false]
def clB(c:Cat)(l:List Int)(f:Nat):Bool:=l.any fun a=>(List.range (ar c)).any fun b=>mt c a.toNat b&&decide (T c a.toNat b=(f:Int))
def cl(c:Cat)(l:List Int):List Int:=gS (ar c) (clB c l)
theorem YY{c:Cat}{a:Nat}{f:Nat}:(H0 c (tT c a)).any (fun b=>decide (T c a b.toNat=(f:Int)))=(List.range (ar c)).any fun b=>mt c a b&&decide (T c a b=(f:Int)):=by
 unfold H0;rw [any_fm];refine QT fun b hb=>?_
 rw [tNC]
 congr 1
 unfold mt fT tT;rw [Bool.eq_iff_iff,decide_eq_true_eq,decide_eq_true_eq];exact eq_comm
theorem Va{c:Cat}{x:Int}{i:Nat}(hi:i<(H0 c x).length): ∃b:Nat,b<ar c/\fT c b=x/\(H0 c x).getD i 0=(b:Int):=by
 obtain⟨f,h1,h2,h3⟩:=fm_get hi;exact⟨f,h1,of_decide_eq_true h2,h3⟩
theorem p136{c:Cat}(h:Sh c){l:List Int}(hl:wi (ar c) l=true)(hn:l.length<=1048576):G136 (c,l)=some (cl c l):=by
 have har:ar c<=40:=h.hd.2.1;have har':c.2.1.length=ar c:=rfl;unfold G136;refine Aj (p159 c) ?_;simp only [har'];rw [if_pos (by omega),tNC,Vh]
 refine Aj (v:=.brk 0 ((l.length:Int),mrk (ar c) (clB c l))) (Ha (st:=fun i=>((i:Int),mrk (ar c) (clB c (l.take i)))) (n:=l.length) (congrArg (Prod.mk (0:Int)) (Cp fun f _=>by simp [clB])) (fun i hi=>?_) ?_ (fun y=>by simp)) ?_
 ·obtain⟨a,ha,ea⟩:=getW hl hi
  have ha2:a<c.2.2.1.length:=by rw [h.hd.2.2.1];exact ha
  have eT:c.2.2.1.getD a 0=tT c a:=rfl;simp only [Am,hi,decide_true,cond_true,Af hi,if_true,and_self,tNC,ea,Af ha2,eT];refine Aj (p131 (by omega) _) ?_
  have hob:(H0 c (tT c a)).length<=ar c:=Po;refine Aj (v:=.brk 2 (((H0 c (tT c a)).length:Int),(mrk (ar c) (clB c (l.take (i+1))),H0 c (tT c a)))) (Ha (st:=fun j=>((j:Int),(mrk (ar c) (fun f=>clB c (l.take i) f||((H0 c (tT c a)).take j).any fun b=>decide (T c a b.toNat=(f:Int))),H0 c (tT c a)))) (n:=(H0 c (tT c a)).length) (by simp [tT]) (fun j hj=>?_) ?_ (fun y=>by simp)) ?_
  ·obtain⟨b,hb,hfb,eb⟩:=Va hj
   have hmt:mt c a b=true:=dT hfb.symm;obtain⟨q1,q2,_⟩:=h.pos a b ha hb hmt;have q3:(T c a b).toNat<ar c:=inN ⟨q1,q2⟩;have e3:(((T c a b).toNat:Nat):Int)=T c a b:=by omega
   simp only [Am,hj,decide_true,cond_true,Af hj,if_true,and_self,tNC,eb];refine Aj (XU h (f:=(a:Int)) (g:=(b:Int)) (by omega) (by omega)) ?_
   simp only [tNC,H2];rw [if_pos (by omega),Vg,Ax (by omega) (by omega),e3]
   refine congrArg (fun z=>some (LO.next (((j+1:Nat):Int),(z,H0 c (tT c a))))) (Cp fun f hf=>?_)
   rw [KX hj,eb,tNC,Bool.or_assoc]
  ·simp only [Am,Nat.lt_irrefl,decide_false,cond_false]
   refine congrArg (fun z=>some (LO.brk 2 (((H0 c (tT c a)).length:Int),(z,H0 c (tT c a))))) (Cp fun f hf=>?_)
   rw [List.take_length,YY];unfold clB;rw [KX hi,ea,tNC]
  ·show(if 2=2 then some (LO.next (IntKind.wrap .i64 ((i:Int)+1),mrk (ar c) (clB c (l.take (i+1)))))else none)=_
   rw [if_pos rfl,Ax (by omega) (by omega)];rfl
 ·simp only [Am,Nat.lt_irrefl,decide_false,cond_false,List.take_length]
 ·show(if 0=0 then Option.bind (G94 (mrk (ar c) (clB c l))) _ else none)=_
  rw [if_pos rfl];exact Aj (p94 (by omega) _) rfl
theorem p196{c:Cat}(h:Sh c){l:List Int}(hl:wi (ar c) l=true)(hn:l.length<=1048576):G196 (c,l)=some (cl c l):=by
 have har:ar c<=40:=h.hd.2.1;have har':c.2.1.length=ar c:=rfl;unfold G196;simp only [har',Prod.eta];rw [if_pos (by omega),tNC,Vh]
 refine Aj (v:=.brk 0 ((l.length:Int),mrk (ar c) (clB c l))) (Ha (st:=fun i=>((i:Int),mrk (ar c) (clB c (l.take i)))) (n:=l.length) (congrArg (Prod.mk (0:Int)) (Cp fun f _=>by simp [clB])) (fun i hi=>?_) ?_ (fun y=>by simp)) ?_
 ·obtain⟨a,ha,ea⟩:=getW hl hi
  have ha2:a<c.2.2.1.length:=by rw [h.hd.2.2.1];exact ha
  simp only [Am,hi,decide_true,cond_true];refine Aj (v:=.brk 2 (((ar c:Nat):Int),mrk (ar c) (clB c (l.take (i+1))))) (Ha (st:=fun j=>((j:Int),mrk (ar c) (fun f=>clB c (l.take i) f||(List.range j).any fun b=>mt c a b&&decide (T c a b=(f:Int))))) (n:=ar c) (by simp) (fun j hj=>?_) ?_ (fun y=>by simp)) ?_
  ·have eM:decide (c.2.2.1.getD a 0=c.2.1.getD j 0)=mt c a j:=rfl
   have hj2:j<c.2.1.length:=hj;simp only [Am,hj,decide_true,cond_true,Af hi,Af hj,if_true,and_self,tNC,ea,Af ha2,Af hj2,eM];cases hmt:mt c a j with
   |false=>
    simp only [cond_false];rw [Ax (by omega) (by omega)]
    refine congrArg (fun z=>some (LO.next (((j+1:Nat):Int),z))) (Cp fun f hf=>?_)
    rw [List.range_succ,List.any_append];simp [hmt]
   |true=>
    obtain⟨q1,q2,_⟩:=h.pos a j ha hj hmt;have q3:(T c a j).toNat<ar c:=inN ⟨q1,q2⟩;have e3:(((T c a j).toNat:Nat):Int)=T c a j:=by omega
    simp only [cond_true];refine Aj (p210 h (f:=(a:Int)) (g:=(j:Int)) (by omega) (by omega)) ?_
    simp only [tNC,H2];rw [if_pos (by omega),Vg,Ax (by omega) (by omega),e3]
    refine congrArg (fun z=>some (LO.next (((j+1:Nat):Int),z))) (Cp fun f hf=>?_)
    rw [List.range_succ,List.any_append];simp [hmt,Bool.or_assoc]
  ·simp only [Am,Nat.lt_irrefl,decide_false,cond_false]
   refine congrArg (fun z=>some (LO.brk 2 (((ar c:Nat):Int),z))) (Cp fun f hf=>?_)
   unfold clB;rw [KX hi,ea,tNC]
  ·show(if 2=2 then some (LO.next (IntKind.wrap .i64 ((i:Int)+1),mrk (ar c) (clB c (l.take (i+1)))))else none)=_
   rw [if_pos rfl,Ax (by omega) (by omega)];rfl
 ·simp only [Am,Nat.lt_irrefl,decide_false,cond_false,List.take_length]
 ·show(if 0=0 then Option.bind _ _ else none)=_
  rw [if_pos rfl];refine Aj (v:=.brk 4 (((ar c:Nat):Int),gS (ar c) (clB c l))) (VK (fun i hi acc ha=>?_) fun acc=>?_) rfl
  ·simp only [H2,Am,hi,decide_true,cond_true,Af hi,if_true,and_self,tNC,List.length_cons,List.length_nil,Vi hi]
   rw [Ax (by omega) (by omega),if_pos (show acc.length+(0+1)<=17592186044416 by omega)]
   cases clB c l i<;>rfl
  ·simp only [H2,Am,Nat.lt_irrefl,decide_false,cond_false]
end Go.Ve.D


namespace Go.Ve.D
open Go Go.Ve Go.Proofs
theorem Vl{n:Nat}{g:Nat->Bool}{a:Int}:a∈gS n g↔ ∃f:Nat,f<n/\g f=true/\(f:Int)=a:=by
 unfold gS;simp only [List.mem_map,List.mem_filter,List.mem_range];constructor
 ·rintro ⟨f,⟨h1,h2⟩,h3⟩;exact⟨f,h1,h2,h3⟩
 ·rintro ⟨f,h1,h2,h3⟩;exact⟨f,⟨h1,h2⟩,h3⟩
theorem Xn{n:Nat}{g g':Nat->Bool}(h: ∀f,f<n->g f=g' f):gS n g=gS n g':=by
 unfold gS
 congr 1
 exact List.filter_congr fun f hf=>h f (List.mem_range.1 hf)
theorem gS_len{n:Nat}{g:Nat->Bool}:(gS n g).length<=n:=Po
theorem gS_wi{n:Nat}{g:Nat->Bool}:wi n (gS n g)=true:=by
 unfold wi;rw [aET];intro a ha;obtain⟨f,h1,_,rfl⟩:=Vl.1 ha;exact Xg (by omega) (by omega)
def nx(c:Cat)(s:List Int)(a:Int):List Int:=cl c (s++ [a])
inductive Rch(c:Cat)(x:Int):List Int->Prop
 |nil:Rch c x []
 |step {s:List Int} {a:Int}:Rch c x s->a∈H0 c x->Rch c x (nx c s a)
theorem Rch.wi{c:Cat}{x:Int}{s:List Int}(h:Rch c x s):Go.Ve.wi (ar c) s=true:=by
 cases h with
 |nil=>rfl
 |step _ _=>exact gS_wi
theorem Rch.len{c:Cat}{x:Int}{s:List Int}(h:Rch c x s):s.length<=ar c:=by
 cases h with
 |nil=>exact Nat.zero_le _
 |step _ _=>exact gS_len
theorem YX{c:Cat}{x a:Int}(h:a∈H0 c x): ∃f:Nat,f<ar c/\(f:Int)=a:=by
 unfold H0 at h;obtain⟨f,hf,e⟩:=List.mem_map.1 h;exact⟨f,List.mem_range.1 (List.mem_filter.1 hf).1,e⟩
theorem Q9{n:Int}{s:List Int}{a:Int}(h:Go.Ve.wi n s=true)(ha:0<=a/\a<n):Go.Ve.wi n (s++ [a])=true:=by
 unfold Go.Ve.wi at*;rw [List.all_append,h];simp [Xg ha.1 ha.2]
theorem LU{c:Cat}{s:List Int}{f:Nat}:clB c s f=true↔ ∃a∈s,∃b,b<ar c/\mt c a.toNat b=true/\T c a.toNat b=(f:Int):=by
 unfold clB;rw [List.any_eq_true];constructor
 ·rintro ⟨a,ha,h⟩
  obtain⟨b,hb,h2⟩:=List.any_eq_true.1 h;rw [bAE]at h2;exact⟨a,ha,b,List.mem_range.1 hb,h2.1,of_decide_eq_true h2.2⟩
 ·rintro ⟨a,ha,b,hb,h1,h2⟩
  exact⟨a,ha,List.any_eq_true.2 ⟨b,List.mem_range.2 hb,by rw [h1,dT h2];rfl⟩⟩
theorem Y1{c:Cat}(hc:Dd c=true){x:Int}{s:List Int}(h:Rch c x s){a:Int}(ha:a∈s):nx c s a=s:=by
 have hs:=Hx hc;have hlaw:DV c=true:=by unfold Dd at hc;rw [bAE]at hc;exact hc.2
 have hshape:DJ c=true:=by unfold Dd at hc;rw [bAE]at hc;exact hc.1
 unfold DV at hlaw;rw [bAE]at hlaw;have hunit: ∀f,f<ar c->D7 c f=true:=fun f hf=>aET.1 hlaw.1 f (List.mem_range.2 hf)
 have hass: ∀f g k,f<ar c->g<ar c->k<ar c->mt c f g=true->mt c g k=true->T c (T c f g).toNat k=T c f (T c g k).toNat:=by
  intro f g k hf hg hk h1 h2;have h3:=aET.1 (aET.1 hlaw.2 f (List.mem_range.2 hf)) g (List.mem_range.2 hg);rw [h1]at h3;have h4:=aET.1 h3 k (List.mem_range.2 hk);unfold De at h4;rw [h2]at h4;exact of_decide_eq_true h4
 have hid: ∀i,i<c.2.2.2.1.length->Q2 c i=true:=by
  unfold DJ at hshape;rw [bAE,bAE]at hshape;exact fun i hi=>aET.1 hshape.2.1 i (List.mem_range.2 hi)
 cases h with
 |nil=>cases ha
 |step h0 ha0=>
  rename_i s0 a0;generalize hl:s0++ [a0]=l at*
  have hwl:Go.Ve.wi (ar c) l=true:=by
   obtain⟨f,hf,e⟩:=YX ha0;rw [<-hl];exact Q9 h0.wi (by omega)
  have hnx:nx c s0 a0=cl c l:=by unfold nx;rw [hl]
  rw [hnx]at ha⊢;have in_l: ∀a∈l,a.toNat<ar c:=fun a h=>by
   have:=Je.1 (aET.1 hwl a h);exact inN this
  -- closed
  have closed: ∀a∈cl c l,∀b f,b<ar c->mt c a.toNat b=true->T c a.toNat b=((f:Nat):Int)->clB c l f=true:=by
   intro a ha b f hb hm hT;obtain⟨g,hg,hcl,rfl⟩:=Vl.1 ha;rw [tNC]at hm hT;obtain⟨a1,ha1,b1,hb1,hm1,hT1⟩:=LU.1 hcl;have h1:=in_l a1 ha1;obtain⟨q1,q2,q3,q4⟩:=hs.pos a1.toNat b1 h1 hb1 hm1;have hmb:mt c b1 b=true:=by
    unfold mt at hm⊢;rw [hT1,tNC]at q4;rw [<-q4];exact hm
   obtain⟨r1,r2,_,_⟩:=hs.pos b1 b hb1 hb hmb
   have hm2:mt c a1.toNat (T c b1 b).toNat=true:=by
    obtain⟨_,_,r3,_⟩:=hs.pos b1 b hb1 hb hmb;unfold mt at hm1⊢;rw [r3];exact hm1
   have:=hass a1.toNat b1 b h1 hb1 hb hm1 hmb;rw [hT1,tNC,hT]at this;exact LU.2 ⟨a1,ha1,(T c b1 b).toNat,inN ⟨r1,r2⟩,hm2,this.symm⟩
  show cl c (cl c l++ [a])=cl c l;refine Xn fun f hf=>?_
  rw [Bool.eq_iff_iff];constructor
  ·intro h1
   obtain⟨a1,ha1,b,hb,hm,hT⟩:=LU.1 h1;refine closed a1 ?_ b f hb hm hT;rcases List.mem_append.1 ha1 with h|h
   ·exact h
   ·rw [List.mem_singleton.1 h];exact ha
  ·intro h1
   have hu:=hunit f hf;unfold D7 at hu;rw [bAE]at hu;have ht:=hs.to f hf;have hi:=hs.id (tT c f) ht.1 ht.2
   have hix:(tT c f).toNat<c.2.2.2.1.length:=by
    have:=hs.hd.2.2.2.2.2.2.1;have h0:0<=tT c f:=ht.1;have h1:tT c f<c.1:=ht.2;omega
   have hok:=hid _ hix;unfold Q2 at hok;rw [bAE]at hok;refine LU.2 ⟨(f:Int),List.mem_append_left _ (Vl.2 ⟨f,hf,h1,rfl⟩),idn c (tT c f),inN hi,?_,?_⟩
   ·rw [tNC]
    unfold mt;have h2:=of_decide_eq_true hok.1;have h0:0<=tT c f:=ht.1;refine dT ?_;show tT c f=c.2.1.getD (idn c (tT c f)) 0;unfold idn;rw [h2];omega
   ·rw [tNC]
    exact of_decide_eq_true hu.2
end Go.Ve.D

