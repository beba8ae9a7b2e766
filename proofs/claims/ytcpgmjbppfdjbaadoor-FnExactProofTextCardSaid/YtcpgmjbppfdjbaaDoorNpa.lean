/- The lines of proofs: sizes, copies, equality. -/
import Derived.Test.YtcpgmjbppfdjbaaDoorUcq
import Derived.Test.YtcpgmjbppfdjbaaDoorLt
namespace Go.Ve.D
open Go Go.Ve
variable{i:Nat}{t:St}{α:Type}
theorem AaH{a:Int}{n:Nat}(h0:0<=a)(h1:a<=1048576)(h2:n<=9223372036854775807):IntKind.i64.wrap (a-(n:Int))=a-n:=UO (by omega) (by omega)
theorem V8{d:α}{P:α->Prop}{l:List α}(h: ∀j,j<l.length->P (l.getD j d)): ∀x∈l,P x:=by
 intro x hx;obtain⟨j,hj,rfl⟩:=List.mem_iff_getElem.1 hx;have:=h j hj;rwa [gDE,gEE hj,Option.getD_some]at this
theorem Dx{d:α}{P:α->Prop}{l:List α}(h: ∀x∈l,P x){j:Nat}(hj:j<l.length):P (l.getD j d):=by
 rw [gDE,gEE hj,Option.getD_some];exact h _ (List.getElem_mem hj)
abbrev e0:ByteArray:=ByteArray.mk #[]
abbrev Ig(n:Nat):Prop:=n<=9223372036854775807
theorem p16(l:List Int)(a:Int)(h0:0<=a)(h1:a<=1048576)(hl:Ig l.length):Tot (λv=>v<0\/0<=v/\v<=1048576/\l.length<=1048576) (G16 (l,a)):=by
 unfold G16;show Tot _ (bif decide (IntKind.i64.wrap (a-(l.length:Int))<0)then some (-1)else some (IntKind.i64.wrap (a-(l.length:Int))));rw [AaH h0 h1 hl];exact Bi (λ_=>Ae (.inl (by omega))) λe=>Ae (.inr ⟨by have:=DF e;omega,by omega,by have:=DF e;omega⟩)
theorem p17(l:List ByteArray)(a:Int)(h0:0<=a)(h1:a<=1048576)(hl:Ig l.length)(hs: ∀x∈l,Ig x.size):Tot (λv=>v<0\/0<=v/\v<=1048576/\l.length<=1048576/\∀x∈l,x.size<=1048576) (G17 (l,a)):=by
 unfold G17;show Tot _ (bif decide (IntKind.i64.wrap (a-(l.length:Int))<0)then some (-1)else _);rw [AaH h0 h1 hl];refine Bi (λ_=>Ae (.inl (by omega))) λe=>?_
 have he:=DF e;refine Bk (n:=l.length) (λi v=>v.2=(i:Int)/\0<=v.1/\v.1<=1048576/\∀j,j<i->(l.getD j e0).size<=1048576) ?_ (λi hi v hv=>?_) λv hv=>?_
 ·refine⟨rfl,?_,?_,λj hj=>absurd hj (by omega)⟩
  ·show 0<=a-(l.length:Int);omega
  ·show a-(l.length:Int)<=1048576;omega
 ·obtain⟨z,_⟩:=v
  obtain⟨(rfl:_=(i:Int)),(hz0:0<=z),(hz1:z<=1048576),hj⟩:=hv;have hsz:Ig (l.getD i e0).size:=Dx (P:=λx:ByteArray=>Ig x.size) hs hi
  refine DY (ltt hi) (AB (AQ hi) ?_);show Tot _ (bif decide (IntKind.i64.wrap (z-((l.getD i e0).size:Int))<0)then HO (some (-1))else some (LO.next (IntKind.i64.wrap (z-((l.getD i e0).size:Int)),IntKind.i64.wrap ((i:Int)+1))))
  rw [AaH hz0 hz1 hsz];refine Bi (λ_=>I1 (Ae (.inl (by omega)))) λe=>?_
  have he:=DF e
  exact Ae ⟨wr1 hi (by omega),by show 0<=z-_;omega,by show z-_<=_;omega,λj hj'=>by
   by_cases h:j=i
   ·subst h;omega
   ·exact hj j (by omega)⟩
 ·obtain⟨z,_⟩:=v
  obtain⟨(rfl:_=(l.length:Int)),(hz0:0<=z),(hz1:z<=1048576),hj⟩:=hv;exact BF ltf (Ae (Ae (.inr ⟨hz0,hz1,by omega,V8 (P:=λx:ByteArray=>x.size<=1048576) hj⟩)))
structure okS(t:St):Prop where
 prem:t.2.1.length<=1048576
 ctx:t.2.2.1.length<=1048576
 hyp:t.2.2.2.1.length<=1048576
 hyps: ∀x∈t.2.2.2.1,x.size<=1048576
 con:t.2.2.2.2.1.size<=1048576
 tem:t.2.2.2.2.2.2.size<=1048576
structure okR(t:St):Prop where
 prem:Ig t.2.1.length
 ctx:Ig t.2.2.1.length
 hyp:Ig t.2.2.2.1.length
 hyps: ∀x∈t.2.2.2.1,Ig x.size
 con:Ig t.2.2.2.2.1.size
 tem:Ig t.2.2.2.2.2.2.size
theorem p9(t:St)(a:Int)(h0:0<=a)(h1:a<=1048576)(ht:okR t):Tot (λv=>v<0\/0<=v/\v<=1048576/\okS t) (G9 (t,a)):=by
 unfold G9;refine DZ (p16 t.2.1 a h0 h1 ht.prem) λv hv=>Bi (λ_=>Ae (.inl (by omega))) λe=>?_
 obtain⟨a0,a1,a2⟩:=hv.resolve_left (DF e);refine DZ (p16 t.2.2.1 v a0 a1 ht.ctx) λv hv=>Bi (λ_=>Ae (.inl (by omega))) λe=>?_
 obtain⟨b0,b1,b2⟩:=hv.resolve_left (DF e);refine DZ (p17 t.2.2.2.1 v b0 b1 ht.hyp ht.hyps) λv hv=>Bi (λ_=>Ae (.inl (by omega))) λe=>?_
 obtain⟨c0,c1,c2,c3⟩:=hv.resolve_left (DF e);show Tot _ (bif decide (IntKind.i64.wrap (v-(t.2.2.2.2.1.size:Int))<0)then some (-1)else bif decide (IntKind.i64.wrap (IntKind.i64.wrap (v-(t.2.2.2.2.1.size:Int))-(t.2.2.2.2.2.2.size:Int))<0)then some (-1)else some (IntKind.i64.wrap (IntKind.i64.wrap (v-(t.2.2.2.2.1.size:Int))-(t.2.2.2.2.2.2.size:Int))));rw [AaH c0 c1 ht.con];refine Bi (λ_=>Ae (.inl (by omega))) λe=>?_
 have e1:=DF e;rw [AaH (by omega) (by omega) ht.tem]
 refine Bi (λ_=>Ae (.inl (by omega))) λe=>?_
 have e2:=DF e;exact Ae (.inr ⟨by omega,by omega,a2,b2,c2,c3,by omega,by omega⟩)
theorem p4(l:List St)(hl:Ig l.length)(ht: ∀t∈l,okR t):Tot (λv=>v<0\/l.length<=1048576/\∀t∈l,okS t) (G4 (l,1048576)):=by
 unfold G4;show Tot _ (bif decide (IntKind.i64.wrap (1048576-(l.length:Int))<0)then some (-1)else _);rw [AaH (by omega) (by omega) hl]
 refine Bi (λ_=>Ae (.inl (by omega))) λe=>?_
 have he:=DF e;refine Bk (n:=l.length) (λi v=>v.2=(i:Int)/\0<=v.1/\v.1<=1048576/\∀j,j<i->okS (l.getD j s0)) ?_ (λi hi v hv=>?_) λv hv=>?_
 ·refine⟨rfl,?_,?_,λj hj=>absurd hj (by omega)⟩
  ·show 0<=1048576-(l.length:Int);omega
  ·show 1048576-(l.length:Int)<=1048576;omega
 ·obtain⟨z,_⟩:=v
  obtain⟨(rfl:_=(i:Int)),(hz0:0<=z),(hz1:z<=1048576),hj⟩:=hv;refine DY (ltt hi) (AB (AQ hi) (DZ (p9 (l.getD i s0) z hz0 hz1 (Dx ht hi)) λv hv=>?_))
  refine Bi (λe=>I1 (Ae (.inl (by omega)))) λe=>?_
  obtain⟨a0,a1,a2⟩:=hv.resolve_left (DF e)
  exact Ae ⟨wr1 hi (by omega),a0,a1,λj hj'=>by
   by_cases h:j=i
   ·subst h;exact a2
   ·exact hj j (by omega)⟩
 ·obtain⟨z,_⟩:=v
  obtain⟨(rfl:_=(l.length:Int)),(hz0:0<=z),(hz1:z<=1048576),hj⟩:=hv;exact BF ltf (Ae (Ae (.inr ⟨by omega,V8 hj⟩)))
theorem BR{o:Option α}{v:α}(h:Tot (λx=>x=v) o):o=some v:=by
 obtain⟨w,h1,rfl⟩:=h;exact h1
theorem fill{x:List α}{d:α}:x.take x.length++(List.replicate x.length d).drop x.length=x:=by simp
theorem p23(x:List Int)(hl:x.length<=1048576):G23 x=some x:=by
 refine BR ?_;unfold G23;refine AB ⟨by omega,by omega,by omega,by omega⟩ (Bk (n:=x.length) (λi v=>v.1=(i:Int)/\v.2=x.take i++(List.replicate x.length 0).drop i) ⟨rfl,by simp⟩ (λi hi v hv=>?_) λv hv=>?_)
 ·obtain⟨_,_⟩:=v
  obtain⟨(rfl:_=(i:Int)),(rfl:_=_)⟩:=hv;refine DY (ltt hi) (AB (AQ hi) (AB (by constructor<;>simp<;>omega) (Ae ⟨wr1 hi (by omega),?_⟩)))
  show List.set _ ((i:Int)).toNat _=_;rw [tNC];exact Lk 0 (by simp) hi
 ·obtain⟨_,_⟩:=v
  obtain⟨(rfl:_=(x.length:Int)),(rfl:_=_)⟩:=hv;exact BF ltf (Ae (Ae fill))
theorem p24(x:List ByteArray)(hl:x.length<=1048576):G24 x=some x:=by
 refine BR ?_;unfold G24;refine AB ⟨by omega,by omega,by omega,by omega⟩ (Bk (n:=x.length) (λi v=>v.1=(i:Int)/\v.2=x.take i++(List.replicate x.length e0).drop i) ⟨rfl,by simp⟩ (λi hi v hv=>?_) λv hv=>?_)
 ·obtain⟨_,_⟩:=v
  obtain⟨(rfl:_=(i:Int)),(rfl:_=_)⟩:=hv;refine DY (ltt hi) (AB (AQ hi) (AB (by constructor<;>simp<;>omega) (Ae ⟨wr1 hi (by omega),?_⟩)))
  show List.set _ ((i:Int)).toNat _=_;rw [tNC];exact Lk e0 (by simp) hi
 ·obtain⟨_,_⟩:=v
  obtain⟨(rfl:_=(x.length:Int)),(rfl:_=_)⟩:=hv;exact BF ltf (Ae (Ae fill))
theorem p12(h:okS t):G12 t=some t:=by
 unfold G12;refine Ax (p23 _ h.prem) (Ax (p23 _ h.ctx) (Ax (p24 _ h.hyp) rfl))
theorem Xz{l:List α}{a b:α}:(l.set i a).set i b=l.set i b:=by simp
theorem XA{l:List α}{a d:α}(h:i<l.length):(l.set i a).getD i d=a:=by
 rw [gDE,List.getElem?_set_self h,Option.getD_some]
theorem p6(x:List St)(hl:x.length<=1048576)(ht: ∀t∈x,okS t):G6 x=some x:=by
 refine BR ?_;unfold G6;refine AB ⟨by omega,by omega,by omega,by omega⟩ (Bk (n:=x.length) (λi v=>v.1=(i:Int)/\v.2=x.take i++(List.replicate x.length s0).drop i) ⟨rfl,by simp⟩ (λi hi v hv=>?_) λv hv=>?_)
 ·obtain⟨_,y⟩:=v
  obtain⟨(rfl:_=(i:Int)),(hy:y=_)⟩:=hv;have hyl:y.length=x.length:=by rw [hy];simp;omega
  refine DY (ltt hi) (AB (AQ hi) (AX (p12 (Dx ht hi)) (AB ⟨by omega,by show(i:Int)<(y.length:Int);omega⟩ ?_)))
  refine AX rfl (AX rfl (AX rfl (AX rfl (AX rfl (AX rfl (AX rfl (Ae ⟨wr1 hi (by omega),?_⟩)))))))
  have hi':i<y.length:=by omega
  simp only [tNC,Xz,XA hi'];rw [hy];exact Lk s0 (by simp) hi
 ·obtain⟨_,_⟩:=v
  obtain⟨(rfl:_=(x.length:Int)),(rfl:_=_)⟩:=hv;exact BF ltf (Ae (Ae fill))
theorem IL(s:ByteArray):neS s s=false:=by simp [neS]
theorem p32(l:List Int)(hl:l.length<=1048576):G32 (l,l)=some true:=by
 refine BR ?_;unfold G32;refine BF (by simp) (Bk (n:=l.length) (λi v=>v=(i:Int)) rfl (λi hi v hv=>?_) λv hv=>?_)
 ·obtain rfl:=hv
  exact DY (ltt hi) (AB (AQ hi) (AB (AQ hi) (BF (by simp) (Ae (wr1 hi (by omega))))))
 ·obtain rfl:=hv
  exact BF ltf (Ae (Ae rfl))
theorem p33(l:List ByteArray)(hl:l.length<=1048576):G33 (l,l)=some true:=by
 refine BR ?_;unfold G33;refine BF (by simp) (Bk (n:=l.length) (λi v=>v=(i:Int)) rfl (λi hi v hv=>?_) λv hv=>?_)
 ·obtain rfl:=hv
  exact DY (ltt hi) (AB (AQ hi) (AB (AQ hi) (BF (IL _) (Ae (wr1 hi (by omega))))))
 ·obtain rfl:=hv
  exact BF ltf (Ae (Ae rfl))
theorem p15(h:okS t):G15 (t,t)=some true:=by
 refine BR ?_;unfold G15;exact BF (by simp) (AX (p32 _ h.prem) (BF rfl (AX (p32 _ h.ctx) (BF rfl (AX (p33 _ h.hyp) (BF rfl (BF (IL _) (BF (by simp) (BF (IL _) (Ae rfl))))))))))
theorem p8(l:List St)(hl:l.length<=1048576)(ht: ∀t∈l,okS t):G8 (l,l)=some true:=by
 refine BR ?_;unfold G8;refine BF (by simp) (Bk (n:=l.length) (λi v=>v=(i:Int)) rfl (λi hi v hv=>?_) λv hv=>?_)
 ·obtain rfl:=hv
  exact DY (ltt hi) (AB (AQ hi) (AB (AQ hi) (AX (p15 (Dx (d:=s0) ht hi)) (BF rfl (Ae (wr1 hi (by omega)))))))
 ·obtain rfl:=hv
  exact BF ltf (Ae (Ae rfl))
end Go.Ve.D


namespace Go.Ve.D
open Go Go.Ve
variable{b:Bool}{n:Nat}{t:St}{α:Type}
def B(l:List UInt8):ByteArray:=⟨l.toArray⟩
theorem DG(a b:List UInt8):B a++B b=B (a++b):=by
 apply ByteArray.ext;simp [B,ByteArray.data_append]
theorem Bs(l:List UInt8):(B l).size=l.length:=by simp [B,ByteArray.size]
theorem B_of(s:ByteArray):B s.data.toList=s:=rfl
abbrev dec(n:Nat):List UInt8:=Lib.decDigits n
theorem Aat(h:n<10):dec n= [UInt8.ofNat (48+n)]:=by
 unfold dec;rw [Lib.decDigits,dif_pos h]
theorem dec_b(h: ¬n<10):dec n=dec (n/10)++ [UInt8.ofNat (48+n % 10)]:=by
 unfold dec;rw [Lib.decDigits,dif_neg h]
theorem Ma: ∀ (f n:Nat),n<10 ^ (f+1)->(dec n).length<=f+1
 |0,n,h=>by
  rw [Aat (by simpa using h)];simp
 |f+1,n,h=>by
  by_cases h1:n<10
  ·rw [Aat h1];simp
  ·rw [dec_b h1]
   have:=Ma f (n/10) (by rw [Nat.pow_succ]at h;omega)
   simp;omega
theorem digit{d:Nat}(h:d<10):Go.strOfNums ((IntKind.wrap .u8 (IntKind.wrap .i64 ((48:Int)+(d:Int))))::([]:(List Int)))=B [UInt8.ofNat (48+d)]:=by
 have key:((List.range 10).all λk=>decide (Go.strOfNums ((IntKind.wrap .u8 (IntKind.wrap .i64 ((48:Int)+(k:Int))))::([]:(List Int)))=B [UInt8.ofNat (48+k)]))=true:=by kernel_rfl
 exact of_decide_eq_true (aET.1 key d (List.mem_range.2 h))
theorem rec12: ∀ (f n:Nat),n<10 ^ (f+1)->n<1000000000->R21 (f+1) (n:Int)=some (B (dec n))
 |f,n,h,hn=>by
  show B21 (R21 f) (n:Int)=_;unfold B21;by_cases h1:n<10
  ·have e:decide ((n:Int)<10)=true:=dT (by omega)
   rw [e,cond_true,digit h1,Aat h1]
  ·have e:decide ((n:Int)<10)=false:=dF (by omega)
   have e2:IntKind.wrap .i64 (Int.tdiv (n:Int) 10)=((n/10:Nat):Int):=by
    rw [Int.tdiv_eq_ediv_of_nonneg (by omega),UO (by omega) (by omega)];omega
   have e3:Int.tmod (n:Int) 10=((n % 10:Nat):Int):=by
    rw [Int.tmod_eq_emod_of_nonneg (by omega)];omega
   have hd:=digit (d:=n % 10) (by omega)
   match f,h with
   |0,h=>exact absurd (by simpa using h) h1
   |f+1,h=>
    have ih:=rec12 f (n/10) (by rw [Nat.pow_succ]at h;omega) (by omega)
    have hl:=Ma f (n/10) (by rw [Nat.pow_succ]at h;omega)
    have hl2:=Ma 9 (n/10) (by omega)
    rw [e,cond_false,if_pos (by omega),e2,ih,Option.bind_some,e3,hd,if_pos (by omega),if_pos (by rw [Bs,Bs];simp only [List.length_cons,List.length_nil];omega),DG,dec_b h1]
theorem rec12': ∀ (k f n:Nat),n<10 ^ (f+1)->n<1000000000->R21 (f+1+k) (n:Int)=some (B (dec n)):=λk f n h hn=>by
 have: ∀k f n:Nat,n<10 ^ (f+1)->n<10 ^ (f+1+k):=λk f n h=>Nat.lt_of_lt_of_le h (Nat.pow_le_pow_right (by omega) (by omega))
 have e:f+1+k=(f+k)+1:=by omega
 rw [e];exact rec12 (f+k) n (by rw [<-e];exact this k f n h) hn
theorem p21n(h:n<1000000000):G21 (n:Int)=some (B (dec n)):=rec12' 4086 9 n (by omega) h
abbrev M9:Int:=1000000000
def num(n:Int):List UInt8:=dec n.toNat
theorem H2{n:Int}(h:inn M9 n=true):(num n).length<=10:=by
 obtain⟨h0,h1⟩:=OV.1 h;have:n<1000000000:=h1;exact Ma 9 n.toNat (by omega)
theorem p21{n:Int}(h:inn M9 n=true):G21 n=some (B (num n)):=by
 obtain⟨h0,h1⟩:=OV.1 h;have h2:n<1000000000:=h1;have:=p21n (n:=n.toNat) (by omega)
 rwa [Int.toNat_of_nonneg h0]at this
theorem p29{n:Int}(h:inn M9 n=true):G29 (n,10)=some (B (num n)):=by
 obtain⟨h0,h1⟩:=OV.1 h;have h2:n<1000000000:=h1;have e:Lib.itoa n=num n:=by
  unfold Lib.itoa num;rw [if_neg (by omega)]
 unfold G29 G37;simp only;rw [if_pos ⟨by omega,by omega,trivial⟩,e]
 rfl
def CI(s:ByteArray):Bool:=s.data.toList.all λb=>!(b==59||(b==47||b==10))
theorem Yv(s:ByteArray):Lib.containsAny s.data.toList [59,47,10]= !CI s:=by
 unfold CI;generalize s.data.toList=l
 have key: ∀l:List UInt8,(decide (0<=Lib.indexAny l [59,47,10]))= !(l.all λb=>!(b==59||(b==47||b==10))):=by
  intro l
  induction l with
  |nil=>rfl
  |cons b l ih=>
   rw [List.all_cons];unfold Lib.indexAny;have hc: [(59:UInt8),47,10].contains b=(b==59||(b==47||b==10)):=by simp [List.contains_cons];rfl
   rw [hc];cases hb:(b==59||(b==47||b==10))with
   |true=>rfl
   |false=>
    rw [if_neg (by simp)]
    have hg:=Lib.indexAny_ge [59,47,10] l;simp only [Bool.not_false,Bool.true_and];rw [<-ih];by_cases h:Lib.indexAny l [59,47,10]= -1
    ·rw [h];rfl
    ·rw [if_neg (by simpa using h)]
     have h1:0<=Lib.indexAny l [59,47,10]:=by omega
     rw [dT h1,dT (by omega)]
 exact key l
theorem p28(s:ByteArray)(h:s.size<=1048576):G28 (s,ByteArray.mk #[59,47,10])=some (!CI s):=by
 unfold G28;simp only;rw [if_pos ⟨by omega,rfl⟩,Yv]
theorem chr(b c:UInt8):decide (((b.toNat:Nat):Int)=((c.toNat:Nat):Int))=(b==c):=by
 by_cases h:b=c
 ·subst h;simp
 ·have h1:b.toNat≠c.toNat:=λe=>h (UInt8.toNat_inj.1 e)
  rw [dF (by omega)]
  exact(beq_eq_false_iff_ne.2 h).symm
theorem WI{x y r:α}(h:b=true)(hx:x=r):(bif b then x else y)=r:=by rw [h];exact hx
theorem WJ{x y r:α}(h:b=false)(hy:y=r):(bif b then x else y)=r:=by rw [h];exact hy
theorem Kb{c:Prop} [Decidable c]{a b r:α}(h:c)(h2:a=r):(if c then a else b)=r:=by rw [if_pos h,h2]
theorem p20(s:ByteArray)(h:s.size<=1048576):G20 s=some (CI s):=by
 unfold G20;refine Ax (Dd (st:=λi=>((i:Nat):Int)) (n:=s.size) (p:=λi=>!(s.data.toList.getD i 0==59||(s.data.toList.getD i 0==47||s.data.toList.getD i 0==10))) (r:=false) (o:=.brk 0 ((s.size:Nat):Int)) (λi hi=>?_) (WJ ltf rfl) (λy=>by simp)) ?_
 ·refine WI (ltt hi) (Kb (AQ hi) ?_)
  have c59:decide (Xb s ((i:Int)).toNat=59)=(s.data.toList.getD i 0==59):=by rw [tNC];exact chr _ 59
  have c47:decide (Xb s ((i:Int)).toNat=47)=(s.data.toList.getD i 0==47):=by rw [tNC];exact chr _ 47
  have c10:decide (Xb s ((i:Int)).toNat=10)=(s.data.toList.getD i 0==10):=by rw [tNC];exact chr _ 10
  generalize s.data.toList.getD i 0=b at c59 c47 c10;refine Ax (v:=(b==59||b==47)) ?_ (Ax (v:=(b==59||(b==47||b==10))) ?_ ?_)
  ·show(bif decide (Xb s ((i:Int)).toNat=59)then some true else if(0:Int)<=(i:Int)/\(i:Int)<(s.size:Int)then some (decide (Xb s ((i:Int)).toNat=47))else none)=_
   rw [c59,c47,if_pos (AQ hi)];cases b==59<;>rfl
  ·show(bif(b==59||b==47)then some true else if(0:Int)<=(i:Int)/\(i:Int)<(s.size:Int)then some (decide (Xb s ((i:Int)).toNat=10))else none)=_
   rw [c10,if_pos (AQ hi)];cases b==59<;>cases b==47<;>rfl
  ·show(bif(b==59||(b==47||b==10))then HO (some false)else some (LO.next (IntKind.i64.wrap ((i:Int)+1))))=_
   rw [wr1 hi (by omega)]
   cases (b==59||(b==47||b==10))<;>rfl
 ·have e:s.size=s.data.toList.length:=Lib.size_eq s
  rw [e];have:=Ie (0:UInt8) (λb=>!(b==59||(b==47||b==10))) s.data.toList
  rw [this];unfold CI;cases s.data.toList.all λb=>!(b==59||(b==47||b==10))<;>rfl
theorem p18(a l h:Int):G18 (a,l,h)=some (decide (l<=a)&&decide (a<=h)):=by
 unfold G18;by_cases h1:l<=a<;>simp [h1]
theorem p34(a l h:Int):G34 (a,l,h)=some (decide (l<=a)&&decide (a<=h)):=by
 unfold G34;by_cases h1:l<=a<;>simp [h1]
theorem in9(a:Int):(decide (0<=a)&&decide (a<=999999999))=inn M9 a:=by
 unfold inn;rw [show decide (a<=999999999)=decide (a<M9)from Bool.eq_iff_iff.2 (by rw [decide_eq_true_eq,decide_eq_true_eq];show _↔a<1000000000;omega)]
theorem p19(l:List Int)(hl:l.length<=1048576):G19 (M9,l)=some (wi M9 l):=by
 unfold G19;refine Ax (Dd (st:=λi=>((i:Nat):Int)) (n:=l.length) (p:=λi=>inn M9 (l.getD i 0)) (r:=false) (o:=.brk 0 ((l.length:Nat):Int)) (λi hi=>?_) (WJ ltf rfl) (λy=>by simp)) ?_
 ·refine WI (ltt hi) (Kb (AQ hi) (Ax (v:=!inn M9 (l.getD i 0)) ?_ ?_))
  ·show(bif decide (l.getD ((i:Int)).toNat 0<0)then some true else if(0:Int)<=(i:Int)/\(i:Int)<(l.length:Int)then some (decide (M9<=l.getD ((i:Int)).toNat 0))else none)=_
   rw [if_pos (AQ hi),tNC];generalize l.getD i 0=z;by_cases h1:z<0
   ·rw [dT h1,inn_f1 h1];rfl
   ·by_cases h2:M9<=z
    ·rw [dF h1,dT h2,inn_f2 h2];rfl
    ·rw [dF h1,dF h2,inn_t (by omega) (by omega)];rfl
  ·show(bif !inn M9 (l.getD i 0)then HO (some false)else some (LO.next (IntKind.i64.wrap ((i:Int)+1))))=_
   rw [wr1 hi (by omega)]
   cases inn M9 (l.getD i 0)<;>rfl
 ·rw [Ie 0 (inn M9) l]
  show _=some (l.all (inn M9));cases l.all (inn M9)<;>rfl
theorem p25(l:List Int)(hl:l.length<=10000000):G25 (l,M9)=some (wi M9 l):=by
 unfold G25;refine Ax (Dd (st:=λi=>((i:Nat):Int)) (n:=l.length) (p:=λi=>inn M9 (l.getD i 0)) (r:=false) (o:=.brk 0 ((l.length:Nat):Int)) (λi hi=>?_) (WJ ltf rfl) (λy=>by simp)) ?_
 ·refine WI (ltt hi) (Kb (AQ hi) (Ax (v:=inn M9 (l.getD i 0)) ?_ ?_))
  ·rw [show IntKind.i64.wrap (M9-1)=999999999 from by decide,tNC,p34,in9]
  ·show(bif !inn M9 (l.getD i 0)then HO (some false)else some (LO.next (IntKind.i64.wrap ((i:Int)+1))))=_
   rw [wr1 hi (by omega)]
   cases inn M9 (l.getD i 0)<;>rfl
 ·rw [Ie 0 (inn M9) l]
  show _=some (l.all (inn M9));cases l.all (inn M9)<;>rfl
theorem Yk(a b:ByteArray):eqS a b=eqS b a:=by
 unfold eqS;exact Bool.eq_iff_iff.2 (by simp [eq_comm])
theorem p26(l:List ByteArray)(hl:l.length<=1048576):G26 (l,e0)=some (l.any (eqS e0)):=by
 unfold G26
 have h:Tot (λv:Int=>decide (0<=v)=l.any (eqS e0)) (G35 (l,e0)):=by
  unfold G35;refine Bk (n:=l.length) (λi v=>v=(i:Int)/\∀j,j<i->eqS e0 (l.getD j e0)=false) ⟨rfl,λj hj=>absurd hj (by omega)⟩ (λi hi v hv=>?_) λv hv=>?_
  ·obtain⟨(rfl:v=(i:Int)),hj⟩:=hv
   refine DY (ltt hi) (AB (AQ hi) ?_);show Tot _ (bif eqS e0 (l.getD ((i:Int)).toNat e0)then HO (some (i:Int))else some (LO.next (IntKind.i64.wrap ((i:Int)+1))))
   rw [tNC]
   refine Bi (λe=>I1 (Ae ?_)) λe=>Ae ⟨wr1 hi (by omega),λj hj'=>by
    by_cases h:j=i
    ·subst h;exact e
    ·exact hj j (by omega)⟩
   rw [dT (by omega)]
   refine(List.any_eq_true.2 ⟨l.getD i e0,?_,e⟩).symm;rw [gDE,gEE hi,Option.getD_some];exact List.getElem_mem hi
  ·obtain⟨(rfl:v=(l.length:Int)),hj⟩:=hv
   refine BF ltf (Ae (Ae ?_));show decide ((0:Int)<=-1)=_;rw [show decide ((0:Int)<=-1)=false from rfl]
   refine(List.any_eq_false.2 λx hx=>?_).symm
   have:=V8 (P:=λx=>eqS e0 x=false) hj x hx
   rw [this];simp
 obtain⟨v,h1,h2⟩:=h;refine Ax h1 ?_;rw [h2]
theorem p27(l:List ByteArray)(hl:l.length<=1048576):G27 l=some l:=by
 unfold G27;by_cases h:l.length=0
 ·rw [if_pos h,List.length_eq_zero_iff.1 h]
 ·rw [if_neg h]
  unfold G27a;rw [if_pos (by omega),if_pos (by simp;omega)]
  rfl
def JI(t:St):Bool:=(inn M9 t.1&&inn M9 t.2.2.2.2.2.1)&&((wi M9 t.2.1&&wi M9 t.2.2.1)&&(decide (t.2.2.2.1.length<=8)&&((CI t.2.2.2.2.1&&CI t.2.2.2.2.2.2)&&t.2.2.2.1.all λh=>!eqS e0 h&&CI h)))
theorem C4{a:Bool}{o:Option Bool}(h:a=false->o=some b):(bif a then some true else o)=some (a||b):=by
 cases a with
 |true=>rfl
 |false=>exact h rfl
theorem p10(h:okS t):G10 t=some (JI t):=by
 unfold G10;refine Ax (v:=inn M9 t.1) (by rw [p18,in9]) ?_
 refine Ax (v:=!inn M9 t.1|| !inn M9 t.2.2.2.2.2.1) (C4 λ_=>Ax (v:=inn M9 t.2.2.2.2.2.1) (by rw [p18,in9]) rfl) ?_
 refine Ax (v:=(!inn M9 t.1|| !inn M9 t.2.2.2.2.2.1)|| !wi M9 t.2.1) (C4 λ_=>Ax (p19 _ h.prem) rfl) ?_
 refine Ax (v:=((!inn M9 t.1|| !inn M9 t.2.2.2.2.2.1)|| !wi M9 t.2.1)|| !wi M9 t.2.2.1) (C4 λ_=>Ax (p19 _ h.ctx) rfl) ?_
 refine Ax (v:=(((!inn M9 t.1|| !inn M9 t.2.2.2.2.2.1)|| !wi M9 t.2.1)|| !wi M9 t.2.2.1)||decide (8<(t.2.2.2.1.length:Int))) (C4 λ_=>rfl) ?_
 refine Ax (v:=((((!inn M9 t.1|| !inn M9 t.2.2.2.2.2.1)|| !wi M9 t.2.1)|| !wi M9 t.2.2.1)||decide (8<(t.2.2.2.1.length:Int)))|| !CI t.2.2.2.2.1) (C4 λ_=>Ax (p20 _ h.con) rfl) ?_
 refine Ax (v:=(((((!inn M9 t.1|| !inn M9 t.2.2.2.2.2.1)|| !wi M9 t.2.1)|| !wi M9 t.2.2.1)||decide (8<(t.2.2.2.1.length:Int)))|| !CI t.2.2.2.2.1)|| !CI t.2.2.2.2.2.2) (C4 λ_=>Ax (p20 _ h.tem) rfl) ?_
 have hd:decide (t.2.2.2.1.length<=8)= !decide (8<(t.2.2.2.1.length:Int)):=by
  by_cases h8:t.2.2.2.1.length<=8
  ·rw [dT h8,dF (by omega)];rfl
  ·rw [dF h8,dT (by omega)];rfl
 unfold JI;rw [hd];cases hb:((((((!inn M9 t.1|| !inn M9 t.2.2.2.2.2.1)|| !wi M9 t.2.1)|| !wi M9 t.2.2.1)||decide (8<(t.2.2.2.1.length:Int)))|| !CI t.2.2.2.2.1)|| !CI t.2.2.2.2.2.2)with
 |true=>
  show some false=_
  congr 1
  revert hb
  cases inn M9 t.1<;>cases inn M9 t.2.2.2.2.2.1<;>cases wi M9 t.2.1<;>cases wi M9 t.2.2.1<;>cases decide (8<(t.2.2.2.1.length:Int))<;>cases CI t.2.2.2.2.1<;>cases CI t.2.2.2.2.2.2<;>simp
 |false=>
  have e:((inn M9 t.1&&inn M9 t.2.2.2.2.2.1)&&((wi M9 t.2.1&&wi M9 t.2.2.1)&&(!decide (8<(t.2.2.2.1.length:Int))&&((CI t.2.2.2.2.1&&CI t.2.2.2.2.2.2)&&t.2.2.2.1.all λh=>!eqS e0 h&&CI h))))=t.2.2.2.1.all λh=>!eqS e0 h&&CI h:=by
   revert hb
   cases inn M9 t.1<;>cases inn M9 t.2.2.2.2.2.1<;>cases wi M9 t.2.1<;>cases wi M9 t.2.2.1<;>cases decide (8<(t.2.2.2.1.length:Int))<;>cases CI t.2.2.2.2.1<;>cases CI t.2.2.2.2.2.2<;>simp
  rw [e];show Option.bind (A3 _ _) _=_;refine Ax (Dd (st:=λi=>((i:Nat):Int)) (n:=t.2.2.2.1.length) (p:=λi=>(λh=>!eqS e0 h&&CI h) (t.2.2.2.1.getD i e0)) (r:=false) (o:=.brk 0 ((t.2.2.2.1.length:Nat):Int)) (λi hi=>?_) (WJ ltf rfl) (λy=>by simp)) ?_
  ·have hsz:(t.2.2.2.1.getD i e0).size<=1048576:=Dx (P:=λx:ByteArray=>x.size<=1048576) h.hyps hi
   refine WI (ltt hi) (Kb (AQ hi) (Ax (v:=eqS (t.2.2.2.1.getD i e0) e0|| !CI (t.2.2.2.1.getD i e0)) ?_ ?_))
   ·refine C4 λ_=>Kb (AQ hi) (Ax (p20 _ ?_) ?_)
    ·exact hsz
    ·rfl
   ·show(bif eqS (t.2.2.2.1.getD i e0) e0|| !CI (t.2.2.2.1.getD i e0)then HO (some false)else some (LO.next (IntKind.i64.wrap ((i:Int)+1))))=some (bif !eqS e0 (t.2.2.2.1.getD i e0)&&CI (t.2.2.2.1.getD i e0)then _ else _)
    rw [wr1 hi (by have:=h.hyp;omega),Yk]
    cases eqS e0 (t.2.2.2.1.getD i e0)<;>cases CI (t.2.2.2.1.getD i e0)<;>rfl
  ·rw [Ie e0 (λh=>!eqS e0 h&&CI h) t.2.2.2.1]
   cases t.2.2.2.1.all λh=>!eqS e0 h&&CI h<;>rfl
theorem O9(l:List α)(p q:α->Bool):(l.all λh=>!p h&&q h)=(!l.any p&&l.all q):=by
 induction l with
 |nil=>rfl
 |cons a l ih=>rw [List.all_cons,List.any_cons,List.all_cons,ih];cases p a<;>cases q a<;>cases l.any p<;>cases l.all q<;>rfl
theorem p13(h:okS t):G13 t=some (JI t):=by
 have h1:=h.prem;have h2:=h.ctx;have h3:=h.hyp;unfold G13;refine Kb (by simp;omega) (Kb (by simp;omega) ?_)
 have hw:wi M9 (((t.1::(t.2.2.2.2.2.1:: []))++t.2.1)++t.2.2.1)=((inn M9 t.1&&inn M9 t.2.2.2.2.2.1)&&(wi M9 t.2.1&&wi M9 t.2.2.1)):=by
  unfold wi;rw [List.all_append,List.all_append,List.all_cons,List.all_cons,List.all_nil];cases inn M9 t.1<;>cases inn M9 t.2.2.2.2.2.1<;>simp
 refine Ax (p25 _ (by simp;omega)) ?_
 rw [hw]
 have hd:decide (t.2.2.2.1.length<=8)= !decide (8<(t.2.2.2.1.length:Int)):=by
  by_cases h8:t.2.2.2.1.length<=8
  ·rw [dT h8,dF (by omega)];rfl
  ·rw [dF h8,dT (by omega)];rfl
 have hf:JI t=(((inn M9 t.1&&inn M9 t.2.2.2.2.2.1)&&(wi M9 t.2.1&&wi M9 t.2.2.1))&&(decide (t.2.2.2.1.length<=8)&&(!t.2.2.2.1.any (eqS e0)&&(t.2.2.2.1.all CI&&(CI t.2.2.2.2.1&&CI t.2.2.2.2.2.2))))):=by
  unfold JI;rw [O9];cases inn M9 t.1<;>cases inn M9 t.2.2.2.2.2.1<;>cases wi M9 t.2.1<;>cases wi M9 t.2.2.1<;>cases decide (t.2.2.2.1.length<=8)<;>cases CI t.2.2.2.2.1<;>cases CI t.2.2.2.2.2.2<;>cases t.2.2.2.1.any (eqS e0)<;>cases t.2.2.2.1.all CI<;>rfl
 rw [hf,hd];generalize ((inn M9 t.1&&inn M9 t.2.2.2.2.2.1)&&(wi M9 t.2.1&&wi M9 t.2.2.1))=a;refine Ax (v:=!a||decide (8<(t.2.2.2.1.length:Int))) (C4 λ_=>rfl) ?_
 refine Ax (v:=(!a||decide (8<(t.2.2.2.1.length:Int)))||t.2.2.2.1.any (eqS e0)) (C4 λ_=>Ax (p26 _ h3) rfl) ?_
 generalize decide (8<(t.2.2.2.1.length:Int))=b;cases hc:((!a||b)||t.2.2.2.1.any (eqS e0))with
 |true=>
  show some false=_
  congr 1
  revert hc
  cases a<;>cases b<;>cases t.2.2.2.1.any (eqS e0)<;>simp
 |false=>
  have e:(a&&(!b&&(!t.2.2.2.1.any (eqS e0)&&(t.2.2.2.1.all CI&&(CI t.2.2.2.2.1&&CI t.2.2.2.2.2.2)))))=(t.2.2.2.1++(t.2.2.2.2.1::(t.2.2.2.2.2.2:: []))).all CI:=by
   rw [List.all_append,List.all_cons,List.all_cons,List.all_nil]
   revert hc
   cases a<;>cases b<;>cases t.2.2.2.1.any (eqS e0)<;>simp
  rw [e]
  have hm: ∀x∈t.2.2.2.1++(t.2.2.2.2.1::(t.2.2.2.2.2.2:: [])),x.size<=1048576:=by
   intro x hx;rcases List.mem_append.1 hx with hx|hx
   ·exact h.hyps x hx
   ·simp only [List.mem_cons,List.not_mem_nil,or_false]at hx
    rcases hx with rfl|rfl
    ·exact h.con
    ·exact h.tem
  refine Ax (p27 _ h3) (Kb (by simp;omega) ?_)
  have hl:(t.2.2.2.1++(t.2.2.2.2.1::(t.2.2.2.2.2.2:: []))).length<=1048578:=by simp;omega
  generalize t.2.2.2.1++(t.2.2.2.2.1::(t.2.2.2.2.2.2:: []))=l at hm hl;refine Ax (Dd (st:=λi=>((i:Nat):Int)) (n:=l.length) (p:=λi=>CI (l.getD i e0)) (r:=false) (o:=.brk 0 ((l.length:Nat):Int)) (λi hi=>?_) (WJ ltf rfl) (λy=>by simp)) ?_
  ·have hsz:(l.getD i e0).size<=1048576:=Dx (P:=λx:ByteArray=>x.size<=1048576) hm hi
   refine WI (ltt hi) (Kb (AQ hi) (Ax (p28 _ ?_) ?_))
   ·exact hsz
   ·show(bif !CI (l.getD i e0)then HO (some false)else some (LO.next (IntKind.i64.wrap ((i:Int)+1))))=_
    rw [wr1 hi (by omega)]
    cases CI (l.getD i e0)<;>rfl
  ·rw [Ie e0 CI l]
   cases l.all CI<;>rfl
end Go.Ve.D


namespace Go.Ve.D
open Go Go.Ve
variable{l:List Int}{i:Nat}{t:St}
theorem NG(sep:List UInt8)(a b:List (List UInt8)):Lib.joinTail sep (a++b)=Lib.joinTail sep a++Lib.joinTail sep b:=by simp [Lib.joinTail]
theorem Hq(ws:List (List UInt8))(w sep:List UInt8):Lib.join (ws++ [w]) sep=if ws= []then w else Lib.join ws sep++(sep++w):=by
 cases ws with
 |nil=>rw [if_pos rfl,List.nil_append,Lib.join_cons];simp [Lib.joinTail]
 |cons a r=>
  rw [if_neg (by simp),List.cons_append,Lib.join_cons,Lib.join_cons,NG]
  simp [Lib.joinTail]
theorem Iu(sep:List UInt8)(k:Nat): ∀ws:List (List UInt8),(∀w∈ws,w.length<=k)->(Lib.joinTail sep ws).length<=(k+sep.length)*ws.length
 | [],_=>by simp [Lib.joinTail]
 |w::ws,h=>by
  have h1:=Iu sep k ws λx hx=>h x (mCM _ hx)
  have h2:=h w (List.mem_cons_self ..);have e:Lib.joinTail sep (w::ws)=(sep++w)++Lib.joinTail sep ws:=by simp [Lib.joinTail]
  rw [e];simp only [List.length_append,List.length_cons];rw [Nat.mul_add];omega
theorem P4(sep:List UInt8)(k:Nat)(ws:List (List UInt8))(h: ∀w∈ws,w.length<=k):(Lib.join ws sep).length<=(k+sep.length)*ws.length:=by
 cases ws with
 |nil=>simp [Lib.join]
 |cons w ws=>
  have h1:=Iu sep k ws λx hx=>h x (mCM _ hx)
  have h2:=h w (List.mem_cons_self ..);rw [Lib.join_cons];simp only [List.length_append,List.length_cons];rw [Nat.mul_add];omega
def Mr(l:List Int):List UInt8:=Lib.join (l.map num) [44]
theorem CF(h:wi M9 l=true):(Mr l).length<=11*l.length:=by
 have:=P4 [44] 10 (l.map num) λw hw=>by
  obtain⟨n,hn,rfl⟩:=List.mem_map.1 hw;exact H2 (aET.1 h n hn)
 simpa [Mr]using this
theorem BH{α:Type}{l:List α}(d:α)(h:i<l.length):l.take (i+1)=l.take i++ [l.getD i d]:=by
 rw [gDE,gEE h,Option.getD_some,List.take_succ_eq_append_getElem h]
theorem Zh(h:wi M9 l=true)(i:Nat):wi M9 (l.take i)=true:=
 aET.2 λx hx=>aET.1 h x (List.mem_of_mem_take hx)
theorem wi_at(h:wi M9 l=true)(hi:i<l.length):inn M9 (l.getD i 0)=true:=
 Dx (P:=λn=>inn M9 n=true) (aET.1 h) hi
theorem b44:(ByteArray.mk #[44])=B [44]:=rfl
theorem b47:(ByteArray.mk #[47])=B [47]:=rfl
theorem b59:(ByteArray.mk #[59])=B [59]:=rfl
theorem b10:(ByteArray.mk #[10])=B [10]:=rfl
theorem p22(h:wi M9 l=true)(hl:l.length<=1048576):G22 l=some (B (Mr l)):=by
 refine BR ?_;unfold G22;refine Bk (n:=l.length) (λi v=>v.1=B (Mr (l.take i))/\v.2=(i:Int)) ⟨rfl,rfl⟩ (λi hi v hv=>?_) λv hv=>?_
 ·obtain⟨_,_⟩:=v
  obtain⟨(rfl:_=_),(rfl:_=(i:Int))⟩:=hv;have hn:=wi_at h hi;have hnl:=H2 hn;have htl:=CF (Zh h i);have hti:(l.take i).length<=1048576:=by simp;omega
  refine DY (ltt hi) (Bi (λe=>?_) λe=>?_)
  ·have he:=Ym e
   refine AB (by rw [b44,Bs,Bs];simp only [List.length_cons,List.length_nil];omega) (AB (AQ hi) (AX (by rw [tNC];exact p21 hn) (AB (by rw [b44,DG,Bs,Bs];simp only [List.length_append,List.length_cons,List.length_nil];omega) (Ae ⟨?_,wr1 hi (by omega)⟩))))
   show B (Mr (l.take i))++ByteArray.mk #[44]++B (num (l.getD i 0))=_;rw [b44,DG,DG,BH 0 hi];unfold Mr;rw [List.map_append,List.map_cons,List.map_nil,Hq,if_neg (by intro e0;have:=congrArg List.length e0;rw [List.length_map,List.length_take,List.length_nil]at this;omega)]
   simp
  ·have he:=DF e
   obtain rfl:i=0:=by omega
   refine AB (AQ hi) (AX (by rw [tNC];exact p21 hn) (AB (by rw [Bs,Bs];omega) (Ae ⟨?_,wr1 hi (by omega)⟩)))
   show B (Mr (l.take 0))++B (num (l.getD 0 0))=_;rw [DG,BH 0 hi];unfold Mr;rw [List.map_append,List.map_cons,List.map_nil,Hq,if_pos (by simp)]
   simp [Lib.join]
 ·obtain⟨_,_⟩:=v
  obtain⟨(rfl:_=_),(rfl:_=(l.length:Int))⟩:=hv;refine BF ltf (Ae (Ae ?_));show B (Mr (l.take l.length))=_;rw [List.take_length]
theorem p31(l:List ByteArray)(sep:List UInt8)(h1:l.length<=10000000)(h2:(Lib.join (l.map (·.data.toList)) sep).length<=140737488355328):G31 (l,B sep)=some (B (Lib.join (l.map (·.data.toList)) sep)):=by
 unfold G31;simp only;rw [if_pos ⟨by omega,h2⟩]
 rfl
theorem p30(h:wi M9 l=true)(hl:l.length<=1048576):G30 l=some (B (Mr l)):=by
 refine BR ?_;unfold G30;refine Bk (n:=l.length) (λi v=>v.1=(i:Int)/\v.2=(l.take i).map λn=>B (num n)) ⟨rfl,rfl⟩ (λi hi v hv=>?_) λv hv=>?_
 ·obtain⟨_,_⟩:=v
  obtain⟨(rfl:_=(i:Int)),(rfl:_=_)⟩:=hv;have hn:=wi_at h hi;refine DY (ltt hi) (AB (AQ hi) (AX (by rw [tNC];exact p29 hn) (AB (by simp;omega) (Ae ⟨wr1 hi (by omega),?_⟩))))
  show(l.take i).map (λn=>B (num n))++ [B (num (l.getD i 0))]=_
  rw [BH 0 hi,List.map_append];rfl
 ·obtain⟨_,_⟩:=v
  obtain⟨(rfl:_=(l.length:Int)),(rfl:_=_)⟩:=hv;have e:((l.map λn=>B (num n)).map (·.data.toList))=l.map num:=by rw [List.map_map];rfl
  have hlen:=CF h;refine BF ltf (Ae (AX (v:=B (Mr l)) ?_ (Ae rfl)));show G31 ((l.take l.length).map (λn=>B (num n)),B [44])=_
  rw [List.take_length,p31 _ _ (by simp;omega) (by rw [e];show(Mr l).length<=_;omega),e]
  rfl
def AaN(t:St):List UInt8:=Lib.join (t.2.2.2.1.map (·.data.toList)) [47]
def P1(t:St):List UInt8:=num t.1++ [59]++Mr t.2.1++ [59]++Mr t.2.2.1++ [59]++AaN t++ [59]++t.2.2.2.2.1.data.toList++ [59]++num t.2.2.2.2.2.1++ [59]++t.2.2.2.2.2.2.data.toList
structure Fit(t:St):Prop where
 rule:inn M9 t.1=true
 var:inn M9 t.2.2.2.2.2.1=true
 prem:wi M9 t.2.1=true
 ctx:wi M9 t.2.2.1=true
 few:t.2.2.2.1.length<=8
theorem NK(h:JI t=true):Fit t:=by
 unfold JI at h;simp only [bAE,decide_eq_true_eq]at h;exact⟨h.1.1,h.1.2,h.2.1.1,h.2.1.2,h.2.2.1⟩
theorem Qc(s:ByteArray):s.data.toList.length=s.size:=(Lib.size_eq s).symm
theorem IQ{l:List ByteArray}(h: ∀x∈l,x.size<=1048576)(h8:l.length<=8):(Lib.join (l.map (·.data.toList)) [47]).length<=9000000:=by
 have:=P4 [47] 1048576 (l.map (·.data.toList)) λw hw=>by
  obtain⟨x,hx,rfl⟩:=List.mem_map.1 hw;show x.data.toList.length<=_;rw [Qc];exact h x hx
 rw [List.length_map]at this;simp only [List.length_cons,List.length_nil]at this;omega
theorem IN(h:okS t)(hf:Fit t):(P1 t).length<=40000000:=by
 have a1:=H2 hf.rule;have a2:=H2 hf.var;have a3:=CF hf.prem;have a4:=CF hf.ctx;have a5:=IQ h.hyps hf.few;have a6:=h.con;have a7:=h.tem;have a8:=h.prem;have a9:=h.ctx;unfold P1 AaN;simp only [List.length_append,List.length_cons,List.length_nil,Qc];omega
theorem p11(h:okS t)(hf:Fit t):G11 t=some (B (P1 t)):=by
 have a1:=H2 hf.rule;have a2:=H2 hf.var;have a3:=CF hf.prem;have a4:=CF hf.ctx;have a5:=IQ h.hyps hf.few;have a6:=h.con;have a7:=h.tem;have a8:=h.prem;have a9:=h.ctx;have h8:=hf.few;refine BR ?_;unfold G11;refine Bk (n:=t.2.2.2.1.length) (λi v=>v.1=B (Lib.join ((t.2.2.2.1.take i).map (·.data.toList)) [47])/\v.2=(i:Int)) ⟨rfl,rfl⟩ (λi hi v hv=>?_) λv hv=>?_
 ·obtain⟨_,_⟩:=v
  obtain⟨(rfl:_=_),(rfl:_=(i:Int))⟩:=hv;have hn:(t.2.2.2.1.getD i e0).size<=1048576:=Dx (P:=λx:ByteArray=>x.size<=1048576) h.hyps hi
  have htl:=IQ (l:=t.2.2.2.1.take i) (λx hx=>h.hyps x (List.mem_of_mem_take hx)) (by simp;omega)
  refine DY (ltt hi) (Bi (λe=>?_) λe=>?_)
  ·have he:=Ym e
   refine AB (by rw [b47,Bs,Bs];simp only [List.length_cons,List.length_nil];omega) (AB (AQ hi) (AB ?_ (Ae ⟨?_,wr1 hi (by omega)⟩)))
   ·rw [b47,DG,Bs,tNC];simp only [List.length_append,List.length_cons,List.length_nil]
    show _+(t.2.2.2.1.getD i e0).size<=_;omega
   ·show B (Lib.join ((t.2.2.2.1.take i).map (·.data.toList)) [47])++ByteArray.mk #[47]++t.2.2.2.1.getD ((i:Int)).toNat e0=_
    rw [b47,DG,tNC,<-B_of (t.2.2.2.1.getD i e0),DG,BH e0 hi,List.map_append,List.map_cons,List.map_nil,Hq,if_neg (by intro e0;have:=congrArg List.length e0;rw [List.length_map,List.length_take,List.length_nil]at this;omega)]
    simp
  ·have he:=DF e
   obtain rfl:i=0:=by omega
   refine AB (AQ hi) (AB ?_ (Ae ⟨?_,wr1 hi (by omega)⟩))
   ·rw [Bs]
    show _+(t.2.2.2.1.getD 0 e0).size<=_;omega
   ·show B (Lib.join ((t.2.2.2.1.take 0).map (·.data.toList)) [47])++t.2.2.2.1.getD 0 e0=_
    rw [<-B_of (t.2.2.2.1.getD 0 e0),DG,BH e0 hi,List.map_append,List.map_cons,List.map_nil,Hq,if_pos (by simp)]
    simp [Lib.join]
 ·obtain⟨_,_⟩:=v
  obtain⟨(rfl:_=_),(rfl:_=(t.2.2.2.1.length:Int))⟩:=hv;refine BF ltf (Ae ?_);rw [List.take_length];have hcl:=Qc t.2.2.2.2.1;have htl:=Qc t.2.2.2.2.2.2;show Tot _ (Option.bind (G21 t.1) _);refine AX (p21 hf.rule) (AB ?_ (AX (p22 hf.prem a8) (AB ?_ (AB ?_ (AX (p22 hf.ctx a9) (AB ?_ (AB ?_ (AB ?_ (AB ?_ (AB ?_ (AB ?_ (AX (p21 hf.var) (AB ?_ (AB ?_ (AB ?_ (Ae ?_))))))))))))))))
  all_goals (try (show _<=9223372036854775807))
  all_goals (try (simp only [b59,DG,Bs,ByteArray.size_append,List.length_append,List.length_cons,List.length_nil];omega))
  show _=B (P1 t);unfold P1 AaN
  conv=>lhs;rw [<-B_of t.2.2.2.2.1,<-B_of t.2.2.2.2.2.2]
  simp only [b59,DG]
theorem p14(h:okS t)(hf:Fit t):G14 t=some (B (P1 t++ [10])):=by
 have a3:=CF hf.prem;have a4:=CF hf.ctx;have a5:=IQ h.hyps hf.few;have a8:=h.prem;have a9:=h.ctx;have h8:=hf.few;have hll:=IN h hf
 have e:Lib.join (([B (num t.1),B (Mr t.2.1),B (Mr t.2.2.1),B (AaN t),t.2.2.2.2.1,B (num t.2.2.2.2.2.1),t.2.2.2.2.2.2]:List ByteArray).map (·.data.toList)) [59]=P1 t:=by
  simp [Lib.join_cons,Lib.joinTail,P1,B]
 unfold G14;refine Ax (p29 hf.rule) (Ax (p30 hf.prem a8) (Ax (p30 hf.ctx a9) (Ax (v:=B (AaN t)) (p31 _ [47] (by omega) (by omega)) (Ax (p29 hf.var) (Ax (v:=B (P1 t)) ?_ ?_)))))
 ·have:=p31 [B (num t.1),B (Mr t.2.1),B (Mr t.2.2.1),B (AaN t),t.2.2.2.2.1,B (num t.2.2.2.2.2.1),t.2.2.2.2.2.2] [59] (by simp) (by rw [e];omega)
  rw [e]at this;exact this
 ·refine Kb (by rw [b10,Bs,Bs];simp only [List.length_cons,List.length_nil];omega) ?_
  rw [b10,DG]
def Pn(l:List St):List UInt8:=l.flatMap λt=>P1 t++ [10]
theorem Mz(l:List St)(t:St):Pn (l++ [t])=Pn l++(P1 t++ [10]):=by simp [Pn]
theorem Lj: ∀ {l:List St},(∀t∈l,okS t)->(∀t∈l,JI t=true)->(Pn l).length<=40000001*l.length
 | [],_,_=>by simp [Pn]
 |t::l,h,hf=>by
  have h1:=Lj (l:=l) (λx hx=>h x (mCM _ hx)) λx hx=>hf x (mCM _ hx)
  have h2:=IN (h t (List.mem_cons_self ..)) (NK (hf t (List.mem_cons_self ..)));have e:Pn (t::l)=(P1 t++ [10])++Pn l:=by simp [Pn]
  rw [e];simp only [List.length_append,List.length_cons,List.length_nil];omega
def res(l:List St):ByteArray×Int:=if 40<l.length then(e0,1)else bif l.all JI then(B (Pn l),0)else(e0,1)
theorem N7{l:List St}(hi:i<l.length)(h:JI (l.getD i s0)=false):l.all JI=false:=by
 cases hb:l.all JI with
 |false=>rfl
 |true=>
  have:=Dx (d:=s0) (P:=λt=>JI t=true) (aET.1 hb) hi
  rw [h]at this;cases this
theorem p5(l:List St)(ht: ∀t∈l,okS t):G5 l=some (res l):=by
 refine BR ?_;unfold G5 res;refine Bi (λe=>?_) λe=>?_
 ·have:=Ym e
  exact Ae (by rw [if_pos (by omega)])
 have hl:=DF e;rw [if_neg (by omega)]
 refine Bk (n:=l.length) (λi v=>v.1=B (Pn (l.take i))/\v.2=(i:Int)/\∀t∈l.take i,JI t=true) ⟨rfl,rfl,λt h=>by simp at h⟩ (λi hi v hv=>?_) λv hv=>?_
 ·obtain⟨_,_⟩:=v
  obtain⟨(rfl:_=_),(rfl:_=(i:Int)),(hf: ∀t∈l.take i,JI t=true)⟩:=hv;have ho:=Dx (d:=s0) ht hi;refine DY (ltt hi) (AB (AQ hi) (AX (by rw [tNC];exact p10 ho) (Bi (λe=>?_) λe=>?_)))
  ·have e':JI (l.getD i s0)=false:=by simpa using e
   exact I1 (Ae (by rw [N7 hi e'];rfl))
  ·have e':JI (l.getD i s0)=true:=by simpa using e
   have hll:=IN ho (NK e');have htl:=Lj (l:=l.take i) (λx hx=>ht x (List.mem_of_mem_take hx)) hf
   have hti:(l.take i).length<=40:=by simp;omega
   refine AB (AQ hi) (AX (by rw [tNC];exact p11 ho (NK e')) (AB (by rw [Bs,Bs];omega) (AB (by rw [b10,DG,Bs,Bs];simp only [List.length_append,List.length_cons,List.length_nil];omega) (Ae ⟨?_,wr1 hi (by omega),?_⟩))))
   ·show B (Pn (l.take i))++B (P1 (l.getD i s0))++ByteArray.mk #[10]=_
    rw [b10,DG,DG,BH s0 hi,Mz,List.append_assoc]
   ·show ∀t∈l.take (i+1),_
    rw [BH s0 hi];intro t h;rcases List.mem_append.1 h with h|h
    ·exact hf t h
    ·rw [List.mem_singleton.1 h];exact e'
 ·obtain⟨_,_⟩:=v
  obtain⟨(rfl:_=_),(rfl:_=(l.length:Int)),(hf: ∀t∈l.take l.length,JI t=true)⟩:=hv;rw [List.take_length]at hf⊢;exact BF ltf (Ae (Ae (by rw [aET.2 hf];rfl)))
theorem p7(l:List St)(ht: ∀t∈l,okS t):G7 l=some (res l):=by
 refine BR ?_;unfold G7 res;refine Bi (λe=>?_) λe=>?_
 ·have:=Ym e
  exact Ae (by rw [if_pos (by omega)])
 have hl:=DF e;rw [if_neg (by omega)]
 refine Bk (n:=l.length) (λi v=>v.1=B (Pn (l.take i))/\v.2=(i:Int)/\∀t∈l.take i,JI t=true) ⟨rfl,rfl,λt h=>by simp at h⟩ (λi hi v hv=>?_) λv hv=>?_
 ·obtain⟨_,_⟩:=v
  obtain⟨(rfl:_=_),(rfl:_=(i:Int)),(hf: ∀t∈l.take i,JI t=true)⟩:=hv;have ho:=Dx (d:=s0) ht hi;refine DY (ltt hi) (AB (AQ hi) (AX (by rw [tNC];exact p13 ho) (Bi (λe=>?_) λe=>?_)))
  ·have e':JI (l.getD i s0)=false:=by simpa using e
   exact I1 (Ae (by rw [N7 hi e'];rfl))
  ·have e':JI (l.getD i s0)=true:=by simpa using e
   have hll:=IN ho (NK e');have htl:=Lj (l:=l.take i) (λx hx=>ht x (List.mem_of_mem_take hx)) hf
   have hti:(l.take i).length<=40:=by simp;omega
   refine AB (AQ hi) (AX (by rw [tNC];exact p14 ho (NK e')) (AB (by rw [Bs,Bs];simp only [List.length_append,List.length_cons,List.length_nil];omega) (Ae ⟨?_,wr1 hi (by omega),?_⟩)))
   ·show B (Pn (l.take i))++B (P1 (l.getD i s0)++ [10])=_
    rw [DG,BH s0 hi,Mz]
   ·show ∀t∈l.take (i+1),_
    rw [BH s0 hi];intro t h;rcases List.mem_append.1 h with h|h
    ·exact hf t h
    ·rw [List.mem_singleton.1 h];exact e'
 ·obtain⟨_,_⟩:=v
  obtain⟨(rfl:_=_),(rfl:_=(l.length:Int)),(hf: ∀t∈l.take l.length,JI t=true)⟩:=hv;rw [List.take_length]at hf⊢;exact BF ltf (Ae (Ae (by rw [aET.2 hf];rfl)))
theorem okR_of(h:okT (.pair (.int .i64) (.pair (.sl (.int .i64)) (.pair (.sl (.int .i64)) (.pair (.sl .str) (.pair .str (.pair (.int .i64) .str)))))) t):okR t:=
 ⟨h.2.1.1,h.2.2.1.1,h.2.2.2.1.1,h.2.2.2.1.2,h.2.2.2.2.1,h.2.2.2.2.2.2⟩
theorem p3(x:List St)(h:okT (PT S3.ps) x):G3 x=some true:=by
 have h1:Ig x.length:=h.1;have h2: ∀t∈x,okR t:=λt ht=>okR_of (h.2 t ht)
 refine BR ?_;unfold G3;refine DZ (p4 x h1 h2) λv hv=>Bi (λ_=>Ae rfl) λe=>?_
 obtain⟨hl,ht⟩:=hv.resolve_left (DF e);refine AX (p6 x hl ht) (AX (p5 x ht) (AX (p6 x hl ht) (AX (p7 x ht) (AX (v:=false) ?_ (BF rfl (AX (p6 x hl ht) (AX (p8 x hl ht) (BF rfl (Ae rfl)))))))));show(bif neS (res x).1 (res x).1 then some true else some (!decide ((res x).2=(res x).2)))=some false;rw [IL];simp
end Go.Ve.D

