/- Formulas as trees. -/
import Derived.Test.YtbbhfpbalccohaaGreatFba
namespace Go.Ve.D
open Go Go.Ve
noncomputable section
abbrev Fl:=List Nd
def nd(x:Fl)(i:Nat):Nd:=x.getD i nd0
def pts(k:Nd):Nat:=bif decide (k.1=4)||(decide (k.1=5)||decide (k.1=6))then 2 else bif decide (k.1=7)||decide (k.1=8)then 1 else 0
theorem Vv(k:Nd):pts k<=2:=by
 unfold pts;cases decide (k.1=4)||(decide (k.1=5)||decide (k.1=6))<;>cases decide (k.1=7)||decide (k.1=8)<;>simp
def A7(k:Nd):Bool:=wi 4 k.2.2&&
 bif decide (k.1=2)then inn 4 k.2.1&&decide (k.2.2.length<=2)else
 bif decide (k.1=3)then decide (k.2.1=0)&&decide (k.2.2.length=2)else
 bif decide (k.1=7)||decide (k.1=8)then inn 3 k.2.1&&decide (k.2.2.length=0)else
 inn 9 k.1&&(decide (k.2.1=0)&&decide (k.2.2.length=0))
inductive Tr where
 |leaf (k:Nd)
 |un (k:Nd) (a:Tr)
 |bin (k:Nd) (a b:Tr)
def Tr.flat:Tr->Fl
 | .leaf k=>[k]
 | .un k a=>k::a.flat
 | .bin k a b=>k::(a.flat++b.flat)
def Tr.ok:Tr->Bool
 | .leaf k=>A7 k&&decide (pts k=0)
 | .un k a=>(A7 k&&decide (pts k=1))&&a.ok
 | .bin k a b=>(A7 k&&decide (pts k=2))&&(a.ok&&b.ok)
def Tr.top:Tr->Nd
 | .leaf k=>k
 | .un k _=>k
 | .bin k _ _=>k
theorem BN: ∀t:Tr,1<=t.flat.length
 | .leaf _=>Nat.le_refl _
 | .un k a=>by show 1<=(k::a.flat).length;rw [List.length_cons];omega
 | .bin k a b=>by show 1<=(k::(a.flat++b.flat)).length;rw [List.length_cons];omega
theorem DW(k:Nd)(a:Tr):(Tr.un k a).flat.length=a.flat.length+1:=rfl
theorem C3(k:Nd)(a b:Tr):(Tr.bin k a b).flat.length=a.flat.length+b.flat.length+1:=by
 show(k::(a.flat++b.flat)).length=_;rw [List.length_cons,List.length_append]
def At(x:Fl)(i:Nat)(t:Tr):Prop:=∃p s,x=p++(t.flat++s)/\p.length=i
theorem Da{x:Fl}{i:Nat}{t:Tr}(h:At x i t):i<x.length/\nd x i=t.top/\i+t.flat.length<=x.length:=by
 obtain⟨p,s,rfl,rfl⟩:=h;have hp:=BN t;refine⟨by rw [List.length_append,List.length_append];omega,?_,by rw [List.length_append,List.length_append];omega⟩
 unfold nd;rw [gDE,gAR (Nat.le_refl _),Nat.sub_self];cases t<;>rfl
theorem Ui{x:Fl}{i:Nat}{k:Nd}{a:Tr}(h:At x i (.un k a)):At x (i+1) a:=by
 obtain⟨p,s,rfl,rfl⟩:=h;refine⟨p++ [k],s,?_,by simp⟩
 show p++((k::a.flat)++s)=_;simp
theorem KY{x:Fl}{i:Nat}{k:Nd}{a b:Tr}(h:At x i (.bin k a b)):At x (i+1) a/\At x (i+1+a.flat.length) b:=by
 obtain⟨p,s,rfl,rfl⟩:=h;refine⟨⟨p++ [k],b.flat++s,?_,by simp⟩,⟨p++k::a.flat,s,?_,by simp [Nat.add_assoc,Nat.add_comm]⟩⟩
 ·show p++((k::(a.flat++b.flat))++s)=_
  simp
 ·show p++((k::(a.flat++b.flat))++s)=_
  simp
theorem at_all(t:Tr):At t.flat 0 t:=⟨[],[],by simp,rfl⟩
def op:Nat->Fl->Nat
 |m,[]=>m
 |m,k::l=>op (m+pts k-1) l
theorem Px: ∀ (l r:Fl) (m:Nat),op m (l++r)=op (op m l) r
 | [],_,_=>rfl
 |k::l,r,m=>Px l r (m+pts k-1)
theorem I6: ∀ (t:Tr),t.ok=true->∀m,1<=m->op m t.flat=m-1
 | .leaf k,h,m,hm=>by
  have h:(A7 k&&decide (pts k=0))=true:=h;rw [bAE,decide_eq_true_eq]at h;show m+pts k-1=m-1;omega
 | .un k a,h,m,hm=>by
  have h:((A7 k&&decide (pts k=1))&&a.ok)=true:=h;rw [bAE,bAE,decide_eq_true_eq]at h;show op (m+pts k-1) a.flat=m-1;rw [h.1.2,I6 a h.2 _ (by omega)]
  omega
 | .bin k a b,h,m,hm=>by
  have h:((A7 k&&decide (pts k=2))&&(a.ok&&b.ok))=true:=h;rw [bAE,bAE,bAE,decide_eq_true_eq]at h;show op (m+pts k-1) (a.flat++b.flat)=m-1;rw [Px,h.1.2,I6 a h.2.1 _ (by omega),I6 b h.2.2 _ (by omega)]
  omega
theorem LJ: ∀ (t:Tr),t.ok=true->∀m,1<=m->∀i,i<t.flat.length->m<=op m (t.flat.take i)
 | .leaf k,_,m,hm,i,hi=>by
  have:i=0:=by have:i<1:=hi;omega
  subst this;exact Nat.le_refl _
 | .un k a,h,m,hm,0,hi=>Nat.le_refl _
 | .un k a,h,m,hm,i+1,hi=>by
  have h:((A7 k&&decide (pts k=1))&&a.ok)=true:=h;rw [bAE,bAE,decide_eq_true_eq]at h;show m<=op (m+pts k-1) (a.flat.take i);rw [h.1.2];exact LJ a h.2 m hm i (by rw [DW]at hi;omega)
 | .bin k a b,h,m,hm,0,hi=>Nat.le_refl _
 | .bin k a b,h,m,hm,i+1,hi=>by
  have h:((A7 k&&decide (pts k=2))&&(a.ok&&b.ok))=true:=h;rw [bAE,bAE,bAE,decide_eq_true_eq]at h;show m<=op (m+pts k-1) ((a.flat++b.flat).take i);rw [h.1.2,List.take_append,Px];rw [C3]at hi;rcases Nat.lt_or_ge i a.flat.length with hl|hl
  ·rw [show i-a.flat.length=0 by omega,List.take_zero]
   have:=LJ a h.2.1 (m+2-1) (by omega) i hl
   show m<=op (m+2-1) (a.flat.take i);omega
  ·rw [List.take_of_length_le hl,I6 a h.2.1 _ (by omega),show m+2-1-1=m by omega]
   exact LJ b h.2.2 m hm _ (by omega)
def opn(x:Fl)(s i:Nat):Nat:=op 1 ((x.drop s).take i)
theorem LG{x:Fl}{s i:Nat}(h:s+i<x.length):opn x s (i+1)=opn x s i+pts (nd x (s+i))-1:=by
 unfold opn;have hi:i<(x.drop s).length:=by rw [List.length_drop];omega
 rw [<-Ha nd0 hi,Px]
 have e:(x.drop s).getD i nd0=nd x (s+i):=by
  unfold nd;rw [gDE,List.getElem?_drop,<-gDE]
 rw [e];rfl
theorem YN(x:Fl)(s:Nat): ∀i,s+i<=x.length->opn x s i<=i+1
 |0,_=>Nat.le_refl _
 |i+1,h=>by
  rw [LG (by omega)]
  have:=YN x s i (by omega)
  have:=Vv (nd x (s+i));omega
theorem YO{x:Fl}{s:Nat}{t:Tr}(h:At x s t)(ho:t.ok=true):(∀i,i<t.flat.length->0<opn x s i)/\opn x s t.flat.length=0:=by
 obtain⟨p,r,rfl,rfl⟩:=h
 have e: ∀i,i<=t.flat.length->opn (p++(t.flat++r)) p.length i=op 1 (t.flat.take i):=fun i hi=>by
  unfold opn;rw [List.drop_left,List.take_append_of_le_length hi]
 refine⟨fun i hi=>?_,?_⟩
 ·rw [e i (by omega)]
  exact LJ t ho 1 (Nat.le_refl _) i hi
 ·rw [e _ (Nat.le_refl _),List.take_length,I6 t ho 1 (Nat.le_refl _)]
def fl:List Tr->Fl
 | []=>[]
 |t::l=>t.flat++fl l
def run:Fl->Nat->Bool
 | [],m=>decide (m=0)
 |k::l,m=>A7 k&&(!decide (m=0)&&run l (m+pts k-1))
theorem YD: ∀ (l:Fl) (m:Nat),run l m=true->∃ts:List Tr,ts.length=m/\l=fl ts/\∀t∈ts,t.ok=true
 | [],m,h=>⟨[],(of_decide_eq_true h).symm,rfl,fun t h=>by cases h⟩
 |k::l,m,h=>by
  have h:(A7 k&&(!decide (m=0)&&run l (m+pts k-1)))=true:=h;rw [bAE,bAE]at h;obtain⟨h1,h2,h3⟩:=h;have hm:m≠0:=by simpa using h2
  obtain⟨ts,g1,g2,g3⟩:=YD l _ h3;have hk:=Vv k;have h012:pts k=0\/pts k=1\/pts k=2:=by omega
  rcases h012 with hb|hb|hb
  ·rw [hb]at g1
   refine⟨.leaf k::ts,by rw [List.length_cons,g1];omega,by rw [g2];rfl,fun t ht=>?_⟩
   rcases List.mem_cons.1 ht with rfl|ht
   ·show(A7 k&&decide (pts k=0))=true
    rw [h1,hb];rfl
   ·exact g3 t ht
  ·rw [hb]at g1
   match ts,g1,g2,g3 with
   | [],g1,_,_=>simp only [List.length_nil]at g1;omega
   |a::ts,g1,g2,g3=>
    refine⟨.un k a::ts,by simp only [List.length_cons]at g1⊢;omega,by rw [g2];rfl,fun t ht=>?_⟩
    rcases List.mem_cons.1 ht with rfl|ht
    ·show((A7 k&&decide (pts k=1))&&a.ok)=true
     rw [h1,hb,g3 a (by simp)];rfl
    ·exact g3 t (by simp [ht])
  ·rw [hb]at g1
   match ts,g1,g2,g3 with
   | [],g1,_,_=>simp only [List.length_nil]at g1;omega
   | [_],g1,_,_=>simp only [List.length_cons,List.length_nil]at g1;omega
   |a::b::ts,g1,g2,g3=>
    refine⟨.bin k a b::ts,by simp only [List.length_cons]at g1⊢;omega,?_,fun t ht=>?_⟩
    ·rw [g2]
     show k::(a.flat++(b.flat++fl ts))=(k::(a.flat++b.flat))++fl ts;rw [List.cons_append,List.append_assoc]
    ·rcases List.mem_cons.1 ht with rfl|ht
     ·show((A7 k&&decide (pts k=2))&&(a.ok&&b.ok))=true
      rw [h1,hb,g3 a (by simp),g3 b (by simp)];rfl
     ·exact g3 t (by simp [ht])
def preB(x:Fl):Bool:=(List.range x.length).all fun i=>A7 (nd x i)
def opB(x:Fl):Bool:=(List.range x.length).all fun i=>!decide (opn x 0 i=0)
def Dc(x:Fl):Bool:=(decide (1<=x.length)&&decide (x.length<=40))&&(preB x&&(opB x&&decide (opn x 0 x.length=0)))
theorem Pf{x:Fl}(h1:preB x=true)(h2:opB x=true)(h3:opn x 0 x.length=0): ∀k i,i+k=x.length->run (x.drop i) (opn x 0 i)=true
 |0,i,hi=>by
  have:i=x.length:=by omega
  subst this;rw [List.drop_length,h3];rfl
 |k+1,i,hi=>by
  have hlt:i<x.length:=by omega
  have hd:x.drop i=nd x i::x.drop (i+1):=by
   rw [List.drop_eq_getElem_cons hlt]
   congr 1
   unfold nd;rw [gDE,gEE hlt];rfl
  rw [hd];have a1:A7 (nd x i)=true:=aET.1 h1 i (List.mem_range.2 hlt);have a2:(!decide (opn x 0 i=0))=true:=aET.1 h2 i (List.mem_range.2 hlt);have a3:=LG (x:=x) (s:=0) (i:=i) (by omega)
  rw [Nat.zero_add]at a3;show(A7 (nd x i)&&(!decide (opn x 0 i=0)&&run (x.drop (i+1)) (opn x 0 i+pts (nd x i)-1)))=true;rw [a1,a2,<-a3,Pf h1 h2 h3 k (i+1) (by omega)];rfl
theorem fm_tr{x:Fl}(h:Dc x=true): ∃t:Tr,t.ok=true/\x=t.flat/\x.length<=40:=by
 unfold Dc at h;simp only [bAE,decide_eq_true_eq]at h;obtain⟨⟨h0,h0'⟩,h1,h2,h3⟩:=h;obtain⟨ts,g1,g2,g3⟩:=YD _ _ (Pf h1 h2 h3 x.length 0 (by omega))
 have g1:ts.length=1:=g1
 match ts,g1,g2,g3 with
 | [t],_,g2,g3=>exact⟨t,g3 t (by simp),by
   have g2:x.drop 0=t.flat++ []:=g2;rw [List.drop_zero,List.append_nil]at g2;exact g2,h0'⟩
end
end Go.Ve.D


namespace Go.Ve.D
open Go Go.Ve
noncomputable section
def sfA(S:List SF)(k:Int):SF:=S.getD k.toNat sf0
def shC(S:List SF):Cat:=shS (S.getD 0 sf0)
def obN(S:List SF):Nat:=(shC S).1.toNat
structure SK(S:List SF):Prop where
 l1:1<=S.length
 l3:S.length<=3
 fs: ∀i,i<S.length->FS (S.getD i sf0)
 eq: ∀i,i<S.length->shS (S.getD i sf0)=shC S
theorem SK.f{S:List SF}(h:SK S){k:Int}(hk:0<=k/\k<(S.length:Int)):FS (sfA S k):=h.fs _ (by omega)
theorem SK.e{S:List SF}(h:SK S){k:Int}(hk:0<=k/\k<(S.length:Int)):shS (sfA S k)=shC S:=h.eq _ (by omega)
theorem SK.f0{S:List SF}(h:SK S):FS (S.getD 0 sf0):=h.fs 0 h.l1
theorem SK.sh{S:List SF}(h:SK S):Sh (shC S):=h.f0.sh
theorem SK.ob{S:List SF}(h:SK S):((obN S:Nat):Int)=(shC S).1/\obN S<=8:=by
 obtain⟨⟨a,b⟩,_⟩:=h.sh.hd;unfold obN;omega
theorem SK.ar{S:List SF}(h:SK S):Go.Ve.D.ar (shC S)<=40:=h.sh.hd.2.1
theorem SK.ob1{S:List SF}(h:SK S){k:Int}(hk:0<=k/\k<(S.length:Int)):(sfA S k).1=((obN S:Nat):Int):=by
 have e:=h.e hk;have:(shS (sfA S k)).1=(shC S).1:=by rw [e]
 rw [h.ob.1,<-this];rfl
theorem SK.fr{S:List SF}(h:SK S){a:Nat}(ha:a<Go.Ve.D.ar (shC S)): ∃x:Nat,fT (shC S) a=(x:Int)/\x<obN S:=by
 obtain⟨b1,b2⟩:=h.sh.fr a ha;have:=h.ob;refine⟨(fT (shC S) a).toNat,?_,?_⟩
 ·unfold fT;omega
 ·unfold fT;omega
theorem SK.to{S:List SF}(h:SK S){a:Nat}(ha:a<Go.Ve.D.ar (shC S)): ∃x:Nat,tT (shC S) a=(x:Int)/\x<obN S:=by
 obtain⟨b1,b2⟩:=h.sh.to a ha;have:=h.ob;refine⟨(tT (shC S) a).toNat,?_,?_⟩
 ·unfold tT;omega
 ·unfold tT;omega
def szs(S:List SF)(G:List Int)(x:Int):List Int:=(List.range G.length).map fun i=>sz (sfA S (G.getD i 0)) x
theorem BG{S:List SF}{G:List Int}{x:Int}:(szs S G x).length=G.length:=by simp [szs]
theorem Lh{S:List SF}{G:List Int}{x:Int}{i:Nat}(hi:i<G.length):(szs S G x).getD i 0=sz (sfA S (G.getD i 0)) x:=by
 unfold szs;rw [gDE,List.getElem?_map,List.getElem?_range hi];rfl
theorem Xo{S:List SF}{G:List Int}{s x:Int}:szs S (G++ [s]) x=szs S G x++ [sz (sfA S s) x]:=by
 unfold szs;rw [List.length_append,List.length_singleton,List.range_succ,List.map_append]
 congr 1
 ·refine List.map_congr_left fun i hi=>?_
  have hi:=List.mem_range.1 hi;rw [gDE,gAL hi,<-gDE]
 ·simp
structure CK(S:List SF)(G:List Int):Prop where
 l:G.length<=4
 w:wi (S.length:Int) G=true
theorem CK.get{S:List SF}{G:List Int}(h:CK S G){i:Nat}(hi:i<G.length):0<=G.getD i 0/\G.getD i 0<(S.length:Int):=BB h.w hi
theorem CK.few{S:List SF}{G:List Int}(hs:SK S)(h:CK S G){x:Nat}(hx:x<obN S):Few (szs S G (x:Int)):=by
 refine⟨by rw [BG];exact h.l,fun y hy=>?_⟩
 unfold szs at hy;obtain⟨i,hi,rfl⟩:=List.mem_map.1 hy;have hi:=List.mem_range.1 hi;have hg:=h.get hi;exact(hs.f hg).szi (by rw [hs.ob1 hg];omega)
def cnt(S:List SF)(G:List Int)(x:Int):Nat:=prd (szs S G x)
theorem Ym{S:List SF}{G:List Int}{s x:Int}:cnt S (G++ [s]) x=cnt S G x*(sz (sfA S s) x).toNat:=by
 unfold cnt;rw [Xo,Lx];show _*((sz (sfA S s) x).toNat*1)=_;rw [Nat.mul_one]
theorem C9{S:List SF}{G:List Int}(hs:SK S)(h:CK S G){x:Nat}(hx:x<obN S):cnt S G (x:Int)<=65536:=by
 have:=(CK.few hs h hx).prd (szs S G (x:Int)).length;rwa [List.take_length]at this
def Ko(x t:List Int):Nat->Nat
 |0=>0
 |i+1=>Ko x t i*(x.getD i 0).toNat+(t.getD i 0).toNat
def num(x t:List Int):Nat:=Ko x t t.length
theorem Ol{x t:List Int}(hb: ∀i,i<x.length->0<=t.getD i 0/\t.getD i 0<x.getD i 0): ∀i,i<=x.length->Ko x t i<prd (x.take i)
 |0,_=>by show 0<1;omega
 |i+1,h=>by
  have ih:=Ol hb i (by omega)
  obtain⟨b1,b2⟩:=hb i (by omega)
  rw [IB (by omega)]
  show Ko x t i*(x.getD i 0).toNat+(t.getD i 0).toNat<_;have h1:(t.getD i 0).toNat<(x.getD i 0).toNat:=by omega
  calc Ko x t i*(x.getD i 0).toNat+(t.getD i 0).toNat<Ko x t i*(x.getD i 0).toNat+(x.getD i 0).toNat:=by omega
   _=(Ko x t i+1)*(x.getD i 0).toNat:=by rw [Nat.add_mul,Nat.one_mul]
   _<=prd (x.take i)*(x.getD i 0).toNat:=Nat.mul_le_mul_right _ (by omega)
theorem num_lt{x t:List Int}(hl:t.length=x.length)(hb: ∀i,i<x.length->0<=t.getD i 0/\t.getD i 0<x.getD i 0):num x t<prd x:=by
 have:=Ol hb x.length (Nat.le_refl _);rw [List.take_length]at this;unfold num;rw [hl];exact this
def mvT(S:List SF)(G:List Int)(a k:Nat):List Int:=(List.range G.length).map fun i=>(act (sfA S (G.getD i 0)) a).getD (dig (szs S G (fT (shC S) a)) k i).toNat 0
theorem HY{S:List SF}{G:List Int}{a k:Nat}:(mvT S G a k).length=G.length:=by simp [mvT]
theorem Oo{S:List SF}{G:List Int}{a k i:Nat}(hi:i<G.length):(mvT S G a k).getD i 0=(act (sfA S (G.getD i 0)) a).getD (dig (szs S G (fT (shC S) a)) k i).toNat 0:=by
 unfold mvT;rw [gDE,List.getElem?_map,List.getElem?_range hi];rfl
def mv(S:List SF)(G:List Int)(a k:Nat):Nat:=num (szs S G (tT (shC S) a)) (mvT S G a k)
theorem XP{S:List SF}{G:List Int}(hs:SK S)(h:CK S G){a k:Nat}(ha:a<Go.Ve.D.ar (shC S))(hk:k<cnt S G (fT (shC S) a)){i:Nat}(hi:i<G.length):
  (0<=dig (szs S G (fT (shC S) a)) k i/\dig (szs S G (fT (shC S) a)) k i<((act (sfA S (G.getD i 0)) a).length:Int))/\a<(sfA S (G.getD i 0)).2.2.2.2.2.2.length/\
  (0<=(mvT S G a k).getD i 0/\(mvT S G a k).getD i 0<(szs S G (tT (shC S) a)).getD i 0):=by
 obtain⟨x,hx,hxo⟩:=hs.fr ha;have hg:=h.get hi;have hf:=hs.f hg;have he:=hs.e hg;have hfew:=CK.few hs h hxo;rw [<-hx]at hfew;have hil:i<(szs S G (fT (shC S) a)).length:=by rw [BG];exact hi
 have hd:=Y4 hfew (k:=k) hil (KE hk _ hil);rw [Lh hi]at hd;have har:a<Go.Ve.D.ar (shS (sfA S (G.getD i 0))):=by rw [he];exact ha
 have hal:=hf.al a har;rw [he]at hal;have haw:=hf.aw a har;rw [he]at haw;refine⟨⟨hd.1,by omega⟩,by have:=hf.l2;unfold acF at this;omega,?_⟩
 rw [Oo hi,Lh hi];exact BB haw (by omega)
theorem mv_lt{S:List SF}{G:List Int}(hs:SK S)(h:CK S G){a k:Nat}(ha:a<Go.Ve.D.ar (shC S))(hk:k<cnt S G (fT (shC S) a)):mv S G a k<cnt S G (tT (shC S) a):=by
 unfold mv cnt;refine num_lt (by rw [HY,BG]) fun i hi=>?_
 rw [BG]at hi;exact(XP hs h ha hk hi).2.2
end
end Go.Ve.D


namespace Go.Ve.D
open Go Go.Ve
noncomputable section
def rlA(R:List Rl)(k:Int):Rl:=R.getD k.toNat rl0
def CM(R:List Rl)(k:Nd)(G:List Int):Bool:=
 bif decide (k.1=2)then wi (G.length:Int) k.2.2&&(decide (k.2.1<(R.length:Int))&&decide (thn k.2.2 G=(rlA R k.2.1).1))else
 bif decide (k.1=3)then wi (G.length:Int) k.2.2&&decide (G.getD (k.2.2.getD 0 0).toNat 0=G.getD (k.2.2.getD 1 0).toNat 0)else true
def tyB(S:List SF)(R:List Rl):Tr->List Int->Bool
 | .leaf k,G=>CM R k G
 | .un k a,G=>(decide (k.2.1<(S.length:Int))&& !decide (G.length=4))&&tyB S R a (G++ [k.2.1])
 | .bin _ a b,G=>tyB S R a G&&tyB S R b G
def PP(S:List SF)(G:List Int):Bool:=(List.range (obN S)).all fun(x:Nat)=>decide (cnt S G (x:Int)<=256)
def JU(S:List SF):Tr->List Int->Bool
 | .leaf _,G=>PP S G
 | .un k a,G=>PP S G&&JU S a (G++ [k.2.1])
 | .bin _ a b,G=>PP S G&&(JU S a G&&JU S b G)
def Iq(S:List SF)(R:List Rl)(k:Nd)(G:List Int)(x n:Nat):Bool:=
 bif decide (k.1=2)then((rlA R k.2.1).2.getD x []).contains ((num (szs S (rlA R k.2.1).1 (x:Int)) (thn k.2.2 (D8 (szs S G (x:Int)) n)):Nat):Int)else
 bif decide (k.1=3)then decide ((D8 (szs S G (x:Int)) n).getD (k.2.2.getD 0 0).toNat 0=(D8 (szs S G (x:Int)) n).getD (k.2.2.getD 1 0).toNat 0)else decide (k.1=0)
def evB(S:List SF)(G:List Int)(f:Nat->Nat->Bool)(m x n:Nat):Bool:=(List.range m).all fun a=>!decide (fT (shC S) a=(x:Int))||f (tT (shC S) a).toNat (mv S G a n)
def szN(S:List SF)(s:Int)(x:Nat):Nat:=(sz (sfA S s) (x:Int)).toNat
def exV(S:List SF)(s:Int)(f:Nat->Nat->Bool)(x n:Nat):Bool:=(List.range (szN S s x)).any fun e=>f x (n*szN S s x+e)
def faV(S:List SF)(s:Int)(f:Nat->Nat->Bool)(x n:Nat):Bool:=(List.range (szN S s x)).all fun e=>f x (n*szN S s x+e)
def val(S:List SF)(R:List Rl):Tr->List Int->Nat->Nat->Bool
 | .leaf k,G=>Iq S R k G
 | .un k a,G=>bif decide (k.1=7)then exV S k.2.1 (val S R a (G++ [k.2.1]))else evB S G (faV S k.2.1 (val S R a (G++ [k.2.1]))) (ar (shC S))
 | .bin k a b,G=>bif decide (k.1=4)then fun x n=>val S R a G x n&&val S R b G x n else
   bif decide (k.1=5)then fun x n=>val S R a G x n||val S R b G x n else evB S G (fun x n=>!val S R a G x n||val S R b G x n) (ar (shC S))
def mkV(S:List SF)(G:List Int)(f:Nat->Nat->Bool):List (List Bool):=(List.range (obN S)).map fun(x:Nat)=>(List.range (cnt S G (x:Int))).map (f x)
theorem BA{S:List SF}{G:List Int}{f:Nat->Nat->Bool}:(mkV S G f).length=obN S:=by simp [mkV]
theorem Aac{S:List SF}{G:List Int}{f:Nat->Nat->Bool}{x:Nat}(hx:x<obN S):(mkV S G f).getD x []=(List.range (cnt S G (x:Int))).map (f x):=by
 unfold mkV;rw [gDE,List.getElem?_map,List.getElem?_range hx];rfl
theorem ZL{n:Nat}{f:Nat->Bool}:((List.range n).map f).length=n:=by simp
theorem ZM{n:Nat}{f:Nat->Bool}{k:Nat}(hk:k<n):((List.range n).map f).getD k false=f k:=by
 rw [gDE,List.getElem?_map,List.getElem?_range hk];rfl
theorem BK{S:List SF}{G:List Int}{f g:Nat->Nat->Bool}(h: ∀x:Nat,x<obN S->∀k,k<cnt S G (x:Int)->f x k=g x k):mkV S G f=mkV S G g:=
 List.map_congr_left fun x hx=>List.map_congr_left fun k hk=>h x (List.mem_range.1 hx) k (List.mem_range.1 hk)
end
end Go.Ve.D


namespace Go.Ve.D
open Go Go.Ve
noncomputable section
theorem pts2{k:Nd}(h:pts k=2):k.1=4\/k.1=5\/k.1=6:=by
 unfold pts at h;by_cases h4:k.1=4
 ·exact .inl h4
 by_cases h5:k.1=5
 ·exact .inr (.inl h5)
 by_cases h6:k.1=6
 ·exact .inr (.inr h6)
 rw [dF h4,dF h5,dF h6]at h;cases h7:decide (k.1=7)||decide (k.1=8)<;>simp [h7]at h
theorem pts1{k:Nd}(h:pts k=1):k.1=7\/k.1=8:=by
 unfold pts at h;by_cases h4:(decide (k.1=4)||(decide (k.1=5)||decide (k.1=6)))=true
 ·rw [h4]at h;simp at h
 ·rw [Bool.not_eq_true]at h4
  rw [h4]at h;cases h7:decide (k.1=7)||decide (k.1=8)with
  |false=>rw [h7]at h;simp at h
  |true=>simpa using h7
theorem pts0{k:Nd}(h:pts k=0):k.1≠4/\k.1≠5/\k.1≠6/\k.1≠7/\k.1≠8:=by
 unfold pts at h;refine⟨fun e=>?_,fun e=>?_,fun e=>?_,fun e=>?_,fun e=>?_⟩<;>simp [e]at h
theorem XB{k:Nd}(h:k.1=4\/k.1=5\/k.1=6):pts k=2:=by
 unfold pts;rcases h with e|e|e<;>simp [e]
theorem XC{k:Nd}(h:k.1=7\/k.1=8):pts k=1:=by
 unfold pts;rcases h with e|e<;>simp [e]
structure LK(k:Nd):Prop where
 w:wi 4 k.2.2=true
 l:k.2.2.length<=2
 c:k.1=0\/k.1=1\/(k.1=2/\0<=k.2.1/\k.2.1<4)\/(k.1=3/\k.2.2.length=2)
theorem LP{k:Nd}(h:(Tr.leaf k).ok=true):LK k:=by
 have h:(A7 k&&decide (pts k=0))=true:=h;rw [bAE,decide_eq_true_eq]at h;obtain⟨h1,h2⟩:=h;obtain⟨n4,n5,n6,n7,n8⟩:=pts0 h2;unfold A7 at h1;rw [bAE]at h1;obtain⟨hw,h1⟩:=h1;by_cases e2:k.1=2
 ·simp only [e2,decide_true,cond_true,bAE,decide_eq_true_eq]at h1
  obtain⟨a1,a2⟩:=Dr.1 h1.1;exact⟨hw,h1.2,.inr (.inr (.inl ⟨e2,a1,a2⟩))⟩
 by_cases e3:k.1=3
 ·rw [dF e2,dT e3]at h1
  simp only [cond_true,cond_false,bAE,decide_eq_true_eq]at h1;exact⟨hw,by omega,.inr (.inr (.inr ⟨e3,h1.2⟩))⟩
 rw [dF e2,dF e3,dF n7,dF n8]at h1;simp only [cond_false,Bool.or_self,bAE,decide_eq_true_eq]at h1;obtain⟨a1,a2⟩:=Dr.1 h1.1;exact⟨hw,by omega,by omega⟩
theorem QW{k:Nd}{a:Tr}(h:(Tr.un k a).ok=true):(k.1=7\/k.1=8)/\(0<=k.2.1/\k.2.1<3)/\k.2.2.length=0/\a.ok=true:=by
 have h:((A7 k&&decide (pts k=1))&&a.ok)=true:=h;rw [bAE,bAE,decide_eq_true_eq]at h;obtain⟨⟨h1,h2⟩,h3⟩:=h;have hk:=pts1 h2;unfold A7 at h1;have e:(decide (k.1=7)||decide (k.1=8))=true:=by simpa using hk
 rw [e,dF (show ¬k.1=2 by omega),dF (show ¬k.1=3 by omega)]at h1
 simp only [cond_true,cond_false,bAE,decide_eq_true_eq]at h1;exact⟨hk,Dr.1 h1.2.1,h1.2.2,h3⟩
theorem Kn{k:Nd}{a b:Tr}(h:(Tr.bin k a b).ok=true):(k.1=4\/k.1=5\/k.1=6)/\a.ok=true/\b.ok=true:=by
 have h:((A7 k&&decide (pts k=2))&&(a.ok&&b.ok))=true:=h;rw [bAE,bAE,bAE,decide_eq_true_eq]at h;exact⟨pts2 h.1.2,h.2.1,h.2.2⟩
theorem CK.snoc{S:List SF}{G:List Int}(h:CK S G){s:Int}(h0:0<=s/\s<(S.length:Int))(h4:G.length≠4):CK S (G++ [s]):=by
 refine⟨by have:=h.l;rw [List.length_append,List.length_singleton];omega,?_⟩
 have hw:=h.w;unfold wi at hw⊢;rw [List.all_append,hw];simp only [List.all_cons,List.all_nil,Bool.true_and,Bool.and_true];exact Dr.2 h0
end
end Go.Ve.D


namespace Go.Ve.D
open Go Go.Ve
noncomputable section
def upd(f:Nat->Nat->Bool)(x k:Nat)(b:Bool):Nat->Nat->Bool:=fun x' k'=>if x'=x/\k'=k then b else f x' k'
theorem LU{S:List SF}{G:List Int}{f:Nat->Nat->Bool}{x k:Nat}{b:Bool}(hx:x<obN S):(mkV S G f).set x (((List.range (cnt S G (x:Int))).map (f x)).set k b)=mkV S G (upd f x k b):=by
 unfold mkV;rw [CV,CV];refine List.map_congr_left fun x' _=>?_
 by_cases e:x'=x
 ·subst e
  rw [if_pos rfl];refine List.map_congr_left fun k' _=>?_
  unfold upd;by_cases e2:k'=k
  ·rw [if_pos e2,if_pos ⟨rfl,e2⟩]
  ·rw [if_neg e2,if_neg (fun h=>e2 h.2)]
 ·rw [if_neg e]
  refine List.map_congr_left fun k' _=>?_
  unfold upd;rw [if_neg (fun h=>e h.1)]
theorem Ye{S:List SF}{G:List Int}{f:Nat->Nat->Bool}{a x n:Nat}:evB S G f (a+1) x n=(evB S G f a x n&&(!decide (fT (shC S) a=(x:Int))||f (tT (shC S) a).toNat (mv S G a n))):=by
 unfold evB;rw [List.range_succ,List.all_append];simp only [List.all_cons,List.all_nil,Bool.and_true]
def evI(S:List SF)(G:List Int)(f:Nat->Nat->Bool)(a X n x k:Nat):Bool:=evB S G f a x k&&(!(decide (x=X)&&decide (k<n))||f (tT (shC S) a).toNat (mv S G a k))
theorem evI_0{S:List SF}{G:List Int}{f:Nat->Nat->Bool}{a X:Nat}:mkV S G (evI S G f a X 0)=mkV S G (evB S G f a):=by
 refine BK fun x _ k _=>?_
 unfold evI;simp
theorem AaG{S:List SF}{G:List Int}{f:Nat->Nat->Bool}{a X:Nat}(hX:fT (shC S) a=(X:Int)):mkV S G (evI S G f a X (cnt S G (X:Int)))=mkV S G (evB S G f (a+1)):=by
 refine BK fun x _ k hk=>?_
 unfold evI;rw [Ye,hX];by_cases e:x=X
 ·subst e;simp [hk]
 ·have: ¬ ((X:Int)=(x:Int)):=by omega
  simp [e,this]
theorem AaF{S:List SF}{G:List Int}{f:Nat->Nat->Bool}{a X n:Nat}(hf:f (tT (shC S) a).toNat (mv S G a n)=false):mkV S G (upd (evI S G f a X n) X n false)=mkV S G (evI S G f a X (n+1)):=by
 refine BK fun x _ k _=>?_
 unfold upd evI;by_cases e:x=X/\k=n
 ·obtain⟨e1,e2⟩:=e
  subst e1;subst e2;simp [hf]
 ·rw [if_neg e]
  congr 3
  by_cases e1:x=X
  ·have: ¬k=n:=fun h=>e ⟨e1,h⟩
   have:decide (k<n)=decide (k<n+1):=decide_eq_decide.2 (by omega)
   rw [this]
  ·simp [e1]
theorem Yd{S:List SF}{G:List Int}{f:Nat->Nat->Bool}{a X n:Nat}(hf:evI S G f a X n X n=false\/f (tT (shC S) a).toNat (mv S G a n)=true):mkV S G (evI S G f a X n)=mkV S G (evI S G f a X (n+1)):=by
 refine BK fun x _ k _=>?_
 unfold evI at hf⊢;by_cases e:x=X/\k=n
 ·obtain⟨e1,e2⟩:=e
  subst e1;subst e2;rcases hf with h|h
  ·simp at h
   simp [h]
  ·simp [h]
 ·congr 3
  by_cases e1:x=X
  ·have: ¬k=n:=fun h=>e ⟨e1,h⟩
   have:decide (k<n)=decide (k<n+1):=decide_eq_decide.2 (by omega)
   rw [this]
  ·simp [e1]
end
end Go.Ve.D


namespace Go.Ve.D
open Go Go.Ve
noncomputable section
theorem Aj{α:Type}{b:Bool}{x y r:α}(h:b=true)(hx:x=r):(bif b then x else y)=r:=by subst h;exact hx
theorem Ad{α:Type}{b:Bool}{x y r:α}(h:b=false)(hx:y=r):(bif b then x else y)=r:=by subst h;exact hx
theorem Am{α:Type}{p:Prop} [Decidable p]{x y r:α}(h:p)(hx:x=r):(if p then x else y)=r:=by rw [if_pos h];exact hx
theorem Cn{i n:Nat}(h:i<n):decide ((i:Int)<(n:Int))=true:=dT (by omega)
theorem A1{n:Nat}:decide ((n:Int)<(n:Int))=false:=dF (by omega)
theorem wrS{i:Nat}(h:i<9223372036854775807):IntKind.wrap .i64 ((i:Int)+1)=((i+1:Nat):Int):=by rw [Ap (by omega) (by omega)];omega
theorem nx1{X R:Type}{a b:Int}{c:X}(h:a=b):(some (LO.next (a,c)):Option (LO (Int×X) R))=some (.next (b,c)):=by rw [h]
theorem nx0{R:Type}{a b:Int}(h:a=b):(some (LO.next a):Option (LO Int R))=some (.next b):=by rw [h]
theorem Q2{α:Type}{a:List α}{b:α}{n:Nat}(h:a.length<n):a.length+(b::([]:List α)).length<=n:=by show a.length+1<=n;omega
theorem p121{x:List Int}(h:x.length<=1048576)(a:Int):G121 (x,a)=some (x.contains a):=by
 unfold G121;simp only
 have e:x.contains a= !((List.range x.length).all fun i=>!decide (x.getD i 0=a)):=by
  rw [JG (0:Int) (fun b=>!decide (b=a)) x,Bool.eq_iff_iff]
  simp [List.contains_eq_mem]
 refine Aa (Bd (st:=fun i:Nat=>(i:Int)) (n:=x.length) (p:=fun i=>!decide (x.getD i 0=a)) (r:=true) (o:=.brk 0 (x.length:Int)) (fun i hi=>?_) ?_ (fun y=>by simp)) ?_
 ·simp only [Ak,hi,decide_true,cond_true,Ab hi,if_true,and_self,tNC]
  rw [Ap (by omega) (by omega)]
  cases decide (x.getD i 0=a)<;>rfl
 ·simp only [Ak,Nat.lt_irrefl,decide_false,cond_false]
 ·rw [e]
  cases (List.range x.length).all fun i=>!decide (x.getD i 0=a)<;>rfl
theorem p153{x:List Int}(h:x.length<=1048576)(a:Int):G153 (x,a)=some (x.contains a):=p121 h a
theorem p152{x:List Int}(h:x.length<=1048576):G152 x=some (W1 x):=by
 unfold G152 W1;by_cases h0:x.length=0
 ·rw [Bl]
  have e:decide ((1:Int)<((x.length:Nat):Int))=false:=by simp;omega
  simp only [e,cond_false,Option.bind_some];rw [h0];rfl
 refine Aa (Bd (st:=fun i:Nat=>((i+1:Nat):Int)) (n:=x.length-1) (p:=fun i=>!decide (x.getD (i+1) 0<=x.getD i 0)) (r:=false) (o:=.brk 0 (x.length:Int)) (fun i hi=>?_) ?_ (fun y=>by simp)) ?_
 ·have hi1:i+1<x.length:=by omega
  have e1:IntKind.wrap .i64 (((i+1:Nat):Int)-1)=((i:Nat):Int):=by rw [Ap (by omega) (by omega)];omega
  have e2:IntKind.wrap .i64 (((i+1:Nat):Int)+1)=((i+1+1:Nat):Int):=by rw [Ap (by omega) (by omega)];omega
  simp only [Ak,hi1,decide_true,cond_true,Ab hi1,e1,e2,Ab (show i<x.length by omega),if_true,and_self,tNC]
  cases decide (x.getD (i+1) 0<=x.getD i 0)<;>rfl
 ·have e:decide (((x.length-1+1:Nat):Int)<((x.length:Nat):Int))=false:=by simp;omega
  simp only [e,cond_false]
  congr 2
  omega
 ·cases (List.range (x.length-1)).all fun i=>!decide (x.getD (i+1) 0<=x.getD i 0)<;>rfl
theorem p148{x:List Int}(h:x.length<=1048576):G148 x=some (W1 x):=by
 unfold G148 W1;by_cases h0:x.length=0
 ·rw [Bl]
  have e:decide ((1:Int)<((x.length:Nat):Int))=false:=by simp;omega
  simp only [e,cond_false,Option.bind_some];rw [h0];rfl
 refine Aa (Bd (st:=fun i:Nat=>((i+1:Nat):Int)) (n:=x.length-1) (p:=fun i=>!decide (x.getD (i+1) 0<=x.getD i 0)) (r:=false) (o:=.brk 0 (x.length:Int)) (fun i hi=>?_) ?_ (fun y=>by simp)) ?_
 ·have hi1:i+1<x.length:=by omega
  have e1:IntKind.wrap .i64 (((i+1:Nat):Int)-1)=((i:Nat):Int):=by rw [Ap (by omega) (by omega)];omega
  have e2:IntKind.wrap .i64 (((i+1:Nat):Int)+1)=((i+1+1:Nat):Int):=by rw [Ap (by omega) (by omega)];omega
  simp only [Ak,hi1,decide_true,cond_true,Ab hi1,e1,e2,Ab (show i<x.length by omega),if_true,and_self,tNC]
  cases decide (x.getD (i+1) 0<=x.getD i 0)<;>rfl
 ·have e:decide (((x.length-1+1:Nat):Int)<((x.length:Nat):Int))=false:=by simp;omega
  simp only [e,cond_false]
  congr 2
  omega
 ·cases (List.range (x.length-1)).all fun i=>!decide (x.getD (i+1) 0<=x.getD i 0)<;>rfl
theorem SK.szl{S:List SF}(hs:SK S){k:Int}(hk:0<=k/\k<(S.length:Int)){x:Nat}(hx:x<obN S):(0:Int)<=(x:Int)/\(x:Int)<((szF (sfA S k)).length:Int):=by
 have:=(hs.f hk).l1;have:=hs.ob1 hk;omega
theorem p71{S:List SF}{R:List Rl}{G:List Int}(hs:SK S)(hc:CK S G){x:Nat}(hx:x<obN S):G71 ((S,R),(G,(x:Int)))=some (szs S G (x:Int)):=by
 have hl:=hc.l;refine Aa (Jp (n:=G.length) (g:=fun i=>sz (sfA S (G.getD i 0)) (x:Int)) (id:=0) (fun i hi acc ha=>?_) (fun acc=>?_)) rfl
 ·have hg:=hc.get hi
  exact Aj (Cn hi) (Am (Ab hi) (Am hg (Am (hs.szl hg hx) (Am (Q2 (a:=acc) (by omega)) (nx1 (wrS (by omega)))))))
 ·exact Ad A1 rfl
theorem p66{S:List SF}{G:List Int}(hs:SK S)(hc:CK S G){x:Nat}(hx:x<obN S):G66 (S,(G,(x:Int)))=some (szs S G (x:Int)):=by
 have hl:=hc.l;refine Aa (Jp (n:=G.length) (g:=fun i=>sz (sfA S (G.getD i 0)) (x:Int)) (id:=0) (fun i hi acc ha=>?_) (fun acc=>?_)) rfl
 ·have hg:=hc.get hi
  exact Aj (Cn hi) (Am (Ab hi) (Am hg (Am (hs.szl hg hx) (Am (Q2 (a:=acc) (by omega)) (nx1 (wrS (by omega)))))))
 ·exact Ad A1 rfl
theorem p144{S:List SF}{G:List Int}(hs:SK S)(hc:CK S G){x:Nat}(hx:x<obN S):G144 (S,(G,(x:Int)))=some ((cnt S G (x:Int):Nat):Int):=
 Aa (p66 hs hc hx) (Aa (p95 (CK.few hs hc hx)) rfl)
def Ik(S:List SF)(G:List Int):List Int:=(List.range (obN S)).map fun(x:Nat)=>((cnt S G (x:Int):Nat):Int)
theorem IL{S:List SF}{G:List Int}:(Ik S G).length=obN S:=by simp [Ik]
theorem P2{S:List SF}{G:List Int}{x:Nat}(hx:x<obN S):(Ik S G).getD x 0=((cnt S G (x:Int):Nat):Int):=by
 unfold Ik;rw [gDE,List.getElem?_map,List.getElem?_range hx];rfl
theorem SK.i0{S:List SF}(hs:SK S):(0:Int)<=(0:Int)/\(0:Int)<(S.length:Int):=by
 have:=hs.l1;omega
theorem SK.ob'{S:List SF}(hs:SK S):(S.getD 0 sf0).1=((obN S:Nat):Int):=hs.ob.1.symm
theorem p116{S:List SF}{R:List Rl}{G:List Int}(hs:SK S)(hc:CK S G):G116 ((S,R),G)=some (Ik S G):=by
 have ho:=hs.ob;refine Am hs.i0 ?_;refine Aa (Jp (n:=obN S) (g:=fun x=>((cnt S G (x:Int):Nat):Int)) (id:=0) (fun i hi acc ha=>?_) (fun acc=>?_)) rfl
 ·refine Aj (dT ?_) (Aa (p71 hs hc hi) (Aa (p111 (CK.few hs hc hi)) (Am (Q2 (a:=acc) (by omega)) (nx1 (wrS (by omega))))))
  have:=hs.ob';show(i:Int)<(S.getD 0 sf0).1;omega
 ·refine Ad (dF ?_) rfl
  have:=hs.ob';show ¬ ((obN S:Nat):Int)<(S.getD 0 sf0).1;omega
theorem Py{x t:List Int}(h:Few x)(hb: ∀i,i<x.length->0<=t.getD i 0/\t.getD i 0<x.getD i 0){i:Nat}(hi:i<x.length):
  IntKind.wrap .i64 (IntKind.wrap .i64 (((Ko x t i:Nat):Int)*x.getD i 0)+t.getD i 0)=((Ko x t (i+1):Nat):Int):=by
 obtain⟨a1,a2⟩:=h.get hi;obtain⟨b1,b2⟩:=hb i hi;have hn:=Ol hb i (by omega)
 have hp:=h.prd i;obtain⟨z,hz⟩: ∃z:Nat,x.getD i 0=(z:Int):=⟨(x.getD i 0).toNat,by omega⟩
 obtain⟨y,hy⟩: ∃y:Nat,t.getD i 0=(y:Int):=⟨(t.getD i 0).toNat,by omega⟩
 have e:Ko x t (i+1)=Ko x t i*z+y:=by
  show Ko x t i*(x.getD i 0).toNat+(t.getD i 0).toNat=_;rw [hz,hy,tNC,tNC]
 have hm:Ko x t i*z<=65536*16:=Nat.mul_le_mul (by omega) (by omega)
 obtain⟨m,em⟩: ∃m:Nat,m=Ko x t i*z:=⟨_,rfl⟩;rw [e,hz,hy,<-Int.natCast_mul,<-em];rw [<-em]at hm;have h1:IntKind.wrap .i64 (m:Int)=(m:Int):=Ap (by omega) (by omega)
 rw [h1,Ap (by omega) (by omega)]
 omega
theorem p67{x t:List Int}(h:Few x)(hl:t.length=x.length)(hb: ∀i,i<x.length->0<=t.getD i 0/\t.getD i 0<x.getD i 0):G67 (x,t)=some ((num x t:Nat):Int):=by
 have hx:=h.l;refine Aa (Ax (st:=fun i:Nat=>(((Ko x t i:Nat):Int),(i:Int))) (n:=t.length) (o:=.brk 0 (((Ko x t t.length:Nat):Int),(t.length:Int))) (fun i hi=>?_) ?_ (fun y=>by simp)) rfl
 ·have hi':i<x.length:=by omega
  refine Aj (Cn hi) (Am (Ab hi') (Am (Ab hi) ?_));show some (LO.next (IntKind.wrap .i64 (IntKind.wrap .i64 (((Ko x t i:Nat):Int)*x.getD i 0)+t.getD i 0),IntKind.wrap .i64 ((i:Int)+1)))=_
  rw [Py h hb hi',wrS (by omega)]
 ·exact Ad A1 rfl
theorem p70{x t:List Int}(h:Few x)(hl:t.length=x.length)(hb: ∀i,i<x.length->0<=t.getD i 0/\t.getD i 0<x.getD i 0):G70 (x,t)=some (((num x t:Nat):Int),0):=by
 have hx:=h.l;have hp:=h.prd x.length;rw [List.take_length]at hp;refine Aa (p110 h) (Ad rfl (Ad ?_ ?_))
 ·show(!decide ((t.length:Int)=(x.length:Int)))=false
  rw [hl];simp
 refine Ut (n:=t.length) (p:=fun _=>true) (bad:=fun _=>False) (id:=0) (Post:=fun b o=>b=true->o=some (((num x t:Nat):Int),(0:Int))) (fun i hi=>?_) ?_ (fun _=>?_) (fun r hr h=>hr.elim) (aET.2 fun _ _=>rfl)
 ·have hi':i<x.length:=by omega
  obtain⟨b1,b2⟩:=hb i hi';obtain⟨g1,g2⟩:=h.get hi';refine Cz (Aj (Cn hi) (Am (Ab hi) (Am (Ab hi') (Aa (p69' _ _ (show(0:Int)<=x.getD i 0/\x.getD i 0<=9223372036854775807 by omega)) ?_))))
  have:inn (x.getD i 0) (t.getD i 0)=true:=Aav b1 b2;exact Ad (by show(!inn (x.getD i 0) (t.getD i 0))=false;rw [this];rfl) (nx0 (wrS (by omega)))
 ·exact Ad A1 rfl
 ·refine(Am rfl (Aa (p111 h) (Ad (dF (show ¬ ((1000000000000:Int)<((prd x:Nat):Int)) by omega)) ?_)))
  refine Aa (Ax (st:=fun i:Nat=>(((Ko x t i:Nat):Int),(i:Int))) (n:=t.length) (o:=.brk 2 (((Ko x t t.length:Nat):Int),(t.length:Int))) (fun i hi=>?_) ?_ (fun y=>by simp)) rfl
  ·have hi':i<x.length:=by omega
   refine Aj (Cn hi) (Am (Ab hi) (Am (Ab hi') ?_));show some (LO.next (IntKind.wrap .i64 (IntKind.wrap .i64 (((Ko x t i:Nat):Int)*x.getD i 0)+t.getD i 0),IntKind.wrap .i64 ((i:Int)+1)))=_
   rw [Py h hb hi',wrS (by omega)]
  ·exact Ad A1 rfl
def mvI(S:List SF)(G:List Int)(a k j:Nat):List Int:=(List.range G.length).map fun e=>if e<j then(mvT S G a k).getD e 0 else dig (szs S G (fT (shC S) a)) k e
theorem Oq{S:List SF}{G:List Int}{a k j:Nat}:(mvI S G a k j).length=G.length:=by simp [mvI]
theorem VN{S:List SF}{G:List Int}{a k j i:Nat}(hi:i<G.length)(hj:j<=i):(mvI S G a k j).getD i 0=dig (szs S G (fT (shC S) a)) k i:=by
 unfold mvI;rw [gDE,List.getElem?_map,List.getElem?_range hi];exact if_neg (by omega)
theorem mvI_0{S:List SF}{G:List Int}{a k:Nat}:mvI S G a k 0=D8 (szs S G (fT (shC S) a)) k:=by
 unfold mvI D8;rw [BG];exact List.map_congr_left fun e _=>if_neg (by omega)
theorem VO{S:List SF}{G:List Int}{a k:Nat}:mvI S G a k G.length=mvT S G a k:=by
 unfold mvI
 have:mvT S G a k=(List.range G.length).map fun e=>(mvT S G a k).getD e 0:=by
  apply List.ext_getElem?;intro e;by_cases he:e<G.length
  ·rw [List.getElem?_map,List.getElem?_range he]
   show _=some ((mvT S G a k).getD e 0);rw [gDE,gEE (by rw [HY];exact he)];rfl
  ·rw [List.getElem?_eq_none (by rw [HY];omega),List.getElem?_eq_none (by simp;omega)]
 rw [this];refine List.map_congr_left fun e he=>?_
 rw [<-this];exact if_pos (List.mem_range.1 he)
theorem VM{S:List SF}{G:List Int}{a k j:Nat}:(mvI S G a k j).set j ((mvT S G a k).getD j 0)=mvI S G a k (j+1):=by
 unfold mvI;rw [CV];refine List.map_congr_left fun e _=>?_
 by_cases h:e=j
 ·subst h;rw [if_pos rfl,if_pos (by omega)]
 ·rw [if_neg h]
  by_cases h1:e<j
  ·rw [if_pos h1,if_pos (by omega)]
  ·rw [if_neg h1,if_neg (by omega)]
theorem mv_bd{S:List SF}{G:List Int}(hs:SK S)(h:CK S G){a k:Nat}(ha:a<Go.Ve.D.ar (shC S))(hk:k<cnt S G (fT (shC S) a)):
  ∀i,i<(szs S G (tT (shC S) a)).length->0<=(mvT S G a k).getD i 0/\(mvT S G a k).getD i 0<(szs S G (tT (shC S) a)).getD i 0:=fun i hi=>by
 rw [BG]at hi;exact(XP hs h ha hk hi).2.2
theorem SK.frl{S:List SF}(hs:SK S){a:Nat}(ha:a<Go.Ve.D.ar (shC S)):(0:Int)<=(a:Int)/\(a:Int)<(((S.getD 0 sf0).2.1.length:Nat):Int):=Ab ha
theorem SK.tol{S:List SF}(hs:SK S){a:Nat}(ha:a<Go.Ve.D.ar (shC S)):(0:Int)<=(a:Int)/\(a:Int)<(((S.getD 0 sf0).2.2.1.length:Nat):Int):=by
 have h:(shC S).2.2.1.length=Go.Ve.D.ar (shC S):=hs.sh.hd.2.2.1;exact Ab (by rw [show(S.getD 0 sf0).2.2.1.length=(shC S).2.2.1.length from rfl,h];exact ha)
theorem p115{S:List SF}{R:List Rl}{G:List Int}(hs:SK S)(hc:CK S G){a k:Nat}(ha:a<ar (shC S))(hk:k<cnt S G (fT (shC S) a)):G115 ((S,R),(G,((a:Int),(k:Int))))=some ((mv S G a k:Nat):Int):=by
 have hl:=hc.l;obtain⟨x,hx,hxo⟩:=hs.fr ha;obtain⟨y,hy,hyo⟩:=hs.to ha;have hfx:=CK.few hs hc hxo;have hfy:=CK.few hs hc hyo;have e1:G71 ((S,R),(G,fT (shC S) a))=some (szs S G (fT (shC S) a)):=by rw [hx];exact p71 hs hc hxo
 have e2:G71 ((S,R),(G,tT (shC S) a))=some (szs S G (tT (shC S) a)):=by rw [hy];exact p71 hs hc hyo
 have hfx':Few (szs S G (fT (shC S) a)):=by rw [hx];exact hfx
 have hfy':Few (szs S G (tT (shC S) a)):=by rw [hy];exact hfy
 refine Am hs.i0 (Am (hs.frl ha) (Aa e1 (Aa (p77 hfx' (KE hk) hk) ?_)));show Option.bind (Ag _ ((0:Int),D8 (szs S G (fT (shC S) a)) k)) _=_;rw [<-mvI_0];refine Aa (Ax (st:=fun i:Nat=>((i:Int),mvI S G a k i)) (n:=G.length) (o:=.brk 0 ((G.length:Int),mvT S G a k)) (fun i hi=>?_) ?_ (fun y=>by simp)) ?_
 ·have hm:=XP hs hc ha hk hi
  have hg:=hc.get hi;have eg:=VN (S:=S) (G:=G) (a:=a) (k:=k) (j:=i) hi (Nat.le_refl _);refine Aj (Cn hi) (Am (Ab hi) (Am hg (Am (Ab hm.2.1) (Am ?_ (Am ?_ (Am ?_ ?_))))))
  ·show(0:Int)<=(i:Int)/\(i:Int)<((mvI S G a k i).length:Int)
   rw [Oq];exact Ab hi
  ·show(0:Int)<=(mvI S G a k i).getD i 0/\(mvI S G a k i).getD i 0<((act (sfA S (G.getD i 0)) a).length:Int)
   rw [eg];exact hm.1
  ·show(0:Int)<=(i:Int)/\(i:Int)<((mvI S G a k i).length:Int)
   rw [Oq];exact Ab hi
  ·show some (LO.next (IntKind.wrap .i64 ((i:Int)+1),(mvI S G a k i).set i ((act (sfA S (G.getD i 0)) a).getD ((mvI S G a k i).getD i 0).toNat 0)))=_
   rw [eg,<-Oo hi,VM,wrS (by omega)]
 ·rw [VO]
  exact Ad A1 rfl
 ·exact Am rfl (Am (hs.tol ha) (Aa e2 (Aa (p70 hfy' (by rw [HY,BG]) (mv_bd hs hc ha hk)) rfl)))
theorem p120{S:List SF}{G:List Int}(hs:SK S)(hc:CK S G){a k:Nat}(ha:a<ar (shC S))(hk:k<cnt S G (fT (shC S) a)):G120 (S,(G,((a:Int),(k:Int))))=some ((mv S G a k:Nat):Int):=by
 have hl:=hc.l;obtain⟨x,hx,hxo⟩:=hs.fr ha;obtain⟨y,hy,hyo⟩:=hs.to ha;have hfx:=CK.few hs hc hxo;have hfy:=CK.few hs hc hyo;have e1:G66 (S,(G,fT (shC S) a))=some (szs S G (fT (shC S) a)):=by rw [hx];exact p66 hs hc hxo
 have e2:G66 (S,(G,tT (shC S) a))=some (szs S G (tT (shC S) a)):=by rw [hy];exact p66 hs hc hyo
 have hfx':Few (szs S G (fT (shC S) a)):=by rw [hx];exact hfx
 have hfy':Few (szs S G (tT (shC S) a)):=by rw [hy];exact hfy
 have hkl:k<=1000000000000:=by
  have:=C9 hs hc hxo;rw [<-hx]at this;omega
 refine Am hs.i0 (Am (hs.frl ha) (Aa e1 (Aa (p98 hfx' (KE hk) hkl) ?_)));show Option.bind (Ag _ ((0:Int),((S.getD 0 sf0).1,((S.getD 0 sf0).2.1,((S.getD 0 sf0).2.2.1,((S.getD 0 sf0).2.2.2.1,((S.getD 0 sf0).2.2.2.2.1,D8 (szs S G (fT (shC S) a)) k))))))) _=_;rw [<-mvI_0];refine Aa (Ax (st:=fun i:Nat=>((i:Int),((S.getD 0 sf0).1,((S.getD 0 sf0).2.1,((S.getD 0 sf0).2.2.1,((S.getD 0 sf0).2.2.2.1,((S.getD 0 sf0).2.2.2.2.1,mvI S G a k i))))))) (n:=G.length) (o:=.brk 0 ((G.length:Int),((S.getD 0 sf0).1,((S.getD 0 sf0).2.1,((S.getD 0 sf0).2.2.1,((S.getD 0 sf0).2.2.2.1,((S.getD 0 sf0).2.2.2.2.1,mvT S G a k))))))) (fun i hi=>?_) ?_ (fun y=>by simp)) ?_
 ·have hm:=XP hs hc ha hk hi
  have hg:=hc.get hi;have eg:=VN (S:=S) (G:=G) (a:=a) (k:=k) (j:=i) hi (Nat.le_refl _);have il:(0:Int)<=(i:Int)/\(i:Int)<((mvI S G a k i).length:Int):=by rw [Oq];exact Ab hi
  refine Aj (dT il.2) (Am (Ab hi) (Am hg (Am (Ab hm.2.1) (Am il (Am ?_ (Am il ?_))))))
  ·show(0:Int)<=(mvI S G a k i).getD i 0/\(mvI S G a k i).getD i 0<((act (sfA S (G.getD i 0)) a).length:Int)
   rw [eg];exact hm.1
  ·show some (LO.next (IntKind.wrap .i64 ((i:Int)+1),((S.getD 0 sf0).1,((S.getD 0 sf0).2.1,((S.getD 0 sf0).2.2.1,((S.getD 0 sf0).2.2.2.1,((S.getD 0 sf0).2.2.2.2.1,(mvI S G a k i).set i ((act (sfA S (G.getD i 0)) a).getD ((mvI S G a k i).getD i 0).toNat 0))))))))=_
   rw [eg,<-Oo hi,VM,wrS (by omega)]
 ·rw [VO]
  have e:decide ((G.length:Int)<((mvT S G a k).length:Int))=false:=by rw [HY];exact A1
  exact Ad e rfl
 ·exact Am rfl (Am (hs.tol ha) (Aa e2 (Aa (p67 hfy' (by rw [HY,BG]) (mv_bd hs hc ha hk)) rfl)))
end
end Go.Ve.D


namespace Go.Ve.D
open Go Go.Ve
noncomputable section
theorem JM{R:Type}{F:Int->Option (LO Int R)}{n:Nat}{p:Nat->Bool}{id:Nat}{g:Nat->Int->Option R}{r v:R}
  (h1: ∀i,i<n->F (i:Int)=some (bif p i then .next ((i+1:Nat):Int)else .ret r)) (h2:F (n:Int)=some (.brk id (n:Int)))
  (hA:(List.range n).all p=true->g id (n:Int)=some v):Option.bind (Ag F (0:Int)) (LO.fin g)=some (bif(List.range n).all p then v else r):=by
 have h:=Bd (st:=fun i:Nat=>(i:Int)) (p:=p) (r:=r) h1 h2 (fun y=>by simp)
 have h:Ag F (0:Int)=_:=h;rw [h];cases hall:(List.range n).all p with
 |true=>exact hA hall
 |false=>rfl
theorem fin1{X R:Type}{b:Bool}{r:R}{s s':X}(h:s=s'):(bif !b then some (LO.ret r)else some (LO.next s))=some (bif b then LO.next s' else LO.ret r):=by subst h;cases b<;>rfl
theorem AaE{X R:Type}{b:Bool}{r:R}{s s':X}(h:s=s'):(bif b then some (LO.ret r)else some (LO.next s))=some (bif !b then LO.next s' else LO.ret r):=by subst h;cases b<;>rfl
theorem H5{a b:Bool}:(bif a then b else false)=(a&&b):=by cases a<;>rfl
def okR(r:Rl):Prop:=r.1.length<=1048576/\r.2.length<=1048576/\∀y∈r.2,y.length<=1048576
def mem(r:Rl)(x:Nat):List Int:=r.2.getD x []
theorem CB{r:Rl}(h:okR r)(x:Nat):(mem r x).length<=1048576:=getL h.2.2 x
def Ur(S:List SF)(r:Rl)(x:Nat):Bool:=W1 (mem r x)&&wi ((cnt S r.1 (x:Int):Nat):Int) (mem r x)
def frN(S:List SF)(a:Nat):Nat:=(fT (shC S) a).toNat
def toN(S:List SF)(a:Nat):Nat:=(tT (shC S) a).toNat
def ZR(S:List SF)(r:Rl)(a:Nat):Bool:=(List.range (mem r (frN S a)).length).all fun i=>(mem r (toN S a)).contains ((mv S r.1 a ((mem r (frN S a)).getD i 0).toNat:Nat):Int)
def YK(S:List SF)(r:Rl):Bool:=decide ((2:Int)<(r.1.length:Int))|| !wi (S.length:Int) r.1
def Vl(S:List SF)(r:Rl):Bool:=YK S r|| !decide ((r.2.length:Int)=(shC S).1)
def QD(S:List SF)(r:Rl):Bool:=!Vl S r&&((List.range (obN S)).all (Ur S r)&&(List.range (ar (shC S))).all (ZR S r))
structure RK(S:List SF)(r:Rl):Prop where
 ck:CK S r.1
 l:r.1.length<=2
 m:r.2.length=obN S
 t: ∀x,x<obN S->Ur S r x=true
theorem Wj{S:List SF}(hs:SK S){a:Nat}(ha:a<ar (shC S)):fT (shC S) a=((frN S a:Nat):Int)/\frN S a<obN S:=by
 obtain⟨x,hx,hxo⟩:=hs.fr ha;unfold frN;rw [hx];exact⟨rfl,hxo⟩
theorem O6{S:List SF}(hs:SK S){a:Nat}(ha:a<ar (shC S)):tT (shC S) a=((toN S a:Nat):Int)/\toN S a<obN S:=by
 obtain⟨x,hx,hxo⟩:=hs.to ha;unfold toN;rw [hx];exact⟨rfl,hxo⟩
theorem N6{S:List SF}(hs:SK S){r:Rl}(h:Vl S r=false):CK S r.1/\r.1.length<=2/\r.2.length=obN S:=by
 unfold Vl YK at h;simp only [Bool.or_eq_false_iff,Bool.not_eq_false',decide_eq_true_eq,decide_eq_false_iff_not]at h;obtain⟨⟨h1,h2⟩,h3⟩:=h;have:=hs.ob;exact⟨⟨by omega,h2⟩,by omega,by omega⟩
theorem ZS{S:List SF}(hs:SK S){r:Rl}(h:QD S r=true):RK S r:=by
 unfold QD at h;simp only [bAE,Bool.not_eq_true']at h;obtain⟨h1,h2,h3⟩:=h;obtain⟨a,b,c⟩:=N6 hs h1;exact⟨a,b,c,fun x hx=>aET.1 h2 x (List.mem_range.2 hx)⟩
theorem Pk{S:List SF}{r:Rl}{x:Nat}(h:Ur S r x=true){i:Nat}(hi:i<(mem r x).length): ∃k:Nat,(mem r x).getD i 0=(k:Int)/\k<cnt S r.1 (x:Int):=by
 unfold Ur at h;rw [bAE]at h;obtain⟨g1,g2⟩:=BB h.2 hi;exact⟨((mem r x).getD i 0).toNat,by omega,by omega⟩
theorem p136{S:List SF}{R:List Rl}{r:Rl}(hs:SK S)(hr:okR r):G136 ((S,R),r)=some (QD S r):=by
 have ho:=hs.ob;have hlS:=hs.l3;refine Am hs.i0 (Aa (v:=YK S r) ?_ (Aa (v:=Vl S r) ?_ ?_))
 ·unfold YK
  show(bif decide ((2:Int)<(r.1.length:Int))then some true else Option.bind (G139 (r.1,(S.length:Int))) _)=_;cases decide ((2:Int)<(r.1.length:Int))with
  |true=>rfl
  |false=>exact Aa (W2 (by omega) hr.1) rfl
 ·unfold Vl
  cases YK S r<;>rfl
 ·show(bif Vl S r then some false else _)=_
  unfold QD;cases hh:Vl S r with
  |true=>rfl
  |false=>
  obtain⟨hc,hl2,hm⟩:=N6 hs hh;rw [Bool.not_false,Bool.true_and];refine(JM (n:=r.2.length) (p:=Ur S r) (id:=0) (r:=false) (v:=(List.range (ar (shC S))).all (ZR S r)) (fun i hi=>?_) (Ad A1 rfl) (fun hall=>Am rfl ?_)).trans (by rw [hm,H5])
  ·refine Aj (Cn hi) (Am (Ab hi) (Aa (p152 (CB hr i)) (Aa (v:=!Ur S r i) ?_ ?_)))
   ·unfold Ur
    show(bif !W1 (mem r i)then some true else Option.bind (G71 ((S,R),(r.1,(i:Int)))) _)=_;cases W1 (mem r i)with
    |false=>rfl
    |true=>
     have hio:i<obN S:=by omega
     have hcl:=C9 hs hc hio;refine Aa (p71 hs hc hio) (Aa (p111 (CK.few hs hc hio)) (Aa (W2 (by show(0:Int)<=((cnt S r.1 (i:Int):Nat):Int)/\((cnt S r.1 (i:Int):Nat):Int)<=_;omega) (CB hr i)) ?_))
     show some (!wi ((cnt S r.1 (i:Int):Nat):Int) (mem r i))=_;rw [Bool.true_and]
   ·refine(AaE (wrS (by have:=hr.2.1;omega))).trans ?_
    rw [Bool.not_not]
  ·have ht: ∀x,x<obN S->Ur S r x=true:=fun x hx=>aET.1 hall x (List.mem_range.2 (by omega))
   refine(JM (n:=ar (shC S)) (p:=ZR S r) (id:=2) (r:=false) (v:=true) (fun a ha=>?_) (Ad A1 rfl) (fun _=>Am rfl rfl)).trans (by cases (List.range (ar (shC S))).all (ZR S r)<;>rfl)
   have har:=hs.ar;obtain⟨ex,hx⟩:=Wj hs ha;obtain⟨ey,hy⟩:=O6 hs ha;have hfm:(0:Int)<=fT (shC S) a/\fT (shC S) a<(r.2.length:Int):=by rw [ex,hm];exact Ab hx
   have htm:(0:Int)<=tT (shC S) a/\tT (shC S) a<(r.2.length:Int):=by rw [ey,hm];exact Ab hy
   refine Aj (Cn ha) (Am (hs.frl ha) (Am hfm ?_));refine(JM (n:=(mem r (frN S a)).length) (p:=fun i=>(mem r (toN S a)).contains ((mv S r.1 a ((mem r (frN S a)).getD i 0).toNat:Nat):Int)) (id:=4) (r:=LO.ret false) (v:=LO.next ((a+1:Nat):Int)) (fun i hi=>?_) (Ad A1 rfl) (fun _=>Am rfl (nx0 (wrS (by omega)))))
   obtain⟨k,ek,hk⟩:=Pk (ht _ hx) hi;rw [<-ex]at hk;have e1:G115 ((S,R),(r.1,((a:Int),(mem r (frN S a)).getD i 0)))=some ((mv S r.1 a k:Nat):Int):=by rw [ek];exact p115 hs hc ha hk
   refine Aj (Cn hi) (Am (Ab hi) (Am (hs.tol ha) (Am htm (Aa e1 (Aa (p153 (CB hr _) _) ?_)))));have hml:=CB hr (frN S a);rw [ek,tNC];exact fin1 (wrS (by omega))
theorem p130{S:List SF}{r:Rl}(hs:SK S)(hr:okR r):G130 (S,r)=some (QD S r):=by
 have ho:=hs.ob;have hlS:=hs.l3;refine(Aa (v:=YK S r) ?_ (Aa (v:=Vl S r) ?_ ?_))
 ·unfold YK
  show(bif decide ((2:Int)<(r.1.length:Int))then some true else Option.bind (G132 ((S.length:Int),r.1)) _)=_;cases decide ((2:Int)<(r.1.length:Int))with
  |true=>rfl
  |false=>exact Aa (W3 hr.1) rfl
 ·unfold Vl
  cases YK S r with
  |true=>rfl
  |false=>exact Am hs.i0 rfl
 ·show(bif Vl S r then some false else _)=_
  unfold QD;cases hh:Vl S r with
  |true=>rfl
  |false=>
  obtain⟨hc,hl2,hm⟩:=N6 hs hh;rw [Bool.not_false,Bool.true_and];refine Am hs.i0 ((JM (n:=obN S) (p:=Ur S r) (id:=0) (r:=false) (v:=(List.range (ar (shC S))).all (ZR S r)) (fun i hi=>?_) (Ad (dF ?_) rfl) (fun hall=>Am rfl ?_)).trans (by rw [H5]))
  ·have hio:i<r.2.length:=by omega
   refine Aj (dT (by show(i:Int)<(shC S).1;omega)) (Am (Ab hio) (Aa (p148 (CB hr i)) (Aa (v:=!Ur S r i) ?_ ?_)))
   ·unfold Ur
    show(bif !W1 (mem r i)then some true else Option.bind (G144 (S,(r.1,(i:Int)))) _)=_;cases W1 (mem r i)with
    |false=>rfl
    |true=>
     refine Aa (p144 hs hc hi) (Am (Ab hio) (Aa (W3 (CB hr i)) ?_));show some (!wi ((cnt S r.1 (i:Int):Nat):Int) (mem r i))=_;rw [Bool.true_and]
   ·refine(AaE (wrS (by have:=hr.2.1;omega))).trans ?_
    rw [Bool.not_not]
  ·show ¬ ((obN S:Nat):Int)<(shC S).1
   omega
  ·have ht: ∀x,x<obN S->Ur S r x=true:=fun x hx=>aET.1 hall x (List.mem_range.2 (by omega))
   refine(JM (n:=ar (shC S)) (p:=ZR S r) (id:=2) (r:=false) (v:=true) (fun a ha=>?_) (Ad A1 rfl) (fun _=>Am rfl rfl)).trans (by cases (List.range (ar (shC S))).all (ZR S r)<;>rfl)
   have har:=hs.ar;obtain⟨ex,hx⟩:=Wj hs ha;obtain⟨ey,hy⟩:=O6 hs ha;have hfm:(0:Int)<=fT (shC S) a/\fT (shC S) a<(r.2.length:Int):=by rw [ex,hm];exact Ab hx
   have htm:(0:Int)<=tT (shC S) a/\tT (shC S) a<(r.2.length:Int):=by rw [ey,hm];exact Ab hy
   refine Aj (Cn ha) ?_;refine(JM (n:=(mem r (frN S a)).length) (p:=fun i=>(mem r (toN S a)).contains ((mv S r.1 a ((mem r (frN S a)).getD i 0).toNat:Nat):Int)) (id:=4) (r:=LO.ret false) (v:=LO.next ((a+1:Nat):Int)) (fun i hi=>?_) (Am (hs.frl ha) (Am hfm (Ad A1 rfl))) (fun _=>Am rfl (nx0 (wrS (by omega)))))
   obtain⟨k,ek,hk⟩:=Pk (ht _ hx) hi;rw [<-ex]at hk;have e1:G120 (S,(r.1,((a:Int),(mem r (frN S a)).getD i 0)))=some ((mv S r.1 a k:Nat):Int):=by rw [ek];exact p120 hs hc ha hk
   refine Am (hs.frl ha) (Am hfm (Aj (Cn hi) (Am (hs.tol ha) (Am htm (Am (hs.frl ha) (Am hfm (Am (Ab hi) (Aa e1 (Aa (p121 (CB hr _) _) ?_)))))))));have hml:=CB hr (frN S a);rw [ek,tNC];exact fin1 (wrS (by omega))
def JJ(s:St):Prop:=s.1.length<=1048576/\s.2.length<=1048576/\(∀f∈s.1,okS f)/\∀r∈s.2,okR r
def soB(S:List SF)(i:Nat):Bool:=V9 (S.getD i sf0)&&decide (shS (S.getD i sf0)=shS (S.getD 0 sf0))
def stH(s:St):Bool:=!(decide ((1:Int)<=(s.1.length:Int))&&decide ((s.1.length:Int)<=3))||decide ((4:Int)<(s.2.length:Int))
def L2(s:St):Bool:=!stH s&&((List.range s.1.length).all (soB s.1)&&(List.range s.2.length).all fun i=>QD s.1 (s.2.getD i rl0))
theorem JJ.s{s:St}(h:JJ s){i:Nat}(hi:i<s.1.length):okS (s.1.getD i sf0):=h.2.2.1 _ (As sf0 hi)
theorem JJ.r{s:St}(h:JJ s){i:Nat}(hi:i<s.2.length):okR (s.2.getD i rl0):=h.2.2.2 _ (As rl0 hi)
theorem ZC{S:List SF}{R:List Rl}(h1:stH (S,R)=false)(h2:(List.range S.length).all (soB S)=true):SK S:=by
 unfold stH at h1;simp only [Bool.or_eq_false_iff,Bool.not_eq_false',bAE,decide_eq_true_eq,decide_eq_false_iff_not]at h1;have key: ∀i,i<S.length->soB S i=true:=fun i hi=>aET.1 h2 i (List.mem_range.2 hi)
 refine⟨by omega,by omega,fun i hi=>?_,fun i hi=>?_⟩
 ·have:=key i hi
  unfold soB at this;rw [bAE]at this;exact Aas this.1
 ·have:=key i hi
  unfold soB at this;rw [bAE,decide_eq_true_eq]at this;exact this.2
structure StK(s:St):Prop where
 sk:SK s.1
 l:s.2.length<=4
 rk: ∀i,i<s.2.length->RK s.1 (s.2.getD i rl0)
theorem Ks{s:St}(h:L2 s=true):StK s:=by
 obtain⟨S,R⟩:=s;unfold L2 at h;simp only [bAE,Bool.not_eq_true']at h;obtain⟨h1,h2,h3⟩:=h;have hs:=ZC h1 h2;refine⟨hs,?_,fun i hi=>ZS hs (aET.1 h3 i (List.mem_range.2 hi))⟩
 unfold stH at h1;simp only [Bool.or_eq_false_iff,Bool.not_eq_false',bAE,decide_eq_true_eq,decide_eq_false_iff_not]at h1;show R.length<=4;omega
theorem p107{S:List SF}{R:List Rl}(h:JJ (S,R)):G107 (S,R)=some (L2 (S,R)):=by
 have hl1:S.length<=1048576:=h.1;have hl2:R.length<=1048576:=h.2.1;refine Aa (p69 _ _ _) (Aa (v:=stH (S,R)) ?_ ?_)
 ·unfold stH
  cases (decide ((1:Int)<=(S.length:Int))&&decide ((S.length:Int)<=3))<;>rfl
 ·show(bif stH (S,R)then some false else _)=_
  unfold L2;cases hh:stH (S,R)with
  |true=>rfl
  |false=>
  rw [Bool.not_false,Bool.true_and];have hp:0<S.length:=by
   unfold stH at hh;simp only [Bool.or_eq_false_iff,Bool.not_eq_false',bAE,decide_eq_true_eq,decide_eq_false_iff_not]at hh;omega
  refine(JM (n:=S.length) (p:=soB S) (id:=0) (r:=false) (v:=(List.range R.length).all fun i=>QD S (R.getD i rl0)) (fun i hi=>?_) (Ad A1 rfl) (fun hall=>Am rfl ?_)).trans (by rw [H5])
  ·refine Aj (Cn hi) (Am (Ab hi) (Aa (p134 (h.s hi)) (Aa (v:=!soB S i) ?_ ?_)))
   ·unfold soB
    show(bif !V9 (S.getD i sf0)then some true else _)=_;cases V9 (S.getD i sf0)with
    |false=>rfl
    |true=>
     exact Am (Ab hi) (Am (Ab hp) (Aa (p135 (c:=shS (S.getD i sf0)) (d:=shS (S.getD 0 sf0)) (h.s hi).1 (h.s hp).1) (by rw [Bool.true_and])))
   ·refine(AaE (wrS (by omega))).trans ?_
    rw [Bool.not_not]
  ·have hs:=ZC hh hall
   refine(JM (n:=R.length) (p:=fun i=>QD S (R.getD i rl0)) (id:=2) (r:=false) (v:=true) (fun i hi=>?_) (Ad A1 rfl) (fun _=>Am rfl rfl)).trans (by cases (List.range R.length).all fun i=>QD S (R.getD i rl0)<;>rfl)
   exact Aj (Cn hi) (Am (Ab hi) (Aa (p136 hs (h.r hi)) (fin1 (wrS (by omega)))))
theorem p103{S:List SF}{R:List Rl}(h:JJ (S,R)):G103 (S,R)=some (L2 (S,R)):=by
 have hl1:S.length<=1048576:=h.1;have hl2:R.length<=1048576:=h.2.1;refine Aa (Z1 _ _ _) (Aa (v:=stH (S,R)) ?_ ?_)
 ·unfold stH
  cases (decide ((1:Int)<=(S.length:Int))&&decide ((S.length:Int)<=3))<;>rfl
 ·show(bif stH (S,R)then some false else _)=_
  unfold L2;cases hh:stH (S,R)with
  |true=>rfl
  |false=>
  rw [Bool.not_false,Bool.true_and];have hp:0<S.length:=by
   unfold stH at hh;simp only [Bool.or_eq_false_iff,Bool.not_eq_false',bAE,decide_eq_true_eq,decide_eq_false_iff_not]at hh;omega
  refine(JM (n:=S.length) (p:=soB S) (id:=0) (r:=false) (v:=(List.range R.length).all fun i=>QD S (R.getD i rl0)) (fun i hi=>?_) (Ad A1 rfl) (fun hall=>Am rfl ?_)).trans (by rw [H5])
  ·refine Aj (Cn hi) (Am (Ab hi) (Aa (p128 (h.s hi)) (Aa (v:=!soB S i) ?_ ?_)))
   ·unfold soB
    show(bif !V9 (S.getD i sf0)then some true else _)=_;cases V9 (S.getD i sf0)with
    |false=>rfl
    |true=>
     exact Am (Ab hi) (Am (Ab hp) (Aa (p129 (c:=shS (S.getD i sf0)) (d:=shS (S.getD 0 sf0)) (h.s hi).1) (by rw [Bool.true_and])))
   ·refine(AaE (wrS (by omega))).trans ?_
    rw [Bool.not_not]
  ·have hs:=ZC hh hall
   refine(JM (n:=R.length) (p:=fun i=>QD S (R.getD i rl0)) (id:=2) (r:=false) (v:=true) (fun i hi=>?_) (Ad A1 rfl) (fun _=>Am rfl rfl)).trans (by cases (List.range R.length).all fun i=>QD S (R.getD i rl0)<;>rfl)
   exact Aj (Cn hi) (Am (Ab hi) (Aa (p130 hs (h.r hi)) (fin1 (wrS (by omega)))))
end
end Go.Ve.D

