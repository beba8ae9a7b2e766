/- Sorted lists of rows, each row once. -/
import Derived.Test.YtnhlomkcachnbaaGreatKck
namespace Go.Ve.D
open Go Go.Ve Go.Proofs
abbrev ltR(a b:List Int):Prop:=ltOf Bg a b=true
abbrev leR(a b:List Int):Prop:=ltOf Bg b a=false
theorem Wc{a b c:List Int}(h1:leR a b)(h2:leR b c):leR a c:=XH.ntrans _ _ _ h2 h1
theorem X8{a b:List Int}:ltR a b\/leR b a:=by
 unfold ltR leR;cases h:ltOf Bg a b with
 |true=>exact .inl rfl
 |false=>exact .inr rfl
theorem lt_le{a b:List Int}(h:ltR a b):leR a b:=by
 unfold ltR at h;unfold leR;cases h2:ltOf Bg b a with
 |false=>rfl
 |true=>
  have:=XH.trans _ _ _ h h2;rw [XH.irrefl]at this;cases this
theorem lt_irr{a:List Int}: ¬ltR a a:=fun h=>by unfold ltR at h;rw [XH.irrefl]at h;cases h
theorem In{l:List (List Int)}(h:l.Pairwise ltR):l.Nodup:=List.Pairwise.imp (R:=ltR) (S:=fun a b=>a≠b) (fun{a b} hab (e:a=b)=>lt_irr (a:=b) (by rw [e]at hab;exact hab)) h
theorem Lv{a b:List (List Int)}(ha:a.Pairwise ltR)(hb:b.Pairwise ltR)(h: ∀s,s∈a↔s∈b):a=b:=
 List.Perm.eq_of_pairwise (le:=fun x y=>leR x y) (fun x y _ _ h1 h2=>AaH x y h2 h1) (ha.imp lt_le) (hb.imp lt_le) ((List.perm_ext_iff_of_nodup (In ha) (In hb)).2 h)
theorem ZP(l:List (List Int)):(Bo Bg l).Pairwise leR:=by
 have:=List.pairwise_mergeSort (le:=leC Bg) (fun a b c h1 h2=>by
  show(!ltOf Bg c a)=true;have h1:(!ltOf Bg b a)=true:=h1;have h2:(!ltOf Bg c b)=true:=h2;rw [Bool.not_eq_true']at*;exact XH.ntrans _ _ _ h2 h1) (fun a b=>by
  show(!ltOf Bg b a|| !ltOf Bg a b)=true;cases h1:ltOf Bg b a with
  |false=>rfl
  |true=>
   cases h2:ltOf Bg a b with
   |false=>rfl
   |true=>
    have:=XH.trans _ _ _ h1 h2;rw [XH.irrefl]at this;cases this) l
 refine this.imp fun h=>?_
 have h:(!ltOf Bg _ _)=true:=h;rwa [Bool.not_eq_true']at h
theorem Y6{l:List (List Int)}(h:l.Pairwise leR){i j:Nat}(hij:i<=j)(hj:j<l.length):leR (l.getD i []) (l.getD j []):=by
 by_cases e:i=j
 ·subst e;unfold leR;rw [XH.irrefl]
 ·have:=List.pairwise_iff_getElem.1 h i j (by omega) hj (by omega)
  rwa [gDE,gDE,gEE hj,gEE (show i<l.length by omega)]
def ee(x y:List Int):Bool:=decide (x=y)
theorem UB{l:List (List Int)}(h:l.Pairwise leR):(JK ee [] l).Pairwise ltR:=by
 unfold JK WL;rw [List.pairwise_map];refine List.Pairwise.imp_of_mem (R:=fun a b:Nat=>a<b) (fun{i j} hi hj hij=>?_) (List.Pairwise.filter _ List.pairwise_lt_range)
 obtain⟨hj1,hj2⟩:=List.mem_filter.1 hj;have hj1:=List.mem_range.1 hj1;rcases X8 (a:=l.getD i []) (b:=l.getD j [])with h1|h1
 ·exact h1
 ·exfalso
  have h2:=Y6 h (i:=i) (j:=j-1) (by omega) (by omega)
  have h3:=Y6 h (i:=j-1) (j:=j) (by omega) hj1
  have h4:=Wc h1 h2;have e:=AaH _ _ h3 h4;rw [dF (show ¬j=0 by omega),Bool.false_or]at hj2
  unfold ee at hj2;rw [dT e]at hj2;cases hj2
theorem WK{l:List (List Int)}{s:List Int}:s∈JK ee [] l↔s∈l:=by
 unfold JK WL;constructor
 ·intro h
  obtain⟨j,hj,rfl⟩:=List.mem_map.1 h;exact CW [] (List.mem_range.1 (List.mem_filter.1 hj).1)
 ·intro h
  obtain⟨j,hj,e⟩:=List.getElem_of_mem h
  have key: ∀n,n<l.length->l.getD n []∈((List.range l.length).filter fun j=>decide (j=0)|| !ee (l.getD j []) (l.getD (j-1) [])).map fun j=>l.getD j []:=by
   intro n
   induction n with
   |zero=>exact fun hn=>List.mem_map.2 ⟨0,List.mem_filter.2 ⟨List.mem_range.2 hn,rfl⟩,rfl⟩
   |succ n ih=>
    intro hn;by_cases e:l.getD (n+1) []=l.getD n []
    ·rw [e];exact ih (by omega)
    ·refine List.mem_map.2 ⟨n+1,List.mem_filter.2 ⟨List.mem_range.2 hn,?_⟩,rfl⟩
     show(decide (n+1=0)|| !ee (l.getD (n+1) []) (l.getD n []))=true;unfold ee;rw [dF e];simp
  have:=key j hj;rwa [gDE,gEE hj,show(some l[j]).getD []=s from e]at this
def M5(x:List Int)(mk:Nat->Bool):List (List Int):=((List.range (Go.Ve.D.prd x)).filter mk).map (CB x)
theorem Ot{x:List Int}(h:Few x)(mk:Nat->Bool):(M5 x mk).Pairwise ltR:=by
 unfold M5;rw [List.pairwise_map];refine List.Pairwise.imp_of_mem (R:=fun a b:Nat=>a<b) (fun{i j} hi hj hij=>?_) (List.Pairwise.filter _ List.pairwise_lt_range)
 have hi:=List.mem_range.1 (List.mem_filter.1 hi).1;have hj:=List.mem_range.1 (List.mem_filter.1 hj).1;refine LY.2 (AaE (IU h hi) (IU h hj) ?_);rw [Jn hi _ (Nat.le_refl _),Jn hj _ (Nat.le_refl _),Nat.sub_self];exact hij
theorem ZT{x:List Int}(h:Few x){L:List (List Int)}(hL: ∀t∈L,InR x t){mk:Nat->Bool}(hmk: ∀k,k<Go.Ve.D.prd x->(mk k=true↔ ∃t∈L,Di x t x.length=k)):JK ee [] (Bo Bg L)=M5 x mk:=by
 refine Lv (UB (ZP L)) (Ot h mk) fun s=>?_
 rw [WK];have e1:s∈Bo Bg L↔s∈L:=(List.mergeSort_perm L _).mem_iff;rw [e1];unfold M5;constructor
 ·intro hs
  have hi:=hL s hs;have hlt:=LW hi x.length (Nat.le_refl _);rw [List.take_length]at hlt;refine List.mem_map.2 ⟨Di x s x.length,List.mem_filter.2 ⟨List.mem_range.2 hlt,(hmk _ hlt).2 ⟨s,hs,rfl⟩⟩,?_⟩;refine PP (IU h hlt) hi ?_;rw [Jn hlt _ (Nat.le_refl _),Nat.sub_self];rfl
 ·intro hs
  obtain⟨k,hk,rfl⟩:=List.mem_map.1 hs;obtain⟨hk1,hk2⟩:=List.mem_filter.1 hk;have hk1:=List.mem_range.1 hk1;obtain⟨t,ht,e⟩:=(hmk k hk1).1 hk2;have:t=CB x k:=PP (hL t ht) (IU h hk1) (by rw [Jn hk1 _ (Nat.le_refl _),Nat.sub_self,e];rfl)
  rwa [<-this]
end Go.Ve.D


namespace Go.Ve.D
open Go Go.Ve Go.Proofs
theorem Jm{f:SF}{q:Qry}(h:qOK (shS f) q=true){k:Nat}:q.2.2.2.length<=4/\wi ((CB (szQ f q) k).length:Int) q.2.2.2=true:=by
 unfold qOK at h;rw [bAE,decide_eq_true_eq]at h;obtain⟨⟨h1,h2,h3,h4,h5,h6⟩,_⟩:=h;refine⟨h5,?_⟩;rw [DK];unfold szQ;rw [CK];exact h6
theorem Vo{f:SF}{q:Qry}{n i:Nat}(hi:i<(I5 f q n).length): ∃k,k<n/\(I5 f q n).getD i []=CB (szQ f q) k:=by
 obtain⟨k,hk,e⟩:=List.mem_map.1 (CW [] hi);exact⟨k,List.mem_range.1 (List.mem_filter.1 hk).1,e.symm⟩
theorem Ox{f:SF}{q:Qry}(h:qrC f q=0):UP f=true/\qOK (shS f) q=true/\Go.Ve.D.prd (szQ f q)<=4096:=by
 unfold qrC at h;cases e:qrB f q with
 |false=>rw [e]at h;cases h
 |true=>
  rw [e]at h;unfold qrB at e;rw [bAE]at e;refine⟨e.1,e.2,Nat.le_of_not_lt fun hc=>?_⟩
  rw [dT hc]at h;cases h
def Ou(f:SF)(q:Qry):List (List Int):=(I5 f q (Go.Ve.D.prd (szQ f q))).map (thn q.2.2.2)
def szO(f:SF)(q:Qry):List Int:=thn q.2.2.2 (szQ f q)
theorem ZN{f:SF}{q:Qry}{i:Nat}(hi:i<q.2.2.2.length):(szO f q).getD i 0=(szQ f q).getD (q.2.2.2.getD i 0).toNat 0:=by simp [szO,thn,hi]
theorem few_O{f:SF}{q:Qry}(h:QK f q)(ho:qOK (shS f) q=true):Few (szO f q):=by
 obtain⟨h1,h2⟩:=Jm ho (k:=0);rw [DK]at h2;refine⟨by unfold szO;rw [CK];exact h1,fun y hy=>?_⟩
 obtain⟨i,hi,rfl⟩:=List.mem_map.1 hy;have:=Cb h2 (List.mem_range.1 hi);exact h.few.get (i:=(q.2.2.2.getD i 0).toNat) (by omega)
theorem YU{f:SF}{q:Qry}(h:QK f q)(ho:qOK (shS f) q=true){k:Nat}(hk:k<Go.Ve.D.prd (szQ f q)):InR (szO f q) (thn q.2.2.2 (CB (szQ f q) k)):=by
 obtain⟨h1,h2⟩:=Jm ho (k:=k);rw [DK]at h2;have ht:=IU h.few hk;have hl:(szO f q).length=q.2.2.2.length:=by unfold szO;rw [CK]
 refine⟨by rw [CK,hl],fun i hi=>?_⟩
 rw [hl]at hi;have:=Cb h2 hi;rw [ZN hi,show(thn q.2.2.2 (CB (szQ f q) k)).getD i 0=(CB (szQ f q) k).getD (q.2.2.2.getD i 0).toNat 0 by simp [thn,hi]]
 exact ht.b _ (by omega)
theorem p29{L:List (List Int)}(h1:L.length<=1048576)(h2: ∀y∈L,y.length<=1048576): ∃z,G29 () L=some (JK ee [] (Bo Bg L),z):=by
 have hp:=List.mergeSort_perm L (leC Bg);refine⟨[],?_⟩;refine Ap (v:=(Bo Bg L,[])) ?_ ?_
 ·show ascG L=_
  unfold ascG;rw [if_pos ⟨by omega,fun x hx=>by have:=h2 x hx;unfold okL;omega⟩]
 ·refine Ap (v:=(JK ee [] (Bo Bg L),[])) ?_ rfl
  show AaT okL (fun x y:List Int=>decide (x=y)) [] (Bo Bg L)=_
  unfold AaT
  rw [if_pos ⟨by have:=hp.length_eq;show(Bo Bg L).length<_;unfold Bo;omega,fun x hx=>by
   have hx:=hp.mem_iff.1 hx;have:=h2 x hx;unfold okL;omega⟩]
  rfl
def r9(f:SF)(q:Qry):List (List Int)×Int:=bif decide (qrC f q=0)then(JK ee [] (Bo Bg (Ou f q)),0)else([],qrC f q)
theorem p9{f:SF}{q:Qry}(hf:okS f)(hq:okQ q):G9 (f,q)=some (r9 f q):=by
 refine Ap (a:=G27 (f,q)) (p27 hf hq) ?_;unfold qrR r9;cases h0:decide (qrC f q=0)with
 |false=>simp only [h0,Bool.not_false,cond_true,cond_false]
 |true=>
 have h1:qrC f q=0:=of_decide_eq_true h0;obtain⟨c1,c2,c3⟩:=Ox h1;have hqk:=XW (L8 c1) c2;simp only [h1,decide_true,Bool.not_true,cond_false,cond_true];have hl:=Hj (f:=f) (q:=q) (n:=Go.Ve.D.prd (szQ f q));have hg:=fun i=>Vo (f:=f) (q:=q) (n:=Go.Ve.D.prd (szQ f q)) (i:=i)
 unfold Ou;generalize I5 f q (Go.Ve.D.prd (szQ f q))=l at hl hg⊢
 have hmap:(List.range l.length).map (fun i=>thn q.2.2.2 (l.getD i []))=l.map (thn q.2.2.2):=by
  apply List.ext_getElem
  ·simp
  ·intro i h1 h2
   have hi:i<l.length:=by simpa using h2
   simp [gDE,hi]
 obtain⟨o4,_⟩:=Jm c2 (k:=0)
 obtain⟨z,h29⟩:=p29 (L:=l.map (thn q.2.2.2)) (by rw [List.length_map];omega) (fun y hy=>by
  obtain⟨t,_,rfl⟩:=List.mem_map.1 hy;rw [CK];omega)
 refine Ap (OX (R:=List (List Int)×Int) (n:=l.length) (g:=fun i=>thn q.2.2.2 (l.getD i [])) (id:=0) (fun i hi acc ha=>?_) (fun acc=>?_)) ?_
 ·obtain⟨k,_,hk⟩:=hg i hi
  obtain⟨o1,o2⟩:=Jm c2 (k:=k);have e28:G28 (q.2.2.2,l.getD i [])=some (thn q.2.2.2 (l.getD i [])):=p28 (by omega) (by rw [hk];exact o2)
  simp only [Ag,hi,decide_true,cond_true,Ad hi,and_self,if_true,tNC,e28,Option.bind_some];rw [if_pos (show acc.length+ [thn q.2.2.2 (l.getD i [])].length<=5864062014805 by show _+1<=_;omega),An (by omega) (by omega)]
  rfl
 ·simp only [Ag,Nat.lt_irrefl,decide_false,cond_false]
 ·show(if 0=0 then Option.bind (G29 () ((List.range l.length).map fun i=>thn q.2.2.2 (l.getD i []))) _ else none)=_
  rw [if_pos rfl,hmap];exact Ap h29 rfl
end Go.Ve.D


namespace Go.Ve.D
open Go Go.Ve Go.Proofs
def mkS(x:List Int)(o:List Int)(l:List (List Int))(i k:Nat):Bool:=(l.take i).any fun s=>decide (Di x (thn o s) x.length=k)
theorem X4{x o:List Int}{l:List (List Int)}{i k:Nat}(hi:i<l.length):mkS x o l (i+1) k=(mkS x o l i k||decide (Di x (thn o (l.getD i [])) x.length=k)):=by
 unfold mkS;rw [<-IV [] hi,List.any_append];simp
theorem ZC{f g:List Int}{i:Nat}(hi:i<f.length):(thn f g).getD i 0=g.getD (f.getD i 0).toNat 0:=by simp [thn,hi]
theorem p22{f:SF}{q:Qry}(h:QK f q)(ho:qOK (shS f) q=true)(hp:Go.Ve.D.prd (szQ f q)<=4096):G22 (f,q)=some (JK ee [] (Bo Bg (Ou f q))):=by
 have hfew:=few_O h ho;obtain⟨o4,ow⟩:=Jm ho (k:=0);rw [DK]at ow;have hN:=hfew.prd (szO f q).length;rw [List.take_length]at hN;have hszl:(szO f q).length=q.2.2.2.length:=by unfold szO;rw [CK]
 have hql:(szQ f q).length=q.1.length:=by unfold szQ;rw [CK]
 have e40:=p40 h hp;have hl:=Hj (f:=f) (q:=q) (n:=Go.Ve.D.prd (szQ f q));have hg:=fun i=>Vo (f:=f) (q:=q) (n:=Go.Ve.D.prd (szQ f q)) (i:=i)
 have hrows:JK ee [] (Bo Bg (Ou f q))=M5 (szO f q) (mkS (szO f q) q.2.2.2 (I5 f q (Go.Ve.D.prd (szQ f q))) (I5 f q (Go.Ve.D.prd (szQ f q))).length):=by
  refine ZT hfew (fun t ht=>?_) fun k _=>?_
  ·obtain⟨s,hs,rfl⟩:=List.mem_map.1 ht
   obtain⟨k,hk,rfl⟩:=List.mem_map.1 hs;exact YU h ho (List.mem_range.1 (List.mem_filter.1 hk).1)
  ·unfold mkS Ou
   rw [List.take_length,List.any_eq_true];constructor
   ·rintro ⟨s,hs,e⟩
    exact⟨_,List.mem_map.2 ⟨s,hs,rfl⟩,of_decide_eq_true e⟩
   ·rintro ⟨t,ht,e⟩
    obtain⟨s,hs,rfl⟩:=List.mem_map.1 ht;exact⟨s,hs,dT e⟩
 rw [hrows];refine Ap (a:=G40 (f,q)) e40 ?_;generalize I5 f q (Go.Ve.D.prd (szQ f q))=l at hl hg⊢
 have hrn: ∀i,i<l.length->InR (szO f q) (thn q.2.2.2 (l.getD i [])):=fun i hi=>by
  obtain⟨k,hk,e⟩:=hg i hi;rw [e];exact YU h ho hk
 have hlw: ∀i,i<l.length->wi ((l.getD i []).length:Int) q.2.2.2=true:=fun i hi=>by
  obtain⟨k,hk,e⟩:=hg i hi;rw [e];exact(Jm ho (k:=k)).2
 -- the sizes
 have hsz:(List.range q.2.2.2.length).map (fun i=>(szF f).getD (q.1.getD (q.2.2.2.getD i 0).toNat 0).toNat 0)=szO f q:=by
  unfold szO thn;refine List.map_congr_left fun i hi=>?_
  have hi:=List.mem_range.1 hi;have:=Cb ow hi;have h2:(q.2.2.2.getD i 0).toNat<q.1.length:=by omega
  exact(ZC (f:=q.1) (g:=szF f) h2).symm
 refine Ap (OX (n:=q.2.2.2.length) (g:=fun i=>(szF f).getD (q.1.getD (q.2.2.2.getD i 0).toNat 0).toNat 0) (id:=0) (fun i hi acc ha=>?_) (fun acc=>?_)) ?_
 ·have g1:=Cb ow hi
  have hj:(q.2.2.2.getD i 0).toNat<q.1.length:=by omega
  have g2:=Cb h.szw hj;have g3:(0:Int)<=q.2.2.2.getD i 0/\q.2.2.2.getD i 0<(q.1.length:Int):=by omega
  have ea: ∀a b:Int,acc.length+ [(szF f).getD (q.1.getD (q.2.2.2.getD i 0).toNat 0).toNat 0].length<=17592186044416:=fun _ _=>by show _+1<=_;omega
  unfold szF at g2 ea⊢;simp only [Ag,hi,decide_true,cond_true,Ad hi,and_self,if_true,tNC];rw [if_pos g3,if_pos g2,if_pos (ea 0 0),An (by omega) (by omega)]
  rfl
 ·simp only [Ag,Nat.lt_irrefl,decide_false,cond_false]
 ·show(if 0=0 then Option.bind (G41 ((List.range q.2.2.2.length).map fun i=>(szF f).getD (q.1.getD (q.2.2.2.getD i 0).toNat 0).toNat 0)) _ else none)=_
  rw [if_pos rfl,hsz];refine Ap (p41 hfew) ?_;obtain⟨N,hNe⟩: ∃N,N=Go.Ve.D.prd (szO f q):=⟨_,rfl⟩;rw [<-hNe]at hN⊢;have hG:(0:Int)<=(N:Int)/\((N:Int)<=(N:Int)/\((1:Int)*(N:Int)<=(281474976710656:Int)/\(N:Int)<=(9223372036854775807:Int))):=by omega
  simp only;rw [if_pos hG,tNC]
  have hrep:List.replicate N false=(List.range N).map (mkS (szO f q) q.2.2.2 l 0):=by
   apply List.ext_getElem
   ·simp
   ·intro i h1 h2
    simp [mkS]
  refine Ap (v:=.brk 2 ((l.length:Int),(l,(szO f q,((List.range N).map (mkS (szO f q) q.2.2.2 l l.length),[]))))) ?_ ?_
  ·rw [hrep]
   refine AC (st:=fun i:Nat=>((i:Int),(l,(szO f q,((List.range N).map (mkS (szO f q) q.2.2.2 l i),([]:List (List Int))))))) (n:=l.length) (fun i hi=>?_) ?_ (fun y=>by simp)
   ·have e43:G43 (q.2.2.2,l.getD i [])=some (thn q.2.2.2 (l.getD i [])):=p43 (by omega) (hlw i hi)
    have e42:=p42 hfew (hrn i hi);have hk:=LW (hrn i hi) (szO f q).length (Nat.le_refl _);rw [List.take_length,<-hNe]at hk;simp only [Ag,hi,decide_true,cond_true,Ad hi,and_self,if_true,tNC,e43,e42,Option.bind_some];have hlen:((List.range N).map (mkS (szO f q) q.2.2.2 l i)).length=N:=by simp
    rw [hlen,if_pos (Ad hk),An (by omega) (by omega),Lz]
    have e:((List.range N).map fun e=>if e=Di (szO f q) (thn q.2.2.2 (l.getD i [])) (szO f q).length then true else mkS (szO f q) q.2.2.2 l i e)=(List.range N).map (mkS (szO f q) q.2.2.2 l (i+1)):=by
     refine List.map_congr_left fun e _=>?_
     rw [X4 hi];by_cases he:e=Di (szO f q) (thn q.2.2.2 (l.getD i [])) (szO f q).length
     ·rw [if_pos he,dT he.symm,Bool.or_true]
     ·rw [if_neg he,dF (fun h=>he h.symm),Bool.or_false]
    rw [e];rfl
   ·simp only [Ag,Nat.lt_irrefl,decide_false,cond_false]
  ·obtain⟨mk,hmk⟩: ∃mk,mk=mkS (szO f q) q.2.2.2 l l.length:=⟨_,rfl⟩
   rw [<-hmk];show(if 2=2 then _ else none)=_
   rw [if_pos rfl];simp only;refine Ap (v:=.brk 4 ((N:Int),M5 (szO f q) mk)) ?_ rfl;have hst:(((0:Int),([]:List (List Int))):Int×List (List Int))=(fun k:Nat=>((k:Int),((List.range k).filter mk).map (CB (szO f q)))) 0:=rfl
   rw [hst];have hre:M5 (szO f q) mk=((List.range N).filter mk).map (CB (szO f q)):=by unfold M5;rw [<-hNe]
   rw [hre];refine AC (st:=fun k:Nat=>((k:Int),((List.range k).filter mk).map (CB (szO f q)))) (n:=N) (fun k hk=>?_) ?_ (fun y=>by simp)
   ·have e44:G44 (szO f q,(k:Int))=some (CB (szO f q) k):=p44 hfew (NN (by rw [<-hNe];exact hk)) (by omega)
    have hlen:((List.range N).map mk).length=N:=by simp
    have hgm:((List.range N).map mk).getD k false=mk k:=by simp [hk]
    have hfl:(((List.range k).filter mk).map (CB (szO f q))).length<=k:=by
     rw [List.length_map];have:=List.length_filter_le mk (List.range k);rwa [List.length_range]at this
    simp only [Ag,hk,decide_true,cond_true,hlen,Ad hk,and_self,if_true,tNC,hgm,e44,Option.bind_some];rw [An (by omega) (by omega),if_pos (show(((List.range k).filter mk).map (CB (szO f q))).length+ [CB (szO f q) k].length<=5864062014805 by show _+1<=_;omega),List.range_succ,List.filter_append,List.map_append]
    cases hm:mk k with
    |true=>rw [List.filter_cons_of_pos hm];rfl
    |false=>rw [List.filter_cons_of_neg (by rw [hm];simp)];simp
   ·simp only [Ag,Nat.lt_irrefl,decide_false,cond_false]
end Go.Ve.D


namespace Go.Ve.D
open Go Go.Ve Go.Proofs
theorem p6{f:SF}{q:Qry}(hf:okS f)(hq:okQ q):G6 (f,q)=some (r9 f q):=by
 refine Ap (a:=G21 (f,q)) (p21 hf hq) ?_;unfold r9;cases h0:decide (qrC f q=0)with
 |false=>simp only [h0,Bool.not_false,cond_true,cond_false]
 |true=>
 have h1:qrC f q=0:=of_decide_eq_true h0;obtain⟨c1,c2,c3⟩:=Ox h1;simp only [h1,decide_true,Bool.not_true,cond_false,cond_true];exact Ap (a:=G22 (f,q)) (p22 (XW (L8 c1) c2) c2 c3) rfl
theorem r9_ok{f:SF}{q:Qry}:okLL (r9 f q).1:=by
 unfold r9;cases h0:decide (qrC f q=0)with
 |false=>exact⟨Nat.zero_le _,fun y hy=>by cases hy⟩
 |true=>
  obtain⟨c1,c2,c3⟩:=Ox (of_decide_eq_true h0);have hl:=Hj (f:=f) (q:=q) (n:=Go.Ve.D.prd (szQ f q));have hp:=List.mergeSort_perm (Ou f q) (leC Bg);refine⟨?_,fun y hy=>?_⟩
  ·show(JK ee [] (Bo Bg (Ou f q))).length<=_
   unfold JK WL;rw [List.length_map];have h1:=List.length_filter_le (fun j=>decide (j=0)|| !ee ((Bo Bg (Ou f q)).getD j []) ((Bo Bg (Ou f q)).getD (j-1) [])) (List.range (Bo Bg (Ou f q)).length)
   rw [List.length_range]at h1;have h2:(Bo Bg (Ou f q)).length=(Ou f q).length:=hp.length_eq;have h3:(Ou f q).length=(I5 f q (Go.Ve.D.prd (szQ f q))).length:=by unfold Ou;rw [List.length_map]
   omega
  ·have hy:y∈JK ee [] (Bo Bg (Ou f q)):=hy
   have hy:=hp.mem_iff.1 (WK.1 hy);obtain⟨s,_,rfl⟩:=List.mem_map.1 hy;obtain⟨o1,_⟩:=Jm c2 (k:=0);rw [CK];omega
theorem p3b{f:SF}{q:Qry}{r0 r1:Int}(e0:G4 (f,1048576)=some r0)(n0: ¬r0<0)(e1:G5 (q,r0)=some r1)(n1: ¬r1<0)(hf:okS f)(hq:okQ q):G3 (f,q)=some true:=by
 have e7:=p7 hf;have e8:=p8 hq;have e6:=p6 hf hq;have e9:=p9 hf hq;have hr:=r9_ok (f:=f) (q:=q);generalize r9 f q=r at*;obtain⟨k1,y1,e13,b1,c1⟩:=mk13 (f:=f) (k:=1) (by omega) (by omega) hf
 obtain⟨r20,e14,b2,c2⟩:=mk14 (q:=q) (k:=k1) b1 (by omega) hq
 obtain⟨k,y,e15,c4,e16⟩:=mh15 hr;have m1: ¬ (r20.1<0):=by omega
 have m2: ¬ (k<0):=by omega
 have g1:=p10 hr.1 hr.2;have g2:=p11 hf;have g3:=p12 hq;unfold G3;simp only [Prod.eta,e0,n0,e1,n1,decide_false,cond_false,e7,e8,e6,e9,g1,g2,g3,e13,e14,e15,e16,m1,m2,Option.bind_some,Bool.not_true,decide_true,cond_true]
theorem p3(x:SF×Qry)(h:okT (PT S3.ps) x):G3 x=some true:=by
 obtain⟨f,q⟩:=x;obtain⟨⟨_,h1,h2,h3,h4,h6,h7⟩,q1,q2,q3,q4⟩:=h;obtain⟨r0,e0,f0⟩:=p4g (f:=f) (b:=1048576) (by omega) h1.1 h2.1 h3.1 h4.1 (fun y hy=>(h4.2 y hy).1) h6.1 h7.1 (fun y hy=>(h7.2 y hy).1)
 by_cases n0:r0<0
 ·unfold G3
  simp only [Prod.eta,e0,n0,Option.bind_some,decide_true,cond_true]
 have f0:=f0.resolve_left n0;obtain⟨r1,e1,f1⟩:=p5 (q:=q) (b:=r0) ⟨f0.1,f0.2.1⟩ q1.1 q2.1 q3.1 q4.1;by_cases n1:r1<0
 ·unfold G3
  simp only [Prod.eta,e0,n0,e1,n1,Option.bind_some,decide_true,cond_true,decide_false,cond_false]
 exact p3b e0 n0 e1 n1 f0.2.2 (f1.resolve_left n1).2
end Go.Ve.D

