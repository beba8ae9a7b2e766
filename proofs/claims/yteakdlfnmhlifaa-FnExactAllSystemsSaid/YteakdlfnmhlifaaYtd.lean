/- AllSystems: the model's answer. -/
import Derived.Test.YteakdlfnmhlifaaYta
open Go.IntKind(wrap)
open List(range length_map mem_range mem_singleton mem_cons)
open Nat(le_trans)
set_option linter.all false
namespace Go.Ve.D
open Go Go.Ve Go.Proofs
variable{c:Cat}{L:List (List Int)}{mv:List Int}{k n s:Nat}
def sh_0(h:k<=8):0<=wrap .u64 (k:Int):=by
 have:∀k:Fin 9,0<=wrap .u64 ((k.val:Nat):Int):=by decide+kernel
 exact this ⟨k,by omega⟩
def sh_l(h:k<=8):Adi .i64 1 (wrap .u64 (k:Int))=((2 ^ k:Nat):Int):=by
 have:∀k:Fin 9,Adi .i64 1 (wrap .u64 ((k.val:Nat):Int))=((2 ^ k.val:Nat):Int):=by decide+kernel
 exact this ⟨k,by omega⟩
def sh_b{b:Nat}(A:s<256)(B:b<8):decide (Int.tmod (AbW .i64 (s:Int) (wrap .u64 (b:Int))) 2=1)=s.testBit b:=by
 have:∀s:Fin 256,∀b:Fin 8,decide (Int.tmod (AbW .i64 ((s.val:Nat):Int) (wrap .u64 ((b.val:Nat):Int))) 2=1)=s.val.testBit b.val:=by decide+kernel
 exact this ⟨s,A⟩ ⟨b,B⟩
def wS(mv:List Int)(s:Nat):List Int:=((range mv.length).filter λb=>s.testBit b).map λb=>mv.getD b 0
def wS_len:(wS mv s).length<=mv.length:=by
 unfold wS;rw[length_map];have:=List.length_filter_le (λb=>s.testBit b) (range mv.length)
 rwa [List.length_range]at this
def Wn{x:Int}:x∈wS mv s↔ ∃b,b<mv.length/\s.testBit b=true/\x=mv.getD b 0:=by
 unfold wS;simp only[List.mem_map,List.mem_filter,mem_range];exact⟨fun⟨b,⟨B,A⟩,h3⟩=>⟨b,B,A,h3.symm⟩,fun⟨b,B,A,h3⟩=>⟨b,⟨B,A⟩,h3.symm⟩⟩
theorem wS_wi:wi (ar c) (wS (Hs c) s)=true:=by
 unfold wi;rw[aET];intro x A;obtain⟨b,B,_,rfl⟩:=Wn.1 A;obtain⟨f,F,_,e⟩:=Hr.1 (BR 0 B:(Hs c).getD b 0∈Hs c);rw[e];exact ZY (by omega) (by omega)
def eT(c:Cat)(s:Nat):List Int:=lf c (rt c (wS (Hs c) s))
def Fnd(c:Cat)(n:Nat)(L:List (List Int)):Prop:=L.Nodup/\L.length<=n/\∀E,E∈L↔ ∃t,t<n/\E=eT c t/\Pl c (eT c t) (rt c (wS (Hs c) t))=true
def Fnd.le(h:Fnd c n L):∀p∈L,p.length<=ar c:=λp A=>by
 obtain⟨t,_,rfl,_⟩:=(h.2.2 p).1 A;exact DX
def Fnd.rt{c:Cat}{t:Nat}:Go.Ve.D.rt c (eT c t)=Go.Ve.D.rt c (wS (Hs c) t):=rt_lf wS_wi
def Fnd.no(h:Fnd c n L)(A:eT c n∈L\/Pl c (eT c n) (Go.Ve.D.rt c (wS (Hs c) n))=false):Fnd c (n+1) L:=by
 refine⟨h.1,Nat.le_succ_of_le h.2.1,λE=>(h.2.2 E).trans ⟨fun⟨t,F,B⟩=>⟨t,by omega,B⟩,fun⟨t,F,B,h3⟩=>?_⟩⟩
 by_cases e:t=n
 .subst e
  rcases A with A|A
  .rw[B];exact(h.2.2 _).1 A
  .rw[A]at h3;cases h3
 .exact⟨t,by omega,B,h3⟩
theorem Fnd.yes(h:Fnd c n L)(U:¬eT c n∈L)(H:Pl c (eT c n) (Go.Ve.D.rt c (wS (Hs c) n))=true):Fnd c (n+1) (L++[eT c n]):=by
 refine⟨List.nodup_append.2 ⟨h.1,by simp,λa W b F=>?_⟩,by rw[List.length_append];exact Nat.succ_le_succ h.2.1,λE=>?_⟩
 .rw[mem_singleton]at F
  subst F
  rintro rfl
  exact U W
 .rw[List.mem_append,mem_singleton,h.2.2 E]
  constructor
  .rintro (⟨t,B,A⟩|B)
   .exact⟨t,by omega,A⟩
   .exact⟨n,by omega,B,H⟩
  .rintro ⟨t,B,A,h3⟩
   by_cases e:t=n
   .subst e;exact .inr A
   .exact .inl ⟨t,by omega,A,h3⟩
theorem p25(hc:okC c):Tot (λr=>∃L,(BY c=true->¬8<(mvN c).length->Fnd c (2 ^ (mvN c).length) L)/\r=(bif !BY c then([],1)else if 8<(mvN c).length then([],3)else(B0 BG L,0))) (G25 c):=by
 unfold G25;refine Cz (p44 hc) ?_;cases e:BY c with
 |false=>exact As ⟨[],λh=>(by cases h),rfl⟩
 |true=>
 have h:=Cv e;have hl:=Cf h;refine KT rfl (Cz (p45 h) ?_);have el:(Hs c).length=(mvN c).length:=by rw[P3,length_map]
 by_cases h8:8<(mvN c).length
 .exact Mj (dT (by show(8:Int)<(((Hs c).length:Nat):Int);omega)) (As ⟨[],λ_ h=>absurd h8 h,by rw[if_pos h8];rfl⟩)
 refine KT (dF (by show ¬ (8:Int)<(((Hs c).length:Nat):Int);omega)) ?_
 obtain⟨r,e46,rfl⟩:=p46 h;refine Cz e46 ?_;have B:(Hs c).length<=8:=by omega
 have hp8:2 ^ (Hs c).length<=256:=Nat.pow_le_pow_right (n:=2) (by decide) B
 rw[show 2 ^ (mvN c).length=2 ^ (Hs c).length by rw[el]]
 simp only[sh_l B];refine Dk (n:=2 ^ (Hs c).length) (λs v=>v.1=(s:Int)/\Fnd c s v.2) ⟨rfl,by simp,Nat.le_refl _,λE=>⟨λh=>(by cases h),fun⟨t,ht,_⟩=>absurd ht (Nat.not_lt_zero _)⟩⟩ (λs hs v hv=>?_) λv hv=>?_
 .obtain⟨Z,L⟩:=v
  obtain⟨(A:Z=_),(H:Fnd c s L)⟩:=hv;subst A;have hL:L.length<=256:=by have:=H.2.1;omega
  have hwl:(wS (Hs c) s).length<=1048576:=le_trans wS_len (by omega)
  refine AS (sh_0 B) (Mj (ltd hs) (Cz (v:=.brk 2 ((((Hs c).length:Nat):Int),wS (Hs c) s)) (Uy (q:=λb=>s.testBit b) (g:=λb=>(Hs c).getD b 0) (n:=(Hs c).length) (λb U F ha=>?_) λF=>Bf ltn rfl) ?_))
  .refine Bb (ltd U) (A8 (sh_0 (by omega)) (A8 (by decide) ?_))
   have Y:=sh_b (show s<256 by omega) (show b<8 by omega)
   show(bif decide (Int.tmod (AbW .i64 (s:Int) (wrap .u64 (b:Int))) 2=1)then _ else _)=_;rw[Y];cases ht:s.testBit b with
   |true=>
    refine A8 (Ab U) (A8 (by show F.length+1<=_;omega) ?_)
    show some (LO.next (wrap .i64 ((b:Int)+1),F++[(Hs c).getD ((b:Int)).toNat 0]))=_
    rw[wr U (by omega),tNC];rfl
   |false=>
    show some (LO.next (wrap .i64 ((b:Int)+1),F))=_
    rw[wr U (by omega)];rfl
  refine AS rfl ?_;obtain⟨r,e47,rfl⟩:=p47 hl hwl (wS_wi (c:=c) (s:=s));refine Cz e47 ?_;obtain⟨g,e48,hg⟩:=p48 (L:=L) (by omega) (λp hp=>le_trans (H.le p hp) (by omega)) (eT c s)
  refine Cz e48 ?_;have W:2 ^ (Hs c).length<=1048576:=by omega
  refine D4 (P:=λb=>b=(decide (g<0)&&Pl c (eT c s) (rt c (wS (Hs c) s)))) (Cq (λA=>?_) λA=>As ?_) λb U=>Cq (λA=>?_) λA=>?_
  .refine Cz (p49 h (e:=eT c s) (m:=rt c (wS (Hs c) s)) (le_trans DX hl) (le_trans DX hl) I6 I6) (As ?_)
   rw[A];rfl
  .rw[A];rfl
  .subst U
   rw[bAE,decide_eq_true_eq]at A;exact AS (by show L.length+1<=_;omega) (As ⟨wr hs W,H.yes (hg.1 A.1) A.2⟩)
  .subst U
   rw[Bool.and_eq_false_iff,decide_eq_false_iff_not]at A;refine As ⟨wr hs W,H.no ?_⟩;rcases A with A|A
   .left
    exact Classical.byContradiction λh=>A (hg.2 h)
   .exact .inr A
 .obtain⟨Z,L⟩:=v
  obtain⟨(A:Z=_),(H:Fnd c _ L)⟩:=hv;subst A;have hL:L.length<=256:=by have:=H.2.1;omega
  refine AS (sh_0 B) (KT ltn (As (AS rfl ?_)));obtain⟨r,e50,rfl⟩:=p50 (L:=L) (by omega) (λp hp=>le_trans (H.le p hp) (by omega))
  exact Cz e50 (As ⟨L,λ_ _=>H,by rw[if_neg h8];rfl⟩)
end Go.Ve.D


namespace Go.Ve.D
open Go Go.Ve Go.Proofs
variable{c:Cat}{L:List (List Int)}{f:Nat}{q q':Nat->Bool}
def Yn(p:Nat->Bool):∀n,∃t,t<2 ^ n/\∀b,b<n->t.testBit b=p b
 |0=>⟨0,by decide,λb h=>absurd h (Nat.not_lt_zero _)⟩
 |n+1=>by
  obtain⟨t,A,F⟩:=Yn p n;have e:=Nat.pow_succ (n:=2) (m:=n);cases B:p n with
  |false=>
   refine⟨t,by omega,λb h=>?_⟩
   by_cases e:b=n
   .subst e;rw[Nat.testBit_lt_two_pow A,B]
   .exact F b (by omega)
  |true=>
   refine⟨2 ^ n+t,by omega,λb h=>?_⟩
   by_cases e:b=n
   .subst e;rw[Nat.testBit_two_pow_add_eq,Nat.testBit_lt_two_pow A,B];rfl
   .rw[Nat.testBit_two_pow_add_gt (by omega)];exact F b (by omega)
def idIso(F:BY c=true)(B:f<ar c)(h:Jc c f=true):Iso c f f:=by
 have W:=Cv F;obtain⟨i,i1,U,Z,Y,A⟩:=UN F (x:=fT c f) (W.fr f B);have e:idv c (fT c f)=(f:Int):=of_decide_eq_true h;obtain rfl:i=f:=by omega
 have H:T c i i=(i:Int):=UM F B U;exact⟨B,A.symm,A,by rw[H,e],by rw[H,A,e]⟩
def UD{x:Int}:x∈eS c q↔ ∃f,f<ar c/\q f=true/\x=(f:Int):=Hr
def Aak(h:∀f,f<ar c->q f=q' f):eS c q=eS c q':=by
 unfold eS cl;rw[List.filter_congr λf A=>h f (mem_range.1 A)]
theorem H0{c:Cat}:∀(H:List Nat) (q:Nat->Bool) (E:List Int),E∈LP c H q↔ ∃q':Nat->Bool,(∀f,f<ar c->q f=true->q' f=true)/\(∀f,f<ar c->q' f=true->q f=true\/f∈H)/\E=eS c q'/\Pl c E (rt c E)=true
 |[],q,E=>by
  rw[Jr];constructor
  .intro h
   split at h
   .rename_i W
    rw[mem_singleton]at h;exact⟨q,λf _ h=>h,λf _ h=>.inl h,h,by rw[h];exact W⟩
   .cases h
  .rintro ⟨q',F,B,rfl,h3⟩
   have e:eS c q'=eS c q:=Aak λf A=>by
    rw[Bool.eq_iff_iff];exact⟨λh=>(B f A h).resolve_right (by simp),F f A⟩
   rw[e]at h3;rw[if_pos h3,e];exact mem_singleton.2 rfl
 |m::H,q,E=>by
  rw[H1,List.mem_append,H0 H,H0 H];constructor
  .rintro (⟨q',F,B,h3⟩|⟨q',F,B,h3⟩)
   .exact⟨q',F,λf A h=>(B f A h).imp_right (mCM _),h3⟩
   .refine⟨q',λf A h=>F f A (by rw[h];rfl),λf A h=>?_,h3⟩
    rcases B f A h with h|h
    .rw[Bool.or_eq_true,decide_eq_true_eq]at h
     rcases h with h|h
     .exact .inl h
     .exact .inr (by rw[h];exact List.mem_cons_self ..)
    .exact .inr (mCM _ h)
  .rintro ⟨q',F,B,h3⟩
   by_cases hm:q' m=true
   .refine .inr ⟨q',λf A h=>?_,λf A h=>?_,h3⟩
    .rw[Bool.or_eq_true,decide_eq_true_eq]at h
     rcases h with h|h
     .exact F f A h
     .rw[h];exact hm
    .rw[Bool.or_eq_true,decide_eq_true_eq]
     rcases B f A h with h|h
     .exact .inl (.inl h)
     .rcases mem_cons.1 h with h|h
      .exact .inl (.inr h)
      .exact .inr h
   .refine .inl ⟨q',F,λf A h=>(B f A h).imp_right λU=>?_,h3⟩
    rcases mem_cons.1 U with U|U
    .rw[U]at h;exact absurd h hm
    .exact U
theorem IH{c:Cat}:∀(B:List Nat) (q:Nat->Bool),B.Nodup->(∀m∈B,q m=false/\m<ar c)->(LP c B q).Nodup
 |[],q,_,_=>by
  rw[Jr];split<;>simp
 |m::B,q,A,h=>by
  obtain⟨hm,A⟩:=List.nodup_cons.1 A;obtain⟨U,H⟩:=h m (List.mem_cons_self ..);rw[H1];refine List.nodup_append.2 ⟨IH B q A λx F=>h x (mCM _ F),IH B _ A λx F=>⟨?_,(h x (mCM _ F)).2⟩,λa ha b Z=>?_⟩
  .show(q x||decide (x=m))=false
   rw[(h x (mCM _ F)).1,dF (fun(e:x=m)=>hm (e▸F))];rfl
  .rintro rfl
   obtain⟨q1,_,h2,rfl,_⟩:=(H0 B q _).1 ha;obtain⟨W,h3,_,e,_⟩:=(H0 B _ _).1 Z;have h4:(m:Int)∈eS c W:=UD.2 ⟨m,H,h3 m H (by rw[dT rfl,Bool.or_true]),rfl⟩
   rw[<-e]at h4;obtain⟨f,Y,h5,e2⟩:=UD.1 h4;obtain rfl:m=f:=by omega
   rcases h2 m Y h5 with h6|h6
   .rw[U]at h6;cases h6
   .exact hm h6
def XL:f∈mvN c↔f<ar c/\Jc c f=false:=by
 unfold mvN;rw[List.mem_filter,mem_range,Bool.not_eq_true']
def mv_at{b:Nat}(A:b<(mvN c).length):(Hs c).getD b 0=(((mvN c).getD b 0:Nat):Int):=by
 rw[P3];exact mgetD A rfl
def Aco(h:f∈mvN c):∃b,b<(mvN c).length/\(mvN c).getD b 0=f:=by
 obtain⟨b,A,e⟩:=List.getElem_of_mem h;exact⟨b,A,by rw[gDE,gEE A];exact e⟩
def AaY:(Hs c).length=(mvN c).length:=by rw[P3,length_map]
theorem rt_w(W:BY c=true){t:Nat}(U:∀b,b<(mvN c).length->t.testBit b=q' ((mvN c).getD b 0)):rt c (wS (Hs c) t)=rt c (eS c q'):=by
 unfold rt
 congr 1
 apply List.filter_congr;intro m hm;have hm:=mem_range.1 hm;rw[Bool.eq_iff_iff];constructor
 .intro h
  refine aET.2 λa H=>?_
  obtain⟨f,F,B,rfl⟩:=UD.1 H;cases hi:Jc c f with
  |true=>exact Ue W hm F (idIso W F hi)
  |false=>
   obtain⟨b,A,e⟩:=Aco (XL.2 ⟨F,hi⟩);exact aET.1 h _ (Wn.2 ⟨b,by rw[AaY];exact A,by rw[U b A,e];exact B,by rw[mv_at A,e]⟩)
 .intro h
  refine aET.2 λa H=>?_
  obtain⟨b,A,B,rfl⟩:=Wn.1 H;rw[AaY]at A;rw[U b A]at B;rw[mv_at A];exact aET.1 h _ (UD.2 ⟨_,XM (BR 0 A),B,rfl⟩)
def AbT{e m:List Int}(h:Pl c e m=true):lf c m=e:=by
 unfold Pl at h;simp only[bAE,decide_eq_true_eq]at h;exact h.2.1
theorem Zq(B:BY c=true)(Z:Fnd c (2 ^ (mvN c).length) L)(E:List Int):E∈LP c (mvN c) (Jc c)↔E∈L:=by
 rw[H0,Z.2.2];constructor
 .rintro ⟨q',h1,h2,rfl,h3⟩
  obtain⟨t,H,F⟩:=Yn (λb=>q' ((mvN c).getD b 0)) (mvN c).length
  have W:=rt_w B F;have U:eT c t=eS c q':=by
   unfold eT;rw[W];exact AbT h3
  exact⟨t,H,U.symm,by rw[W,U];exact h3⟩
 .rintro ⟨t,H,rfl,h3⟩
  refine⟨lq c (rt c (wS (Hs c) t)),λf A hi=>?_,λf A _=>?_,rfl,by rw[Fnd.rt];exact h3⟩
  .refine aET.2 λb F=>?_
   obtain⟨k,rfl,Y⟩:=Uh (n:=ar c) I6 F;exact Ue B Y A (idIso B A hi)
  .cases hi:Jc c f with
   |true=>exact .inl rfl
   |false=>exact .inr (XL.2 ⟨A,hi⟩)
def same(H:BY c=true)(A:Fnd c (2 ^ (mvN c).length) L):B0 BG (LP c (mvN c) (Jc c))=B0 BG L:=by
 have F:(LP c (mvN c) (Jc c)).Perm L:=(List.perm_ext_iff_of_nodup (IH _ _ OE λm hm=>⟨XK hm,XM hm⟩) A.1).2 (Zq H A)
 have B:(B0 BG (LP c (mvN c) (Jc c))).Pairwise λx y=>leC BG x y=true:=List.pairwise_mergeSort (le:=leC BG) (λa b c W U=>LH W U) (λa b=>by
  rw[Bool.or_eq_true];have:=CX a b;by_cases h:BG a b<=0
  .exact .inl (show Wg a b from HT.2 h)
  .exact .inr (show Wg b a from HT.2 (by omega))) _
 exact DE swoL Ac9 ((List.mergeSort_perm _ _).trans F) B
end Go.Ve.D


namespace Go.Ve.D
open Go Go.Ve Go.Proofs
def W1{L:List (List Int)}{x:List Int}:x∈B0 BG L↔x∈L:=(List.mergeSort_perm L _).mem_iff
theorem p2526{c:Cat}(F:okC c):∃a:List (List Int)×Int,G25 c=some a/\G26 c=some a/\a.1.length<=1048576/\∀y∈a.1,y.length<=1048576:=by
 obtain⟨r,e,L,H,rfl⟩:=p25 F;refine⟨_,e,?_,?_⟩
 .rw[p26 F]
  cases hi:BY c with
  |false=>rfl
  |true=>
   rw[Bool.not_true,cond_false,cond_false];by_cases A:8<(mvN c).length
   .rw[if_pos A,if_pos A]
   .rw[if_neg A,if_neg A,same hi (H hi A)]
 .cases hi:BY c with
  |false=>exact⟨Nat.zero_le _,λy B=>by cases B⟩
  |true=>
   rw[Bool.not_true,cond_false];by_cases A:8<(mvN c).length
   .rw[if_pos A];exact⟨Nat.zero_le _,λy B=>by cases B⟩
   .rw[if_neg A]
    have U:=H hi A;have W:=Cf (Cv hi);have Y:=Nat.pow_le_pow_right (n:=2) (by decide) (show(mvN c).length<=8 by omega)
    refine⟨?_,λy B=>le_trans (U.le y (W1.1 B)) (by omega)⟩
    show(B0 BG L).length<=_;have:=U.2.1;rw[show(B0 BG L).length=L.length from(List.mergeSort_perm L _).length_eq];omega
def mh28{p:List (List Int)}(h:p.length<=1048576)(A:∀y∈p,y.length<=1048576):∃k y,G28 (p,1)=some (k,y)/\0<=k/\G29 (y,1)=some k:=by
 have B:=NI A p.length (Nat.le_refl _);exact⟨1+(tot p p.length:Int),mks p 1,p28 (x:=p) (k:=1) (by omega) (by omega) h A,by omega,p29 (x:=p) (k:=1) (by omega) (by omega) h A⟩
theorem p5(c:Cat)(h:okT (PT S5.ps) c):G5 c=some true:=by
 obtain⟨_,h1,h2,h3,h4⟩:=h;obtain⟨r,e0,f0⟩:=p15 (c:=c) h1.1 h2.1 h3.1 h4.1 (λy hy=>(h4.2 y hy).1)
 by_cases F:r<0
 .unfold G5
  simp only[Prod.eta,e0,F,Option.bind_some,decide_true,cond_true]
 have A:=(f0.resolve_left F).2.2;have e17:=p17 A;obtain⟨a,Z,Y,g1,g2⟩:=p2526 A;have W:=p27 g1 g2;have e20:=p20 A;obtain⟨B,y22,e22,b2,_⟩:=mk22 (c:=c) (k:=1) (by omega) (by omega) A
 obtain⟨k,y,U,c4,H⟩:=mh28 g1 g2;have m1:¬ (B<0):=by omega
 have m2:¬ (k<0):=by omega
 unfold G5;simp only[Prod.eta,e0,F,decide_false,cond_false,e17,Z,Y,W,e20,e22,U,H,m1,m2,Option.bind_some,Bool.not_true,decide_true,cond_true]
end Go.Ve.D

