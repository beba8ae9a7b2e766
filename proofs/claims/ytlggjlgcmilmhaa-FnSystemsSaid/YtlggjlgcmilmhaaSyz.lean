/- The law: any two factorizations by a system are linked by exactly one arrow, an isomorphism. -/
import Derived.Test.YtlggjlgcmilmhaaSyj
import Derived.Test.YtlggjlgcmilmhaaDra
import Derived.Test.YtlggjlgcmilmhaaDri
namespace Go.Ve.D
open Go Go.Ve
noncomputable section
variable{c:Cat}{w x:List Int}
theorem p18{z:Int}{s:Src}(h:OkS s):Tot (Num z) (G18 z s):=by
 have e:G18=G48:=rfl;rw [e];exact p48 h
theorem p17(k:Int)(h:NB x):Tot OkS (G17 (x,k)):=by
 unfold G17;refine AW (n:=x.length) (λi v=>v.1=(i:Int)/\v.2.1=x/\v.2.2.1=0) ⟨rfl,rfl,rfl⟩ (λi hi v hv=>?_) λv hv=>?_
 ·obtain⟨k,y,a,b⟩:=v
  obtain⟨(h1:k=(i:Int)),(h2:y=x),(h3:a=0)⟩:=hv;subst h1 h2 h3;have hl:=h.1;exact Cw (ltt hi) (Ah (Ab hi) (Ac ⟨wr hi (by omega),rfl,rfl⟩))
 ·obtain⟨k,y,a,b⟩:=v
  obtain⟨(h1:k=_),(h2:y=x),(h3:a=0)⟩:=hv;subst h1 h2 h3;exact CB ltf (Ac (Ah rfl (Ac ⟨Int.le_refl _,h.1,h.2⟩)))
theorem Za{n:Nat}(hw:wi n w=true){i:Nat}(hi:i<w.length): ∃a:Nat,w.getD i 0=(a:Int)/\eN w i=a/\a<n/\(a:Int)∈w:=by
 obtain⟨a,ha,ea⟩:=Uy hw hi;refine⟨a,ea,by unfold eN;rw [ea];rfl,ha,?_⟩
 rw [<-ea];exact Dq 0 hi
theorem fac_at(hc:B3 c=true){f:Nat}{y:List Int}(hy:y∈fac c (lf c (rt c w)) (rt c w) (q19 c (lf c (rt c w)) (rt c w) f)):
  ∃z a b:Nat,y= [(z:Int),(a:Int),(b:Int)]/\a<ar c/\b<ar c/\lq c (rt c w) a=true/\(b:Int)∈rt c w/\T c a b=(f:Int)/\tT c a=fT c b/\fT c f=fT c a/\tT c f=tT c b:=by
 obtain⟨z,i,k,_,hi,hk,hq,rfl⟩:=Md.1 hy;obtain⟨a,ea,na,ha,ma⟩:=Za (n:=ar c) (w:=lf c (rt c w)) DU hi;obtain⟨b,eb,nb,hb,mb⟩:=Za (n:=ar c) (w:=rt c w) DU hk;unfold q19 at hq;rw [na,nb,bAE,decide_eq_true_eq,decide_eq_true_eq]at hq;obtain⟨g1,_,g3,g4⟩:=T_mt (BN hc) ha hb hq.2;obtain⟨a',_,hqa,e⟩:=Ww.1 ma;have:a'=a:=by omega
 subst this;refine⟨z,a',b,?_,ha,hb,hqa,mb,hq.2,of_decide_eq_true g1,g3,g4⟩;unfold QC;rw [ea,eb]
theorem XM{a b:Nat}(h:lq c w a=true)(hb:(b:Int)∈w):og c a b=true:=aET.1 h _ hb
theorem law4(hx:NB x)(hdraw:Tot (λr:Cat×List Int=>okC r.1/\r.2.length<=1048576) (G13 x)):G4 x=some true:=by
 obtain⟨⟨c,w⟩,hd,hok,hw⟩:=hdraw;have hok:okC c:=hok;have hw:w.length<=1048576:=hw;unfold G4;refine Aa (v:=false) (congrArg some (dF (by have:=hx.1;omega))) (AF rfl (Aa hd (Aa (p14 hok hw) (Aa (p15 hok hw) ?_))))
 have hR: ∀ {q:Nat->Bool},(((List.range (ar c)).filter q).map fun(i:Nat)=>(i:Int)).length<=ar c:=Hn
 cases hc0:decide (clC c [w]=0)
 ·have e:Yy c w=([],([],(false,clC c [w]))):=by unfold Yy;rw [hc0];rfl
  rw [e];refine Aa (v:=false) (AF (by show(!decide (clC c [w]=clC c [w]))=false;simp) (Aa (p9 (by show 0<=_;omega)) rfl)) (Aa (v:=false) (AF rfl (Aa (p9 (by show 0<=_;omega)) rfl)) (Aa (v:=false) rfl (AF rfl (Aa (v:=true) (A7 (by show(!decide (clC c [w]=0))=true;rw [hc0];rfl) rfl) rfl))))
 obtain⟨hc,_,_⟩:=Wy hc0;have hs:=BN hc;have hl:=Cy hs;have e:Yy c w=(lf c (rt c w),(rt c w,(U7 c (lf c (rt c w)) (rt c w),0))):=by unfold Yy;rw [hc0];rfl
 rw [e];refine Aa (v:=false) (AF rfl (Aa (p9 (Nat.le_trans hR (le6 hl))) (by simp))) (Aa (v:=false) (AF rfl (Aa (p9 (Nat.le_trans hR (le6 hl))) (by simp))) (Aa (v:=false) (AF rfl (by simp)) (AF rfl (Aa (v:=!U7 c (lf c (rt c w)) (rt c w)) (AF rfl rfl) ?_))))
 cases hsy:U7 c (lf c (rt c w)) (rt c w)
 ·rfl
 have h0:clC c [lf c (rt c w),rt c w]=0:=clC_of hc (λv hv=>by
  rcases List.mem_cons.1 hv with rfl|hv
  ·exact DU
  ·rw [List.mem_singleton.1 hv];exact DU) (λv hv=>by
  rcases List.mem_cons.1 hv with rfl|hv
  ·exact Wv
  ·rw [List.mem_singleton.1 hv];exact Wv)
 refine AF rfl (Aa (p16 hok (Nat.le_trans hR (le6 hl)) (Nat.le_trans hR (le6 hl)) h0) ?_);rw [hsy];refine Aa (v:=false) (AF rfl rfl) ?_;cases hz:decide ((c.2.1.length:Int)=0)
 case true=>exact Aa (v:=true) rfl rfl
 have hz:=of_decide_eq_false hz;refine Aa (v:=false) rfl (AF rfl ?_);obtain⟨r,hr,hro⟩:=p17 6 hx;refine Aa hr ?_;obtain⟨⟨f0,r2⟩,hf,⟨⟨f1,f2,_⟩,_⟩⟩:=p18 (z:=(c.2.1.length:Int)) hro;have f1:0<=f0:=f1;have f2:0<(c.2.1.length:Int)->f0<(c.2.1.length:Int):=f2;have f2:=f2 (by omega)
 obtain⟨f,rfl⟩: ∃f:Nat,f0=(f:Int):=⟨f0.toNat,by omega⟩
 have hfa:f<ar c:=by
  have:(f:Int)<(c.2.1.length:Int):=f2;show f<c.2.1.length;omega
 refine Aa hf ?_;have h19:G19 (c,(lf c (rt c w),(rt c w,(f:Int))))=some (fac c (lf c (rt c w)) (rt c w) (q19 c (lf c (rt c w)) (rt c w) f),0):=p19 hok (Nat.le_trans hR hl) (Nat.le_trans hR hl) hfa h0;have hs2:=hsy;unfold U7 at hs2;simp only [bAE]at hs2;have hfc:=aET.1 hs2.2.2 f (List.mem_range.2 hfa)
 -- there is one
 obtain⟨i0,k0,hi0,hk0,ht0⟩:=YX.1 hfc
 have hmem0: ∃y,y∈fac c (lf c (rt c w)) (rt c w) (q19 c (lf c (rt c w)) (rt c w) f):=by
  have ha:=Aap (n:=ar c) (e:=lf c (rt c w)) DU hi0;have h5:0<=tT c (eN (lf c (rt c w)) i0)/\tT c (eN (lf c (rt c w)) i0)<c.1:=hs.to _ ha;obtain⟨z,hz⟩: ∃z:Nat,tT c (eN (lf c (rt c w)) i0)=(z:Int):=⟨(tT c (eN (lf c (rt c w)) i0)).toNat,by omega⟩
  exact⟨_,Md.2 ⟨z,i0,k0,by omega,hi0,hk0,by unfold q19;rw [dT hz,dT ht0];rfl,rfl⟩⟩
 have hat:=λy hy=>fac_at (w:=w) (f:=f) hc (y:=y) hy
 generalize hF:fac c (lf c (rt c w)) (rt c w) (q19 c (lf c (rt c w)) (rt c w) f)=F at hmem0 hat h19;have hFl:F.length<=1048576:=by
  rw [<-hF];unfold fac;have g1:=fun(z i:Nat)=>D3 (K:=1) (g:=λk=>bif q19 c (lf c (rt c w)) (rt c w) f z i k then [QC (lf c (rt c w)) (rt c w) z i k]else []) (λk=>WF) (rt c w).length
  have g2:=fun(z:Nat)=>D3 (g1 z) (lf c (rt c w)).length
  have g3:=D3 g2 c.1.toNat;have l1:(rt c w).length<=40:=Nat.le_trans hR hl;have l2:(lf c (rt c w)).length<=40:=Nat.le_trans hR hl;have l3:c.1.toNat<=8:=by have:=hs.hd.1;omega
  refine Nat.le_trans g3 (Nat.le_trans (Nat.mul_le_mul l3 (Nat.mul_le_mul l2 (Nat.mul_le_mul l1 (Nat.le_refl 1)))) (by decide))
 have hF0:0<F.length:=by
  obtain⟨y,hy⟩:=hmem0;exact List.length_pos_of_mem hy
 refine Aa h19 (Aa (v:=false) (AF rfl (congrArg some (dF (by show ¬ (F.length:Int)=0;omega)))) (AF rfl ((Yd (n:=F.length) (p:=λ_=>true) (r:=false) (v:=true) (id:=0) (λi hi=>?_) (AF ltn rfl) (λ_=>rfl)).trans (by simp))))
 obtain⟨zi,ai,bi,ei,hai,hbi,lai,mbi,ti,mi,fi1,fi2⟩:=hat _ (Dq [] hi);obtain⟨z0,a0,b0,e0,ha0,hb0,la0,mb0,t0,m0,f01,f02⟩:=hat _ (Dq [] hF0);have hfa0:fT c a0=fT c ai:=by rw [<-f01,fi1]
 have htb0:tT c b0=tT c bi:=by rw [<-f02,fi2]
 obtain⟨d,hd,hdg,d1,d2,d3,d4⟩:=VO (XM la0 mbi) hai hb0 hfa0.symm mi m0.symm htb0 (by rw [t0,ti])
 obtain⟨d',hd',hdg',d1',d2',d3',d4'⟩:=VO (XM lai mb0) ha0 hbi hfa0 m0 mi.symm htb0.symm (by rw [ti,t0])
 have k1:T c d d'=idv c (fT c d):=link1 hc (XM la0 mb0) ha0 hb0 hai hbi hd hd' m0 mi d1 d2 d3 d4 d1' d2' d3' d4';have k2:T c d' d=idv c (fT c d'):=link1 hc (XM lai mbi) hai hbi ha0 hb0 hd' hd mi m0 d1' d2' d3' d4' d1 d2 d3 d4;have dd:tT c d=fT c d':=by rw [d2,<-mi,d1']
 have dd':tT c d'=fT c d:=by rw [d2',<-m0,d1]
 rw [<-dd]at k2;have ini:(0:Int)<=(i:Int)/\(i:Int)<(F.length:Int):=Ab hi;have in0:(0:Int)<=0/\(0:Int)<(F.length:Int):=by omega
 have gi:F.getD ((i:Int)).toNat []= [(zi:Int),(ai:Int),(bi:Int)]:=ei;have g0:F.getD ((0:Int)).toNat []= [(z0:Int),(a0:Int),(b0:Int)]:=e0;have n1: ∀ {z a b:Int},(0:Int)<=1/\(1:Int)<((([z,a,b]:List Int)).length:Int):=fun{z a b}=>by show(0:Int)<=1/\(1:Int)<3;omega
 have n2: ∀ {z a b:Int},(0:Int)<=2/\(2:Int)<((([z,a,b]:List Int)).length:Int):=fun{z a b}=>by show(0:Int)<=2/\(2:Int)<3;omega
 refine A7 (ltd hi) (A4 ini ?_);simp only [gi,g0];refine Aa (v:=false) (AF rfl (A4 ini (A4 n1 (A4 ini (A4 n2 (Aa (p20 hs hai hbi) ?_)))))) (AF rfl (A4 in0 (A4 n1 (A4 ini (A4 n2 (A4 ini (A4 n1 (A4 in0 (A4 n2 (Aa (p21 hok hc ha0 hbi hai hb0 hfa0.symm mi m0.symm htb0 (by rw [t0,ti])) ?_))))))))))
 ·show some (!decide (T c ai bi=(f:Int)))=some false
  rw [ti];simp
 ·rw [hdg]
  refine Aa (v:=false) (AF rfl rfl) (AF rfl (A4 (by show(0:Int)<=0/\(0:Int)<1;omega) (Aa (p22 hok hc (f:=d) (g:=d') hd hd' dd.symm dd' k1 k2) (Aa (v:=false) (AF rfl rfl) (AF rfl ?_)))))
  show some (LO.next (IntKind.wrap .i64 ((i:Int)+1)))=_
  rw [wr hi hFl];rfl
end
end Go.Ve.D


namespace Go.Ve.D
open Go Go.Ve
noncomputable section
variable{c:Ca}{x:LI}
theorem p25(hc:okD c){s:Src}(h:OkS s):Tot (λr=>r.1.length<=2001/\OkS r.2) (G25 c s):=by
 have hl0:=hc.1;have hl:c.2.1.length<=1048576:=by omega
 unfold G25;refine AW (n:=c.2.1.length) (λi v=>v.1=(i:Int)/\OkS (v.2.1,(v.2.2.1,v.2.2.2.1))/\v.2.2.2.2.length<=i) ⟨rfl,h,Nat.le_refl _⟩ (λi hi v hv=>?_) λv hv=>?_
 ·obtain⟨_,s1,s2,s3,w⟩:=v
  obtain⟨(rfl:_=(i:Int)),(hs:OkS (s1,(s2,s3))),(hw:w.length<=i)⟩:=hv;refine Cw (ltD hi) (Aj (p48 hs) λv1 hv1=>Av (λ_=>Ah (by show w.length+1<=_;omega) (Ac ⟨wrD hi hl,hv1.2,?_⟩)) λ_=>Ac ⟨wrD hi hl,hv1.2,by show w.length<=i+1;omega⟩)
  show(w++ [_]).length<=i+1;rw [List.length_append];show w.length+1<=_;omega
 ·obtain⟨_,s1,s2,s3,w⟩:=v
  obtain⟨(rfl:_=(c.2.1.length:Int)),(hs:OkS (s1,(s2,s3))),(hw:w.length<=c.2.1.length)⟩:=hv;refine CB ltf (Ac (Ah rfl (Aj (p48 hs) λv1 hv1=>Av (λ_=>Aj (p50 hv1.2) λv2 hv2=>Ah (by show w.length+1<=_;omega) (Ac ⟨?_,hv2⟩)) λ_=>Av (λ_=>Ah (by show w.length+1<=_;omega) (Ac ⟨?_,hv1.2⟩)) λ_=>Ac ⟨by show w.length<=_;omega,hv1.2⟩)))
  ·show(w++ [_]).length<=_
   rw [List.length_append];show w.length+1<=_;omega
  ·show(w++ [_]).length<=_
   rw [List.length_append];show w.length+1<=_;omega
theorem okD_C(h:okD c):okC c:=by
 obtain⟨a,b,d,e,f⟩:=h;exact⟨by omega,by omega,by omega,by omega,λy hy=>by have:=f y hy;omega⟩
theorem p13(h:NB x):Tot (λr:Cat×List Int=>okC r.1/\r.2.length<=1048576) (G13 x):=by
 unfold G13;exact Aj (p23 h) λv0 hs=>Aj (p24 (by decide) (by decide) hs) λv1 hv1=>Aj (p25 hv1.1 hv1.2) λv2 hv2=>Ac ⟨okD_C hv1.1,by have:=hv2.1;show v2.1.length<=_;omega⟩
theorem u8_in{n:Int}(h:(Lit.int .u8 n).wf=true):0<=n/\n<=255:=by
 have h:(decide (IntKind.u8.min<=n)&&decide (n<=IntKind.u8.max))=true:=h;rw [bAE,decide_eq_true_eq,decide_eq_true_eq]at h;have e1:IntKind.u8.min=0:=by decide
 have e2:IntKind.u8.max=255:=by decide
 omega
theorem big_t(h: ¬x.length<=4096):G4 x=some true:=by
 unfold G4;exact Aa (v:=true) (congrArg some (dT (by omega))) rfl
theorem p4(x:List Int)(h:okT (PT S4.ps) x):G4 x=some true:=by
 have h:x.length<=maxLen/\∀n∈x,(Lit.int .u8 n).wf=true:=h;by_cases hl:x.length<=4096
 ·have hx:NB x:=⟨hl,λb hb=>u8_in (h.2 b hb)⟩
  exact law4 hx (p13 hx)
 ·exact big_t hl
end
end Go.Ve.D

