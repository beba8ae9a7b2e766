/- Validity, failures, truth: both sides agree. -/
import Derived.Test.YtbbhfpbalccohaaGreatFek
import Derived.Test.YtbbhfpbalccohaaGreatUr7
namespace Go.Ve.D
open Go Go.Ve
noncomputable section
theorem cxC_12{s:St}{G:List Int}{x:Fl}:cxC s G x=0\/cxC s G x=1\/cxC s G x=2:=by
 unfold cxC;cases Oo s&&HA x<;>cases L0 s.1 G<;>simp
end
end Go.Ve.D


namespace Go.Ve.D
open Go Go.Ve
noncomputable section
structure Szs(s:St)(G:List Int)(x:Fl)(r0 r1:Int):Prop where
 g:G.length<=1048576
 e0:G11 (s,1048576)=some r0
 n0: ¬r0<0
 e1:G12 (x,r0)=some r1
 n1: ¬r1<0
 hs:MX s
 w:wSt s<=1048576
 hx:Ij x
 wx:wF x<=1048576
theorem szs_of{s:St}{G:List Int}{x:Fl}(h1:inSt s)(h3:x.length<=maxLen)(h4: ∀k∈x,k.2.2.length<=maxLen)(P:Prop)
  (hG:(1048576:Int)<(G.length:Int)->P) (hA: ¬ (1048576:Int)<(G.length:Int)->∀r0,G11 (s,1048576)=some r0->r0<0->P)
  (hB: ¬ (1048576:Int)<(G.length:Int)->∀r0,G11 (s,1048576)=some r0->¬r0<0->∀r1,G12 (x,r0)=some r1->r1<0->P) (hC: ∀r0 r1,Szs s G x r0 r1->P):P:=by
 by_cases nG:(1048576:Int)<(G.length:Int)
 ·exact hG nG
 obtain⟨r0,e0,f0⟩:=p11 (s:=s) (b:=1048576) (by omega) h1
 by_cases n0:r0<0
 ·exact hA nG r0 e0 n0
 obtain⟨c1,c2,c3,c4⟩:=f0.resolve_left n0;obtain⟨r1,e1,f1⟩:=p12 (x:=x) (b:=r0) ⟨c1,by omega⟩ h3 h4
 by_cases n1:r1<0
 ·exact hB nG r0 e0 n0 r1 e1 n1
 obtain⟨d1,d2,d3,d4⟩:=f1.resolve_left n1;exact hC r0 r1 ⟨by omega,e0,n0,e1,n1,c3,c4,d3,d4⟩
end
end Go.Ve.D

