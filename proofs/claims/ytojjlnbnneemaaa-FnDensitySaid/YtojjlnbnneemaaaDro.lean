/- Draws: set functors on a category, parts of them. -/
import Derived.Test.YtojjlnbnneemaaaDrm
import Derived.Test.YtojjlnbnneemaaaGob
set_option linter.all false
namespace Go.Ve.D
open Go Go.Ve
noncomputable section
def spC_of{c:Cat}(O:Hc c=true):Sp c c.1.toNat (ar c)/\c.1.toNat<=8/\ar c<=40:=by
 have h:=IY O;obtain⟨a1,a2,a3,a4,a5,a6,a7,a8⟩:=h.hd;refine⟨⟨by omega,rfl,a3,by omega,a6,h.row,λf u=>?_,λf u=>?_,λx Y=>?_,λf g u E J=>?_,λf g u E J=>?_⟩,by omega,a2⟩
 .obtain⟨B,A⟩:=h.fr f u
  exact⟨(c.2.1.getD f 0).toNat,by omega,by show c.2.1.getD f 0=_;omega⟩
 .obtain⟨B,A⟩:=h.to f u
  exact⟨(c.2.2.1.getD f 0).toNat,by omega,by show c.2.2.1.getD f 0=_;omega⟩
 .obtain⟨B,A⟩:=h.id (x:Int) (by omega) (by omega)
  rw[tNC]at B A;exact⟨(c.2.2.2.1.getD x 0).toNat,by show _<c.2.1.length;omega,by show c.2.2.2.1.getD x 0=_;omega⟩
 .obtain⟨B,A,W,U⟩:=h.pos f g u E (dT J)
  exact⟨(T c f g).toNat,by show _<c.2.1.length;omega,by show T c f g=_;omega,W,U⟩
 .have:=h.neg f g u E (dF J)
  show T c f g<0;rw[this];decide
def ZU{c:Ca}(h:okD c):okC c:=by
 obtain⟨a,b,d,e,f⟩:=h;exact⟨by omega,by omega,by omega,by omega,λy u=>by have:=f y u;omega⟩
def ZT{f:Sf}(h:okSD f):okS f:=by
 obtain⟨a,b,d,e⟩:=h;exact⟨ZU a,by show f.2.2.2.2.2.1.length<=_;omega,by show f.2.2.2.2.2.2.length<=_;omega,λy u=>by have:=e y u;omega⟩
def p71{c:Ca}(E:okD c){z:Int}(O:0<=z/\z<=1000){s:Src}(B:OkS s):Tot (λr=>okSD r.1/\OkS r.2) (G71 (c,z) s):=by
 delta G71 q4
 refine Bh (p108 (ZU E)) (An (λ_=>Aa ⟨⟨E,Nat.zero_le _,Nat.zero_le _,λy U=>by cases U⟩,B⟩) λe=>?_)
 have e:Hc c=true:=by rw[Bool.not_eq_false']at e;exact e
 obtain⟨u,hn,hm⟩:=spC_of e;exact Ad (p123 u (by omega) (by omega) O B) λv1 A=>Ad (p38 A.2) λZ J=>An (λ_=>Ad (p124 u (by omega) (by omega) A.1 J.2) λY W=>Aa W) λ_=>Aa ⟨A.1.ok u (by omega) (by omega),J.2⟩
end
end Go.Ve.D


namespace Go.Ve.D
open Go Go.Ve
noncomputable section
def YN:LL:=List.replicate 8 (List.replicate 8 1)
def Ql{i:Nat}(u:i<8):YN.getD i []=List.replicate 8 1:=by
 unfold YN;simp only[gDE,List.getElem?_replicate,u,if_true,Option.getD_some]
def WF{i j:Nat}(A:i<8)(u:j<8):(YN.getD i []).getD j 0=1:=by
 rw[Ql A];simp only[gDE,List.getElem?_replicate,u,if_true,Option.getD_some]
def p27{x:LI}(U:WI x):∃(f:Sf) (y:Int),okS f/\G27 x=some (f,y):=by
 have:Tot (λr:Sf×Int=>okS r.1) (G27 x):=by
  unfold G27;refine Ad (p35 U) λv0 h0=>Ad (p72 h0) λv1 B=>Ad (p71 B.1 (by decide) B.2) λv2 O=>Ad (p38 O.2) λv3 J=>An (λ_=>?_) λ_=>Ad (p74 J.2) λv4 h4=>Aa (ZT O.1)
  have W:Tr 8 YN:=⟨⟨rfl,λi u=>by rw[Ql u,List.length_replicate]⟩,λi u=>WF u u,λi j m u Y _ _ _=>WF u Y⟩
  exact Ab trivial (Ad (p48 (n:=8) (by decide) W) λc hc=>by
   obtain⟨m,E,A⟩:=hc;have E:m<=64:=E;exact Ad (p73 A (by decide) (by omega) (k:=16) (by decide)) λg Z=>Ad (p74 J.2) λv6 h6=>Aa (ZT (Z.ok A (by decide) (by omega))))
 obtain⟨⟨f,y⟩,e,B⟩:=this;exact⟨f,y,B,e⟩
end
end Go.Ve.D

