/- Comparing lists: what the program's compare computes, an order; slices.SortFunc at lists of numbers. -/
import Derived.Test.YtnhlomkcachnbaaUs2
import Derived.Test.YtnhlomkcachnbaaLa
namespace Go.Ve.D
open Go Go.Ve Go.Proofs
noncomputable def b115(x y:List Int)(v0:Int):Option (LO Int Int):=(bif(decide (v0<((x.length:Nat):Int)))then(bif(decide (v0=((y.length:Nat):Int)))then(BT (some (1:Int)))else(if(((0:Int)<=v0)/\(v0<((x.length:Nat):Int)))then(if(((0:Int)<=v0)/\(v0<((y.length:Nat):Int)))then(bif(!decide ((x.getD (v0).toNat (0:Int))=(y.getD (v0).toNat (0:Int))))then(if(((0:Int)<=v0)/\(v0<((x.length:Nat):Int)))then(if(((0:Int)<=v0)/\(v0<((y.length:Nat):Int)))then(bif(decide ((x.getD (v0).toNat (0:Int))<(y.getD (v0).toNat (0:Int))))then(BT (some (-(1:Int))))else(BT (some (1:Int))))else none)else none)else(some (LO.next (IntKind.wrap .i64 (v0+(1:Int))))))else none)else none))else(some (LO.brk 0 v0)))
theorem ZF(x y:List Int):G115 (x,y)=Option.bind (Au (b115 x y) (0:Int)) (LO.fin fun i0 (v0:Int)=>(if i0=0 then(bif(decide (((x.length:Nat):Int)<((y.length:Nat):Int)))then(some (-(1:Int)))else(some (0:Int)))else none)):=rfl
theorem p115{x y:List Int}(hx:okL x)(hy:okL y):G115 (x,y)=some (Bg x y):=by
 unfold okL at hx hy
 have hend:b115 x y (x.length:Int)=some (.brk 0 (x.length:Int)):=by
  unfold b115;rw [dF (by omega)];rfl
 have hlong: ∀i:Nat,i<x.length->i=y.length->b115 x y (i:Int)=some (.ret 1):=by
  intro i h1 h2;unfold b115;rw [dT (by omega:((i:Nat):Int)<((x.length:Nat):Int)),dT (by omega:((i:Nat):Int)=((y.length:Nat):Int))]
  rfl
 have hne: ∀i:Nat,i<x.length->i<y.length->x.getD i 0≠y.getD i 0->b115 x y (i:Int)=some (.ret (if x.getD i 0<y.getD i 0 then-1 else 1)):=by
  intro i h1 h2 h3;unfold b115;rw [dT (by omega:((i:Nat):Int)<((x.length:Nat):Int)),dF (by omega: ¬ ((i:Nat):Int)=((y.length:Nat):Int)),cond_true,cond_false]
  have c1:((0:Int)<=(i:Int))/\((i:Int)<((x.length:Nat):Int)):=by omega
  have c2:((0:Int)<=(i:Int))/\((i:Int)<((y.length:Nat):Int)):=by omega
  rw [if_pos c1,if_pos c2,if_pos c1,if_pos c2,tNC,dF h3,Bool.not_false,cond_true];by_cases hlt:x.getD i 0<y.getD i 0
  ·rw [dT hlt,if_pos hlt];rfl
  ·rw [dF hlt,if_neg hlt];rfl
 have heq: ∀i:Nat,i<x.length->i<y.length->x.getD i 0=y.getD i 0->b115 x y (i:Int)=some (.next ((i+1:Nat):Int)):=by
  intro i h1 h2 h3;unfold b115;rw [dT (by omega:((i:Nat):Int)<((x.length:Nat):Int)),dF (by omega: ¬ ((i:Nat):Int)=((y.length:Nat):Int)),cond_true,cond_false]
  have c1:((0:Int)<=(i:Int))/\((i:Int)<((x.length:Nat):Int)):=by omega
  have c2:((0:Int)<=(i:Int))/\((i:Int)<((y.length:Nat):Int)):=by omega
  rw [if_pos c1,if_pos c2,tNC,dT h3,Bool.not_true,cond_false,Dg (by omega) (by omega)]
  rfl
 have key: ∀k i,i+k=x.length->i<=y.length->(Au (b115 x y) (i:Int)=some (.ret (Bg (x.drop i) (y.drop i))))\/(Au (b115 x y) (i:Int)=some (.brk 0 (x.length:Int))/\Bg (x.drop i) (y.drop i)=if x.length<y.length then-1 else 0):=by
  intro k
  induction k with
  |zero=>
   intro i hi hy';obtain rfl:i=x.length:=by omega
   right;refine⟨by rw [A2,hend];rfl,?_⟩
   rw [List.drop_length];cases hd:y.drop x.length with
   |nil=>
    have:=List.drop_eq_nil_iff.1 hd;rw [if_neg (by omega)];rfl
   |cons a l=>
    have:x.length<y.length:=by
     rcases Nat.lt_or_ge x.length y.length with h|h
     ·exact h
     ·rw [List.drop_eq_nil_iff.2 h]at hd;cases hd
    rw [if_pos this];rfl
  |succ k ih=>
   intro i hi hy';have h1:i<x.length:=by omega
   have ex:x.drop i=x.getD i 0::x.drop (i+1):=by
    rw [List.drop_eq_getElem_cons h1,gDE,gEE h1];rfl
   by_cases h2:i=y.length
   ·left
    rw [A2,hlong i h1 h2,ex,h2,List.drop_length];rfl
   ·have h2:i<y.length:=by omega
    have ey:y.drop i=y.getD i 0::y.drop (i+1):=by
     rw [List.drop_eq_getElem_cons h2,gDE,gEE h2];rfl
    by_cases h3:x.getD i 0=y.getD i 0
    ·have e:Au (b115 x y) (i:Int)=Au (b115 x y) ((i+1:Nat):Int):=by rw [A2,heq i h1 h2 h3];rfl
     have ec:Bg (x.drop i) (y.drop i)=Bg (x.drop (i+1)) (y.drop (i+1)):=by
      rw [ex,ey];show(if x.getD i 0=y.getD i 0 then _ else _)=_
      rw [if_pos h3]
     rw [e,ec];exact ih (i+1) (by omega) (by omega)
    ·left
     rw [A2,hne i h1 h2 h3,ex,ey];show _=some (LO.ret (if x.getD i 0=y.getD i 0 then _ else if x.getD i 0<y.getD i 0 then-1 else 1))
     rw [if_neg h3];rfl
 rw [ZF];have h0:=key x.length 0 (by omega) (Nat.zero_le _)
 rw [List.drop_zero,List.drop_zero]at h0;rcases h0 with h|⟨h,hc⟩
 ·refine Aj h rfl
 ·refine Aj h ?_
  show(bif decide (((x.length:Nat):Int)<((y.length:Nat):Int))then some (-(1:Int))else some (0:Int))=_;rw [hc];by_cases hl:x.length<y.length
  ·rw [dT (by omega),if_pos hl];rfl
  ·rw [dF (by omega),if_neg hl];rfl
theorem p141{x y:List Int}(hx:okL x)(hy:okL y):G141 (x,y)=some (Bg x y):=by
 unfold G141;exact Aj (p115 hx hy) rfl
theorem Jp: ∀x:List Int,Bg x x=0
 | []=>rfl
 |a::x=>by
  show(if a=a then Bg x x else _)=0
  rw [if_pos rfl];exact Jp x
theorem HF: ∀x y:List Int,Bg y x= -Bg x y
 | [],[]=>rfl
 | [],_::_=>rfl
 |_::_,[]=>rfl
 |a::x,b::y=>by
  show(if b=a then Bg y x else if b<a then-1 else 1)= -(if a=b then Bg x y else if a<b then-1 else 1)
  by_cases h:a=b
  ·rw [if_pos h,if_pos h.symm];exact HF x y
  ·rw [if_neg h,if_neg (Ne.symm h)]
   by_cases h2:a<b
   ·rw [if_pos h2,if_neg (by omega)];rfl
   ·rw [if_neg h2,if_pos (by omega)]
theorem Jq: ∀x y:List Int,Bg x y=0->x=y
 | [],[],_=>rfl
 | [],_::_,h=>by cases h
 |_::_,[],h=>by cases h
 |a::x,b::y,h=>by
  have h:(if a=b then Bg x y else if a<b then-1 else 1)=0:=h
  by_cases hab:a=b
  ·rw [if_pos hab]at h
   rw [hab,Jq x y h]
  ·rw [if_neg hab]at h
   split at h<;>cases h
theorem H9: ∀x y z:List Int,Bg x y<0->Bg y z<0->Bg x z<0
 | [],[],_,h,_=>by cases h
 | [],_::_,[],_,h=>by cases h
 | [],_::_,_::_,_,_=>by show(-1:Int)<0;decide
 |_::_,[],_,h,_=>by cases h
 |_::_,_::_,[],_,h=>by cases h
 |a::x,b::y,c::z,h1,h2=>by
  have h1:(if a=b then Bg x y else if a<b then-1 else 1)<0:=h1
  have h2:(if b=c then Bg y z else if b<c then-1 else 1)<0:=h2
  show(if a=c then Bg x z else if a<c then-1 else 1)<0
  by_cases hab:a=b
  ·rw [if_pos hab]at h1
   by_cases hbc:b=c
   ·rw [if_pos hbc]at h2
    rw [if_pos (hab.trans hbc)];exact H9 x y z h1 h2
   ·rw [if_neg hbc]at h2
    rw [if_neg (by omega)]
    split at h2
    ·rw [if_pos (by omega)];decide
    ·cases h2
  ·rw [if_neg hab]at h1
   split at h1
   ·rename_i hlt
    by_cases hbc:b=c
    ·rw [if_neg (by omega),if_pos (by omega)];decide
    ·rw [if_neg hbc]at h2
     split at h2
     ·rw [if_neg (by omega),if_pos (by omega)];decide
     ·cases h2
   ·cases h1
theorem N9{x y:List Int}:ltOf Bg x y=true↔Bg x y<0:=by unfold ltOf;simp
theorem H3{x y:List Int}:ltOf Bg x y=false↔0<=Bg x y:=by unfold ltOf;simp
theorem XM:Go.Sort.SWO (ltOf Bg):=by
 refine⟨fun x=>H3.2 (by rw [Jp];decide),fun x y z h1 h2=>N9.2 (H9 x y z (N9.1 h1) (N9.1 h2)),fun x y z h1 h2=>H3.2 ?_⟩
 have h1:=H3.1 h1;have h2:=H3.1 h2;by_cases e1:Bg x y=0
 ·rw [Jq x y e1];exact h2
 by_cases e2:Bg y z=0
 ·rw [<-Jq y z e2];exact h1
 have n1:=HF x y;have n2:=HF y z;have:=H9 z y x (by omega) (by omega)
 have n3:=HF z x;omega
theorem ZA(x y:List Int)(h1:ltOf Bg x y=false)(h2:ltOf Bg y x=false):x=y:=by
 have h1:=H3.1 h1;have h2:=H3.1 h2;have n:=HF x y;exact Jq x y (by omega)
def S140:PF:=⟨0,[(false,(.clo 141 .unit))],(.sl (.sl (.int .i64))),2,false,[]⟩
noncomputable def G140(_:Unit)(x:List (List Int)):Option (Unit×List (List Int)):=UB okL Bg x
theorem a140:Ac Try.prog 140=true:=by kernel_rfl
theorem c140:FTU Try.prog 140 S140 G140:=WI (ρ:=Try.sortL140_ren) Try.sortL140 (t:=.sl (.int .i64)) rfl (d:=1) (g:=141) rfl a141 c141 okL Bg (fun _ _ h1 h2=>p141 h1 h2) XM ZA oneSl
end Go.Ve.D


namespace Go.Ve.D
open Go Go.Ve Go.Proofs
set_option maxRecDepth 100000
def S55:Sig:=⟨[(false,(.sl (.int .i64))),(false,(.int .i64))],[(false,0,(.int .i64))]⟩
noncomputable def E55:Bh:=⟨⟨TB,[],[],[],⟨12,[],0⟩,[]⟩,[],[]⟩
noncomputable def G55(x:((List Int)×Int)):Option Int:=(bif(decide ((IntKind.wrap .i64 (x.2-((x.1.length:Nat):Int)))<(0:Int)))then(some (-(1:Int)))else(some (IntKind.wrap .i64 (x.2-((x.1.length:Nat):Int)))))
theorem t55:tfn E55 Try.f55 S55=G55:=by kernel_rfl
theorem c55:FT Try.prog 55 S55 G55:=AV AS Ap Ao Aq AP Try.func55 (by kernel_rfl) t55
theorem a55:Ac Try.prog 55=true:=by kernel_rfl
def S56:Sig:=⟨[(false,(.sl (.sl (.int .i64)))),(false,(.int .i64))],[(false,0,(.int .i64))]⟩
noncomputable def E56:Bh:=⟨⟨TB,[⟨55,S55,G55⟩],[],[],⟨27,[],0⟩,[]⟩,[(5,[1,5],[]),(5,[1000005,1,5],[])],[]⟩
noncomputable def G56(x:((List (List Int))×Int)):Option Int:=(bif(decide ((IntKind.wrap .i64 (x.2-((x.1.length:Nat):Int)))<(0:Int)))then(some (-(1:Int)))else(Option.bind (Au (fun(v0:(Int×Int))=>(bif(decide (v0.2<((x.1.length:Nat):Int)))then(if(((0:Int)<=v0.2)/\(v0.2<((x.1.length:Nat):Int)))then(Option.bind (G55 ((x.1.getD (v0.2).toNat ([]:(List Int))),v0.1)) (fun(v1:Int)=>(bif(decide (v1<(0:Int)))then(BT (some (-(1:Int))))else(some (LO.next (v1,(IntKind.wrap .i64 (v0.2+(1:Int)))))))))else none)else(some (LO.brk 0 (v0.1,v0.2))))) ((IntKind.wrap .i64 (x.2-((x.1.length:Nat):Int))),(0:Int))) (LO.fin fun i0 (v0:(Int×Int))=>(if i0=0 then(some v0.1)else none))))
theorem t56:tfn E56 Try.f56 S56=G56:=by kernel_rfl
theorem c56:FT Try.prog 56 S56 G56:=AV AS (Ae a55 c55 Ap) Ao Aq AP Try.func56 (by kernel_rfl) t56
theorem a56:Ac Try.prog 56=true:=by kernel_rfl
def S39:Sig:=⟨[(true,(.pair (.int .i64) (.pair (.sl (.int .i64)) (.pair (.sl (.int .i64)) (.pair (.sl (.int .i64)) (.sl (.sl (.int .i64)))))))),(false,(.int .i64))],[(false,0,(.int .i64))]⟩
noncomputable def E39:Bh:=⟨⟨TB,[⟨55,S55,G55⟩,⟨56,S56,G56⟩],[],[],⟨30,[2],0⟩,[]⟩,[],[]⟩
noncomputable def G39(x:((Int×((List Int)×((List Int)×((List Int)×(List (List Int))))))×Int)):Option Int:=(Option.bind (G55 (x.1.2.1,x.2)) (fun(v0:Int)=>(bif(decide (v0<(0:Int)))then(some (-(1:Int)))else(Option.bind (G55 (x.1.2.2.1,v0)) (fun(v1:Int)=>(bif(decide (v1<(0:Int)))then(some (-(1:Int)))else(Option.bind (G55 (x.1.2.2.2.1,v1)) (fun(v2:Int)=>(bif(decide (v2<(0:Int)))then(some (-(1:Int)))else(Option.bind (G56 (x.1.2.2.2.2,v2)) (fun(v3:Int)=>(bif(decide (v3<(0:Int)))then(some (-(1:Int)))else(some v3)))))))))))))
theorem t39:tfn E39 Try.f39 S39=G39:=by kernel_rfl
theorem c39:FT Try.prog 39 S39 G39:=AV AS (Ae a55 c55 (Ae a56 c56 Ap)) Ao Aq AP Try.func39 (by kernel_rfl) t39
theorem a39:Ac Try.prog 39=true:=by kernel_rfl
def S24:Sig:=⟨[(false,(.sl (.int .i64)))],[(false,1,(.sl (.int .i64)))]⟩
noncomputable def E24:Bh:=⟨⟨TB,[],[],[],⟨22,[],0⟩,[]⟩,[(3,[3,4],[1,1003001]),(3,[1000003,3,4],[])],[]⟩
noncomputable def G24(x:(List Int)):Option (List Int):=(if(((0:Int)<=((x.length:Nat):Int))/\((((x.length:Nat):Int)<=((x.length:Nat):Int))/\((((8:Int)*((x.length:Nat):Int))<=(281474976710656:Int))/\(((x.length:Nat):Int)<=(9223372036854775807:Int)))))then(Option.bind (Au (fun(v0:(Int×(List Int)))=>(bif(decide (v0.1<((x.length:Nat):Int)))then(if(((0:Int)<=v0.1)/\(v0.1<((x.length:Nat):Int)))then(if(((0:Int)<=v0.1)/\(v0.1<((v0.2.length:Nat):Int)))then(some (LO.next ((IntKind.wrap .i64 (v0.1+(1:Int))),(v0.2.set (v0.1).toNat (x.getD (v0.1).toNat (0:Int))))))else none)else none)else(some (LO.brk 0 (v0.1,v0.2))))) ((0:Int),(List.replicate (((x.length:Nat):Int)).toNat (0:Int)))) (LO.fin fun i0 (v0:(Int×(List Int)))=>(if i0=0 then(some v0.2)else none)))else none)
theorem t24:tfn E24 Try.f24 S24=G24:=by kernel_rfl
theorem c24:FT Try.prog 24 S24 G24:=AV AS Ap Ao Aq AP Try.func24 (by kernel_rfl) t24
theorem a24:Ac Try.prog 24=true:=by kernel_rfl
def S60:Sig:=⟨[(false,(.sl (.sl (.int .i64))))],[(false,2,(.sl (.sl (.int .i64))))]⟩
noncomputable def E60:Bh:=⟨⟨TB,[⟨24,S24,G24⟩],[],[],⟨23,[],0⟩,[]⟩,[(3,[3,4],[1,1003001]),(3,[1000003,3,4],[])],[]⟩
noncomputable def G60(x:(List (List Int))):Option (List (List Int)):=(if(((0:Int)<=((x.length:Nat):Int))/\((((x.length:Nat):Int)<=((x.length:Nat):Int))/\((((24:Int)*((x.length:Nat):Int))<=(281474976710656:Int))/\(((x.length:Nat):Int)<=(9223372036854775807:Int)))))then(Option.bind (Au (fun(v0:(Int×(List (List Int))))=>(bif(decide (v0.1<((x.length:Nat):Int)))then(if(((0:Int)<=v0.1)/\(v0.1<((x.length:Nat):Int)))then(Option.bind (G24 (x.getD (v0.1).toNat ([]:(List Int)))) (fun(v1:(List Int))=>(if(((0:Int)<=v0.1)/\(v0.1<((v0.2.length:Nat):Int)))then(some (LO.next ((IntKind.wrap .i64 (v0.1+(1:Int))),(v0.2.set (v0.1).toNat v1))))else none)))else none)else(some (LO.brk 0 (v0.1,v0.2))))) ((0:Int),(List.replicate (((x.length:Nat):Int)).toNat ([]:(List Int))))) (LO.fin fun i0 (v0:(Int×(List (List Int))))=>(if i0=0 then(some v0.2)else none)))else none)
theorem t60:tfn E60 Try.f60 S60=G60:=by kernel_rfl
theorem c60:FT Try.prog 60 S60 G60:=AV AS (Ae a24 c24 Ap) Ao Aq AP Try.func60 (by kernel_rfl) t60
theorem a60:Ac Try.prog 60=true:=by kernel_rfl
def S41:Sig:=⟨[(true,(.pair (.int .i64) (.pair (.sl (.int .i64)) (.pair (.sl (.int .i64)) (.pair (.sl (.int .i64)) (.sl (.sl (.int .i64))))))))],[(true,2,(.pair (.int .i64) (.pair (.sl (.int .i64)) (.pair (.sl (.int .i64)) (.pair (.sl (.int .i64)) (.sl (.sl (.int .i64))))))))]⟩
noncomputable def E41:Bh:=⟨⟨TB,[⟨24,S24,G24⟩,⟨60,S60,G60⟩],[],[],⟨24,[1],0⟩,[]⟩,[],[]⟩
noncomputable def G41(x:(Int×((List Int)×((List Int)×((List Int)×(List (List Int))))))):Option (Int×((List Int)×((List Int)×((List Int)×(List (List Int)))))):=(Option.bind (G24 x.2.1) (fun(v0:(List Int))=>(Option.bind (G24 x.2.2.1) (fun(v1:(List Int))=>(Option.bind (G24 x.2.2.2.1) (fun(v2:(List Int))=>(Option.bind (G60 x.2.2.2.2) (fun(v3:(List (List Int)))=>(some (x.1,(v0,(v1,(v2,v3)))))))))))))
theorem t41:tfn E41 Try.f41 S41=G41:=by kernel_rfl
theorem c41:FT Try.prog 41 S41 G41:=AV AS (Ae a24 c24 (Ae a60 c60 Ap)) Ao Aq AP Try.func41 (by kernel_rfl) t41
theorem a41:Ac Try.prog 41=true:=by kernel_rfl
def S184:Sig:=⟨[(false,(.int .i64)),(false,(.int .i64)),(false,(.int .i64))],[(false,0,.bool)]⟩
noncomputable def E184:Bh:=⟨⟨TB,[],[],[],⟨15,[],0⟩,[]⟩,[],[]⟩
noncomputable def G184(x:(Int×(Int×Int))):Option Bool:=(Option.bind (bif(decide (x.2.1<=x.1))then(some (decide (x.1<=x.2.2)))else(some false)) (fun(v0:Bool)=>(some v0)))
theorem t184:tfn E184 Try.f184 S184=G184:=by kernel_rfl
theorem c184:FT Try.prog 184 S184 G184:=AV AS Ap Ao Aq AP Try.func184 (by kernel_rfl) t184
theorem a184:Ac Try.prog 184=true:=by kernel_rfl
def S120:Sig:=⟨[(false,(.int .i64)),(false,(.sl (.int .i64)))],[(false,0,.bool)]⟩
noncomputable def E120:Bh:=⟨⟨TB,[],[],[],⟨25,[],0⟩,[]⟩,[(2,[5],[]),(2,[1000002,5],[])],[]⟩
noncomputable def G120(x:(Int×(List Int))):Option Bool:=(Option.bind (Au (fun(v0:Int)=>(bif(decide (v0<((x.2.length:Nat):Int)))then(if(((0:Int)<=v0)/\(v0<((x.2.length:Nat):Int)))then(Option.bind (bif(decide ((x.2.getD (v0).toNat (0:Int))<(0:Int)))then(some true)else(if(((0:Int)<=v0)/\(v0<((x.2.length:Nat):Int)))then(some (decide (x.1<=(x.2.getD (v0).toNat (0:Int)))))else none)) (fun(v1:Bool)=>(bif v1 then(BT (some false))else(some (LO.next (IntKind.wrap .i64 (v0+(1:Int))))))))else none)else(some (LO.brk 0 v0)))) (0:Int)) (LO.fin fun i0 (v0:Int)=>(if i0=0 then(some true)else none)))
theorem t120:tfn E120 Try.f120 S120=G120:=by kernel_rfl
theorem c120:FT Try.prog 120 S120 G120:=AV AS Ap Ao Aq AP Try.func120 (by kernel_rfl) t120
theorem a120:Ac Try.prog 120=true:=by kernel_rfl
def S220:Sig:=⟨[(false,(.sl (.int .i64))),(false,(.int .i64)),(false,(.int .i64))],[(false,0,.bool)]⟩
noncomputable def E220:Bh:=⟨⟨TB,[⟨120,S120,G120⟩],[],[],⟨16,[14],0⟩,[]⟩,[],[]⟩
noncomputable def G220(x:((List Int)×(Int×Int))):Option Bool:=(Option.bind (bif(decide (((x.1.length:Nat):Int)=x.2.1))then(Option.bind (G120 (x.2.2,x.1)) (fun(v0:Bool)=>(some v0)))else(some false)) (fun(v0:Bool)=>(some v0)))
theorem t220:tfn E220 Try.f220 S220=G220:=by kernel_rfl
theorem c220:FT Try.prog 220 S220 G220:=AV AS (Ae a120 c120 Ap) Ao Aq AP Try.func220 (by kernel_rfl) t220
theorem a220:Ac Try.prog 220=true:=by kernel_rfl
def S149:Sig:=⟨[(true,(.pair (.int .i64) (.pair (.sl (.int .i64)) (.pair (.sl (.int .i64)) (.pair (.sl (.int .i64)) (.sl (.sl (.int .i64))))))))],[(false,0,.bool)]⟩
noncomputable def E149:Bh:=⟨⟨TB,[⟨184,S184,G184⟩,⟨120,S120,G120⟩,⟨220,S220,G220⟩],[],[],⟨159,[1,25,34,54],0⟩,[]⟩,[(7,[4],[2000003]),(7,[1000007,3,4],[]),(12,[5],[2000003]),(12,[1000012,3,5],[]),(17,[6],[2000003,2000005]),(17,[1000017,3,5,6],[])],[]⟩
noncomputable def G149(x:(Int×((List Int)×((List Int)×((List Int)×(List (List Int))))))):Option Bool:=(Option.bind (G184 (x.1,((0:Int),(8:Int)))) (fun(v0:Bool)=>(Option.bind (bif(!v0)then(some true)else(some (decide ((40:Int)<((x.2.1.length:Nat):Int))))) (fun(v1:Bool)=>(Option.bind (bif v1 then(some true)else(Option.bind (G220 (x.2.1,(((x.2.1.length:Nat):Int),x.1))) (fun(v2:Bool)=>(some (!v2))))) (fun(v2:Bool)=>(Option.bind (bif v2 then(some true)else(Option.bind (G220 (x.2.2.1,(((x.2.1.length:Nat):Int),x.1))) (fun(v3:Bool)=>(some (!v3))))) (fun(v3:Bool)=>(Option.bind (bif v3 then(some true)else(some (!decide (((x.2.2.2.2.length:Nat):Int)=((x.2.1.length:Nat):Int))))) (fun(v4:Bool)=>(bif v4 then(some false)else(Option.bind (bif(!decide (((x.2.2.2.1.length:Nat):Int)=x.1))then(some true)else(Option.bind (G120 (((x.2.1.length:Nat):Int),x.2.2.2.1)) (fun(v5:Bool)=>(some (!v5))))) (fun(v5:Bool)=>(bif v5 then(some false)else(Option.bind (Au (fun(v6:Int)=>(bif(decide (v6<x.1))then(if(((0:Int)<=v6)/\(v6<((x.2.2.2.1.length:Nat):Int)))then(if(((0:Int)<=(x.2.2.2.1.getD (v6).toNat (0:Int)))/\((x.2.2.2.1.getD (v6).toNat (0:Int))<((x.2.1.length:Nat):Int)))then(Option.bind (bif(!decide ((x.2.1.getD ((x.2.2.2.1.getD (v6).toNat (0:Int))).toNat (0:Int))=v6))then(some true)else(if(((0:Int)<=v6)/\(v6<((x.2.2.2.1.length:Nat):Int)))then(if(((0:Int)<=(x.2.2.2.1.getD (v6).toNat (0:Int)))/\((x.2.2.2.1.getD (v6).toNat (0:Int))<((x.2.2.1.length:Nat):Int)))then(some (!decide ((x.2.2.1.getD ((x.2.2.2.1.getD (v6).toNat (0:Int))).toNat (0:Int))=v6)))else none)else none)) (fun(v7:Bool)=>(bif v7 then(BT (some false))else(some (LO.next (IntKind.wrap .i64 (v6+(1:Int))))))))else none)else none)else(some (LO.brk 0 v6)))) (0:Int)) (LO.fin fun i6 (v6:Int)=>(if i6=0 then(Option.bind (Au (fun(v7:Int)=>(bif(decide (v7<((x.2.1.length:Nat):Int)))then(if(((0:Int)<=v7)/\(v7<((x.2.2.2.2.length:Nat):Int)))then(bif(!decide ((((x.2.2.2.2.getD (v7).toNat ([]:(List Int))).length:Nat):Int)=((x.2.1.length:Nat):Int)))then(BT (some false))else(Option.bind (Au (fun(v8:Int)=>(bif(decide (v8<((x.2.1.length:Nat):Int)))then(if(((0:Int)<=v7)/\(v7<((x.2.2.2.2.length:Nat):Int)))then(if(((0:Int)<=v8)/\(v8<(((x.2.2.2.2.getD (v7).toNat ([]:(List Int))).length:Nat):Int)))then(if(((0:Int)<=v7)/\(v7<((x.2.2.1.length:Nat):Int)))then(if(((0:Int)<=v8)/\(v8<((x.2.1.length:Nat):Int)))then(bif(!decide ((x.2.2.1.getD (v7).toNat (0:Int))=(x.2.1.getD (v8).toNat (0:Int))))then(bif(!decide (((x.2.2.2.2.getD (v7).toNat ([]:(List Int))).getD (v8).toNat (0:Int))=(-(1:Int))))then(BT (BT (some false)))else(some (LO.next (IntKind.wrap .i64 (v8+(1:Int))))))else(Option.bind (bif(decide (((x.2.2.2.2.getD (v7).toNat ([]:(List Int))).getD (v8).toNat (0:Int))<(0:Int)))then(some true)else(some (decide (((x.2.1.length:Nat):Int)<=((x.2.2.2.2.getD (v7).toNat ([]:(List Int))).getD (v8).toNat (0:Int)))))) (fun(v9:Bool)=>(Option.bind (bif v9 then(some true)else(if(((0:Int)<=((x.2.2.2.2.getD (v7).toNat ([]:(List Int))).getD (v8).toNat (0:Int)))/\(((x.2.2.2.2.getD (v7).toNat ([]:(List Int))).getD (v8).toNat (0:Int))<((x.2.1.length:Nat):Int)))then(if(((0:Int)<=v7)/\(v7<((x.2.1.length:Nat):Int)))then(some (!decide ((x.2.1.getD (((x.2.2.2.2.getD (v7).toNat ([]:(List Int))).getD (v8).toNat (0:Int))).toNat (0:Int))=(x.2.1.getD (v7).toNat (0:Int)))))else none)else none)) (fun(v10:Bool)=>(Option.bind (bif v10 then(some true)else(if(((0:Int)<=((x.2.2.2.2.getD (v7).toNat ([]:(List Int))).getD (v8).toNat (0:Int)))/\(((x.2.2.2.2.getD (v7).toNat ([]:(List Int))).getD (v8).toNat (0:Int))<((x.2.2.1.length:Nat):Int)))then(if(((0:Int)<=v8)/\(v8<((x.2.2.1.length:Nat):Int)))then(some (!decide ((x.2.2.1.getD (((x.2.2.2.2.getD (v7).toNat ([]:(List Int))).getD (v8).toNat (0:Int))).toNat (0:Int))=(x.2.2.1.getD (v8).toNat (0:Int)))))else none)else none)) (fun(v11:Bool)=>(bif v11 then(BT (BT (some false)))else(some (LO.next (IntKind.wrap .i64 (v8+(1:Int)))))))))))))else none)else none)else none)else none)else(some (LO.brk 4 v8)))) (0:Int)) (LO.fin fun i8 (v8:Int)=>(if i8=4 then(some (LO.next (IntKind.wrap .i64 (v7+(1:Int)))))else none))))else none)else(some (LO.brk 2 v7)))) (0:Int)) (LO.fin fun i7 (v7:Int)=>(if i7=2 then(some true)else none)))else none)))))))))))))))))
theorem t149:tfn E149 Try.f149 S149=G149:=by kernel_rfl
theorem c149:FT Try.prog 149 S149 G149:=AV AS (Ae a184 c184 (Ae a120 c120 (Ae a220 c220 Ap))) Ao Aq AP Try.func149 (by kernel_rfl) t149
theorem a149:Ac Try.prog 149=true:=by kernel_rfl
def S150:Sig:=⟨[(true,(.pair (.int .i64) (.pair (.sl (.int .i64)) (.pair (.sl (.int .i64)) (.pair (.sl (.int .i64)) (.sl (.sl (.int .i64))))))))],[(false,0,(.int .i64)),(false,0,(.int .i64)),(false,0,(.int .i64)),(false,0,(.int .i64))]⟩
noncomputable def E150:Bh:=⟨⟨TB,[],[],[],⟨131,[1],0⟩,[]⟩,[(3,[7],[2000006]),(3,[1000003,6,7],[]),(8,[8],[2000006]),(8,[1000008,6,8],[]),(11,[9],[2000006,2000008]),(11,[1000011,6,8,9],[]),(15,[10],[2000006,2000008,2000009]),(15,[1000015,6,8,9,10],[])],[]⟩
noncomputable def G150(x:(Int×((List Int)×((List Int)×((List Int)×(List (List Int))))))):Option (Int×(Int×(Int×Int))):=(Option.bind (Au (fun(v0:Int)=>(bif(decide (v0<((x.2.1.length:Nat):Int)))then(if(((0:Int)<=v0)/\(v0<((x.2.1.length:Nat):Int)))then(if(((0:Int)<=(x.2.1.getD (v0).toNat (0:Int)))/\((x.2.1.getD (v0).toNat (0:Int))<((x.2.2.2.1.length:Nat):Int)))then(if(((0:Int)<=(x.2.2.2.1.getD ((x.2.1.getD (v0).toNat (0:Int))).toNat (0:Int)))/\((x.2.2.2.1.getD ((x.2.1.getD (v0).toNat (0:Int))).toNat (0:Int))<((x.2.2.2.2.length:Nat):Int)))then(if(((0:Int)<=v0)/\(v0<(((x.2.2.2.2.getD ((x.2.2.2.1.getD ((x.2.1.getD (v0).toNat (0:Int))).toNat (0:Int))).toNat ([]:(List Int))).length:Nat):Int)))then(Option.bind (bif(!decide (((x.2.2.2.2.getD ((x.2.2.2.1.getD ((x.2.1.getD (v0).toNat (0:Int))).toNat (0:Int))).toNat ([]:(List Int))).getD (v0).toNat (0:Int))=v0))then(some true)else(if(((0:Int)<=v0)/\(v0<((x.2.2.2.2.length:Nat):Int)))then(if(((0:Int)<=v0)/\(v0<((x.2.2.1.length:Nat):Int)))then(if(((0:Int)<=(x.2.2.1.getD (v0).toNat (0:Int)))/\((x.2.2.1.getD (v0).toNat (0:Int))<((x.2.2.2.1.length:Nat):Int)))then(if(((0:Int)<=(x.2.2.2.1.getD ((x.2.2.1.getD (v0).toNat (0:Int))).toNat (0:Int)))/\((x.2.2.2.1.getD ((x.2.2.1.getD (v0).toNat (0:Int))).toNat (0:Int))<(((x.2.2.2.2.getD (v0).toNat ([]:(List Int))).length:Nat):Int)))then(some (!decide (((x.2.2.2.2.getD (v0).toNat ([]:(List Int))).getD ((x.2.2.2.1.getD ((x.2.2.1.getD (v0).toNat (0:Int))).toNat (0:Int))).toNat (0:Int))=v0)))else none)else none)else none)else none)) (fun(v1:Bool)=>(bif v1 then(BT (some ((1:Int),(v0,((0:Int),(0:Int))))))else(some (LO.next (IntKind.wrap .i64 (v0+(1:Int))))))))else none)else none)else none)else none)else(some (LO.brk 0 v0)))) (0:Int)) (LO.fin fun i0 (v0:Int)=>(if i0=0 then(Option.bind (Au (fun(v1:Int)=>(bif(decide (v1<((x.2.1.length:Nat):Int)))then(Option.bind (Au (fun(v2:Int)=>(bif(decide (v2<((x.2.1.length:Nat):Int)))then(if(((0:Int)<=v1)/\(v1<((x.2.2.1.length:Nat):Int)))then(if(((0:Int)<=v2)/\(v2<((x.2.1.length:Nat):Int)))then(bif(!decide ((x.2.2.1.getD (v1).toNat (0:Int))=(x.2.1.getD (v2).toNat (0:Int))))then(some (LO.next (IntKind.wrap .i64 (v2+(1:Int)))))else(Option.bind (Au (fun(v3:Int)=>(bif(decide (v3<((x.2.1.length:Nat):Int)))then(if(((0:Int)<=v2)/\(v2<((x.2.2.1.length:Nat):Int)))then(if(((0:Int)<=v3)/\(v3<((x.2.1.length:Nat):Int)))then(Option.bind (bif(decide ((x.2.2.1.getD (v2).toNat (0:Int))=(x.2.1.getD (v3).toNat (0:Int))))then(if(((0:Int)<=v1)/\(v1<((x.2.2.2.2.length:Nat):Int)))then(if(((0:Int)<=v2)/\(v2<(((x.2.2.2.2.getD (v1).toNat ([]:(List Int))).length:Nat):Int)))then(if(((0:Int)<=((x.2.2.2.2.getD (v1).toNat ([]:(List Int))).getD (v2).toNat (0:Int)))/\(((x.2.2.2.2.getD (v1).toNat ([]:(List Int))).getD (v2).toNat (0:Int))<((x.2.2.2.2.length:Nat):Int)))then(if(((0:Int)<=v3)/\(v3<(((x.2.2.2.2.getD (((x.2.2.2.2.getD (v1).toNat ([]:(List Int))).getD (v2).toNat (0:Int))).toNat ([]:(List Int))).length:Nat):Int)))then(if(((0:Int)<=v1)/\(v1<((x.2.2.2.2.length:Nat):Int)))then(if(((0:Int)<=v2)/\(v2<((x.2.2.2.2.length:Nat):Int)))then(if(((0:Int)<=v3)/\(v3<(((x.2.2.2.2.getD (v2).toNat ([]:(List Int))).length:Nat):Int)))then(if(((0:Int)<=((x.2.2.2.2.getD (v2).toNat ([]:(List Int))).getD (v3).toNat (0:Int)))/\(((x.2.2.2.2.getD (v2).toNat ([]:(List Int))).getD (v3).toNat (0:Int))<(((x.2.2.2.2.getD (v1).toNat ([]:(List Int))).length:Nat):Int)))then(some (!decide (((x.2.2.2.2.getD (((x.2.2.2.2.getD (v1).toNat ([]:(List Int))).getD (v2).toNat (0:Int))).toNat ([]:(List Int))).getD (v3).toNat (0:Int))=((x.2.2.2.2.getD (v1).toNat ([]:(List Int))).getD (((x.2.2.2.2.getD (v2).toNat ([]:(List Int))).getD (v3).toNat (0:Int))).toNat (0:Int)))))else none)else none)else none)else none)else none)else none)else none)else none)else(some false)) (fun(v4:Bool)=>(bif v4 then(BT (BT (BT (some ((2:Int),(v1,(v2,v3)))))))else(some (LO.next (IntKind.wrap .i64 (v3+(1:Int))))))))else none)else none)else(some (LO.brk 6 v3)))) (0:Int)) (LO.fin fun i3 (v3:Int)=>(if i3=6 then(some (LO.next (IntKind.wrap .i64 (v2+(1:Int)))))else none))))else none)else none)else(some (LO.brk 4 v2)))) (0:Int)) (LO.fin fun i2 (v2:Int)=>(if i2=4 then(some (LO.next (IntKind.wrap .i64 (v1+(1:Int)))))else none)))else(some (LO.brk 2 v1)))) (0:Int)) (LO.fin fun i1 (v1:Int)=>(if i1=2 then(some ((0:Int),((0:Int),((0:Int),(0:Int)))))else none)))else none)))
theorem t150:tfn E150 Try.f150 S150=G150:=by kernel_rfl
theorem c150:FT Try.prog 150 S150 G150:=AV AS Ap Ao Aq AP Try.func150 (by kernel_rfl) t150
theorem a150:Ac Try.prog 150=true:=by kernel_rfl
def S82:Sig:=⟨[(true,(.pair (.int .i64) (.pair (.sl (.int .i64)) (.pair (.sl (.int .i64)) (.pair (.sl (.int .i64)) (.sl (.sl (.int .i64))))))))],[(false,0,.bool)]⟩
noncomputable def E82:Bh:=⟨⟨TB,[⟨149,S149,G149⟩,⟨150,S150,G150⟩],[],[],⟨19,[1],0⟩,[]⟩,[],[]⟩
noncomputable def G82(x:(Int×((List Int)×((List Int)×((List Int)×(List (List Int))))))):Option Bool:=(Option.bind (G149 (x.1,(x.2.1,(x.2.2.1,(x.2.2.2.1,x.2.2.2.2))))) (fun(v0:Bool)=>(bif(!v0)then(some false)else(Option.bind (G150 (x.1,(x.2.1,(x.2.2.1,(x.2.2.2.1,x.2.2.2.2))))) (fun(v1:(Int×(Int×(Int×Int))))=>(some (decide (v1.1=(0:Int)))))))))
theorem t82:tfn E82 Try.f82 S82=G82:=by kernel_rfl
theorem c82:FT Try.prog 82 S82 G82:=AV AS (Ae a149 c149 (Ae a150 c150 Ap)) Ao Aq AP Try.func82 (by kernel_rfl) t82
theorem a82:Ac Try.prog 82=true:=by kernel_rfl
def S133:Sig:=⟨[(true,(.pair (.int .i64) (.pair (.sl (.int .i64)) (.pair (.sl (.int .i64)) (.pair (.sl (.int .i64)) (.sl (.sl (.int .i64)))))))),(false,(.int .i64))],[(false,0,.bool)]⟩
noncomputable def E133:Bh:=⟨⟨TB,[],[],[],⟨13,[2],0⟩,[]⟩,[],[]⟩
noncomputable def G133(x:((Int×((List Int)×((List Int)×((List Int)×(List (List Int))))))×Int)):Option Bool:=(Option.bind (bif(decide ((0:Int)<=x.2))then(some (decide (x.2<x.1.1)))else(some false)) (fun(v0:Bool)=>(some v0)))
theorem t133:tfn E133 Try.f133 S133=G133:=by kernel_rfl
theorem c133:FT Try.prog 133 S133 G133:=AV AS Ap Ao Aq AP Try.func133 (by kernel_rfl) t133
theorem a133:Ac Try.prog 133=true:=by kernel_rfl
def S76:Sig:=⟨[(true,(.pair (.int .i64) (.pair (.sl (.int .i64)) (.pair (.sl (.int .i64)) (.pair (.sl (.int .i64)) (.sl (.sl (.int .i64)))))))),(false,(.int .i64))],[(false,0,(.int .i64))]⟩
noncomputable def E76:Bh:=⟨⟨TB,[⟨82,S82,G82⟩,⟨133,S133,G133⟩],[],[],⟨14,[2],0⟩,[]⟩,[],[]⟩
noncomputable def G76(x:((Int×((List Int)×((List Int)×((List Int)×(List (List Int))))))×Int)):Option Int:=(Option.bind (G82 (x.1.1,(x.1.2.1,(x.1.2.2.1,(x.1.2.2.2.1,x.1.2.2.2.2))))) (fun(v0:Bool)=>(bif(!v0)then(some (1:Int))else(Option.bind (G133 ((x.1.1,(x.1.2.1,(x.1.2.2.1,(x.1.2.2.2.1,x.1.2.2.2.2)))),x.2)) (fun(v1:Bool)=>(bif(!v1)then(some (2:Int))else(some (0:Int))))))))
theorem t76:tfn E76 Try.f76 S76=G76:=by kernel_rfl
theorem c76:FT Try.prog 76 S76 G76:=AV AS (Ae a82 c82 (Ae a133 c133 Ap)) Ao Aq AP Try.func76 (by kernel_rfl) t76
theorem a76:Ac Try.prog 76=true:=by kernel_rfl
def S135:Sig:=⟨[(true,(.pair (.int .i64) (.pair (.sl (.int .i64)) (.pair (.sl (.int .i64)) (.pair (.sl (.int .i64)) (.sl (.sl (.int .i64)))))))),(false,(.int .i64))],[(false,1,(.sl (.int .i64)))]⟩
noncomputable def E135:Bh:=⟨⟨TB,[],[],[],⟨27,[2],0⟩,[]⟩,[(3,[5,6],[1,1005001]),(3,[1000003,5,6],[])],[]⟩
noncomputable def G135(x:((Int×((List Int)×((List Int)×((List Int)×(List (List Int))))))×Int)):Option (List Int):=(Option.bind (Au (fun(v0:(Int×(List Int)))=>(bif(decide (v0.1<((x.1.2.1.length:Nat):Int)))then(if(((0:Int)<=v0.1)/\(v0.1<((x.1.2.1.length:Nat):Int)))then(bif(decide ((x.1.2.1.getD (v0.1).toNat (0:Int))=x.2))then(if((v0.2.length+(v0.1::([]:(List Int))).length)<=17592186044416)then(some (LO.next ((IntKind.wrap .i64 (v0.1+(1:Int))),(v0.2++(v0.1::([]:(List Int)))))))else none)else(some (LO.next ((IntKind.wrap .i64 (v0.1+(1:Int))),v0.2))))else none)else(some (LO.brk 0 (v0.1,v0.2))))) ((0:Int),([]:(List Int)))) (LO.fin fun i0 (v0:(Int×(List Int)))=>(if i0=0 then(some v0.2)else none)))
theorem t135:tfn E135 Try.f135 S135=G135:=by kernel_rfl
theorem c135:FT Try.prog 135 S135 G135:=AV AS Ap Ao Aq AP Try.func135 (by kernel_rfl) t135
theorem a135:Ac Try.prog 135=true:=by kernel_rfl
def S66:Sig:=⟨[(false,(.sl (.int .i64))),(false,(.sl (.int .i64)))],[(false,0,.bool)]⟩
noncomputable def E66:Bh:=⟨⟨TB,[],[],[],⟨26,[],0⟩,[]⟩,[(4,[5],[]),(4,[1000004,5],[])],[]⟩
noncomputable def G66(x:((List Int)×(List Int))):Option Bool:=(bif(!decide (((x.1.length:Nat):Int)=((x.2.length:Nat):Int)))then(some false)else(Option.bind (Au (fun(v0:Int)=>(bif(decide (v0<((x.1.length:Nat):Int)))then(if(((0:Int)<=v0)/\(v0<((x.1.length:Nat):Int)))then(if(((0:Int)<=v0)/\(v0<((x.2.length:Nat):Int)))then(bif(!decide ((x.1.getD (v0).toNat (0:Int))=(x.2.getD (v0).toNat (0:Int))))then(BT (some false))else(some (LO.next (IntKind.wrap .i64 (v0+(1:Int))))))else none)else none)else(some (LO.brk 0 v0)))) (0:Int)) (LO.fin fun i0 (v0:Int)=>(if i0=0 then(some true)else none))))
theorem t66:tfn E66 Try.f66 S66=G66:=by kernel_rfl
theorem c66:FT Try.prog 66 S66 G66:=AV AS Ap Ao Aq AP Try.func66 (by kernel_rfl) t66
theorem a66:Ac Try.prog 66=true:=by kernel_rfl
def S86:Sig:=⟨[(false,(.sl (.sl (.int .i64)))),(false,(.sl (.int .i64)))],[(false,0,(.int .i64))]⟩
noncomputable def E86:Bh:=⟨⟨TB,[⟨66,S66,G66⟩],[],[],⟨19,[],0⟩,[]⟩,[(2,[5],[]),(2,[1000002,5],[])],[]⟩
noncomputable def G86(x:((List (List Int))×(List Int))):Option Int:=(Option.bind (Au (fun(v0:Int)=>(bif(decide (v0<((x.1.length:Nat):Int)))then(if(((0:Int)<=v0)/\(v0<((x.1.length:Nat):Int)))then(Option.bind (G66 ((x.1.getD (v0).toNat ([]:(List Int))),x.2)) (fun(v1:Bool)=>(bif v1 then(BT (some v0))else(some (LO.next (IntKind.wrap .i64 (v0+(1:Int))))))))else none)else(some (LO.brk 0 v0)))) (0:Int)) (LO.fin fun i0 (v0:Int)=>(if i0=0 then(some (-(1:Int)))else none)))
theorem t86:tfn E86 Try.f86 S86=G86:=by kernel_rfl
theorem c86:FT Try.prog 86 S86 G86:=AV AS (Ae a66 c66 Ap) Ao Aq AP Try.func86 (by kernel_rfl) t86
theorem a86:Ac Try.prog 86=true:=by kernel_rfl
def S121:Sig:=⟨[(false,(.sl (.int .i64))),(false,(.int .i64))],[(false,0,.bool)]⟩
noncomputable def E121:Bh:=⟨⟨TB,[],[],[],⟨18,[],0⟩,[]⟩,[(2,[5],[]),(2,[1000002,5],[])],[]⟩
noncomputable def G121(x:((List Int)×Int)):Option Bool:=(Option.bind (Au (fun(v0:Int)=>(bif(decide (v0<((x.1.length:Nat):Int)))then(if(((0:Int)<=v0)/\(v0<((x.1.length:Nat):Int)))then(bif(decide ((x.1.getD (v0).toNat (0:Int))=x.2))then(BT (some true))else(some (LO.next (IntKind.wrap .i64 (v0+(1:Int))))))else none)else(some (LO.brk 0 v0)))) (0:Int)) (LO.fin fun i0 (v0:Int)=>(if i0=0 then(some false)else none)))
theorem t121:tfn E121 Try.f121 S121=G121:=by kernel_rfl
theorem c121:FT Try.prog 121 S121 G121:=AV AS Ap Ao Aq AP Try.func121 (by kernel_rfl) t121
theorem a121:Ac Try.prog 121=true:=by kernel_rfl
def S171:Sig:=⟨[(false,(.sl (.int .i64)))],[(false,1,(.sl (.int .i64)))]⟩
noncomputable def E171:Bh:=⟨⟨TB,[],[],[],⟨6,[],0⟩,[]⟩,[],[]⟩
noncomputable def G171(x:(List Int)):Option (List Int):=(if((([]:(List Int)).length+x.length)<=17592186044416)then(some (([]:(List Int))++x))else none)
theorem t171:tfn E171 Try.f171 S171=G171:=by kernel_rfl
theorem c171:FT Try.prog 171 S171 G171:=AV AS Ap Ao Aq AP Try.func171 (by kernel_rfl) t171
theorem a171:Ac Try.prog 171=true:=by kernel_rfl
def S210:Sig:=⟨[(true,(.pair (.int .i64) (.pair (.sl (.int .i64)) (.pair (.sl (.int .i64)) (.pair (.sl (.int .i64)) (.sl (.sl (.int .i64)))))))),(false,(.int .i64)),(false,(.int .i64))],[(false,0,(.int .i64))]⟩
noncomputable def E210:Bh:=⟨⟨TB,[],[],[],⟨15,[3],0⟩,[]⟩,[],[]⟩
noncomputable def G210(x:((Int×((List Int)×((List Int)×((List Int)×(List (List Int))))))×(Int×Int))):Option Int:=(if(((0:Int)<=x.2.1)/\(x.2.1<((x.1.2.2.2.2.length:Nat):Int)))then(if(((0:Int)<=x.2.2)/\(x.2.2<(((x.1.2.2.2.2.getD (x.2.1).toNat ([]:(List Int))).length:Nat):Int)))then(some ((x.1.2.2.2.2.getD (x.2.1).toNat ([]:(List Int))).getD (x.2.2).toNat (0:Int)))else none)else none)
theorem t210:tfn E210 Try.f210 S210=G210:=by kernel_rfl
theorem c210:FT Try.prog 210 S210 G210:=AV AS Ap Ao Aq AP Try.func210 (by kernel_rfl) t210
theorem a210:Ac Try.prog 210=true:=by kernel_rfl
def S196:Sig:=⟨[(true,(.pair (.int .i64) (.pair (.sl (.int .i64)) (.pair (.sl (.int .i64)) (.pair (.sl (.int .i64)) (.sl (.sl (.int .i64)))))))),(false,(.sl (.int .i64)))],[(false,1,(.sl (.int .i64)))]⟩
noncomputable def E196:Bh:=⟨⟨TB,[⟨210,S210,G210⟩],[],[],⟨66,[2],0⟩,[]⟩,[(3,[5,6],[1,1005001]),(3,[1000003,5,6],[]),(6,[5,7],[1,1005001,2000006]),(6,[1000006,5,6,7],[]),(12,[5,8,9],[2,1005001,1008002]),(12,[1000012,5,8,9],[])],[]⟩
noncomputable def G196(x:((Int×((List Int)×((List Int)×((List Int)×(List (List Int))))))×(List Int))):Option (List Int):=(if(((0:Int)<=((x.1.2.1.length:Nat):Int))/\((((x.1.2.1.length:Nat):Int)<=((x.1.2.1.length:Nat):Int))/\((((1:Int)*((x.1.2.1.length:Nat):Int))<=(281474976710656:Int))/\(((x.1.2.1.length:Nat):Int)<=(9223372036854775807:Int)))))then(Option.bind (Au (fun(v0:(Int×(List Bool)))=>(bif(decide (v0.1<((x.2.length:Nat):Int)))then(Option.bind (Au (fun(v1:(Int×(List Bool)))=>(bif(decide (v1.1<((x.1.2.1.length:Nat):Int)))then(if(((0:Int)<=v0.1)/\(v0.1<((x.2.length:Nat):Int)))then(if(((0:Int)<=(x.2.getD (v0.1).toNat (0:Int)))/\((x.2.getD (v0.1).toNat (0:Int))<((x.1.2.2.1.length:Nat):Int)))then(if(((0:Int)<=v1.1)/\(v1.1<((x.1.2.1.length:Nat):Int)))then(bif(decide ((x.1.2.2.1.getD ((x.2.getD (v0.1).toNat (0:Int))).toNat (0:Int))=(x.1.2.1.getD (v1.1).toNat (0:Int))))then(if(((0:Int)<=v0.1)/\(v0.1<((x.2.length:Nat):Int)))then(Option.bind (G210 ((x.1.1,(x.1.2.1,(x.1.2.2.1,(x.1.2.2.2.1,x.1.2.2.2.2)))),((x.2.getD (v0.1).toNat (0:Int)),v1.1))) (fun(v2:Int)=>(if(((0:Int)<=v2)/\(v2<((v1.2.length:Nat):Int)))then(some (LO.next ((IntKind.wrap .i64 (v1.1+(1:Int))),(v1.2.set (v2).toNat true))))else none)))else none)else(some (LO.next ((IntKind.wrap .i64 (v1.1+(1:Int))),v1.2))))else none)else none)else none)else(some (LO.brk 2 (v1.1,v1.2))))) ((0:Int),v0.2)) (LO.fin fun i1 (v1:(Int×(List Bool)))=>(if i1=2 then(some (LO.next ((IntKind.wrap .i64 (v0.1+(1:Int))),v1.2)))else none)))else(some (LO.brk 0 (v0.1,v0.2))))) ((0:Int),(List.replicate (((x.1.2.1.length:Nat):Int)).toNat false))) (LO.fin fun i0 (v0:(Int×(List Bool)))=>(if i0=0 then(Option.bind (Au (fun(v1:(Int×(List Int)))=>(bif(decide (v1.1<((v0.2.length:Nat):Int)))then(if(((0:Int)<=v1.1)/\(v1.1<((v0.2.length:Nat):Int)))then(bif(v0.2.getD (v1.1).toNat false)then(if((v1.2.length+(v1.1::([]:(List Int))).length)<=17592186044416)then(some (LO.next ((IntKind.wrap .i64 (v1.1+(1:Int))),(v1.2++(v1.1::([]:(List Int)))))))else none)else(some (LO.next ((IntKind.wrap .i64 (v1.1+(1:Int))),v1.2))))else none)else(some (LO.brk 4 (v1.1,v1.2))))) ((0:Int),([]:(List Int)))) (LO.fin fun i1 (v1:(Int×(List Int)))=>(if i1=4 then(some v1.2)else none)))else none)))else none)
theorem t196:tfn E196 Try.f196 S196=G196:=by kernel_rfl
theorem c196:FT Try.prog 196 S196 G196:=AV AS (Ae a210 c210 Ap) Ao Aq AP Try.func196 (by kernel_rfl) t196
theorem a196:Ac Try.prog 196=true:=by kernel_rfl
def S134:PF:=⟨3,[(true,(.pair (.int .i64) (.pair (.sl (.int .i64)) (.pair (.sl (.int .i64)) (.pair (.sl (.int .i64)) (.sl (.sl (.int .i64)))))))),(false,(.sl (.int .i64))),(false,(.sl (.int .i64)))],(.sl (.sl (.int .i64))),1,true,[(false,1,(.sl (.sl (.int .i64))))]⟩
noncomputable def E134(r:(PT S134.ps).T->S134.t.T->Option ((RT S134.rs).T×S134.t.T)):Bh:=⟨⟨TB,[⟨86,S86,G86⟩,⟨121,S121,G121⟩,⟨171,S171,G171⟩,⟨196,S196,G196⟩],[],[],⟨52,[4,48,3000003],1⟩,[⟨134,S134,r⟩]⟩,[(5,[3,9],[3,2000001,2000002,1003003]),(5,[1000005,1,2,3,9],[])],[(8,13)]⟩
noncomputable def B134(r:((Int×((List Int)×((List Int)×((List Int)×(List (List Int))))))×((List Int)×(List Int)))->(List (List Int))->Option ((List (List Int))×(List (List Int))))(z:((Int×((List Int)×((List Int)×((List Int)×(List (List Int))))))×((List Int)×(List Int))))(x:(List (List Int))):Option ((List (List Int))×(List (List Int))):=(Option.bind (G86 (x,z.2.2)) (fun(v0:Int)=>(Option.bind (bif(decide ((0:Int)<=v0))then(some true)else(some (decide ((16:Int)<((x.length:Nat):Int))))) (fun(v1:Bool)=>(bif v1 then(some (x,([]:(List (List Int)))))else(if((x.length+(z.2.2::([]:(List (List Int)))).length)<=5864062014805)then(Option.bind (Au (fun(v2:(Int×(List (List Int))))=>(bif(decide (v2.1<((z.2.1.length:Nat):Int)))then(if(((0:Int)<=v2.1)/\(v2.1<((z.2.1.length:Nat):Int)))then(Option.bind (G121 (z.2.2,(z.2.1.getD (v2.1).toNat (0:Int)))) (fun(v3:Bool)=>(bif(!v3)then(Option.bind (G171 z.2.2) (fun(v4:(List Int))=>(if(((0:Int)<=v2.1)/\(v2.1<((z.2.1.length:Nat):Int)))then(if((v4.length+((z.2.1.getD (v2.1).toNat (0:Int))::([]:(List Int))).length)<=17592186044416)then(Option.bind (G196 ((z.1.1,(z.1.2.1,(z.1.2.2.1,(z.1.2.2.2.1,z.1.2.2.2.2)))),(v4++((z.2.1.getD (v2.1).toNat (0:Int))::([]:(List Int)))))) (fun(v5:(List Int))=>(Option.bind (r ((z.1.1,(z.1.2.1,(z.1.2.2.1,(z.1.2.2.2.1,z.1.2.2.2.2)))),(z.2.1,v5)) v2.2) (fun(v6:((List (List Int))×(List (List Int))))=>(some (LO.next ((IntKind.wrap .i64 (v2.1+(1:Int))),v6.1)))))))else none)else none)))else(some (LO.next ((IntKind.wrap .i64 (v2.1+(1:Int))),v2.2))))))else none)else(some (LO.brk 0 (v2.1,v2.2))))) ((0:Int),(x++(z.2.2::([]:(List (List Int))))))) (LO.fin fun i2 (v2:(Int×(List (List Int))))=>(if i2=0 then(some (v2.2,([]:(List (List Int)))))else none)))else none))))))
noncomputable def R134:Nat->((Int×((List Int)×((List Int)×((List Int)×(List (List Int))))))×((List Int)×(List Int)))->(List (List Int))->Option ((List (List Int))×(List (List Int)))
 |0,_,_=>none
 |n+1,z,x=>B134 (R134 n) z x
noncomputable def G134(z:((Int×((List Int)×((List Int)×((List Int)×(List (List Int))))))×((List Int)×(List Int))))(x:(List (List Int))):Option ((List (List Int))×(List (List Int))):=R134 4096 z x
theorem t134:(fun r=>tfnU (E134 r) Try.f134 S134)=B134:=by kernel_rfl
theorem a134:Ac Try.prog 134=true:=by kernel_rfl
theorem b134{r:(PT S134.ps).T->S134.t.T->Option ((RT S134.rs).T×S134.t.T)}(h:FTU Try.prog 134 S134 r):FTU Try.prog 134 S134 (B134 r):=FTU_fn (E:=E134 r) AS (Ae a86 c86 (Ae a121 c121 (Ae a171 c171 (Ae a196 c196 Ap)))) Ao Aq AP Try.func134 (by kernel_rfl) (congrFun t134 r) (LL a134 rfl h H7)
theorem r134: ∀n,FTU Try.prog 134 S134 (R134 n)
 |0=>fun _ _ _ h=>by cases h
 |n+1=>b134 (r134 n)
theorem c134:FTU Try.prog 134 S134 G134:=r134 4096
def S156:Sig:=⟨[(false,(.sl (.int .i64))),(false,(.sl (.int .i64)))],[(false,0,.bool)]⟩
noncomputable def E156:Bh:=⟨⟨TB,[],[],[],⟨41,[],0⟩,[]⟩,[(2,[5],[]),(2,[1000002,5],[])],[]⟩
noncomputable def G156(x:((List Int)×(List Int))):Option Bool:=(Option.bind (Au (fun(v0:Int)=>(Option.bind (bif(decide (v0<((x.1.length:Nat):Int)))then(some (decide (v0<((x.2.length:Nat):Int))))else(some false)) (fun(v1:Bool)=>(bif v1 then(if(((0:Int)<=v0)/\(v0<((x.1.length:Nat):Int)))then(if(((0:Int)<=v0)/\(v0<((x.2.length:Nat):Int)))then(bif(!decide ((x.1.getD (v0).toNat (0:Int))=(x.2.getD (v0).toNat (0:Int))))then(if(((0:Int)<=v0)/\(v0<((x.1.length:Nat):Int)))then(if(((0:Int)<=v0)/\(v0<((x.2.length:Nat):Int)))then(BT (some (decide ((x.1.getD (v0).toNat (0:Int))<(x.2.getD (v0).toNat (0:Int))))))else none)else none)else(some (LO.next (IntKind.wrap .i64 (v0+(1:Int))))))else none)else none)else(some (LO.brk 0 v0)))))) (0:Int)) (LO.fin fun i0 (v0:Int)=>(if i0=0 then(some (decide (((x.1.length:Nat):Int)<((x.2.length:Nat):Int))))else none)))
theorem t156:tfn E156 Try.f156 S156=G156:=by kernel_rfl
theorem c156:FT Try.prog 156 S156 G156:=AV AS Ap Ao Aq AP Try.func156 (by kernel_rfl) t156
theorem a156:Ac Try.prog 156=true:=by kernel_rfl
def S88:Sig:=⟨[(false,(.sl (.sl (.int .i64))))],[(false,1,(.sl (.sl (.int .i64))))]⟩
noncomputable def E88:Bh:=⟨⟨TB2,[⟨156,S156,G156⟩],[],[],⟨51,[29],0⟩,[]⟩,[(3,[3,4],[2,1003002]),(3,[1000003,3,4],[]),(6,[3,5],[2,1003002,2000004]),(6,[1000006,3,4,5],[])],[]⟩
noncomputable def G88(x:(List (List Int))):Option (List (List Int)):=(if((([]:(List (List Int))).length+x.length)<=5864062014805)then(Option.bind (Au (fun(v0:(Int×(List (List Int))))=>(bif(decide (v0.1<((v0.2.length:Nat):Int)))then(Option.bind (Au (fun(v1:(Int×(List (List Int))))=>(Option.bind (bif(decide ((0:Int)<v1.1))then(if(((0:Int)<=v1.1)/\(v1.1<((v1.2.length:Nat):Int)))then(if(((0:Int)<=(IntKind.wrap .i64 (v1.1-(1:Int))))/\((IntKind.wrap .i64 (v1.1-(1:Int)))<((v1.2.length:Nat):Int)))then(Option.bind (G156 ((v1.2.getD (v1.1).toNat ([]:(List Int))),(v1.2.getD ((IntKind.wrap .i64 (v1.1-(1:Int)))).toNat ([]:(List Int))))) (fun(v2:Bool)=>(some v2)))else none)else none)else(some false)) (fun(v2:Bool)=>(bif v2 then(if(((0:Int)<=v1.1)/\(v1.1<((v1.2.length:Nat):Int)))then(if(((0:Int)<=(IntKind.wrap .i64 (v1.1-(1:Int))))/\((IntKind.wrap .i64 (v1.1-(1:Int)))<((v1.2.length:Nat):Int)))then(if(((0:Int)<=v1.1)/\(v1.1<((v1.2.length:Nat):Int)))then(if(((0:Int)<=(IntKind.wrap .i64 (v1.1-(1:Int))))/\((IntKind.wrap .i64 (v1.1-(1:Int)))<(((v1.2.set (v1.1).toNat (v1.2.getD ((IntKind.wrap .i64 (v1.1-(1:Int)))).toNat ([]:(List Int)))).length:Nat):Int)))then(some (LO.next ((IntKind.wrap .i64 (v1.1-(1:Int))),((v1.2.set (v1.1).toNat (v1.2.getD ((IntKind.wrap .i64 (v1.1-(1:Int)))).toNat ([]:(List Int)))).set ((IntKind.wrap .i64 (v1.1-(1:Int)))).toNat (v1.2.getD (v1.1).toNat ([]:(List Int)))))))else none)else none)else none)else none)else(some (LO.brk 2 (v1.1,v1.2))))))) (v0.1,v0.2)) (LO.fin fun i1 (v1:(Int×(List (List Int))))=>(if i1=2 then(some (LO.next ((IntKind.wrap .i64 (v0.1+(1:Int))),v1.2)))else none)))else(some (LO.brk 0 (v0.1,v0.2))))) ((1:Int),(([]:(List (List Int)))++x))) (LO.fin fun i0 (v0:(Int×(List (List Int))))=>(if i0=0 then(some v0.2)else none)))else none)
theorem t88:tfn E88 Try.f88 S88=G88:=by kernel_rfl
theorem c88:FT Try.prog 88 S88 G88:=AV Uk (Ae a156 c156 Ap) Ao Aq AP Try.func88 (by kernel_rfl) t88
theorem a88:Ac Try.prog 88=true:=by kernel_rfl
def S77:Sig:=⟨[(true,(.pair (.int .i64) (.pair (.sl (.int .i64)) (.pair (.sl (.int .i64)) (.pair (.sl (.int .i64)) (.sl (.sl (.int .i64)))))))),(false,(.int .i64))],[(false,1,(.sl (.sl (.int .i64)))),(false,0,.bool)]⟩
noncomputable def E77:Bh:=⟨⟨TB2,[⟨135,S135,G135⟩,⟨88,S88,G88⟩],[],[],⟨19,[2,10,11,13],0⟩,[⟨134,S134,G134⟩]⟩,[],[]⟩
noncomputable def G77(x:((Int×((List Int)×((List Int)×((List Int)×(List (List Int))))))×Int)):Option ((List (List Int))×Bool):=(Option.bind (G135 ((x.1.1,(x.1.2.1,(x.1.2.2.1,(x.1.2.2.2.1,x.1.2.2.2.2)))),x.2)) (fun(v0:(List Int))=>(Option.bind (G134 ((x.1.1,(x.1.2.1,(x.1.2.2.1,(x.1.2.2.2.1,x.1.2.2.2.2)))),(v0,([]:(List Int)))) ([]:(List (List Int)))) (fun(v1:((List (List Int))×(List (List Int))))=>(Option.bind (G88 v1.1) (fun(v2:(List (List Int)))=>(some (v2,(decide (((v1.1.length:Nat):Int)<=(16:Int)))))))))))
theorem t77:tfn E77 Try.f77 S77=G77:=by kernel_rfl
theorem c77:FT Try.prog 77 S77 G77:=AV Uk (Ae a135 c135 (Ae a88 c88 Ap)) Ao Aq AP Try.func77 (by kernel_rfl) t77 (LL a134 rfl c134 H7)
theorem a77:Ac Try.prog 77=true:=by kernel_rfl
def S40:Sig:=⟨[(true,(.pair (.int .i64) (.pair (.sl (.int .i64)) (.pair (.sl (.int .i64)) (.pair (.sl (.int .i64)) (.sl (.sl (.int .i64)))))))),(false,(.int .i64))],[(false,1,(.sl (.sl (.int .i64)))),(false,0,(.int .i64))]⟩
noncomputable def E40:Bh:=⟨⟨TB2,[⟨76,S76,G76⟩,⟨77,S77,G77⟩],[],[],⟨24,[2],0⟩,[]⟩,[],[]⟩
noncomputable def G40(x:((Int×((List Int)×((List Int)×((List Int)×(List (List Int))))))×Int)):Option ((List (List Int))×Int):=(Option.bind (G76 ((x.1.1,(x.1.2.1,(x.1.2.2.1,(x.1.2.2.2.1,x.1.2.2.2.2)))),x.2)) (fun(v0:Int)=>(bif(!decide (v0=(0:Int)))then(some (([]:(List (List Int))),v0))else(Option.bind (G77 ((x.1.1,(x.1.2.1,(x.1.2.2.1,(x.1.2.2.2.1,x.1.2.2.2.2)))),x.2)) (fun(v1:((List (List Int))×Bool))=>(bif(!v1.2)then(some (([]:(List (List Int))),(3:Int)))else(some (v1.1,(0:Int)))))))))
theorem t40:tfn E40 Try.f40 S40=G40:=by kernel_rfl
theorem c40:FT Try.prog 40 S40 G40:=AV Uk (Ae a76 c76 (Ae a77 c77 Ap)) Ao Aq AP Try.func40 (by kernel_rfl) t40
theorem a40:Ac Try.prog 40=true:=by kernel_rfl
def S159:Sig:=⟨[(false,(.ptr (.pair (.int .i64) (.pair (.sl (.int .i64)) (.pair (.sl (.int .i64)) (.pair (.sl (.int .i64)) (.sl (.sl (.int .i64)))))))))],[(false,0,(.int .i64))]⟩
noncomputable def E159:Bh:=⟨⟨TB,[],[],[],⟨8,[],0⟩,[]⟩,[],[]⟩
noncomputable def G159(x:(Int×((List Int)×((List Int)×((List Int)×(List (List Int))))))):Option Int:=(some ((x.2.1.length:Nat):Int))
theorem t159:tfn E159 Try.f159 S159=G159:=by kernel_rfl
theorem c159:FT Try.prog 159 S159 G159:=AV AS Ap Ao Aq AP Try.func159 (by kernel_rfl) t159
theorem a159:Ac Try.prog 159=true:=by kernel_rfl
def S195:Sig:=⟨[(false,(.int .i64)),(false,(.int .i64)),(false,(.int .i64))],[(false,0,.bool)]⟩
noncomputable def E195:Bh:=⟨⟨TB,[],[],[],⟨15,[],0⟩,[]⟩,[],[]⟩
noncomputable def G195(x:(Int×(Int×Int))):Option Bool:=(Option.bind (bif(decide (x.2.1<=x.1))then(some (decide (x.1<=x.2.2)))else(some false)) (fun(v0:Bool)=>(some v0)))
theorem t195:tfn E195 Try.f195 S195=G195:=by kernel_rfl
theorem c195:FT Try.prog 195 S195 G195:=AV AS Ap Ao Aq AP Try.func195 (by kernel_rfl) t195
theorem a195:Ac Try.prog 195=true:=by kernel_rfl
def S127:Sig:=⟨[(false,(.sl (.int .i64))),(false,(.int .i64))],[(false,0,.bool)]⟩
noncomputable def E127:Bh:=⟨⟨TB,[⟨195,S195,G195⟩],[],[],⟨19,[],0⟩,[]⟩,[(2,[9],[2000007,2000008]),(2,[1000002,7,8,9],[])],[]⟩
noncomputable def G127(x:((List Int)×Int)):Option Bool:=(Option.bind (Au (fun(v0:Int)=>(bif(decide (v0<((x.1.length:Nat):Int)))then(if(((0:Int)<=v0)/\(v0<((x.1.length:Nat):Int)))then(Option.bind (G195 ((x.1.getD (v0).toNat (0:Int)),((0:Int),(IntKind.wrap .i64 (x.2-(1:Int)))))) (fun(v1:Bool)=>(bif(!v1)then(BT (some false))else(some (LO.next (IntKind.wrap .i64 (v0+(1:Int))))))))else none)else(some (LO.brk 0 v0)))) (0:Int)) (LO.fin fun i0 (v0:Int)=>(if i0=0 then(some true)else none)))
theorem t127:tfn E127 Try.f127 S127=G127:=by kernel_rfl
theorem c127:FT Try.prog 127 S127 G127:=AV AS (Ae a195 c195 Ap) Ao Aq AP Try.func127 (by kernel_rfl) t127
theorem a127:Ac Try.prog 127=true:=by kernel_rfl
def S222:Sig:=⟨[(false,(.ptr (.pair (.int .i64) (.pair (.sl (.int .i64)) (.pair (.sl (.int .i64)) (.pair (.sl (.int .i64)) (.sl (.sl (.int .i64))))))))),(false,(.int .i64))],[(true,0,(.pair (.int .i64) (.int .i64)))]⟩
noncomputable def E222:Bh:=⟨⟨TB,[],[],[],⟨20,[],0⟩,[]⟩,[],[]⟩
noncomputable def G222(x:((Int×((List Int)×((List Int)×((List Int)×(List (List Int))))))×Int)):Option (Int×Int):=(if(((0:Int)<=x.2)/\(x.2<((x.1.2.1.length:Nat):Int)))then(if(((0:Int)<=x.2)/\(x.2<((x.1.2.2.1.length:Nat):Int)))then(some ((x.1.2.1.getD (x.2).toNat (0:Int)),(x.1.2.2.1.getD (x.2).toNat (0:Int))))else none)else none)
theorem t222:tfn E222 Try.f222 S222=G222:=by kernel_rfl
theorem c222:FT Try.prog 222 S222 G222:=AV AS Ap Ao Aq AP Try.func222 (by kernel_rfl) t222
theorem a222:Ac Try.prog 222=true:=by kernel_rfl
def S157:Sig:=⟨[(false,(.ptr (.pair (.int .i64) (.pair (.sl (.int .i64)) (.pair (.sl (.int .i64)) (.pair (.sl (.int .i64)) (.sl (.sl (.int .i64)))))))))],[(false,0,.bool)]⟩
noncomputable def E157:Bh:=⟨⟨TB,[⟨159,S159,G159⟩,⟨195,S195,G195⟩,⟨127,S127,G127⟩,⟨222,S222,G222⟩],[],[],⟨167,[40,52,71,147],0⟩,[]⟩,[(7,[88],[2000003,2000086,2000087]),(7,[1000007,3,86,87,88],[]),(13,[106],[2000003,2000104,2000105]),(13,[1000013,3,104,105,106],[]),(18,[117],[2000003,2000006,2000104,2000105,2000106,2000115,2000116]),(18,[1000018,3,6,104,105,106,115,116,117],[])],[]⟩
noncomputable def G157(x:(Int×((List Int)×((List Int)×((List Int)×(List (List Int))))))):Option Bool:=(Option.bind (G159 x) (fun(v0:Int)=>(Option.bind (G195 (x.1,((0:Int),(8:Int)))) (fun(v1:Bool)=>(Option.bind (bif(!v1)then(some true)else(some (decide ((40:Int)<v0)))) (fun(v2:Bool)=>(Option.bind (bif v2 then(some true)else(some (!decide (((x.2.2.1.length:Nat):Int)=v0)))) (fun(v3:Bool)=>(Option.bind (bif v3 then(some true)else(Option.bind (G127 (x.2.1,x.1)) (fun(v4:Bool)=>(some (!v4))))) (fun(v4:Bool)=>(Option.bind (bif v4 then(some true)else(Option.bind (G127 (x.2.2.1,x.1)) (fun(v5:Bool)=>(some (!v5))))) (fun(v5:Bool)=>(bif v5 then(some false)else(Option.bind (bif(!decide (((x.2.2.2.1.length:Nat):Int)=x.1))then(some true)else(Option.bind (G127 (x.2.2.2.1,v0)) (fun(v6:Bool)=>(some (!v6))))) (fun(v6:Bool)=>(Option.bind (bif v6 then(some true)else(some (!decide (((x.2.2.2.2.length:Nat):Int)=v0)))) (fun(v7:Bool)=>(bif v7 then(some false)else(Option.bind (Au (fun(v8:Int)=>(bif(decide (v8<((x.2.2.2.1.length:Nat):Int)))then(if(((0:Int)<=v8)/\(v8<((x.2.2.2.1.length:Nat):Int)))then(Option.bind (G222 (x,(x.2.2.2.1.getD (v8).toNat (0:Int)))) (fun(v9:(Int×Int))=>(bif(!((decide (v9.1=v8))&&((decide (v9.2=v8))&&true)))then(BT (some false))else(some (LO.next (IntKind.wrap .i64 (v8+(1:Int))))))))else none)else(some (LO.brk 0 v8)))) (0:Int)) (LO.fin fun i8 (v8:Int)=>(if i8=0 then(Option.bind (Au (fun(v9:Int)=>(bif(decide (v9<((x.2.2.2.2.length:Nat):Int)))then(if(((0:Int)<=v9)/\(v9<((x.2.2.2.2.length:Nat):Int)))then(bif(!decide ((((x.2.2.2.2.getD (v9).toNat ([]:(List Int))).length:Nat):Int)=v0))then(BT (some false))else(Option.bind (Au (fun(v10:Int)=>(bif(decide (v10<(((x.2.2.2.2.getD (v9).toNat ([]:(List Int))).length:Nat):Int)))then(if(((0:Int)<=v10)/\(v10<(((x.2.2.2.2.getD (v9).toNat ([]:(List Int))).length:Nat):Int)))then(if(((0:Int)<=v9)/\(v9<((x.2.2.1.length:Nat):Int)))then(if(((0:Int)<=v10)/\(v10<((x.2.1.length:Nat):Int)))then(bif(!decide ((x.2.2.1.getD (v9).toNat (0:Int))=(x.2.1.getD (v10).toNat (0:Int))))then(bif(!decide (((x.2.2.2.2.getD (v9).toNat ([]:(List Int))).getD (v10).toNat (0:Int))=(-(1:Int))))then(BT (BT (some false)))else(some (LO.next (IntKind.wrap .i64 (v10+(1:Int))))))else(Option.bind (G195 (((x.2.2.2.2.getD (v9).toNat ([]:(List Int))).getD (v10).toNat (0:Int)),((0:Int),(IntKind.wrap .i64 (v0-(1:Int)))))) (fun(v11:Bool)=>(Option.bind (bif(!v11)then(some true)else(Option.bind (G222 (x,((x.2.2.2.2.getD (v9).toNat ([]:(List Int))).getD (v10).toNat (0:Int)))) (fun(v12:(Int×Int))=>(if(((0:Int)<=v9)/\(v9<((x.2.1.length:Nat):Int)))then(if(((0:Int)<=v10)/\(v10<((x.2.2.1.length:Nat):Int)))then(some (!((decide (v12.1=(x.2.1.getD (v9).toNat (0:Int))))&&((decide (v12.2=(x.2.2.1.getD (v10).toNat (0:Int))))&&true))))else none)else none)))) (fun(v12:Bool)=>(bif v12 then(BT (BT (some false)))else(some (LO.next (IntKind.wrap .i64 (v10+(1:Int)))))))))))else none)else none)else none)else(some (LO.brk 4 v10)))) (0:Int)) (LO.fin fun i10 (v10:Int)=>(if i10=4 then(some (LO.next (IntKind.wrap .i64 (v9+(1:Int)))))else none))))else none)else(some (LO.brk 2 v9)))) (0:Int)) (LO.fin fun i9 (v9:Int)=>(if i9=2 then(some true)else none)))else none)))))))))))))))))))))
theorem t157:tfn E157 Try.f157 S157=G157:=by kernel_rfl
theorem c157:FT Try.prog 157 S157 G157:=AV AS (Ae a159 c159 (Ae a195 c195 (Ae a127 c127 (Ae a222 c222 Ap)))) Ao Aq AP Try.func157 (by kernel_rfl) t157
theorem a157:Ac Try.prog 157=true:=by kernel_rfl
def S197:Sig:=⟨[(false,(.ptr (.pair (.int .i64) (.pair (.sl (.int .i64)) (.pair (.sl (.int .i64)) (.pair (.sl (.int .i64)) (.sl (.sl (.int .i64))))))))),(false,(.int .i64)),(false,(.int .i64))],[(false,0,(.int .i64))]⟩
noncomputable def E197:Bh:=⟨⟨TB,[],[],[],⟨17,[],0⟩,[]⟩,[],[]⟩
noncomputable def G197(x:((Int×((List Int)×((List Int)×((List Int)×(List (List Int))))))×(Int×Int))):Option Int:=(if(((0:Int)<=x.2.1)/\(x.2.1<((x.1.2.2.2.2.length:Nat):Int)))then(if(((0:Int)<=x.2.2)/\(x.2.2<(((x.1.2.2.2.2.getD (x.2.1).toNat ([]:(List Int))).length:Nat):Int)))then(some ((x.1.2.2.2.2.getD (x.2.1).toNat ([]:(List Int))).getD (x.2.2).toNat (0:Int)))else none)else none)
theorem t197:tfn E197 Try.f197 S197=G197:=by kernel_rfl
theorem c197:FT Try.prog 197 S197 G197:=AV AS Ap Ao Aq AP Try.func197 (by kernel_rfl) t197
theorem a197:Ac Try.prog 197=true:=by kernel_rfl
def S158:Sig:=⟨[(false,(.ptr (.pair (.int .i64) (.pair (.sl (.int .i64)) (.pair (.sl (.int .i64)) (.pair (.sl (.int .i64)) (.sl (.sl (.int .i64)))))))))],[(false,0,(.int .i64)),(false,0,(.int .i64)),(false,0,(.int .i64)),(false,0,(.int .i64))]⟩
noncomputable def E158:Bh:=⟨⟨TB,[⟨159,S159,G159⟩,⟨197,S197,G197⟩],[],[],⟨102,[52,87,89,95,96],0⟩,[]⟩,[(3,[7],[2000006]),(3,[1000003,6,7],[]),(8,[8],[2000006]),(8,[1000008,6,8],[]),(11,[9],[2000006,2000008]),(11,[1000011,6,8,9],[]),(15,[10],[2000006,2000008,2000009]),(15,[1000015,6,8,9,10],[])],[]⟩
noncomputable def G158(x:(Int×((List Int)×((List Int)×((List Int)×(List (List Int))))))):Option (Int×(Int×(Int×Int))):=(Option.bind (G159 x) (fun(v0:Int)=>(Option.bind (Au (fun(v1:Int)=>(bif(decide (v1<v0))then(if(((0:Int)<=v1)/\(v1<((x.2.1.length:Nat):Int)))then(if(((0:Int)<=(x.2.1.getD (v1).toNat (0:Int)))/\((x.2.1.getD (v1).toNat (0:Int))<((x.2.2.2.1.length:Nat):Int)))then(Option.bind (G197 (x,((x.2.2.2.1.getD ((x.2.1.getD (v1).toNat (0:Int))).toNat (0:Int)),v1))) (fun(v2:Int)=>(Option.bind (bif(!decide (v2=v1))then(some true)else(if(((0:Int)<=v1)/\(v1<((x.2.2.1.length:Nat):Int)))then(if(((0:Int)<=(x.2.2.1.getD (v1).toNat (0:Int)))/\((x.2.2.1.getD (v1).toNat (0:Int))<((x.2.2.2.1.length:Nat):Int)))then(Option.bind (G197 (x,(v1,(x.2.2.2.1.getD ((x.2.2.1.getD (v1).toNat (0:Int))).toNat (0:Int))))) (fun(v3:Int)=>(some (!decide (v3=v1)))))else none)else none)) (fun(v3:Bool)=>(bif v3 then(BT (some ((1:Int),(v1,((0:Int),(0:Int))))))else(some (LO.next (IntKind.wrap .i64 (v1+(1:Int))))))))))else none)else none)else(some (LO.brk 0 v1)))) (0:Int)) (LO.fin fun i1 (v1:Int)=>(if i1=0 then(Option.bind (Au (fun(v2:Int)=>(bif(decide (v2<v0))then(Option.bind (Au (fun(v3:Int)=>(bif(decide (v3<v0))then(Option.bind (G197 (x,(v2,v3))) (fun(v4:Int)=>(bif(decide (v4<(0:Int)))then(some (LO.next (IntKind.wrap .i64 (v3+(1:Int)))))else(Option.bind (Au (fun(v5:Int)=>(bif(decide (v5<v0))then(Option.bind (G197 (x,(v3,v5))) (fun(v6:Int)=>(Option.bind (bif(decide ((0:Int)<=v6))then(Option.bind (G197 (x,(v2,v3))) (fun(v7:Int)=>(Option.bind (G197 (x,(v7,v5))) (fun(v8:Int)=>(Option.bind (G197 (x,(v3,v5))) (fun(v9:Int)=>(Option.bind (G197 (x,(v2,v9))) (fun(v10:Int)=>(some (!decide (v8=v10)))))))))))else(some false)) (fun(v7:Bool)=>(bif v7 then(BT (BT (BT (some ((2:Int),(v2,(v3,v5)))))))else(some (LO.next (IntKind.wrap .i64 (v5+(1:Int))))))))))else(some (LO.brk 6 v5)))) (0:Int)) (LO.fin fun i5 (v5:Int)=>(if i5=6 then(some (LO.next (IntKind.wrap .i64 (v3+(1:Int)))))else none))))))else(some (LO.brk 4 v3)))) (0:Int)) (LO.fin fun i3 (v3:Int)=>(if i3=4 then(some (LO.next (IntKind.wrap .i64 (v2+(1:Int)))))else none)))else(some (LO.brk 2 v2)))) (0:Int)) (LO.fin fun i2 (v2:Int)=>(if i2=2 then(some ((0:Int),((0:Int),((0:Int),(0:Int)))))else none)))else none)))))
theorem t158:tfn E158 Try.f158 S158=G158:=by kernel_rfl
theorem c158:FT Try.prog 158 S158 G158:=AV AS (Ae a159 c159 (Ae a197 c197 Ap)) Ao Aq AP Try.func158 (by kernel_rfl) t158
theorem a158:Ac Try.prog 158=true:=by kernel_rfl
def S89:Sig:=⟨[(false,(.ptr (.pair (.int .i64) (.pair (.sl (.int .i64)) (.pair (.sl (.int .i64)) (.pair (.sl (.int .i64)) (.sl (.sl (.int .i64)))))))))],[(false,0,.bool)]⟩
noncomputable def E89:Bh:=⟨⟨TB,[⟨157,S157,G157⟩,⟨158,S158,G158⟩],[],[],⟨19,[],0⟩,[]⟩,[],[]⟩
noncomputable def G89(x:(Int×((List Int)×((List Int)×((List Int)×(List (List Int))))))):Option Bool:=(Option.bind (G157 x) (fun(v0:Bool)=>(bif(!v0)then(some false)else(Option.bind (G158 x) (fun(v1:(Int×(Int×(Int×Int))))=>(some (decide (v1.1=(0:Int)))))))))
theorem t89:tfn E89 Try.f89 S89=G89:=by kernel_rfl
theorem c89:FT Try.prog 89 S89 G89:=AV AS (Ae a157 c157 (Ae a158 c158 Ap)) Ao Aq AP Try.func89 (by kernel_rfl) t89
theorem a89:Ac Try.prog 89=true:=by kernel_rfl
def S78:Sig:=⟨[(false,(.ptr (.pair (.int .i64) (.pair (.sl (.int .i64)) (.pair (.sl (.int .i64)) (.pair (.sl (.int .i64)) (.sl (.sl (.int .i64))))))))),(false,(.sl (.int .i64)))],[(false,0,(.int .i64))]⟩
noncomputable def E78:Bh:=⟨⟨TB,[⟨127,S127,G127⟩,⟨89,S89,G89⟩],[],[],⟨15,[],0⟩,[]⟩,[],[]⟩
noncomputable def G78(x:((Int×((List Int)×((List Int)×((List Int)×(List (List Int))))))×(List Int))):Option Int:=(Option.bind (G89 x.1) (fun(v0:Bool)=>(bif(!v0)then(some (1:Int))else(Option.bind (G127 (x.2,x.1.1)) (fun(v1:Bool)=>(bif(!v1)then(some (2:Int))else(some (0:Int))))))))
theorem t78:tfn E78 Try.f78 S78=G78:=by kernel_rfl
theorem c78:FT Try.prog 78 S78 G78:=AV AS (Ae a127 c127 (Ae a89 c89 Ap)) Ao Aq AP Try.func78 (by kernel_rfl) t78
theorem a78:Ac Try.prog 78=true:=by kernel_rfl
def S131:Sig:=⟨[(false,(.ptr (.pair (.int .i64) (.pair (.sl (.int .i64)) (.pair (.sl (.int .i64)) (.pair (.sl (.int .i64)) (.sl (.sl (.int .i64))))))))),(false,(.int .i64))],[(false,1,(.sl (.int .i64)))]⟩
noncomputable def E131:Bh:=⟨⟨TB,[],[],[],⟨28,[],0⟩,[]⟩,[(3,[5,14],[1,1005001,2000012,2000013]),(3,[1000003,5,12,13,14],[])],[]⟩
noncomputable def G131(x:((Int×((List Int)×((List Int)×((List Int)×(List (List Int))))))×Int)):Option (List Int):=(Option.bind (Au (fun(v0:(Int×(List Int)))=>(bif(decide (v0.1<((x.1.2.1.length:Nat):Int)))then(if(((0:Int)<=v0.1)/\(v0.1<((x.1.2.1.length:Nat):Int)))then(bif(decide ((x.1.2.1.getD (v0.1).toNat (0:Int))=x.2))then(if((v0.2.length+(v0.1::([]:(List Int))).length)<=17592186044416)then(some (LO.next ((IntKind.wrap .i64 (v0.1+(1:Int))),(v0.2++(v0.1::([]:(List Int)))))))else none)else(some (LO.next ((IntKind.wrap .i64 (v0.1+(1:Int))),v0.2))))else none)else(some (LO.brk 0 (v0.1,v0.2))))) ((0:Int),([]:(List Int)))) (LO.fin fun i0 (v0:(Int×(List Int)))=>(if i0=0 then(some v0.2)else none)))
theorem t131:tfn E131 Try.f131 S131=G131:=by kernel_rfl
theorem c131:FT Try.prog 131 S131 G131:=AV AS Ap Ao Aq AP Try.func131 (by kernel_rfl) t131
theorem a131:Ac Try.prog 131=true:=by kernel_rfl
def S137:Sig:=⟨[(false,(.sl (.int .i64)))],[(false,1,(.sl (.int .i64)))]⟩
noncomputable def E137:Bh:=⟨⟨TB,[],[],[],⟨6,[],0⟩,[]⟩,[],[]⟩
noncomputable def G137(x:(List Int)):Option (List Int):=(if((([]:(List Int)).length+x.length)<=17592186044416)then(some (([]:(List Int))++x))else none)
theorem t137:tfn E137 Try.f137 S137=G137:=by kernel_rfl
theorem c137:FT Try.prog 137 S137 G137:=AV AS Ap Ao Aq AP Try.func137 (by kernel_rfl) t137
theorem a137:Ac Try.prog 137=true:=by kernel_rfl
def S94:Sig:=⟨[(false,(.sl .bool))],[(false,1,(.sl (.int .i64)))]⟩
noncomputable def E94:Bh:=⟨⟨TB,[],[],[],⟨21,[],0⟩,[]⟩,[(3,[3,9],[1,1003001,2000007,2000008]),(3,[1000003,3,7,8,9],[])],[]⟩
noncomputable def G94(x:(List Bool)):Option (List Int):=(Option.bind (Au (fun(v0:(Int×(List Int)))=>(bif(decide (v0.1<((x.length:Nat):Int)))then(if(((0:Int)<=v0.1)/\(v0.1<((x.length:Nat):Int)))then(bif(x.getD (v0.1).toNat false)then(if((v0.2.length+(v0.1::([]:(List Int))).length)<=17592186044416)then(some (LO.next ((IntKind.wrap .i64 (v0.1+(1:Int))),(v0.2++(v0.1::([]:(List Int)))))))else none)else(some (LO.next ((IntKind.wrap .i64 (v0.1+(1:Int))),v0.2))))else none)else(some (LO.brk 0 (v0.1,v0.2))))) ((0:Int),([]:(List Int)))) (LO.fin fun i0 (v0:(Int×(List Int)))=>(if i0=0 then(some v0.2)else none)))
theorem t94:tfn E94 Try.f94 S94=G94:=by kernel_rfl
theorem c94:FT Try.prog 94 S94 G94:=AV AS Ap Ao Aq AP Try.func94 (by kernel_rfl) t94
theorem a94:Ac Try.prog 94=true:=by kernel_rfl
def S136:Sig:=⟨[(false,(.ptr (.pair (.int .i64) (.pair (.sl (.int .i64)) (.pair (.sl (.int .i64)) (.pair (.sl (.int .i64)) (.sl (.sl (.int .i64))))))))),(false,(.sl (.int .i64)))],[(false,1,(.sl (.int .i64)))]⟩
noncomputable def E136:Bh:=⟨⟨TB,[⟨159,S159,G159⟩,⟨197,S197,G197⟩,⟨131,S131,G131⟩,⟨94,S94,G94⟩],[],[],⟨43,[],0⟩,[]⟩,[(3,[5,15],[1,1005001,2000013,2000014]),(3,[1000003,5,13,14,15],[]),(6,[5,27,29],[1,2,1005001,2000007,2000013,2000014,2000015,1027002,2000028]),(6,[1000006,5,7,13,14,15,27,28,29],[])],[]⟩
noncomputable def G136(x:((Int×((List Int)×((List Int)×((List Int)×(List (List Int))))))×(List Int))):Option (List Int):=(Option.bind (G159 x.1) (fun(v0:Int)=>(if(((0:Int)<=v0)/\((v0<=v0)/\((((1:Int)*v0)<=(281474976710656:Int))/\(v0<=(9223372036854775807:Int)))))then(Option.bind (Au (fun(v1:(Int×(List Bool)))=>(bif(decide (v1.1<((x.2.length:Nat):Int)))then(if(((0:Int)<=v1.1)/\(v1.1<((x.2.length:Nat):Int)))then(if(((0:Int)<=(x.2.getD (v1.1).toNat (0:Int)))/\((x.2.getD (v1.1).toNat (0:Int))<((x.1.2.2.1.length:Nat):Int)))then(Option.bind (G131 (x.1,(x.1.2.2.1.getD ((x.2.getD (v1.1).toNat (0:Int))).toNat (0:Int)))) (fun(v2:(List Int))=>(Option.bind (Au (fun(v3:(Int×((List Bool)×(List Int))))=>(bif(decide (v3.1<((v2.length:Nat):Int)))then(if(((0:Int)<=v3.1)/\(v3.1<((v3.2.2.length:Nat):Int)))then(Option.bind (G197 (x.1,((x.2.getD (v1.1).toNat (0:Int)),(v3.2.2.getD (v3.1).toNat (0:Int))))) (fun(v4:Int)=>(if(((0:Int)<=v4)/\(v4<((v3.2.1.length:Nat):Int)))then(some (LO.next ((IntKind.wrap .i64 (v3.1+(1:Int))),((v3.2.1.set (v4).toNat true),v3.2.2))))else none)))else none)else(some (LO.brk 2 (v3.1,(v3.2.1,v3.2.2)))))) ((0:Int),(v1.2,v2))) (LO.fin fun i3 (v3:(Int×((List Bool)×(List Int))))=>(if i3=2 then(some (LO.next ((IntKind.wrap .i64 (v1.1+(1:Int))),v3.2.1)))else none)))))else none)else none)else(some (LO.brk 0 (v1.1,v1.2))))) ((0:Int),(List.replicate (v0).toNat false))) (LO.fin fun i1 (v1:(Int×(List Bool)))=>(if i1=0 then(Option.bind (G94 v1.2) (fun(v2:(List Int))=>(some v2)))else none)))else none)))
theorem t136:tfn E136 Try.f136 S136=G136:=by kernel_rfl
theorem c136:FT Try.prog 136 S136 G136:=AV AS (Ae a159 c159 (Ae a197 c197 (Ae a131 c131 (Ae a94 c94 Ap)))) Ao Aq AP Try.func136 (by kernel_rfl) t136
theorem a136:Ac Try.prog 136=true:=by kernel_rfl
def S68:Sig:=⟨[(false,(.sl (.int .i64))),(false,(.sl (.int .i64)))],[(false,0,.bool)]⟩
noncomputable def E68:Bh:=⟨⟨TB,[⟨115,S115,G115⟩],[],[],⟨9,[],0⟩,[]⟩,[],[]⟩
noncomputable def G68(x:((List Int)×(List Int))):Option Bool:=(Option.bind (G115 (x.1,x.2)) (fun(v0:Int)=>(some (decide (v0=(0:Int))))))
theorem t68:tfn E68 Try.f68 S68=G68:=by kernel_rfl
theorem c68:FT Try.prog 68 S68 G68:=AV AS (Ae a115 c115 Ap) Ao Aq AP Try.func68 (by kernel_rfl) t68
theorem a68:Ac Try.prog 68=true:=by kernel_rfl
def S139:Sig:=⟨[(false,(.sl (.int .i64))),(false,(.ptr (.sl (.int .i64))))],[(false,0,.bool)]⟩
noncomputable def E139:Bh:=⟨⟨TB,[⟨68,S68,G68⟩],[],[],⟨7,[],0⟩,[]⟩,[],[]⟩
noncomputable def G139(x:((List Int)×(List Int))):Option Bool:=(Option.bind (G68 (x.2,x.1)) (fun(v0:Bool)=>(some v0)))
theorem t139:tfn E139 Try.f139 S139=G139:=by kernel_rfl
theorem c139:FT Try.prog 139 S139 G139:=AV AS (Ae a68 c68 Ap) Ao Aq AP Try.func139 (by kernel_rfl) t139
theorem a139:Ac Try.prog 139=true:=by kernel_rfl
def S198:Sig:=⟨[(false,(.sl (.sl (.int .i64)))),(false,(.clo 139 (.ptr (.sl (.int .i64)))))],[(false,0,(.int .i64))]⟩
noncomputable def E198:Bh:=⟨⟨TB,[⟨139,S139,G139⟩],[],[],⟨19,[],0⟩,[]⟩,[(2,[8],[2000007]),(2,[1000002,7,8],[])],[]⟩
noncomputable def G198(x:((List (List Int))×(List Int))):Option Int:=(Option.bind (Au (fun(v0:Int)=>(bif(decide (v0<((x.1.length:Nat):Int)))then(if(((0:Int)<=v0)/\(v0<((x.1.length:Nat):Int)))then(Option.bind (G139 ((x.1.getD (v0).toNat ([]:(List Int))),x.2)) (fun(v1:Bool)=>(bif v1 then(BT (some v0))else(some (LO.next (IntKind.wrap .i64 (v0+(1:Int))))))))else none)else(some (LO.brk 0 v0)))) (0:Int)) (LO.fin fun i0 (v0:Int)=>(if i0=0 then(some (-(1:Int)))else none)))
theorem t198:tfn E198 Try.f198 S198=G198:=by kernel_rfl
theorem c198:FT Try.prog 198 S198 G198:=AV AS (Ae a139 c139 Ap) Ao Aq AP Try.func198 (by kernel_rfl) t198
theorem a198:Ac Try.prog 198=true:=by kernel_rfl
def S138:Sig:=⟨[(false,(.sl (.sl (.int .i64)))),(false,(.clo 139 (.ptr (.sl (.int .i64)))))],[(false,0,.bool)]⟩
noncomputable def E138:Bh:=⟨⟨TB,[⟨139,S139,G139⟩,⟨198,S198,G198⟩],[],[],⟨9,[],0⟩,[]⟩,[],[]⟩
noncomputable def G138(x:((List (List Int))×(List Int))):Option Bool:=(Option.bind (G198 (x.1,x.2)) (fun(v0:Int)=>(some (decide ((0:Int)<=v0)))))
theorem t138:tfn E138 Try.f138 S138=G138:=by kernel_rfl
theorem c138:FT Try.prog 138 S138 G138:=AV AS (Ae a139 c139 (Ae a198 c198 Ap)) Ao Aq AP Try.func138 (by kernel_rfl) t138
theorem a138:Ac Try.prog 138=true:=by kernel_rfl
def S79:Sig:=⟨[(false,(.ptr (.pair (.int .i64) (.pair (.sl (.int .i64)) (.pair (.sl (.int .i64)) (.pair (.sl (.int .i64)) (.sl (.sl (.int .i64))))))))),(false,(.int .i64))],[(false,2,(.sl (.sl (.int .i64)))),(false,0,.bool)]⟩
noncomputable def E79:Bh:=⟨⟨TB,[⟨131,S131,G131⟩,⟨137,S137,G137⟩,⟨136,S136,G136⟩,⟨139,S139,G139⟩,⟨138,S138,G138⟩,⟨141,S141,G141⟩],[],[],⟨51,[3000006],0⟩,[⟨140,S140,G140⟩]⟩,[(3,[6,7],[2,1006002]),(3,[1000003,6,7],[]),(6,[6,21,23],[2,3,1006002,2000007,1021003,2000022]),(6,[1000006,6,7,21,22,23],[])],[]⟩
noncomputable def G79(x:((Int×((List Int)×((List Int)×((List Int)×(List (List Int))))))×Int)):Option ((List (List Int))×Bool):=(if True then(Option.bind (Au (fun(v0:(Int×(List (List Int))))=>(bif(decide (v0.1<((v0.2.length:Nat):Int)))then(Option.bind (G131 (x.1,x.2)) (fun(v1:(List Int))=>(Option.bind (Au (fun(v2:(Int×((List (List Int))×(List Int))))=>(bif(decide (v2.1<((v1.length:Nat):Int)))then(if(((0:Int)<=v2.1)/\(v2.1<((v2.2.2.length:Nat):Int)))then(if(((0:Int)<=v0.1)/\(v0.1<((v2.2.1.length:Nat):Int)))then(Option.bind (G137 (v2.2.1.getD (v0.1).toNat ([]:(List Int)))) (fun(v3:(List Int))=>(if((v3.length+((v2.2.2.getD (v2.1).toNat (0:Int))::([]:(List Int))).length)<=17592186044416)then(Option.bind (G136 (x.1,(v3++((v2.2.2.getD (v2.1).toNat (0:Int))::([]:(List Int)))))) (fun(v4:(List Int))=>(Option.bind (G138 (v2.2.1,v4)) (fun(v5:Bool)=>(bif v5 then(some (LO.next ((IntKind.wrap .i64 (v2.1+(1:Int))),(v2.2.1,v2.2.2))))else(bif(decide (((v2.2.1.length:Nat):Int)=(16:Int)))then(BT (BT (some (([]:(List (List Int))),false))))else(if True then(if((v2.2.1.length+(v4::([]:(List (List Int)))).length)<=5864062014805)then(some (LO.next ((IntKind.wrap .i64 (v2.1+(1:Int))),((v2.2.1++(v4::([]:(List (List Int))))),v2.2.2))))else none)else none)))))))else none)))else none)else none)else(some (LO.brk 2 (v2.1,(v2.2.1,v2.2.2)))))) ((0:Int),(v0.2,v1))) (LO.fin fun i2 (v2:(Int×((List (List Int))×(List Int))))=>(if i2=2 then(some (LO.next ((IntKind.wrap .i64 (v0.1+(1:Int))),v2.2.1)))else none)))))else(some (LO.brk 0 (v0.1,v0.2))))) ((0:Int),(([]:(List Int))::([]:(List (List Int)))))) (LO.fin fun i0 (v0:(Int×(List (List Int))))=>(if i0=0 then(Option.bind (bif(decide ((0:Int)<((v0.2.length:Nat):Int)))then(G140 () v0.2)else none) (fun(v1:(Unit×(List (List Int))))=>(some (v1.2,true))))else none)))else none)
theorem t79:tfn E79 Try.f79 S79=G79:=by kernel_rfl
theorem c79:FT Try.prog 79 S79 G79:=AV AS (Ae a131 c131 (Ae a137 c137 (Ae a136 c136 (Ae a139 c139 (Ae a138 c138 (Ae a141 c141 Ap)))))) Ao Aq AP Try.func79 (by kernel_rfl) t79 (LL a140 rfl c140 H7)
theorem a79:Ac Try.prog 79=true:=by kernel_rfl
def S42:Sig:=⟨[(true,(.pair (.int .i64) (.pair (.sl (.int .i64)) (.pair (.sl (.int .i64)) (.pair (.sl (.int .i64)) (.sl (.sl (.int .i64)))))))),(false,(.int .i64))],[(false,2,(.sl (.sl (.int .i64)))),(false,0,(.int .i64))]⟩
noncomputable def E42:Bh:=⟨⟨TB,[⟨78,S78,G78⟩,⟨79,S79,G79⟩],[],[],⟨38,[2],0⟩,[]⟩,[(9,[9,26,28],[2,3,1009003,1026002,2000027])],[(1000009,2)]⟩
noncomputable def G42(x:((Int×((List Int)×((List Int)×((List Int)×(List (List Int))))))×Int)):Option ((List (List Int))×Int):=(Option.bind (G78 ((x.1.1,(x.1.2.1,(x.1.2.2.1,(x.1.2.2.2.1,x.1.2.2.2.2)))),(x.2::([]:(List Int))))) (fun(v0:Int)=>(bif(!decide (v0=(0:Int)))then(some (([]:(List (List Int))),v0))else(Option.bind (G79 ((x.1.1,(x.1.2.1,(x.1.2.2.1,(x.1.2.2.2.1,x.1.2.2.2.2)))),x.2)) (fun(v1:((List (List Int))×Bool))=>(bif(!v1.2)then(some (([]:(List (List Int))),(3:Int)))else(Option.bind (Au (fun(v2:(Int×((List (Option (List Int)))×(List (List Int)))))=>(bif(decide (v2.1<((v1.1.length:Nat):Int)))then(if(((0:Int)<=v2.1)/\(v2.1<((v2.2.1.length:Nat):Int)))then(if((isO (v2.2.1.getD (v2.1).toNat (some ([]:(List Int)))))=true)then(if True then(if((v2.2.2.length+((X5 (v2.2.1.getD (v2.1).toNat (some ([]:(List Int)))))::([]:(List (List Int)))).length)<=5864062014805)then(some (LO.next ((IntKind.wrap .i64 (v2.1+(1:Int))),((v2.2.1.set (v2.1).toNat (none:Option (List Int))),(v2.2.2++((X5 (v2.2.1.getD (v2.1).toNat (some ([]:(List Int)))))::([]:(List (List Int)))))))))else none)else none)else none)else none)else(some (LO.brk 0 (v2.1,(v2.2.1,v2.2.2)))))) ((0:Int),((JI v1.1),([]:(List (List Int)))))) (LO.fin fun i2 (v2:(Int×((List (Option (List Int)))×(List (List Int)))))=>(if i2=0 then(some (v2.2.2,(0:Int)))else none)))))))))
theorem t42:tfn E42 Try.f42 S42=G42:=by kernel_rfl
theorem c42:FT Try.prog 42 S42 G42:=AV AS (Ae a78 c78 (Ae a79 c79 Ap)) Ao Aq AP Try.func42 (by kernel_rfl) t42
theorem a42:Ac Try.prog 42=true:=by kernel_rfl
def S26:Sig:=⟨[(false,(.sl (.int .i64))),(false,(.sl (.int .i64)))],[(false,0,.bool)]⟩
noncomputable def E26:Bh:=⟨⟨TB,[],[],[],⟨26,[],0⟩,[]⟩,[(4,[5],[]),(4,[1000004,5],[])],[]⟩
noncomputable def G26(x:((List Int)×(List Int))):Option Bool:=(bif(!decide (((x.1.length:Nat):Int)=((x.2.length:Nat):Int)))then(some false)else(Option.bind (Au (fun(v0:Int)=>(bif(decide (v0<((x.1.length:Nat):Int)))then(if(((0:Int)<=v0)/\(v0<((x.1.length:Nat):Int)))then(if(((0:Int)<=v0)/\(v0<((x.2.length:Nat):Int)))then(bif(!decide ((x.1.getD (v0).toNat (0:Int))=(x.2.getD (v0).toNat (0:Int))))then(BT (some false))else(some (LO.next (IntKind.wrap .i64 (v0+(1:Int))))))else none)else none)else(some (LO.brk 0 v0)))) (0:Int)) (LO.fin fun i0 (v0:Int)=>(if i0=0 then(some true)else none))))
theorem t26:tfn E26 Try.f26 S26=G26:=by kernel_rfl
theorem c26:FT Try.prog 26 S26 G26:=AV AS Ap Ao Aq AP Try.func26 (by kernel_rfl) t26
theorem a26:Ac Try.prog 26=true:=by kernel_rfl
def S16:Sig:=⟨[(false,(.sl (.sl (.int .i64)))),(false,(.sl (.sl (.int .i64))))],[(false,0,.bool)]⟩
noncomputable def E16:Bh:=⟨⟨TB,[⟨26,S26,G26⟩],[],[],⟨27,[],0⟩,[]⟩,[(4,[5],[]),(4,[1000004,5],[])],[]⟩
noncomputable def G16(x:((List (List Int))×(List (List Int)))):Option Bool:=(bif(!decide (((x.1.length:Nat):Int)=((x.2.length:Nat):Int)))then(some false)else(Option.bind (Au (fun(v0:Int)=>(bif(decide (v0<((x.1.length:Nat):Int)))then(if(((0:Int)<=v0)/\(v0<((x.1.length:Nat):Int)))then(if(((0:Int)<=v0)/\(v0<((x.2.length:Nat):Int)))then(Option.bind (G26 ((x.1.getD (v0).toNat ([]:(List Int))),(x.2.getD (v0).toNat ([]:(List Int))))) (fun(v1:Bool)=>(bif(!v1)then(BT (some false))else(some (LO.next (IntKind.wrap .i64 (v0+(1:Int))))))))else none)else none)else(some (LO.brk 0 v0)))) (0:Int)) (LO.fin fun i0 (v0:Int)=>(if i0=0 then(some true)else none))))
theorem t16:tfn E16 Try.f16 S16=G16:=by kernel_rfl
theorem c16:FT Try.prog 16 S16 G16:=AV AS (Ae a26 c26 Ap) Ao Aq AP Try.func16 (by kernel_rfl) t16
theorem a16:Ac Try.prog 16=true:=by kernel_rfl
def S43:Sig:=⟨[(true,(.pair (.int .i64) (.pair (.sl (.int .i64)) (.pair (.sl (.int .i64)) (.pair (.sl (.int .i64)) (.sl (.sl (.int .i64)))))))),(true,(.pair (.int .i64) (.pair (.sl (.int .i64)) (.pair (.sl (.int .i64)) (.pair (.sl (.int .i64)) (.sl (.sl (.int .i64))))))))],[(false,0,.bool)]⟩
noncomputable def E43:Bh:=⟨⟨TB,[⟨26,S26,G26⟩,⟨16,S16,G16⟩],[],[],⟨34,[2,3],0⟩,[]⟩,[],[]⟩
noncomputable def G43(x:((Int×((List Int)×((List Int)×((List Int)×(List (List Int))))))×(Int×((List Int)×((List Int)×((List Int)×(List (List Int)))))))):Option Bool:=(bif(!decide (x.1.1=x.2.1))then(some false)else(Option.bind (G26 (x.1.2.1,x.2.2.1)) (fun(v0:Bool)=>(bif(!v0)then(some false)else(Option.bind (G26 (x.1.2.2.1,x.2.2.2.1)) (fun(v1:Bool)=>(bif(!v1)then(some false)else(Option.bind (G26 (x.1.2.2.2.1,x.2.2.2.2.1)) (fun(v2:Bool)=>(bif(!v2)then(some false)else(Option.bind (G16 (x.1.2.2.2.2,x.2.2.2.2.2)) (fun(v3:Bool)=>(bif(!v3)then(some false)else(some true))))))))))))))
theorem t43:tfn E43 Try.f43 S43=G43:=by kernel_rfl
theorem c43:FT Try.prog 43 S43 G43:=AV AS (Ae a26 c26 (Ae a16 c16 Ap)) Ao Aq AP Try.func43 (by kernel_rfl) t43
theorem a43:Ac Try.prog 43=true:=by kernel_rfl
def S27:ZC:=⟨[(true,false,(.sl (.int .i64))),(false,false,(.int .i64))],(.int .i64)⟩
noncomputable def E27:Bh:=⟨⟨TB,[],[],[],⟨19,[],1⟩,[]⟩,[(2,[0,1,5],[0,1000000]),(2,[1000002,0,1,5],[])],[]⟩
noncomputable def G27(x:((List Int)×Int)):Option (Int×(List Int)):=(Option.bind (Au (fun(v0:(Int×(Int×(List Int))))=>(bif(decide (v0.2.1<((v0.2.2.length:Nat):Int)))then(if(((0:Int)<=v0.2.1)/\(v0.2.1<((v0.2.2.length:Nat):Int)))then(some (LO.next ((IntKind.wrap .i64 (v0.1+(1:Int))),((IntKind.wrap .i64 (v0.2.1+(1:Int))),(v0.2.2.set (v0.2.1).toNat v0.1)))))else none)else(some (LO.brk 0 (v0.1,(v0.2.1,v0.2.2)))))) (x.2,((0:Int),x.1))) (LO.fin fun i0 (v0:(Int×(Int×(List Int))))=>(if i0=0 then(some (v0.1,v0.2.2))else none)))
theorem t27:tfnW E27 Try.f27 S27=G27:=by kernel_rfl
theorem c27:FTW Try.prog 27 S27 G27:=Wg AS Ap Ao Aq AP Try.func27 (by kernel_rfl) t27
theorem a27:Ac Try.prog 27=true:=by kernel_rfl
def S21:ZC:=⟨[(true,false,(.sl (.sl (.int .i64)))),(false,false,(.int .i64))],(.int .i64)⟩
noncomputable def E21:Bh:=⟨⟨TB,[],[⟨27,S27,G27⟩],[],⟨19,[],1⟩,[]⟩,[(2,[0,1,5],[0,1000000]),(2,[1000002,0,1,5],[])],[]⟩
noncomputable def G21(x:((List (List Int))×Int)):Option (Int×(List (List Int))):=(Option.bind (Au (fun(v0:(Int×(Int×(List (List Int)))))=>(bif(decide (v0.2.1<((v0.2.2.length:Nat):Int)))then(if(((0:Int)<=v0.2.1)/\(v0.2.1<((v0.2.2.length:Nat):Int)))then(Option.bind (G27 ((v0.2.2.getD (v0.2.1).toNat ([]:(List Int))),v0.1)) (fun(v1:(Int×(List Int)))=>(some (LO.next (v1.1,((IntKind.wrap .i64 (v0.2.1+(1:Int))),(v0.2.2.set (v0.2.1).toNat v1.2)))))))else none)else(some (LO.brk 0 (v0.1,(v0.2.1,v0.2.2)))))) (x.2,((0:Int),x.1))) (LO.fin fun i0 (v0:(Int×(Int×(List (List Int)))))=>(if i0=0 then(some (v0.1,v0.2.2))else none)))
theorem t21:tfnW E21 Try.f21 S21=G21:=by kernel_rfl
theorem c21:FTW Try.prog 21 S21 G21:=Wg AS Ap (HC a27 c27 Ao) Aq AP Try.func21 (by kernel_rfl) t21
theorem a21:Ac Try.prog 21=true:=by kernel_rfl
def S44:ZC:=⟨[(true,true,(.pair (.int .i64) (.pair (.sl (.int .i64)) (.pair (.sl (.int .i64)) (.pair (.sl (.int .i64)) (.sl (.sl (.int .i64)))))))),(false,false,(.int .i64))],(.int .i64)⟩
noncomputable def E44:Bh:=⟨⟨TB,[],[⟨27,S27,G27⟩,⟨21,S21,G21⟩],[],⟨22,[2],4⟩,[]⟩,[],[]⟩
noncomputable def G44(x:((Int×((List Int)×((List Int)×((List Int)×(List (List Int))))))×Int)):Option (Int×((List Int)×((List Int)×((List Int)×(List (List Int)))))):=(Option.bind (G27 (x.1.2.1,x.2)) (fun(v0:(Int×(List Int)))=>(Option.bind (G27 (x.1.2.2.1,v0.1)) (fun(v1:(Int×(List Int)))=>(Option.bind (G27 (x.1.2.2.2.1,v1.1)) (fun(v2:(Int×(List Int)))=>(Option.bind (G21 (x.1.2.2.2.2,v2.1)) (fun(v3:(Int×(List (List Int))))=>(some (v3.1,(v0.2,(v1.2,(v2.2,v3.2)))))))))))))
theorem t44:tfnW E44 Try.f44 S44=G44:=by kernel_rfl
theorem c44:FTW Try.prog 44 S44 G44:=Wg AS Ap (HC a27 c27 (HC a21 c21 Ao)) Aq AP Try.func44 (by kernel_rfl) t44
theorem a44:Ac Try.prog 44=true:=by kernel_rfl
def S65:Sig:=⟨[(false,(.sl (.int .i64))),(false,(.int .i64))],[(false,0,(.int .i64))]⟩
noncomputable def E65:Bh:=⟨⟨TB,[],[],[],⟨21,[],0⟩,[]⟩,[(2,[1,5],[]),(2,[1000002,1,5],[])],[]⟩
noncomputable def G65(x:((List Int)×Int)):Option Int:=(Option.bind (Au (fun(v0:(Int×Int))=>(bif(decide (v0.2<((x.1.length:Nat):Int)))then(if(((0:Int)<=v0.2)/\(v0.2<((x.1.length:Nat):Int)))then(bif(!decide ((x.1.getD (v0.2).toNat (0:Int))=v0.1))then(BT (some (-(1:Int))))else(some (LO.next ((IntKind.wrap .i64 (v0.1+(1:Int))),(IntKind.wrap .i64 (v0.2+(1:Int)))))))else none)else(some (LO.brk 0 (v0.1,v0.2))))) (x.2,(0:Int))) (LO.fin fun i0 (v0:(Int×Int))=>(if i0=0 then(some v0.1)else none)))
theorem t65:tfn E65 Try.f65 S65=G65:=by kernel_rfl
theorem c65:FT Try.prog 65 S65 G65:=AV AS Ap Ao Aq AP Try.func65 (by kernel_rfl) t65
theorem a65:Ac Try.prog 65=true:=by kernel_rfl
def S22:Sig:=⟨[(false,(.sl (.sl (.int .i64)))),(false,(.int .i64))],[(false,0,(.int .i64))]⟩
noncomputable def E22:Bh:=⟨⟨TB,[⟨65,S65,G65⟩],[],[],⟨21,[],0⟩,[]⟩,[(2,[1,5],[]),(2,[1000002,1,5],[])],[]⟩
noncomputable def G22(x:((List (List Int))×Int)):Option Int:=(Option.bind (Au (fun(v0:(Int×Int))=>(bif(decide (v0.2<((x.1.length:Nat):Int)))then(if(((0:Int)<=v0.2)/\(v0.2<((x.1.length:Nat):Int)))then(Option.bind (G65 ((x.1.getD (v0.2).toNat ([]:(List Int))),v0.1)) (fun(v1:Int)=>(bif(decide (v1<(0:Int)))then(BT (some (-(1:Int))))else(some (LO.next (v1,(IntKind.wrap .i64 (v0.2+(1:Int)))))))))else none)else(some (LO.brk 0 (v0.1,v0.2))))) (x.2,(0:Int))) (LO.fin fun i0 (v0:(Int×Int))=>(if i0=0 then(some v0.1)else none)))
theorem t22:tfn E22 Try.f22 S22=G22:=by kernel_rfl
theorem c22:FT Try.prog 22 S22 G22:=AV AS (Ae a65 c65 Ap) Ao Aq AP Try.func22 (by kernel_rfl) t22
theorem a22:Ac Try.prog 22=true:=by kernel_rfl
def S6:Sig:=⟨[(true,(.pair (.int .i64) (.pair (.sl (.int .i64)) (.pair (.sl (.int .i64)) (.pair (.sl (.int .i64)) (.sl (.sl (.int .i64)))))))),(false,(.int .i64))],[(false,0,.bool)]⟩
noncomputable def E6:Bh:=⟨⟨TB,[⟨39,S39,G39⟩,⟨41,S41,G41⟩,⟨40,S40,G40⟩,⟨42,S42,G42⟩,⟨16,S16,G16⟩,⟨43,S43,G43⟩,⟨22,S22,G22⟩],[⟨21,S21,G21⟩,⟨44,S44,G44⟩],[],⟨101,[2,23,58],0⟩,[]⟩,[],[]⟩
noncomputable def G6(x:((Int×((List Int)×((List Int)×((List Int)×(List (List Int))))))×Int)):Option Bool:=(Option.bind (G39 ((x.1.1,(x.1.2.1,(x.1.2.2.1,(x.1.2.2.2.1,x.1.2.2.2.2)))),(1048576:Int))) (fun(v0:Int)=>(bif(decide (v0<(0:Int)))then(some true)else(Option.bind (G41 (x.1.1,(x.1.2.1,(x.1.2.2.1,(x.1.2.2.2.1,x.1.2.2.2.2))))) (fun(v1:(Int×((List Int)×((List Int)×((List Int)×(List (List Int)))))))=>(Option.bind (G40 ((v1.1,(v1.2.1,(v1.2.2.1,(v1.2.2.2.1,v1.2.2.2.2)))),x.2)) (fun(v2:((List (List Int))×Int))=>(Option.bind (G41 (x.1.1,(x.1.2.1,(x.1.2.2.1,(x.1.2.2.2.1,x.1.2.2.2.2))))) (fun(v3:(Int×((List Int)×((List Int)×((List Int)×(List (List Int)))))))=>(Option.bind (G42 ((v3.1,(v3.2.1,(v3.2.2.1,(v3.2.2.2.1,v3.2.2.2.2)))),x.2)) (fun(v4:((List (List Int))×Int))=>(Option.bind (G16 (v4.1,v2.1)) (fun(v5:Bool)=>(Option.bind (bif(!v5)then(some true)else(some (!decide (v4.2=v2.2)))) (fun(v6:Bool)=>(bif v6 then(some false)else(Option.bind (G41 (x.1.1,(x.1.2.1,(x.1.2.2.1,(x.1.2.2.2.1,x.1.2.2.2.2))))) (fun(v7:(Int×((List Int)×((List Int)×((List Int)×(List (List Int)))))))=>(Option.bind (G43 ((v3.1,(v3.2.1,(v3.2.2.1,(v3.2.2.2.1,v3.2.2.2.2)))),(v7.1,(v7.2.1,(v7.2.2.1,(v7.2.2.2.1,v7.2.2.2.2)))))) (fun(v8:Bool)=>(bif(!v8)then(some false)else(Option.bind (G44 ((v3.1,(v3.2.1,(v3.2.2.1,(v3.2.2.2.1,v3.2.2.2.2)))),(1:Int))) (fun(v9:(Int×((List Int)×((List Int)×((List Int)×(List (List Int)))))))=>(Option.bind (bif(decide (v9.1<(0:Int)))then(some true)else(Option.bind (G16 (v4.1,v2.1)) (fun(v10:Bool)=>(some (!v10))))) (fun(v10:Bool)=>(Option.bind (bif v10 then(some true)else(some (!decide (v4.2=v2.2)))) (fun(v11:Bool)=>(bif v11 then(some false)else(Option.bind (G21 (v4.1,(1:Int))) (fun(v12:(Int×(List (List Int))))=>(Option.bind (G22 (v12.2,(1:Int))) (fun(v13:Int)=>(bif(decide (v13<(0:Int)))then(some false)else(bif(!decide (v13=v12.1))then(some false)else(Option.bind (G41 (x.1.1,(x.1.2.1,(x.1.2.2.1,(x.1.2.2.2.1,x.1.2.2.2.2))))) (fun(v14:(Int×((List Int)×((List Int)×((List Int)×(List (List Int)))))))=>(Option.bind (G42 ((v14.1,(v14.2.1,(v14.2.2.1,(v14.2.2.2.1,v14.2.2.2.2)))),x.2)) (fun(v15:((List (List Int))×Int))=>(Option.bind (G16 (v15.1,v2.1)) (fun(v16:Bool)=>(Option.bind (bif(!v16)then(some true)else(some (!decide (v15.2=v2.2)))) (fun(v17:Bool)=>(bif v17 then(some false)else(Option.bind (G22 (v12.2,(1:Int))) (fun(v18:Int)=>(bif(decide (v18<(0:Int)))then(some false)else(bif(!decide (v18=v12.1))then(some false)else(some true))))))))))))))))))))))))))))))))))))))))))))))))
theorem t6:tfn E6 Try.f6 S6=G6:=by kernel_rfl
theorem c6:FT Try.prog 6 S6 G6:=AV AS (Ae a39 c39 (Ae a41 c41 (Ae a40 c40 (Ae a42 c42 (Ae a16 c16 (Ae a43 c43 (Ae a22 c22 Ap))))))) (HC a21 c21 (HC a44 c44 Ao)) Aq AP Try.func6 (by kernel_rfl) t6
end Go.Ve.D

