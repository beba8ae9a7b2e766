/- Comparing lists: what the program's compare computes, an order; slices.SortFunc at lists of numbers. -/
import Derived.Test.YtnhlomkcachnbaaGreatUz2
import Derived.Test.YtnhlomkcachnbaaGreatLa
import Derived.Shelf.SlSortCmp.NoneTotal
namespace Go.Ve.D
open Go Go.Ve Go.Proofs
noncomputable def b70(x y:List Int)(v0:Int):Option (LO Int Int):=(bif(decide (v0<((x.length:Nat):Int)))then(bif(decide (v0=((y.length:Nat):Int)))then(By (some (1:Int)))else(if(((0:Int)<=v0)/\(v0<((x.length:Nat):Int)))then(if(((0:Int)<=v0)/\(v0<((y.length:Nat):Int)))then(bif(!decide ((x.getD (v0).toNat (0:Int))=(y.getD (v0).toNat (0:Int))))then(if(((0:Int)<=v0)/\(v0<((x.length:Nat):Int)))then(if(((0:Int)<=v0)/\(v0<((y.length:Nat):Int)))then(bif(decide ((x.getD (v0).toNat (0:Int))<(y.getD (v0).toNat (0:Int))))then(By (some (-(1:Int))))else(By (some (1:Int))))else none)else none)else(some (LO.next (IntKind.wrap .i64 (v0+(1:Int))))))else none)else none))else(some (LO.brk 0 v0)))
theorem G70_eq(x y:List Int):G70 (x,y)=Option.bind (Au (b70 x y) (0:Int)) (LO.fin fun i0 (v0:Int)=>(if i0=0 then(bif(decide (((x.length:Nat):Int)<((y.length:Nat):Int)))then(some (-(1:Int)))else(some (0:Int)))else none)):=rfl
theorem p70{x y:List Int}(hx:okL x)(hy:okL y):G70 (x,y)=some (Bg x y):=by
 unfold okL at hx hy
 have hend:b70 x y (x.length:Int)=some (.brk 0 (x.length:Int)):=by
  unfold b70;rw [dF (by omega)];rfl
 have hlong: ∀i:Nat,i<x.length->i=y.length->b70 x y (i:Int)=some (.ret 1):=by
  intro i h1 h2;unfold b70;rw [dT (by omega:((i:Nat):Int)<((x.length:Nat):Int)),dT (by omega:((i:Nat):Int)=((y.length:Nat):Int))]
  rfl
 have hne: ∀i:Nat,i<x.length->i<y.length->x.getD i 0≠y.getD i 0->b70 x y (i:Int)=some (.ret (if x.getD i 0<y.getD i 0 then-1 else 1)):=by
  intro i h1 h2 h3;unfold b70;rw [dT (by omega:((i:Nat):Int)<((x.length:Nat):Int)),dF (by omega: ¬ ((i:Nat):Int)=((y.length:Nat):Int)),cond_true,cond_false]
  have c1:((0:Int)<=(i:Int))/\((i:Int)<((x.length:Nat):Int)):=by omega
  have c2:((0:Int)<=(i:Int))/\((i:Int)<((y.length:Nat):Int)):=by omega
  rw [if_pos c1,if_pos c2,if_pos c1,if_pos c2,tNC,dF h3,Bool.not_false,cond_true];by_cases hlt:x.getD i 0<y.getD i 0
  ·rw [dT hlt,if_pos hlt];rfl
  ·rw [dF hlt,if_neg hlt];rfl
 have heq: ∀i:Nat,i<x.length->i<y.length->x.getD i 0=y.getD i 0->b70 x y (i:Int)=some (.next ((i+1:Nat):Int)):=by
  intro i h1 h2 h3;unfold b70;rw [dT (by omega:((i:Nat):Int)<((x.length:Nat):Int)),dF (by omega: ¬ ((i:Nat):Int)=((y.length:Nat):Int)),cond_true,cond_false]
  have c1:((0:Int)<=(i:Int))/\((i:Int)<((x.length:Nat):Int)):=by omega
  have c2:((0:Int)<=(i:Int))/\((i:Int)<((y.length:Nat):Int)):=by omega
  rw [if_pos c1,if_pos c2,tNC,dT h3,Bool.not_true,cond_false,Cm (by omega) (by omega)]
  rfl
 have key: ∀k i,i+k=x.length->i<=y.length->(Au (b70 x y) (i:Int)=some (.ret (Bg (x.drop i) (y.drop i))))\/(Au (b70 x y) (i:Int)=some (.brk 0 (x.length:Int))/\Bg (x.drop i) (y.drop i)=if x.length<y.length then-1 else 0):=by
  intro k
  induction k with
  |zero=>
   intro i hi hy';obtain rfl:i=x.length:=by omega
   right;refine⟨by rw [Bn,hend];rfl,?_⟩
   rw [List.drop_length];cases hd:y.drop x.length with
   |nil=>
    have:=List.drop_eq_nil_iff.1 hd;rw [if_neg (by omega)];rfl
   |cons a l=>
    have:x.length<y.length:=by
     rcases Nat.lt_or_ge x.length y.length with h|h
     ·exact h
     ·rw [List.drop_eq_nil_iff.2 h]at hd;cases hd
    rw [if_pos this];rfl
  |succ k ih=>
   intro i hi hy';have h1:i<x.length:=by omega
   have ex:x.drop i=x.getD i 0::x.drop (i+1):=by
    rw [List.drop_eq_getElem_cons h1,gDE,gEE h1];rfl
   by_cases h2:i=y.length
   ·left
    rw [Bn,hlong i h1 h2,ex,h2,List.drop_length];rfl
   ·have h2:i<y.length:=by omega
    have ey:y.drop i=y.getD i 0::y.drop (i+1):=by
     rw [List.drop_eq_getElem_cons h2,gDE,gEE h2];rfl
    by_cases h3:x.getD i 0=y.getD i 0
    ·have e:Au (b70 x y) (i:Int)=Au (b70 x y) ((i+1:Nat):Int):=by rw [Bn,heq i h1 h2 h3];rfl
     have ec:Bg (x.drop i) (y.drop i)=Bg (x.drop (i+1)) (y.drop (i+1)):=by
      rw [ex,ey];show(if x.getD i 0=y.getD i 0 then _ else _)=_
      rw [if_pos h3]
     rw [e,ec];exact ih (i+1) (by omega) (by omega)
    ·left
     rw [Bn,hne i h1 h2 h3,ex,ey];show _=some (LO.ret (if x.getD i 0=y.getD i 0 then _ else if x.getD i 0<y.getD i 0 then-1 else 1))
     rw [if_neg h3];rfl
 rw [G70_eq];have h0:=key x.length 0 (by omega) (Nat.zero_le _)
 rw [List.drop_zero,List.drop_zero]at h0;rcases h0 with h|⟨h,hc⟩
 ·refine Ap h rfl
 ·refine Ap h ?_
  show(bif decide (((x.length:Nat):Int)<((y.length:Nat):Int))then some (-(1:Int))else some (0:Int))=_;rw [hc];by_cases hl:x.length<y.length
  ·rw [dT (by omega),if_pos hl];rfl
  ·rw [dF (by omega),if_neg hl];rfl
theorem JJ: ∀x:List Int,Bg x x=0
 | []=>rfl
 |a::x=>by
  show(if a=a then Bg x x else _)=0
  rw [if_pos rfl];exact JJ x
theorem Df: ∀x y:List Int,Bg y x= -Bg x y
 | [],[]=>rfl
 | [],_::_=>rfl
 |_::_,[]=>rfl
 |a::x,b::y=>by
  show(if b=a then Bg y x else if b<a then-1 else 1)= -(if a=b then Bg x y else if a<b then-1 else 1)
  by_cases h:a=b
  ·rw [if_pos h,if_pos h.symm];exact Df x y
  ·rw [if_neg h,if_neg (Ne.symm h)]
   by_cases h2:a<b
   ·rw [if_pos h2,if_neg (by omega)];rfl
   ·rw [if_neg h2,if_pos (by omega)]
theorem Hd: ∀x y:List Int,Bg x y=0->x=y
 | [],[],_=>rfl
 | [],_::_,h=>by cases h
 |_::_,[],h=>by cases h
 |a::x,b::y,h=>by
  have h:(if a=b then Bg x y else if a<b then-1 else 1)=0:=h
  by_cases hab:a=b
  ·rw [if_pos hab]at h
   rw [hab,Hd x y h]
  ·rw [if_neg hab]at h
   split at h<;>cases h
theorem Ih: ∀x y z:List Int,Bg x y<0->Bg y z<0->Bg x z<0
 | [],[],_,h,_=>by cases h
 | [],_::_,[],_,h=>by cases h
 | [],_::_,_::_,_,_=>by show(-1:Int)<0;decide
 |_::_,[],_,h,_=>by cases h
 |_::_,_::_,[],_,h=>by cases h
 |a::x,b::y,c::z,h1,h2=>by
  have h1:(if a=b then Bg x y else if a<b then-1 else 1)<0:=h1
  have h2:(if b=c then Bg y z else if b<c then-1 else 1)<0:=h2
  show(if a=c then Bg x z else if a<c then-1 else 1)<0
  by_cases hab:a=b
  ·rw [if_pos hab]at h1
   by_cases hbc:b=c
   ·rw [if_pos hbc]at h2
    rw [if_pos (hab.trans hbc)];exact Ih x y z h1 h2
   ·rw [if_neg hbc]at h2
    rw [if_neg (by omega)]
    split at h2
    ·rw [if_pos (by omega)];decide
    ·cases h2
  ·rw [if_neg hab]at h1
   split at h1
   ·rename_i hlt
    by_cases hbc:b=c
    ·rw [if_neg (by omega),if_pos (by omega)];decide
    ·rw [if_neg hbc]at h2
     split at h2
     ·rw [if_neg (by omega),if_pos (by omega)];decide
     ·cases h2
   ·cases h1
theorem LY{x y:List Int}:ltOf Bg x y=true↔Bg x y<0:=by unfold ltOf;simp
theorem Ia{x y:List Int}:ltOf Bg x y=false↔0<=Bg x y:=by unfold ltOf;simp
theorem XH:Go.Sort.SWO (ltOf Bg):=by
 refine⟨fun x=>Ia.2 (by rw [JJ];decide),fun x y z h1 h2=>LY.2 (Ih x y z (LY.1 h1) (LY.1 h2)),fun x y z h1 h2=>Ia.2 ?_⟩
 have h1:=Ia.1 h1;have h2:=Ia.1 h2;by_cases e1:Bg x y=0
 ·rw [Hd x y e1];exact h2
 by_cases e2:Bg y z=0
 ·rw [<-Hd y z e2];exact h1
 have n1:=Df x y;have n2:=Df y z;have:=Ih z y x (by omega) (by omega)
 have n3:=Df z x;omega
theorem AaH(x y:List Int)(h1:ltOf Bg x y=false)(h2:ltOf Bg y x=false):x=y:=by
 have h1:=Ia.1 h1;have h2:=Ia.1 h2;have n:=Df x y;exact Hd x y (by omega)
theorem p51{x y:List Int}(hx:okL x)(hy:okL y):G51 (x,y)=some (decide (x=y)):=by
 unfold G51;rw [show G70 (x,y)=some (Bg x y)from p70 hx hy,Option.bind_some]
 congr 1
 by_cases h:x=y
 ·subst h
  rw [JJ,dT rfl,dT rfl]
 ·rw [dF h,dF fun e=>h (Hd x y e)]
theorem nilL(D:Nat->Prop)(w:World):Rel D w noR (cV (.sl (.int .i64)) 0 []) (.slice none 0 0) noF:=.inl ⟨rfl,rfl,.inl rfl,fun _ h=>h⟩
def S49:Pd:=⟨0,[(false,(.clo 51 .unit))],(.sl (.sl (.int .i64))),2,true,[(false,2,(.sl (.sl (.int .i64))))]⟩
noncomputable def G49(_:Unit)(x:List (List Int)):Option (List (List Int)×List (List Int)):=AaT okL (fun x y:List Int=>decide (x=y)) [] x
theorem a49:Ab Tryz.prog 49=true:=by kernel_rfl
theorem c49:FTU Tryz.prog 49 S49 G49:=O8 (t:=.sl (.int .i64)) rfl (d:=1) (g:=51) rfl a51 c51 okL (fun x y:List Int=>decide (x=y)) (fun _ _ h1 h2=>p51 h1 h2) oneSl (by show(0:Nat)<_;decide) nilL
end Go.Ve.D


namespace Go.Ve.D
open Go Go.Ve Go.Proofs Go.Shelf Go.RowKit
theorem c69:FTU Tryz.prog 69 ⟨0,[(false,(.clo 70 .unit))],(.sl (.sl (.int .i64))),2,false,[]⟩ (fun _ x=>QQ okL Bg x):=XJ (ρ:=Tryz.sortL69_ren) Tryz.sortL69 (t:=.sl (.int .i64)) rfl (d:=1) (g:=70) rfl a70 c70 okL Bg (fun _ _ h1 h2=>p70 h1 h2) XH AaH oneSl
theorem Vm(p:Option Addr)(cap:Nat)(fv:Value)(w:World):Calls Tryz.prog 69 #[.slice p 0 cap,fv] w fun e w'=>e= .returned (.tuple #[])/\w'=w:=AnyF.slices_SortFunc_none (ρ:=Tryz.sortL69_ren) {Tryz.sortL69 with} p cap fv w
theorem XI{xs:List (List Int)}(hbig:xs.length<4611686018427387904)(hall: ∀x∈xs,okL x)(w:World)(D H:Nat->Prop)(v:Value)(hk:Wok w)(htab: ∀p,YN=some p->¬H p.1)(hD: ∀b,D b->b<w.heap.size)(hHD: ∀b,H b->¬D b)
  (hr:Rel D w noR (cV (.sl (.sl (.int .i64))) 2 xs) v H):
  Calls Tryz.prog 69 #[v,.func (.func 70) #[] #[]] w fun e w'=>e= .returned (.tuple #[])/\∃D' H',Fr w w' H/\Rel D' w' noR (cV (.sl (.sl (.int .i64))) 2 (Bo Bg xs)) v H'/\(∀b,H' b->H b\/w.heap.size<=b)/\(∀b,D b->D' b)/\(∀b,D' b->D b\/H b\/w.heap.size<=b)/\∀b,D' b->b<w'.heap.size/\¬H' b:=by
 by_cases h0:0<xs.length
 ·have h:=c69 () xs ((),Bo Bg xs) (by
   show QQ okL Bg xs=_;unfold QQ;rw [if_pos ⟨h0,hbig,hall⟩];rfl) w D H #[v,.func (.func 70) #[] #[]] hk htab hD hHD rfl hr (fun i hi h1=>by
   have hi:i<2:=hi;have h1:i≠0:=h1;obtain rfl:i=1:=by omega
   exact⟨#[],fun _=>noF,(show(_:Value)=Qk 70 #[]from(KZ rfl).symm),rfl,fun k hk=>absurd hk (Nat.not_lt_zero _),fun k _ _ hk=>absurd hk (Nat.not_lt_zero _),fun c=>⟨fun h=>h.elim,fun⟨k,hk,_⟩=>absurd hk (Nat.not_lt_zero _)⟩⟩)
  refine h.mono ?_
  rintro e w' ⟨cv,fp,D',H',rfl,hF,hr1,hr2,_,h4,_,h6,h7,h8⟩
  obtain⟨cs,_,hp,hz,_⟩:=hr1;have hp:cv= .tuple cs:=hp;refine⟨by rw [hp,Array.eq_empty_of_size_eq_zero hz],D',H',hF,hr2,h4,h6,h7,fun b hb=>⟨(h8 b hb).1,(h8 b hb).2.2⟩⟩
 ·have hx:xs= []:=List.length_eq_zero_iff.1 (by omega)
  subst hx;have hs:Bo Bg ([]:List (List Int))= []:=by unfold Bo;simp
  have hv: ∃p cap,v= .slice p 0 cap:=by
   rcases hr with⟨_,_,h3,_⟩|⟨b,o,cap,F,hcv,_⟩
   ·obtain⟨a,ha⟩:=BZ h3
    exact⟨a,0,ha⟩
   ·exact⟨_,cap,hcv⟩
  obtain⟨p,cap,rfl⟩:=hv;refine(Vm p cap _ w).mono ?_
  rintro e w' ⟨rfl,rfl⟩
  rw [hs];exact⟨rfl,D,H,⟨rfl,rfl,rfl,Nat.le_refl _,fun c _ _=>rfl,Nat.le_refl _⟩,hr,fun _ h=>.inl h,fun _ h=>h,fun _ h=>.inl h,fun b hb=>⟨hD b hb,fun h=>hHD b h hb⟩⟩
noncomputable def ascG(xs:List (List Int)):Option (List (List Int)×List (List Int)):=by
 classical exact if xs.length<4611686018427387904/\∀x∈xs,okL x then some (Bo Bg xs,[])else none
def S50:Pd:=⟨0,[],(.sl (.sl (.int .i64))),2,true,[(false,2,(.sl (.sl (.int .i64))))]⟩
noncomputable def G50(_:Unit)(x:List (List Int)):Option (List (List Int)×List (List Int)):=ascG x
theorem a50:Ab Tryz.prog 50=true:=by kernel_rfl
set_option maxRecDepth 1000000 in
theorem YC(v:Value)(w:World)(Q:World->Prop)(h0:Calls Tryz.prog 69 #[v,.func (.func 70) #[] #[]] w fun e w'=>e= .returned (.tuple #[])/\Q w'):
  Calls Tryz.prog 50 #[v] w fun e w'=>e= .returned v/\Q w':=by
 have mixed:Tryz.prog.follows .mixedOrders=true:=by kernel_rfl
 go_enter Tryz.func50,(show Tryz.f50.ntmps=6 from rfl)
 go_wp2_with (first|(refine h0.mono ?_;rintro e w' ⟨rfl,hq⟩))
 go_ret
 exact⟨rfl,hq⟩
theorem c50:FTU Tryz.prog 50 S50 G50:=by
 intro z xs u hu;have hu:ascG xs=some u:=hu;unfold ascG at hu;split at hu
 case isFalse=>cases hu
 rename_i hc;cases hu;intro w D H cvs hk htab hD hHD hsz hrel0 _;have hsz:cvs.size=1:=hsz;have hcvs:cvs= #[cvs.getD 0 undef]:=by
  apply Array.ext
  ·simpa using hsz
  ·intro q h1 h2
   have h2:q<1:=h2;obtain rfl:q=0:=by omega
   simp [hsz]
 have hr:Rel D w noR (cV (.sl (.sl (.int .i64))) 2 xs) (cvs.getD 0 undef) H:=hrel0;show Calls Tryz.prog 50 cvs w _;rw [hcvs];generalize cvs.getD 0 undef=v at hr;refine(YC v w (fun w'=>∃D' H',Fr w w' H/\Rel D' w' noR (cV (.sl (.sl (.int .i64))) 2 (Bo Bg xs)) v H'/\(∀b,H' b->H b\/w.heap.size<=b)/\(∀b,D b->D' b)/\(∀b,D' b->D b\/H b\/w.heap.size<=b)/\∀b,D' b->b<w'.heap.size/\¬H' b) (XI hc.1 hc.2 w D H v hk htab hD hHD hr)).mono ?_
 ·rintro e w' ⟨rfl,D',H',hF,hr',h4,h6,h7,h8⟩
  exact⟨v,H',D',noF,rfl,hF,hr',fun _ h=>h,h4,fun _ h=>h.elim,fun _ _ h=>h,h6,h7,fun b hb=>⟨(h8 b hb).1,(h8 b hb).2,fun h=>h⟩⟩
end Go.Ve.D

