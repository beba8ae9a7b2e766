/- Profunctors: their sets and maps. -/
import Derived.Test.YtcdekmccongjgaaOba
namespace Go.Ve.D
open Go Go.Ve
noncomputable section

def badB (r : Bool) : Prop:=r = false
theorem inn1_bad {s : Int} {R : Type} {bad : R→Prop} {o : Option (LO Int (LO Int R))} {r : R} (h : o = some (.ret (.ret r))) (hb : bad r) : inn1 (lift bad) s false o:=inn1_f ⟨_,h,_,rfl,hb⟩
theorem lt_self {n : Nat} : decide ((n : Int) < (n : Int)) = false:=decide_eq_false (by omega)

def S2 (s : List (List Int)) (x : Nat) (y : Int) : Int:=(s.getD x []).getD y.toNat 0
def M2 (m : List (List (List Int))) (a : Nat) (y : Int) : List Int:=(m.getD a []).getD y.toNat []
structure SZ (c d : Cat) (s : List (List Int)) (be bh : List (List (List Int))) : Prop where
 l1 : (s.length : Int) = c.1
 l2 : be.length = ar c
 l3 : bh.length = ar d
 row : ∀ x,x < s.length→((s.getD x []).length : Int) = d.1
 val : ∀ x,x < s.length→∀ y : Int,0≤y∧y < d.1→0≤S2 s x y∧S2 s x y≤64
end
end Go.Ve.D


namespace Go.Ve.D
open Go Go.Ve
noncomputable section

structure MP (c d : Cat) (s : List (List Int)) (be bh : List (List (List Int))) : Prop where
 hc : Sh c
 hd : Sh d
 sz : SZ c d s be bh
 br : ∀ a,a < ar c→((be.getD a []).length : Int) = d.1
 bv : ∀ a,a < ar c→∀ y : Nat,(y : Int) < d.1→((M2 be a y).length : Int) = S2 s (tT c a).toNat y∧wi (S2 s (fT c a).toNat y) (M2 be a y) = true
 hr : ∀ b,b < ar d→((bh.getD b []).length : Int) = c.1
 hv : ∀ b,b < ar d→∀ x : Nat,(x : Int) < c.1→((M2 bh b x).length : Int) = S2 s x (fT d b)∧wi (S2 s x (tT d b)) (M2 bh b x) = true
end
end Go.Ve.D


namespace Go.Ve.D
open Go Go.Ve
noncomputable section

theorem idX {c : Cat} (h : Sh c) (hs : isCat c = true) {x : Nat} (hx : (x : Int) < c.1) : ∃ a : Nat,a < ar c∧c.2.2.2.1.getD x 0 = (a : Int)∧fT c a = (x : Int)∧tT c a = (x : Int):=by
 unfold isCat shape at hs
 rw [Bool.and_eq_true,Bool.and_eq_true,Bool.and_eq_true] at hs
 obtain ⟨a1,a2,a3,a4,a5,a6,a7,a8⟩:=h.hd
 have hi:=List.all_eq_true.1 hs.1.2.1 x (List.mem_range.2 (by omega))
 unfold idOK at hi
 rw [Bool.and_eq_true,decide_eq_true_eq,decide_eq_true_eq] at hi
 obtain ⟨g1,g2⟩:=wi_get a8 (i:=x) (by omega)
 exact ⟨(c.2.2.2.1.getD x 0).toNat,by show _ < c.2.1.length; omega,by omega,hi⟩
def idA (c : Cat) (x : Nat) : Nat:=(c.2.2.2.1.getD x 0).toNat
section
variable {c d : Cat} {s : List (List Int)} {be bh : List (List (List Int))}
theorem MP.hl (h : MP c d s be bh) {b x : Nat} (hb : b < ar d) (hx : (x : Int) < c.1) : (M2 bh b x).length≤64:=by
 obtain ⟨h1,_⟩:=h.hv b hb x hx
 obtain ⟨t1,t2⟩:=h.hd.fr b hb
 have l1:=h.sz.l1
 obtain ⟨z1,z2⟩:=h.sz.val x (by omega) (fT d b) ⟨t1,t2⟩
 omega
end
section
variable (c d : Cat) (be bh : List (List (List Int)))
end
end
end Go.Ve.D


namespace Go.Ve.D
open Go Go.Ve
noncomputable section

end
end Go.Ve.D


namespace Go.Ve.D
open Go Go.Ve
noncomputable section

end
end Go.Ve.D


namespace Go.Ve.D
open Go Go.Ve
noncomputable section

theorem tloop_stop {X R : Type} {f : X→Option (LO X R)} {st : Nat→X} {n : Nat} {p : Nat→Bool} {Q : LO X R→Prop} {o : LO X R}
  (h1 : ∀ i,i < n→(p i = true→f (st i) = some (.next (st (i + 1))))∧(p i = false→∃ r,f (st i) = some r∧(∀ y,r≠.next y)∧Q r)) (h2 : f (st n) = some o) (ho : ∀ y,o≠.next y) :
  ((List.range n).all p = true→tloop f (st 0) = some o)∧((List.range n).all p = false→∃ r,tloop f (st 0) = some r∧Q r):=by
 have fin : ∀ x o,f x = some o→(∀ y,o≠.next y)→tloop f x = some o:=by
  intro x o h ho
  rw [tloop_eq,h]
  cases o with
  | next y=>exact absurd rfl (ho y)
  | brk id y=>rfl
  | ret r=>rfl
 have key : ∀ k i,i + k = n→((List.range' i k).all p = true→tloop f (st i) = some o)∧((List.range' i k).all p = false→∃ r,tloop f (st i) = some r∧Q r):=by
  intro k
  induction k with
  | zero=>
   intro i hi
   obtain rfl : i = n:=by omega
   exact ⟨fun _=>fin _ _ h2 ho,(fun h=>by cases h)⟩
  | succ k ih=>
   intro i hi
   rw [List.range'_succ,List.all_cons]
   obtain ⟨g1,g2⟩:=h1 i (by omega)
   cases hp : p i with
   | true=>
    rw [Bool.true_and]
    have e : tloop f (st i) = tloop f (st (i + 1)):=by rw [tloop_eq,g1 hp]; rfl
    rw [e]
    exact ih (i + 1) (by omega)
   | false=>
    refine ⟨(fun h=>by cases h),fun _=>?_⟩
    obtain ⟨r,hr,hn,hq⟩:=g2 hp
    exact ⟨r,fin _ _ hr hn,hq⟩
 rw [List.range_eq_range']
 exact key n 0 (by omega)
def fLO {R R' : Type} (g : R→R') (id n : Nat) : Option R→LO Int R'
 | some r=>.ret (g r)
 | none=>.brk id (n : Int)
theorem tloop_find {R R' : Type} {f : Int→Option (LO Int R')} {n : Nat} {q : Nat→Option R} (g : R→R') {id : Nat}
  (h1 : ∀ i,i < n→(q i = none→f (i : Int) = some (.next ((i + 1 : Nat) : Int)))∧(∀ r,q i = some r→f (i : Int) = some (.ret (g r)))) (h2 : f (n : Int) = some (.brk id (n : Int))) :
  tloop f (0 : Int) = some (fLO g id n ((List.range n).findSome? q)):=by
 have key : ∀ k i,i + k = n→tloop f (i : Int) = some (fLO g id n ((List.range' i k).findSome? q)):=by
  intro k
  induction k with
  | zero=>
   intro i hi
   obtain rfl : i = n:=by omega
   rw [tloop_eq,h2]; rfl
  | succ k ih=>
   intro i hi
   rw [List.range'_succ,List.findSome?_cons]
   obtain ⟨g1,g2⟩:=h1 i (by omega)
   cases hq : q i with
   | none=>
    have e : tloop f (i : Int) = tloop f ((i + 1 : Nat) : Int):=by rw [tloop_eq,g1 hq]; rfl
    rw [e]
    exact ih (i + 1) (by omega)
   | some r=>rw [tloop_eq,g2 r hq]; rfl
 rw [List.range_eq_range']
 exact key n 0 (by omega)
theorem scope {A : Type} {F : Nat × Unit→Option (LO (Nat × Unit) A)} {X : A} (h : F (0,()) = some (.ret X)) : Option.bind (tloop F (0,())) LO.fin1 = some X:=by
 rw [tloop_eq,h]; rfl

theorem p108 {c : Cat} (hm : c.2.1.length≤1048576) (ht : c.2.2.1.length = c.2.1.length) (x y : Int) : G108 (c,(x,y)) = some (homL c x y):=by
 obtain ⟨c1,c2,c3,c4,c5⟩:=c
 unfold G108
 simp only at hm ht ⊢
 refine bind_of (v:=.brk 0 ((c2.length : Int),homL (c1,(c2,(c3,(c4,c5)))) x y)) (gather (fun i hi acc ha=>?_) fun acc=>?_) rfl
 ·have hi3 : i < c3.length:=by omega
  simp only [lt_cast,hi,decide_true,cond_true,in_cast hi,in_cast hi3,if_true,and_self,Int.toNat_natCast,List.length_cons,List.length_nil]
  rw [wrap_sm (by omega) (by omega),if_pos (show acc.length + (0 + 1)≤17592186044416 by omega)]
  show _ = some (LO.next (((i + 1 : Nat) : Int),bif decide (c2.getD i 0 = x) && decide (c3.getD i 0 = y) then acc ++ [(i : Int)] else acc))
  cases decide (c2.getD i 0 = x) <;> cases decide (c3.getD i 0 = y) <;> rfl
 ·simp only [lt_cast,Nat.lt_irrefl,decide_false,cond_false]
theorem p69 {c : Cat} (hm : c.2.1.length≤1048576) (ht : c.2.2.1.length = c.2.1.length) (x y : Int) : G69 (c,(x,y)) = some (homL c x y):=p108 hm ht x y
theorem homL_to {c : Cat} {x y : Int} {i : Nat} (hi : i < (homL c x y).length) : ∃ f : Nat,f < ar c∧(homL c x y).getD i 0 = (f : Int)∧fT c f = x∧tT c f = y:=by
 have hm : (homL c x y).getD i 0 ∈ homL c x y:=getD_mem' 0 hi
 obtain ⟨f,hf,e⟩:=List.mem_map.1 hm
 obtain ⟨g1,g2⟩:=List.mem_filter.1 hf
 rw [Bool.and_eq_true,decide_eq_true_eq,decide_eq_true_eq] at g2
 exact ⟨f,List.mem_range.1 g1,e.symm,g2⟩

end
end Go.Ve.D


namespace Go.Ve.D
open Go Go.Ve
noncomputable section

section
variable (d : Cat) (s : List (List Int)) (bh : List (List (List Int))) (x : Nat)
def ims (y e z : Nat) : List Int:=(List.range (homL d (y : Int) (z : Int)).length).map fun i=>(M2 bh ((homL d (y : Int) (z : Int)).getD i 0).toNat x).getD e 0
end
section
variable {c d : Cat} {s : List (List Int)} {be bh : List (List (List Int))}
theorem MP.el (h : MP c d s be bh) {x y e z i : Nat} (hx : (x : Int) < c.1) (he : (e : Int) < S2 s x y) (hi : i < (homL d (y : Int) (z : Int)).length) : ∃ b : Nat,b < ar d∧(homL d (y : Int) (z : Int)).getD i 0 = (b : Int)∧e < (M2 bh b x).length∧0≤(M2 bh b x).getD e 0∧(M2 bh b x).getD e 0 < S2 s x z:=by
 obtain ⟨b,hb,eb,e1,e2⟩:=homL_to hi
 obtain ⟨g1,g2⟩:=h.hv b hb x hx
 rw [e1] at g1
 rw [e2] at g2
 have hl : e < (M2 bh b x).length:=by omega
 obtain ⟨v1,v2⟩:=wi_get g2 hl
 exact ⟨b,hb,eb,hl,v1,v2⟩
theorem MP.ag (h : MP c d s be bh) {x y e z : Nat} (hx : (x : Int) < c.1) (he : (e : Int) < S2 s x y) {R : Type} {id : Nat} {g : Nat→Int × List Int→Option R} {r : R} (hg : g id (((homL d (y : Int) (z : Int)).length : Int),ims d bh x y e z) = some r) :
  Option.bind (tloop (fun (v2 : (Int × (List Int)))=>(bif (decide (v2.1 < (((homL d (y : Int) (z : Int)).length : Nat) : Int))) then (if (((0 : Int)≤v2.1)∧(v2.1 < (((homL d (y : Int) (z : Int)).length : Nat) : Int))) then (if (((0 : Int)≤((homL d (y : Int) (z : Int)).getD (v2.1).toNat (0 : Int)))∧(((homL d (y : Int) (z : Int)).getD (v2.1).toNat (0 : Int)) < ((bh.length : Nat) : Int))) then (if (((0 : Int)≤(x : Int))∧((x : Int) < (((bh.getD (((homL d (y : Int) (z : Int)).getD (v2.1).toNat (0 : Int))).toNat ([] : (List (List Int)))).length : Nat) : Int))) then (if (((0 : Int)≤(e : Int))∧((e : Int) < ((((bh.getD (((homL d (y : Int) (z : Int)).getD (v2.1).toNat (0 : Int))).toNat ([] : (List (List Int)))).getD ((x : Int)).toNat ([] : (List Int))).length : Nat) : Int))) then (if ((v2.2.length + ((((bh.getD (((homL d (y : Int) (z : Int)).getD (v2.1).toNat (0 : Int))).toNat ([] : (List (List Int)))).getD ((x : Int)).toNat ([] : (List Int))).getD ((e : Int)).toNat (0 : Int)) :: ([] : (List Int))).length)≤17592186044416) then (some (LO.next ((IntKind.wrap .i64 (v2.1 + (1 : Int))),(v2.2 ++ ((((bh.getD (((homL d (y : Int) (z : Int)).getD (v2.1).toNat (0 : Int))).toNat ([] : (List (List Int)))).getD ((x : Int)).toNat ([] : (List Int))).getD ((e : Int)).toNat (0 : Int)) :: ([] : (List Int))))))) else none) else none) else none) else none) else none) else (some (LO.brk id (v2.1,v2.2))))) ((0 : Int),([] : (List Int)))) (LO.fin g) = some r:=by
 obtain ⟨b1,b2,b3,b4,b5,b6,b7,b8⟩:=h.hd.hd
 have hm' : ar d≤40:=b2
 have l3 : bh.length = ar d:=h.sz.l3
 have hll : (homL d (y : Int) (z : Int)).length≤ar d:=homL_len
 refine bind_of (v:=.brk id (((homL d (y : Int) (z : Int)).length : Int),ims d bh x y e z)) (gatherM (fun i hi acc ha=>?_) fun acc=>?_) (by exact hg)
 ·obtain ⟨b,hb,eb,hl,v1,v2⟩:=h.el hx he hi
  have hb' : b < bh.length:=by omega
  have xb : x < (bh.getD b []).length:=by have:=h.hr b hb; omega
  have hl' : e < ((bh.getD b []).getD x []).length:=hl
  simp only [lt_cast,hi,decide_true,cond_true,in_cast hi,eb,in_cast hb',in_cast xb,in_cast hl',and_self,if_true,Int.toNat_natCast,List.length_cons,List.length_nil]
  rw [wrap_sm (by omega) (by omega),if_pos (show acc.length + (0 + 1)≤17592186044416 by omega)]
  rfl
 ·simp only [lt_self,cond_false]
end
end
end Go.Ve.D


namespace Go.Ve.D
open Go Go.Ve
noncomputable section

section
variable {c d : Cat} {s : List (List Int)} {be bh : List (List (List Int))}
end
end
end Go.Ve.D


namespace Go.Ve.D
open Go Go.Ve
noncomputable section

section
variable {c d : Cat} {s : List (List Int)} {be bh : List (List (List Int))}
end

def okL (x : List (List (List Int))) : Prop:=x.length≤1048576∧∀ z ∈ x,z.length≤1048576∧∀ y ∈ z,y.length≤1048576
theorem p41b {c : Cat} {b : Int} (hb : 0≤b∧b≤1048576) (h1 : c.2.1.length≤maxLen) (h2 : c.2.2.1.length≤maxLen) (h3 : c.2.2.2.1.length≤maxLen) (h4 : c.2.2.2.2.length≤maxLen) (h5 : ∀ y ∈ c.2.2.2.2,y.length≤maxLen) :
  ∃ r,G41 (c,b) = some r∧(r < 0∨(0≤r∧r≤1048576∧okC c)):=by
 unfold G41
 obtain ⟨r1,e1,f1⟩:=p47 (b:=b) hb h1
 simp only [e1,Option.bind_some]
 by_cases n1 : r1 < 0
 ·exact ⟨-1,by simp only [n1,decide_true,cond_true],.inl (by decide)⟩
 simp only [n1,decide_false,cond_false]
 obtain ⟨r2,e2,f2⟩:=p47 (b:=r1) (by omega) h2
 simp only [e2,Option.bind_some]
 by_cases n2 : r2 < 0
 ·exact ⟨-1,by simp only [n2,decide_true,cond_true],.inl (by decide)⟩
 simp only [n2,decide_false,cond_false]
 obtain ⟨r3,e3,f3⟩:=p47 (b:=r2) (by omega) h3
 simp only [e3,Option.bind_some]
 by_cases n3 : r3 < 0
 ·exact ⟨-1,by simp only [n3,decide_true,cond_true],.inl (by decide)⟩
 simp only [n3,decide_false,cond_false]
 obtain ⟨r4,e4,f4⟩:=p48 (b:=r3) (by omega) h4 h5
 simp only [e4,Option.bind_some]
 by_cases n4 : r4 < 0
 ·exact ⟨-1,by simp only [n4,decide_true,cond_true],.inl (by decide)⟩
 simp only [n4,decide_false,cond_false]
 refine ⟨r4,rfl,.inr ?_⟩
 have f4:=f4.resolve_left n4
 exact ⟨f4.1,by omega,by omega,by omega,by omega,f4.2.2.1,f4.2.2.2⟩
theorem p60 {x : List (List (List Int))} (h : okL x) : G60 x = some x:=by
 obtain ⟨h,hx⟩:=h
 unfold G60
 rw [if_pos (by omega)]
 refine bind_of (v:=.brk 0 ((x.length : Int),x)) (tloop_iter (st:=fun i=>((i : Int),x.take i ++ (List.replicate x.length []).drop i)) (n:=x.length) (fun i hi=>?_) (by simp) (fun y=>by simp)) rfl
 have e : (x.take i ++ (List.replicate x.length ([] : List (List Int))).drop i).length = x.length:=by simp; omega
 obtain ⟨g1,g2⟩:=hx _ (getD_mem' [] hi)
 have g : G52 (x.getD i []) = some (x.getD i []):=p52 g1 g2
 have hm : (x.take i ++ (List.replicate x.length ([] : List (List Int))).drop i).set i (x.getD i []) = x.take (i + 1) ++ (List.replicate x.length ([] : List (List Int))).drop (i + 1):=take_set [] (by simp) hi
 simp only [lt_cast,hi,decide_true,cond_true,in_cast hi,if_true,e,Int.toNat_natCast,and_self,g,Option.bind_some]
 rw [hm,wrap_sm (by omega) (by omega)]
 rfl
theorem p27 {x : List (List (List Int))} (h : okL x) : G27 (x,x) = some true:=by
 obtain ⟨h,hx⟩:=h
 unfold G27
 simp only [decide_true,Bool.not_true,cond_false]
 refine bind_of (v:=.brk 0 (x.length : Int)) (tloop_iter (st:=fun i=>(i : Int)) (n:=x.length) (fun i hi=>?_) (by simp) (fun y=>by simp)) rfl
 obtain ⟨g1,g2⟩:=hx _ (getD_mem' [] hi)
 have g : G36 (x.getD i [],x.getD i []) = some true:=p36 g1 g2
 simp only [lt_cast,hi,decide_true,cond_true,in_cast hi,if_true,Int.toNat_natCast,and_self,Bool.not_true,cond_false,g,Option.bind_some]
 rw [wrap_sm (by omega) (by omega)]
 rfl
section
variable {c d : Cat} {s : List (List Int)} {be bh : List (List (List Int))}
end
end
end Go.Ve.D

