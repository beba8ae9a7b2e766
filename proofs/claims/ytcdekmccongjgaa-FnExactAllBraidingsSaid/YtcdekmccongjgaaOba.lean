/- Set functors: what makes them. -/
import Derived.Test.YtcdekmccongjgaaLa
namespace Go.Ve.D
open Go Go.Ve

theorem chk2 {R S : Type} {F : Int→Option (LO Int R)} {n : Nat} {p : Nat→Bool} {Q : R→Prop} {o : LO Int R} {k : LO Int R→Option S} {Post : Bool→Option S→Prop}
  (h1 : ∀ i,i < n→(p i = true→F (i : Int) = some (.next ((i + 1 : Nat) : Int)))∧(p i = false→∃ r,F (i : Int) = some (.ret r)∧Q r)) (h2 : F (n : Int) = some o) (ho : ∀ y,o≠.next y)
  (hA : Post true (k o)) (hB : ∀ r,Q r→Post false (k (.ret r))) : Post ((List.range n).all p) (Option.bind (tloop F (0 : Int)) k):=by
 refine chk_bind (st:=fun i : Nat=>(i : Int)) (p:=p) (Q:=Q) (o:=o) (Post:=fun x=>Post ((List.range n).all p) x) h1 h2 ho (fun hall=>?_) (fun hall r hr=>?_)
 ·rw [hall]; exact hA
 ·rw [hall]; exact hB r hr

def inn1 {R : Type} (bad : R→Prop) (s : Int) (p : Bool) (o : Option (LO Int R)) : Prop:=(p = true→o = some (.next s))∧(p = false→∃ r,o = some (.ret r)∧bad r)
def lift {R : Type} (bad : R→Prop) (r : LO Int R) : Prop:=∃ r',r = .ret r'∧bad r'
theorem chkL {R : Type} {bad : R→Prop} {F : Int→Option (LO Int (LO Int R))} {n : Nat} {p : Nat→Bool} {id : Nat} {s : Int} {g : Nat→Int→Option (LO Int R)}
  (h1 : ∀ i,i < n→inn1 (lift bad) ((i + 1 : Nat) : Int) (p i) (F (i : Int))) (h2 : F (n : Int) = some (.brk id (n : Int))) (hk : g id (n : Int) = some (.next s)) :
  inn1 bad s ((List.range n).all p) (Option.bind (tloop F (0 : Int)) (LO.fin g)):=by
 refine chk_bind (st:=fun i : Nat=>(i : Int)) (p:=p) (Q:=lift bad) (o:=.brk id (n : Int)) (Post:=fun x=>inn1 bad s ((List.range n).all p) x) h1 h2 (fun y=>by simp) (fun hall=>?_) (fun hall r hr=>?_)
 ·rw [hall]
  exact ⟨fun _=>hk,(fun h=>by cases h)⟩
 ·rw [hall]
  obtain ⟨r',rfl,hb⟩:=hr
  exact ⟨(fun h=>by cases h),fun _=>⟨r',rfl,hb⟩⟩
theorem chkT {R : Type} {bad : R→Prop} {F : Int→Option (LO Int R)} {n : Nat} {p : Nat→Bool} {id : Nat} {g : Nat→Int→Option R} {Post : Bool→Option R→Prop}
  (h1 : ∀ i,i < n→inn1 bad ((i + 1 : Nat) : Int) (p i) (F (i : Int))) (h2 : F (n : Int) = some (.brk id (n : Int))) (hA : Post true (g id (n : Int))) (hB : ∀ r,bad r→Post false (some r)) :
  Post ((List.range n).all p) (Option.bind (tloop F (0 : Int)) (LO.fin g)):=
 chk2 (Q:=bad) h1 h2 (fun y=>by simp) hA fun r hr=>hB r hr
theorem inn1_t {R : Type} {bad : R→Prop} {s : Int} {o : Option (LO Int R)} (h : o = some (.next s)) : inn1 bad s true o:=⟨fun _=>h,(fun h=>by cases h)⟩
theorem inn1_f {R : Type} {bad : R→Prop} {s : Int} {o : Option (LO Int R)} (h : ∃ r,o = some (.ret r)∧bad r) : inn1 bad s false o:=⟨(fun h=>by cases h),fun _=>h⟩

abbrev SF:=Int × List Int × List Int × List Int × List (List Int) × List Int × List (List Int)
def szF (f : SF) : List Int:=f.2.2.2.2.2.1
def sz (f : SF) (x : Int) : Int:=(szF f).getD x.toNat 0
end Go.Ve.D


namespace Go.Ve.D
open Go Go.Ve

theorem out_all {c : Cat} {x : Int} {q : Int→Bool} : (List.range (outL c x).length).all (fun i=>q ((outL c x).getD i 0)) = (List.range (ar c)).all fun b=>!decide (fT c b = x) || q (b : Int):=by
 rw [all_idx (0 : Int) q]
 unfold outL
 rw [List.all_map,List.all_filter]
 rfl
theorem p58 (c : Cat) (x : Int) : G58 (c,x) = some (inn c.1 x):=by
 unfold G58 inn
 cases decide (0≤x) <;> rfl
end Go.Ve.D


namespace Go.Ve.D
open Go Go.Ve
noncomputable section

theorem accum {α R : Type} {F : Int × List α→Option (LO (Int × List α) R)} {n K L : Nat} {g : Nat→List α} {id : Nat} (hg : ∀ i,i < n→(g i).length≤K)
  (h1 : ∀ i,i < n→∀ acc : List α,acc.length≤L + i * K→F ((i : Int),acc) = some (.next (((i + 1 : Nat) : Int),acc ++ g i))) (h2 : ∀ acc : List α,F ((n : Int),acc) = some (.brk id ((n : Int),acc))) (acc0 : List α) (h0 : acc0.length≤L) :
  tloop F ((0 : Int),acc0) = some (.brk id ((n : Int),acc0 ++ (List.range n).flatMap g)):=by
 have hl : ∀ i,i≤n→(acc0 ++ (List.range i).flatMap g).length≤L + i * K:=by
  intro i
  induction i with
  | zero=>intro _; simpa using h0
  | succ i ih=>
   intro hi
   have:=ih (by omega)
   have:=hg i (by omega)
   rw [List.range_succ,List.flatMap_append,← List.append_assoc,List.length_append]
   simp only [List.flatMap_cons,List.flatMap_nil,List.append_nil]
   rw [Nat.succ_mul]; omega
 have hst:=tloop_iter (f:=F) (st:=fun i : Nat=>((i : Int),acc0 ++ (List.range i).flatMap g)) (n:=n) (o:=.brk id ((n : Int),acc0 ++ (List.range n).flatMap g)) (fun i hi=>?_) (h2 _) (fun y=>by simp)
 ·simpa using hst
 ·rw [h1 i hi _ (hl i (by omega)),List.range_succ,List.flatMap_append,List.append_assoc]
  simp
theorem flat_len {α : Type} {g : Nat→List α} {K : Nat} : ∀ n,(∀ i,i < n→(g i).length≤K)→((List.range n).flatMap g).length≤n * K
 | 0,_=>by simp
 | n + 1,h=>by
  have:=flat_len n fun i hi=>h i (by omega)
  have:=h n (by omega)
  rw [List.range_succ,List.flatMap_append,List.length_append,Nat.succ_mul]
  simp only [List.flatMap_cons,List.flatMap_nil,List.append_nil]
  omega
theorem gatherM {α R : Type} {F : (Int × List α)→Option (LO (Int × List α) R)} {n : Nat} {g : Nat→α} {id : Nat}
  (h1 : ∀ i,i < n→∀ acc : List α,acc.length = i→F ((i : Int),acc) = some (.next (((i + 1 : Nat) : Int),acc ++ [g i])))
  (h2 : ∀ acc : List α,F ((n : Int),acc) = some (.brk id ((n : Int),acc))) :
  tloop F ((0 : Int),[]) = some (.brk id ((n : Int),(List.range n).map g)):=by
 refine tloop_iter (st:=fun i : Nat=>((i : Int),(List.range i).map g)) (n:=n) (fun i hi=>?_) (h2 _) (fun y=>by simp)
 rw [h1 i hi _ (by simp),List.range_succ,List.map_append]
 rfl

end
end Go.Ve.D


namespace Go.Ve.D
open Go Go.Ve
noncomputable section

end
end Go.Ve.D


namespace Go.Ve.D
open Go Go.Ve
noncomputable section

theorem mk39 {x : List (List Int)} {k : Int} (h0 : 0≤k) (h1 : k≤1125899906842624) (h : x.length≤1048576) (hx : ∀ y ∈ x,y.length≤1048576) : ∃ k' y,G39 (x,k) = some (k',y)∧0≤k'∧k'≤k + 1099511627776:=by
 have ht:=tot_le hx x.length (Nat.le_refl _)
 exact ⟨_,_,p39 h0 h1 h hx,by omega,by omega⟩
theorem mk46 {c : Cat} {k : Int} (h0 : 0≤k) (h1 : k≤562949953421312) (h : okC c) : ∃ k' y,G46 (c,k) = some (k',y)∧0≤k'∧k'≤k + 8796093022208:=by
 obtain ⟨g1,g2,g3,g4,g5⟩:=h
 obtain ⟨k1,y1,a1,b1,c1,d1⟩:=mh16 h0 (by omega) g1
 obtain ⟨k2,y2,a2,b2,c2,d2⟩:=mh16 b1 (by omega) g2
 obtain ⟨k3,y3,a3,b3,c3,d3⟩:=mh16 b2 (by omega) g3
 obtain ⟨k4,y4,a4,b4,c4⟩:=mk39 b3 (by omega) g4 g5
 refine ⟨k4,(y1,(y2,(y3,y4))),?_,b4,by omega⟩
 unfold G46
 simp only [a1,a2,a3,a4,Option.bind_some]
end
end Go.Ve.D

