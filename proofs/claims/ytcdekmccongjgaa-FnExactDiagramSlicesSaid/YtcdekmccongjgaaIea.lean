/- Diagrams: which lists are diagrams. -/
import Derived.Test.YtcdekmccongjgaaIbx
namespace Go.Ve.D
open Go Go.Ve
noncomputable section

abbrev Nd:=Int × Int
abbrev Dg:=List Nd
def nodeB (k : Nd) : Bool:=bif decide (k.1 = 0) then decide (0≤k.2) && decide (k.2≤39) else bif decide (k.1 = 1) then decide (0≤k.2) && decide (k.2≤7) else (bif decide (k.1 = 2) then true else decide (k.1 = 3)) && decide (k.2 = 0)
def binB (k : Nd) : Bool:=decide (2≤k.1)
def nd (x : Dg) (i : Nat) : Nd:=x.getD i ((0 : Int),(0 : Int))
def opn (x : Dg) : Nat→Nat
 | 0=>1
 | i + 1=>bif binB (nd x i) then opn x i + 1 else opn x i - 1
theorem opn_le (x : Dg) : ∀ i,opn x i≤i + 1
 | 0=>Nat.le_refl _
 | i + 1=>by
  have:=opn_le x i
  unfold opn
  cases binB (nd x i) <;> simp only [cond_true,cond_false] <;> omega
def preB (x : Dg) : Bool:=(List.range x.length).all fun i=>nodeB (nd x i)
def opB (x : Dg) : Bool:=(List.range x.length).all fun i=>!decide (opn x i = 0)
def isDg (x : Dg) : Bool:=decide (x.length≤40) && (preB x && (opB x && decide (opn x x.length = 0)))
theorem p166 (k : Nd) : ∃ r : Int,G166 k = some r∧decide (r < 0) = (!nodeB k)∧(nodeB k = true→r = bif binB k then 2 else 0):=by
 obtain ⟨a,b⟩:=k
 unfold G166 nodeB binB
 simp only [p154]
 by_cases h0 : a = 0
 ·simp only [h0,decide_true,cond_true,Option.bind_some]
  cases decide (0≤b) && decide (b≤39) with
  | true=>exact ⟨0,rfl,rfl,fun _=>rfl⟩
  | false=>exact ⟨-1,rfl,rfl,fun h=>by cases h⟩
 by_cases h1 : a = 1
 ·simp only [h1,decide_true,cond_true,Option.bind_some,show ¬ ((1 : Int) = 0) by decide,decide_false,cond_false]
  cases decide (0≤b) && decide (b≤7) with
  | true=>exact ⟨0,rfl,rfl,fun _=>rfl⟩
  | false=>exact ⟨-1,rfl,rfl,fun h=>by cases h⟩
 by_cases h2 : a = 2
 ·simp only [h2,decide_true,cond_true,show ¬ ((2 : Int) = 0) by decide,show ¬ ((2 : Int) = 1) by decide,decide_false,cond_false,Bool.true_and]
  cases decide (b = 0) with
  | true=>exact ⟨2,rfl,rfl,fun _=>rfl⟩
  | false=>exact ⟨-1,rfl,rfl,fun h=>by cases h⟩
 by_cases h3 : a = 3
 ·simp only [h3,decide_true,cond_true,show ¬ ((3 : Int) = 0) by decide,show ¬ ((3 : Int) = 1) by decide,show ¬ ((3 : Int) = 2) by decide,decide_false,cond_false,Bool.true_and]
  cases decide (b = 0) with
  | true=>exact ⟨2,rfl,rfl,fun _=>rfl⟩
  | false=>exact ⟨-1,rfl,rfl,fun h=>by cases h⟩
 ·simp only [h0,h1,h2,h3,decide_false,cond_false,Bool.false_and]
  exact ⟨-1,rfl,rfl,fun h=>by cases h⟩
theorem all_and {n : Nat} {p q : Nat→Bool} : (List.range n).all (fun i=>p i && q i) = ((List.range n).all p && (List.range n).all q):=by
 rw [Bool.eq_iff_iff,Bool.and_eq_true,List.all_eq_true,List.all_eq_true,List.all_eq_true]
 constructor
 ·intro h
  exact ⟨fun i hi=>(Bool.and_eq_true _ _ ▸ h i hi).1,fun i hi=>(Bool.and_eq_true _ _ ▸ h i hi).2⟩
 ·intro h i hi
  rw [h.1 i hi,h.2 i hi]; rfl
theorem p123 {x : Dg} (hx : x.length≤1048576) : G123 x = some (isDg x):=by
 unfold G123 isDg
 by_cases hl : x.length≤40
 case neg=>
  rw [decide_eq_true (show (40 : Int) < (x.length : Int) by omega),decide_eq_false hl]
  rfl
 rw [decide_eq_false (show ¬ ((40 : Int) < (x.length : Int)) by omega),decide_eq_true hl]
 simp only [cond_false,Bool.true_and]
 refine chk_bind (st:=fun i : Nat=>(((opn x i : Nat) : Int),(i : Int))) (n:=x.length) (p:=fun i=>nodeB (nd x i) && !decide (opn x i = 0)) (Q:=fun r : Bool=>r = false) (o:=.brk 0 (((opn x x.length : Nat) : Int),(x.length : Int))) (Post:=fun o : Option Bool=>o = some (preB x && (opB x && decide (opn x x.length = 0)))) (fun i hi=>?_) ?_ (fun y=>by simp) (fun hall=>?_) (fun hall r hr=>?_)
 ·obtain ⟨r,e1,e2,e3⟩:=p166 (nd x i)
  have e1' : G166 ((x.getD i ((0 : Int),(0 : Int))).1,(x.getD i ((0 : Int),(0 : Int))).2) = some r:=e1
  have ho:=opn_le x i
  simp only [lt_cast,hi,decide_true,cond_true,in_cast hi,and_self,if_true,Int.toNat_natCast,e1',Option.bind_some,e2]
  cases hn : nodeB (nd x i) with
  | false=>
   refine ⟨fun h=>(by cases h),fun _=>⟨false,rfl,rfl⟩⟩
  | true=>
   have e4:=e3 hn
   simp only [Bool.not_true,cond_false,Option.bind_some,Bool.true_and]
   have ez : decide (((opn x i : Nat) : Int) = 0) = decide (opn x i = 0):=by rw [Bool.eq_iff_iff]; simp
   rw [ez]
   cases hz : decide (opn x i = 0) with
   | true=>exact ⟨fun h=>(by cases h),fun _=>⟨false,rfl,rfl⟩⟩
   | false=>
    have hz:=of_decide_eq_false hz
    refine ⟨fun _=>?_,(fun h=>by cases h)⟩
    simp only [cond_false]
    rw [wrap_sm (n:=(i : Int) + 1) (by omega) (by omega),wrap_id (n:=((opn x i : Nat) : Int) - 1) (by omega) (by omega),e4]
    show some (LO.next _) = some (LO.next (((bif binB (nd x i) then opn x i + 1 else opn x i - 1 : Nat) : Int),_))
    cases binB (nd x i) with
    | true=>
     simp only [cond_true]
     rw [wrap_id (by omega) (by omega),show ((opn x i : Nat) : Int) - 1 + 2 = ((opn x i + 1 : Nat) : Int) by omega]
     rfl
    | false=>
     simp only [cond_false]
     rw [wrap_id (by omega) (by omega),show ((opn x i : Nat) : Int) - 1 + 0 = ((opn x i - 1 : Nat) : Int) by omega]
     rfl
 ·simp only [lt_cast,Nat.lt_irrefl,decide_false,cond_false]
 ·rw [all_and,Bool.and_eq_true] at hall
  have h1 : preB x = true:=hall.1
  have h2 : opB x = true:=hall.2
  rw [h1,h2]
  show some (decide (((opn x x.length : Nat) : Int) = 0)) = some (decide (opn x x.length = 0))
  congr 1
  rw [Bool.eq_iff_iff]; simp
 ·rw [hr]
  rw [all_and] at hall
  have h : (preB x && opB x) = false:=hall
  rw [← Bool.and_assoc,h]; rfl
end
end Go.Ve.D


namespace Go.Ve.D
open Go Go.Ve
noncomputable section

theorem leastB {P : Nat→Bool} : ∀ N,∃ n,n≤N∧(∀ i,i < n→P i = true)∧(P n = false∨n = N)
 | 0=>⟨0,Nat.le_refl _,fun i hi=>absurd hi (Nat.not_lt_zero _),.inr rfl⟩
 | N + 1=>by
  obtain ⟨n,h1,h2,h3⟩:=leastB (P:=P) N
  rcases h3 with e | e
  ·exact ⟨n,by omega,h2,.inl e⟩
  ·subst e
   cases hp : P n with
   | false=>exact ⟨n,by omega,h2,.inl hp⟩
   | true=>exact ⟨n + 1,Nat.le_refl _,fun i hi=>(by
     rcases Nat.lt_or_ge i n with h | h
     ·exact h2 i h
     ·have : i = n:=by omega
      rw [this]; exact hp),.inr rfl⟩
theorem p167 {x : Dg} (hx : x.length≤40) : ∃ r : Int,G167 (x,(0 : Int)) = some r∧decide (r = (x.length : Int)) = (opB x && decide (opn x x.length = 0)):=by
 obtain ⟨n,hn,hbef,hend⟩:=leastB (P:=fun i=>!decide (opn x i = 0)) x.length
 have hpos : ∀ i,i < n→0 < opn x i:=fun i hi=>by
  have:=hbef i hi
  simp only [Bool.not_eq_true',decide_eq_false_iff_not] at this
  omega
 have step : ∀ i,i < n→∀ F : Int × Int→Option (LO (Int × Int) Int),F = (fun (v0 : (Int × Int))=>(bif (decide ((0 : Int) < v0.2)) then (bif (decide (((x.length : Nat) : Int)≤v0.1)) then (retM (some (-(1 : Int)))) else (if (((0 : Int)≤v0.1)∧(v0.1 < ((x.length : Nat) : Int))) then (bif (decide ((2 : Int)≤(x.getD (v0.1).toNat ((0 : Int),(0 : Int))).1)) then (some (LO.next ((IntKind.wrap .i64 (v0.1 + (1 : Int))),(IntKind.wrap .i64 ((IntKind.wrap .i64 (v0.2 + (2 : Int))) - (1 : Int)))))) else (some (LO.next ((IntKind.wrap .i64 (v0.1 + (1 : Int))),(IntKind.wrap .i64 (v0.2 - (1 : Int))))))) else none)) else (some (LO.brk 0 (v0.1,v0.2))))) →
   F ((i : Int),((opn x i : Nat) : Int)) = some (.next (((i + 1 : Nat) : Int),((opn x (i + 1) : Nat) : Int))):=by
  rintro i hi F rfl
  have hi' : i < x.length:=by omega
  have h0:=hpos i hi
  have ho:=opn_le x i
  have d1 : decide ((0 : Int) < ((opn x i : Nat) : Int)) = true:=decide_eq_true (by omega)
  have d2 : decide ((x.length : Int)≤(i : Int)) = false:=decide_eq_false (by omega)
  simp only [d1,d2,cond_true,cond_false,in_cast hi',and_self,if_true,Int.toNat_natCast]
  rw [wrap_sm (n:=(i : Int) + 1) (by omega) (by omega),wrap_id (n:=((opn x i : Nat) : Int) - 1) (by omega) (by omega),wrap_id (n:=((opn x i : Nat) : Int) + 2) (by omega) (by omega),wrap_id (n:=((opn x i : Nat) : Int) + 2 - 1) (by omega) (by omega)]
  show (bif binB (nd x i) then _ else _) = some (LO.next (_,((bif binB (nd x i) then opn x i + 1 else opn x i - 1 : Nat) : Int)))
  cases binB (nd x i) with
  | true=>
   simp only [cond_true]
   rw [show ((opn x i : Nat) : Int) + 2 - 1 = ((opn x i + 1 : Nat) : Int) by omega]
   rfl
  | false=>
   simp only [cond_false]
   rw [show ((opn x i : Nat) : Int) - 1 = ((opn x i - 1 : Nat) : Int) by omega]
   rfl
 by_cases hz : opn x n = 0
 ·refine ⟨(n : Int),?_,?_⟩
  ·unfold G167
   refine bind_of (v:=.brk 0 ((n : Int),(0 : Int))) (tloop_iter (st:=fun i : Nat=>((i : Int),((opn x i : Nat) : Int))) (n:=n) (fun i hi=>step i hi _ rfl) ?_ (fun y=>by simp)) rfl
   simp only [hz]
   rfl
  ·by_cases e : n = x.length
   ·subst e
    have h1 : opB x = true:=by
     unfold opB
     exact List.all_eq_true.2 fun i hi=>hbef i (List.mem_range.1 hi)
    rw [h1,hz]; simp
   ·have h1 : opB x = false:=by
     unfold opB
     rw [List.all_eq_false]
     exact ⟨n,List.mem_range.2 (by omega),by simp [hz]⟩
    rw [h1,decide_eq_false (by omega)]; rfl
 ·have e : n = x.length:=by
   rcases hend with h | h
   ·simp [hz] at h
   ·exact h
  subst e
  refine ⟨-1,?_,?_⟩
  ·unfold G167
   refine bind_of (v:=.ret (-1)) (tloop_iter (st:=fun i : Nat=>((i : Int),((opn x i : Nat) : Int))) (n:=x.length) (fun i hi=>step i hi _ rfl) ?_ (fun y=>by simp)) rfl
   have d1 : decide ((0 : Int) < ((opn x x.length : Nat) : Int)) = true:=decide_eq_true (by omega)
   simp only [d1,cond_true,Int.le_refl,decide_true]
   rfl
  ·rw [decide_eq_false hz,Bool.and_false]
   exact decide_eq_false (by omega)
theorem p126 {x : Dg} (hx : x.length≤1048576) : G126 x = some (isDg x):=by
 unfold G126 isDg
 by_cases hl : x.length≤40
 case neg=>
  rw [decide_eq_true (show (40 : Int) < (x.length : Int) by omega),decide_eq_false hl]
  rfl
 rw [decide_eq_false (show ¬ ((40 : Int) < (x.length : Int)) by omega),decide_eq_true hl]
 simp only [cond_false,Bool.true_and]
 refine chk_bind (st:=fun i : Nat=>(i : Int)) (n:=x.length) (p:=fun i=>nodeB (nd x i)) (Q:=fun r : Bool=>r = false) (o:=.brk 0 (x.length : Int)) (Post:=fun o : Option Bool=>o = some (preB x && (opB x && decide (opn x x.length = 0)))) (fun i hi=>?_) ?_ (fun y=>by simp) (fun hall=>?_) (fun hall r hr=>?_)
 ·simp only [lt_cast,hi,decide_true,cond_true,in_cast hi,and_self,if_true,Int.toNat_natCast,p62,Option.bind_some]
  rw [wrap_sm (by omega) (by omega)]
  have key : ∀ k : Nd,(nodeB k = true→∀ a : Option (LO Int Bool),∀ y : LO Int Bool,(bif decide (k.1 = 0) then (bif !(decide (0≤k.2) && decide (k.2≤39)) then a else some y) else bif decide (k.1 = 1) then (bif !(decide (0≤k.2) && decide (k.2≤7)) then a else some y) else bif decide (k.1 = 2) then (bif decide (k.1 = 2) then (bif !decide (k.2 = 0) then a else some y) else a) else bif decide (k.1 = 3) then (bif !decide (k.2 = 0) then a else some y) else a) = some y) ∧
    (nodeB k = false→∀ a : Option (LO Int Bool),∀ y : LO Int Bool,(bif decide (k.1 = 0) then (bif !(decide (0≤k.2) && decide (k.2≤39)) then a else some y) else bif decide (k.1 = 1) then (bif !(decide (0≤k.2) && decide (k.2≤7)) then a else some y) else bif decide (k.1 = 2) then (bif decide (k.1 = 2) then (bif !decide (k.2 = 0) then a else some y) else a) else bif decide (k.1 = 3) then (bif !decide (k.2 = 0) then a else some y) else a) = a):=by
   intro k
   unfold nodeB
   cases decide (k.1 = 0) with
   | true=>cases decide (0≤k.2) && decide (k.2≤39) <;> exact ⟨fun h _ _=>(by first | rfl | cases h),fun h _ _=>(by first | rfl | cases h)⟩
   | false=>
    cases decide (k.1 = 1) with
    | true=>cases decide (0≤k.2) && decide (k.2≤7) <;> exact ⟨fun h _ _=>(by first | rfl | cases h),fun h _ _=>(by first | rfl | cases h)⟩
    | false=>
     cases decide (k.1 = 2) with
     | true=>cases decide (k.2 = 0) <;> exact ⟨fun h _ _=>(by first | rfl | cases h),fun h _ _=>(by first | rfl | cases h)⟩
     | false=>
      cases decide (k.1 = 3) <;> cases decide (k.2 = 0) <;> exact ⟨fun h _ _=>(by first | rfl | cases h),fun h _ _=>(by first | rfl | cases h)⟩
  obtain ⟨k1,k2⟩:=key (nd x i)
  exact ⟨fun h=>k1 h _ _,fun h=>⟨false,k2 h _ _,rfl⟩⟩
 ·simp only [lt_cast,Nat.lt_irrefl,decide_false,cond_false]
 ·have h1 : preB x = true:=hall
  obtain ⟨r,e1,e2⟩:=p167 hl
  rw [h1]
  refine bind_of (a:=G167 (x,(0 : Int))) e1 ?_
  show some (decide (r = (x.length : Int))) = _
  rw [e2]; rfl
 ·have h : preB x = false:=hall
  rw [hr,h]; rfl
inductive Tr where
 | leaf (k : Nd)
 | node (k : Nd) (a b : Tr)
def Tr.flat : Tr→Dg
 | .leaf k=>[k]
 | .node k a b=>k :: (a.flat ++ b.flat)
def Tr.ok : Tr→Bool
 | .leaf k=>nodeB k && !binB k
 | .node k a b=>(nodeB k && binB k) && (a.ok && b.ok)
def fl : List Tr→Dg
 | []=>[]
 | t :: l=>t.flat ++ fl l
def run : Dg→Nat→Bool
 | [],m=>decide (m = 0)
 | k :: l,m=>nodeB k && (!decide (m = 0) && run l (bif binB k then m + 1 else m - 1))
theorem run_tr : ∀ (l : Dg) (m : Nat),run l m = true→∃ ts : List Tr,ts.length = m∧l = fl ts∧∀ t ∈ ts,t.ok = true
 | [],m,h=>⟨[],(of_decide_eq_true h).symm,rfl,fun t h=>by cases h⟩
 | k :: l,m,h=>by
  have h : (nodeB k && (!decide (m = 0) && run l (bif binB k then m + 1 else m - 1))) = true:=h
  rw [Bool.and_eq_true,Bool.and_eq_true] at h
  obtain ⟨h1,h2,h3⟩:=h
  have hm : m≠0:=by simpa using h2
  obtain ⟨ts,g1,g2,g3⟩:=run_tr l _ h3
  cases hb : binB k with
  | false=>
   rw [hb] at g1
   refine ⟨.leaf k :: ts,by simp only [List.length_cons,g1,cond_false]; omega,by rw [g2]; rfl,fun t ht=>?_⟩
   rcases List.mem_cons.1 ht with rfl | ht
   ·show (nodeB k && !binB k) = true
    rw [h1,hb]; rfl
   ·exact g3 t ht
  | true=>
   rw [hb] at g1
   match ts,g1,g2,g3 with
   | [],g1,_,_=>simp only [List.length_nil,cond_true] at g1; omega
   | [_],g1,_,_=>simp only [List.length_cons,List.length_nil,cond_true] at g1; omega
   | a :: b :: ts,g1,g2,g3=>
    refine ⟨.node k a b :: ts,by simp only [List.length_cons,cond_true] at g1 ⊢; omega,?_,fun t ht=>?_⟩
    ·rw [g2]
     show k :: (a.flat ++ (b.flat ++ fl ts)) = (k :: (a.flat ++ b.flat)) ++ fl ts
     rw [List.cons_append,List.append_assoc]
    ·rcases List.mem_cons.1 ht with rfl | ht
     ·show ((nodeB k && binB k) && (a.ok && b.ok)) = true
      rw [h1,hb,g3 a (by simp),g3 b (by simp)]; rfl
     ·exact g3 t (by simp [ht])
theorem run_drop {x : Dg} (h1 : preB x = true) (h2 : opB x = true) (h3 : opn x x.length = 0) : ∀ k i,i + k = x.length→run (x.drop i) (opn x i) = true
 | 0,i,hi=>by
  have : i = x.length:=by omega
  subst this
  rw [List.drop_length,h3]; rfl
 | k + 1,i,hi=>by
  have hlt : i < x.length:=by omega
  have hd : x.drop i = nd x i :: x.drop (i + 1):=by
   rw [List.drop_eq_getElem_cons hlt]
   congr 1
   unfold nd
   rw [List.getD_eq_getElem?_getD,List.getElem?_eq_getElem hlt]; rfl
  rw [hd]
  have a1 : nodeB (nd x i) = true:=List.all_eq_true.1 h1 i (List.mem_range.2 hlt)
  have a2 : (!decide (opn x i = 0)) = true:=List.all_eq_true.1 h2 i (List.mem_range.2 hlt)
  show (nodeB (nd x i) && (!decide (opn x i = 0) && run (x.drop (i + 1)) (opn x (i + 1)))) = true
  rw [a1,a2,run_drop h1 h2 h3 k (i + 1) (by omega)]; rfl
theorem dg_tr {x : Dg} (h : isDg x = true) : ∃ t : Tr,t.ok = true∧x = t.flat∧x.length≤40:=by
 unfold isDg at h
 rw [Bool.and_eq_true,Bool.and_eq_true,Bool.and_eq_true,decide_eq_true_eq,decide_eq_true_eq] at h
 obtain ⟨h0,h1,h2,h3⟩:=h
 obtain ⟨ts,g1,g2,g3⟩:=run_tr _ _ (run_drop h1 h2 h3 x.length 0 (by omega))
 have g1 : ts.length = 1:=g1
 match ts,g1,g2,g3 with
 | [t],_,g2,g3=>exact ⟨t,g3 t (by simp),by
   have g2 : x.drop 0 = t.flat ++ []:=g2
   rw [List.drop_zero,List.append_nil] at g2
   exact g2,h0⟩
end
end Go.Ve.D


namespace Go.Ve.D
open Go Go.Ve
noncomputable section

def At (x : Dg) (i : Nat) (t : Tr) : Prop:=∃ p s,x = p ++ (t.flat ++ s)∧p.length = i
theorem flat_pos : ∀ t : Tr,1≤t.flat.length
 | .leaf _=>Nat.le_refl _
 | .node k a b=>by
  show 1≤(k :: (a.flat ++ b.flat)).length
  rw [List.length_cons]; omega
theorem flat_node (k : Nd) (a b : Tr) : (Tr.node k a b).flat.length = a.flat.length + b.flat.length + 1:=by
 show (k :: (a.flat ++ b.flat)).length = _
 rw [List.length_cons,List.length_append]
def Tr.top : Tr→Nd
 | .leaf k=>k
 | .node k _ _=>k
theorem at_top {x : Dg} {i : Nat} {t : Tr} (h : At x i t) : i < x.length∧x.getD i ((0 : Int),(0 : Int)) = t.top∧i + t.flat.length≤x.length:=by
 obtain ⟨p,s,rfl,rfl⟩:=h
 have hp:=flat_pos t
 refine ⟨by rw [List.length_append,List.length_append]; omega,?_,by rw [List.length_append,List.length_append]; omega⟩
 rw [List.getD_eq_getElem?_getD,List.getElem?_append_right (Nat.le_refl _),Nat.sub_self]
 cases t <;> rfl
theorem at_node {x : Dg} {i : Nat} {k : Nd} {a b : Tr} (h : At x i (.node k a b)) : At x (i + 1) a∧At x (i + 1 + a.flat.length) b:=by
 obtain ⟨p,s,rfl,rfl⟩:=h
 refine ⟨⟨p ++ [k],b.flat ++ s,?_,by simp⟩,⟨p ++ k :: a.flat,s,?_,by simp [Nat.add_assoc,Nat.add_comm]⟩⟩
 ·show p ++ ((k :: (a.flat ++ b.flat)) ++ s) = _
  simp
 ·show p ++ ((k :: (a.flat ++ b.flat)) ++ s) = _
  simp
theorem ok_leaf {k : Nd} (h : (Tr.leaf k).ok = true) : k.1 = 0∨(k.1 = 1∧0≤k.2):=by
 have h : (nodeB k && !binB k) = true:=h
 unfold nodeB binB at h
 by_cases h0 : k.1 = 0
 ·exact .inl h0
 by_cases h1 : k.1 = 1
 ·right
  simp only [h1,show ¬ ((1 : Int) = 0) by decide,decide_false,decide_true,cond_false,cond_true,Bool.and_eq_true,decide_eq_true_eq] at h
  exact ⟨h1,h.1.1⟩
 ·by_cases h2 : k.1 = 2
  ·simp [h2] at h
  ·by_cases h3 : k.1 = 3
   ·simp [h3] at h
   ·simp [h0,h1,h2,h3] at h
theorem ok_node {k : Nd} {a b : Tr} (h : (Tr.node k a b).ok = true) : (k.1 = 2∨k.1 = 3)∧a.ok = true∧b.ok = true:=by
 have h : ((nodeB k && binB k) && (a.ok && b.ok)) = true:=h
 simp only [Bool.and_eq_true] at h
 obtain ⟨⟨h1,h2⟩,h3,h4⟩:=h
 refine ⟨?_,h3,h4⟩
 unfold nodeB at h1
 have h2 : 2≤k.1:=of_decide_eq_true h2
 rw [decide_eq_false (show ¬ k.1 = 0 by omega),decide_eq_false (show ¬ k.1 = 1 by omega)] at h1
 by_cases e2 : k.1 = 2
 ·exact .inl e2
 ·rw [decide_eq_false e2] at h1
  simp only [cond_false,Bool.and_eq_true,decide_eq_true_eq] at h1
  exact .inr h1.1

def exN (c : Cat) (k : Nd) : Bool:=!(decide (k.1 = 0) && !inn (ar c : Int) k.2) && !(decide (k.1 = 1) && !inn c.1 k.2)
def exD (c : Cat) (x : Dg) : Bool:=(List.range x.length).all fun i=>exN c (nd x i)
def Tr.ex (c : Cat) : Tr→Bool
 | .leaf k=>exN c k
 | .node _ a b=>a.ex c && b.ex c
theorem exD_tr {c : Cat} {x : Dg} (h : exD c x = true) : ∀ (t : Tr) (i : Nat),At x i t→t.ex c = true
 | .leaf k,i,ha=>by
  obtain ⟨h1,h2,_⟩:=at_top ha
  have:=List.all_eq_true.1 h i (List.mem_range.2 h1)
  unfold nd at this
  rw [h2] at this
  exact this
 | .node k a b,i,ha=>by
  obtain ⟨h1,h2⟩:=at_node ha
  show (a.ex c && b.ex c) = true
  rw [exD_tr h a _ h1,exD_tr h b _ h2]; rfl
theorem ex_step {c : Cat} {k : Nd} (hn : nodeB k = true) {R : Type} (z : Option (LO Int R)) (y : LO Int R) :
  (exN c k = true→(Option.bind (bif decide (k.1 = 0) then some (decide (((c.2.1.length : Nat) : Int)≤k.2)) else some false) fun v1 : Bool=>Option.bind (bif v1 then some true else bif decide (k.1 = 1) then some (decide (c.1≤k.2)) else some false) fun v2 : Bool=>bif v2 then z else some y) = some y) ∧
  (exN c k = false→(Option.bind (bif decide (k.1 = 0) then some (decide (((c.2.1.length : Nat) : Int)≤k.2)) else some false) fun v1 : Bool=>Option.bind (bif v1 then some true else bif decide (k.1 = 1) then some (decide (c.1≤k.2)) else some false) fun v2 : Bool=>bif v2 then z else some y) = z):=by
 obtain ⟨a,b⟩:=k
 unfold exN inn
 unfold nodeB at hn
 simp only at hn ⊢
 have hac : ((ar c : Nat) : Int) = ((c.2.1.length : Nat) : Int):=rfl
 rw [hac]
 by_cases h0 : a = 0
 ·subst h0
  simp only [decide_true,cond_true,Bool.and_eq_true,decide_eq_true_eq] at hn
  rw [decide_eq_true hn.1]
  by_cases hb : ((c.2.1.length : Nat) : Int)≤b
  ·rw [decide_eq_true hb,decide_eq_false (show ¬ b < ((c.2.1.length : Nat) : Int) by omega)]
   exact ⟨(fun h=>by cases h),fun _=>rfl⟩
  ·rw [decide_eq_false hb,decide_eq_true (show b < ((c.2.1.length : Nat) : Int) by omega)]
   exact ⟨fun _=>rfl,(fun h=>by cases h)⟩
 ·by_cases h1 : a = 1
  ·subst h1
   simp only [decide_true,decide_false,show ¬ ((1 : Int) = 0) by decide,cond_true,cond_false,Bool.and_eq_true,decide_eq_true_eq] at hn
   rw [decide_eq_true hn.1]
   have e1 : decide ((1 : Int) = 0) = false:=by decide
   simp only [e1]
   by_cases hb : c.1≤b
   ·rw [decide_eq_false (show ¬ b < c.1 by omega),decide_eq_true hb]
    exact ⟨(fun h=>by cases h),fun _=>rfl⟩
   ·rw [decide_eq_true (show b < c.1 by omega),decide_eq_false hb]
    exact ⟨fun _=>rfl,(fun h=>by cases h)⟩
  ·rw [decide_eq_false h0,decide_eq_false h1]
   exact ⟨fun _=>rfl,(fun h=>by cases h)⟩
theorem p127 {c : Cat} {u : Int} {ob am : List (List Int)} {x : Dg} (hx : x.length≤1048576) (hd : isDg x = true) : G127 (mkM c u ob am,x) = some (exD c x):=by
 have hpre : ∀ i,i < x.length→nodeB (nd x i) = true:=by
  unfold isDg at hd
  rw [Bool.and_eq_true,Bool.and_eq_true] at hd
  exact fun i hi=>List.all_eq_true.1 hd.2.1 i (List.mem_range.2 hi)
 unfold G127 mkM
 refine chk_bind (st:=fun i : Nat=>(i : Int)) (n:=x.length) (p:=fun i=>exN c (nd x i)) (Q:=fun r : Bool=>r = false) (o:=.brk 0 (x.length : Int)) (Post:=fun o : Option Bool=>o = some (exD c x)) (fun i hi=>?_) ?_ (fun y=>by simp) (fun hall=>?_) (fun hall r hr=>?_)
 ·simp only [lt_cast,hi,decide_true,cond_true,in_cast hi,and_self,if_true,Int.toNat_natCast,p113,Option.bind_some]
  rw [wrap_sm (by omega) (by omega)]
  obtain ⟨k1,k2⟩:=ex_step (c:=c) (hpre i hi) (retM (X:=Int) (some false)) (LO.next ((i + 1 : Nat) : Int))
  exact ⟨fun h=>k1 h,fun h=>⟨false,k2 h,rfl⟩⟩
 ·simp only [lt_cast,Nat.lt_irrefl,decide_false,cond_false]
 ·have h1 : exD c x = true:=hall
  rw [h1]; rfl
 ·have h1 : exD c x = false:=hall
  rw [hr,h1]

def vl (c : Cat) (am : List (List Int)) : Tr→Int
 | .leaf k=>bif decide (k.1 = 0) then k.2 else c.2.2.2.1.getD k.2.toNat 0
 | .node k a b=>bif decide (vl c am a < 0) || decide (vl c am b < 0) then -1 else bif decide (k.1 = 2) then T c (vl c am a).toNat (vl c am b).toNat else cell am (vl c am a).toNat (vl c am b).toNat
theorem inn_r {n a : Int} (h : inn n a = true) : 0≤a∧a < n:=by
 unfold inn at h
 simpa using h
theorem leaf_val {c : Cat} {u : Int} {ob am : List (List Int)} {n : Nat} (h : MH c u ob am n) {k : Nd} (hok : (Tr.leaf k).ok = true) (hex : (Tr.leaf k).ex c = true) : (k.1 = 0∧∃ v : Nat,v < ar c∧k.2 = (v : Int)∧vl c am (.leaf k) = (v : Int))∨(k.1 = 1∧∃ z v : Nat,z < c.2.2.2.1.length∧k.2 = (z : Int)∧v < ar c∧c.2.2.2.1.getD z 0 = (v : Int)∧vl c am (.leaf k) = (v : Int)):=by
 have hex : exN c k = true:=hex
 unfold exN at hex
 rw [Bool.and_eq_true] at hex
 obtain ⟨a1,a2,a3,a4,a5,a6,a7,a8⟩:=h.sh.hd
 rcases ok_leaf hok with e | ⟨e,e2⟩
 ·left
  have h1 : inn (ar c : Int) k.2 = true:=by
   have:=hex.1
   rw [e] at this
   simpa using this
  obtain ⟨v,ev,hv⟩:=nat_of (n:=ar c) (inn_r h1)
  refine ⟨e,v,hv,ev,?_⟩
  show (bif decide (k.1 = 0) then k.2 else _) = _
  rw [decide_eq_true e,ev]; rfl
 ·right
  have h1 : inn c.1 k.2 = true:=by
   have:=hex.2
   rw [e] at this
   simpa using this
  have h2:=inn_r h1
  obtain ⟨z,ez,hz⟩:=nat_of (n:=n) (by rw [← h.hn]; exact h2)
  have h3:=h.sh.id k.2 h2.1 h2.2
  rw [ez,Int.toNat_natCast] at h3
  obtain ⟨v,ev,hv⟩:=nat_of (n:=c.2.1.length) h3
  have hl:=h.hn
  refine ⟨e,z,v,by omega,ez,hv,ev,?_⟩
  show (bif decide (k.1 = 0) then k.2 else c.2.2.2.1.getD k.2.toNat 0) = _
  rw [decide_eq_false (by omega),ez,Int.toNat_natCast,ev]; rfl
theorem vl_rng {c : Cat} {u : Int} {ob am : List (List Int)} {n : Nat} (h : MH c u ob am n) : ∀ t : Tr,t.ok = true→t.ex c = true→vl c am t = -1∨∃ v : Nat,v < ar c∧vl c am t = (v : Int)
 | .leaf k,hok,hex=>by
  rcases leaf_val h hok hex with ⟨_,v,hv,_,e⟩ | ⟨_,_,v,_,_,hv,_,e⟩
  ·exact .inr ⟨v,hv,e⟩
  ·exact .inr ⟨v,hv,e⟩
 | .node k a b,hok,hex=>by
  obtain ⟨_,oa,ob'⟩:=ok_node hok
  have hex : (a.ex c && b.ex c) = true:=hex
  rw [Bool.and_eq_true] at hex
  rcases vl_rng h a oa hex.1 with e | ⟨v,hv,e⟩
  ·left
   show (bif decide (vl c am a < 0) || _ then _ else _) = _
   rw [e]; rfl
  rcases vl_rng h b ob' hex.2 with e' | ⟨v',hv',e'⟩
  ·left
   show (bif _ || decide (vl c am b < 0) then _ else _) = _
   rw [e',Bool.or_comm]; rfl
  have e3 : vl c am (.node k a b) = bif decide (k.1 = 2) then T c v v' else cell am v v':=by
   show (bif decide (vl c am a < 0) || decide (vl c am b < 0) then _ else _) = _
   rw [e,e',decide_eq_false (by omega),decide_eq_false (by omega)]
   simp only [Int.toNat_natCast]
   rfl
  rw [e3]
  cases decide (k.1 = 2) with
  | true=>
   simp only [cond_true]
   cases hm : mt c v v' with
   | true=>
    right
    obtain ⟨g1,g2,_⟩:=h.sh.pos v v' hv hv' hm
    obtain ⟨y,ey,hy⟩:=nat_of (n:=c.2.1.length) ⟨g1,g2⟩
    exact ⟨y,hy,ey⟩
   | false=>exact .inl (h.sh.neg v v' hv hv' hm)
  | false=>
   right
   simp only [cond_false]
   obtain ⟨y,hy,ey⟩:=h.ha.val v v' hv hv'
   exact ⟨y,hy,ey⟩
theorem q128 {c : Cat} {u : Int} {ob am : List (List Int)} {n : Nat} (h : MH c u ob am n) {x : Dg} (hx : x.length≤40) : ∀ (t : Tr) (f i : Nat),t.ok = true→t.ex c = true→At x i t→t.flat.length≤f→R128 f (mkM c u ob am,(x,(i : Int))) = some (vl c am t,((i + t.flat.length : Nat) : Int))
 | t,0,i,_,_,_,hf=>by have:=flat_pos t; omega
 | .leaf k,f + 1,i,hok,hex,hat,hf=>by
  obtain ⟨hi,hk,hle⟩:=at_top hat
  have hk : x.getD i ((0 : Int),(0 : Int)) = k:=hk
  show B128 (R128 f) _ = _
  unfold B128 mkM
  simp only [in_cast hi,and_self,if_true,Int.toNat_natCast,hk]
  have ew : IntKind.wrap .i64 ((i : Int) + 1) = ((i + (Tr.leaf k).flat.length : Nat) : Int):=wN (by omega)
  rw [ew]
  rcases leaf_val h hok hex with ⟨e0,v,hv,ev,e⟩ | ⟨e0,z,v,hz,ez,hv,ev,e⟩
  ·rw [e,e0,ev]; rfl
  ·rw [e,e0,ez]
   simp only [in_cast hz,and_self,if_true,Int.toNat_natCast,ev]
   rfl
 | .node k a b,f + 1,i,hok,hex,hat,hf=>by
  obtain ⟨hi,hk,hle⟩:=at_top hat
  have hk : x.getD i ((0 : Int),(0 : Int)) = k:=hk
  obtain ⟨ha,hb⟩:=at_node hat
  obtain ⟨hkk,oa,ob'⟩:=ok_node hok
  have hex : (a.ex c && b.ex c) = true:=hex
  rw [Bool.and_eq_true] at hex
  rw [flat_node] at hf hle ⊢
  have ra:=q128 h hx a f (i + 1) oa hex.1 ha (by omega)
  have rb:=q128 h hx b f (i + 1 + a.flat.length) ob' hex.2 hb (by omega)
  show B128 (R128 f) _ = _
  unfold B128
  have d0 : decide (k.1 = 0) = false:=decide_eq_false (by omega)
  have d1 : decide (k.1 = 1) = false:=decide_eq_false (by omega)
  simp only [in_cast hi,and_self,if_true,Int.toNat_natCast,hk,d0,d1,cond_false,wN (show i < 9223372036854775807 by omega),ra,rb,Option.bind_some]
  have el : i + 1 + a.flat.length + b.flat.length = i + (a.flat.length + b.flat.length + 1):=by omega
  rw [el]
  rcases vl_rng h a oa hex.1 with e | ⟨v,hv,e⟩
  ·have e3 : vl c am (.node k a b) = -1:=by
    show (bif decide (vl c am a < 0) || _ then _ else _) = _
    rw [e]; rfl
   rw [e3,e]; rfl
  rcases vl_rng h b ob' hex.2 with e' | ⟨v',hv',e'⟩
  ·have e3 : vl c am (.node k a b) = -1:=by
    show (bif _ || decide (vl c am b < 0) then _ else _) = _
    rw [e',Bool.or_comm]; rfl
   rw [e3,e',e]
   rw [decide_eq_false (show ¬ ((v : Int) < 0) by omega)]; rfl
  have e3 : vl c am (.node k a b) = bif decide (k.1 = 2) then T c v v' else cell am v v':=by
   show (bif decide (vl c am a < 0) || decide (vl c am b < 0) then _ else _) = _
   rw [e,e',decide_eq_false (by omega),decide_eq_false (by omega)]
   simp only [Int.toNat_natCast]
   rfl
  rw [e3,e,e',decide_eq_false (show ¬ ((v : Int) < 0) by omega),decide_eq_false (show ¬ ((v' : Int) < 0) by omega)]
  simp only [cond_false,Option.bind_some]
  cases decide (k.1 = 2) with
  | true=>
   simp only [cond_true]
   have e4:=p118 h.sh (f:=(v : Int)) (g:=(v' : Int)) (in_cast hv) (in_cast hv')
   simp only [Int.toNat_natCast] at e4
   show Option.bind (G118 (c,((v : Int),(v' : Int)))) _ = _
   rw [e4]; rfl
  | false=>
   simp only [cond_false]
   have hl:=h.ha.len
   have hr:=h.ha.row v hv
   show (if (0 : Int)≤(v : Int)∧(v : Int) < (am.length : Int) then (if (0 : Int)≤(v' : Int)∧(v' : Int) < ((am.getD (v : Int).toNat []).length : Int) then _ else none) else none) = _
   rw [if_pos (in_cast (by omega)),Int.toNat_natCast,if_pos (in_cast (by omega))]
   rfl
theorem q125 {c : Cat} {u : Int} {ob am : List (List Int)} {n : Nat} (h : MH c u ob am n) {x : Dg} (hx : x.length≤40) : ∀ (t : Tr) (f i : Nat),t.ok = true→t.ex c = true→At x i t→t.flat.length≤f→R125 f (mkM c u ob am,(x,(i : Int))) = some ((bif decide (vl c am t < 0) then 0 else vl c am t),(((i + t.flat.length : Nat) : Int),!decide (vl c am t < 0)))
 | t,0,i,_,_,_,hf=>by have:=flat_pos t; omega
 | .leaf k,f + 1,i,hok,hex,hat,hf=>by
  obtain ⟨hi,hk,hle⟩:=at_top hat
  have hk : x.getD i ((0 : Int),(0 : Int)) = k:=hk
  show B125 (R125 f) _ = _
  unfold B125 mkM
  simp only [in_cast hi,and_self,if_true,Int.toNat_natCast,hk]
  have ew : IntKind.wrap .i64 ((i : Int) + 1) = ((i + (Tr.leaf k).flat.length : Nat) : Int):=wN (by omega)
  rw [ew]
  rcases leaf_val h hok hex with ⟨e0,v,hv,ev,e⟩ | ⟨e0,z,v,hz,ez,hv,ev,e⟩
  ·rw [e,e0,ev,decide_eq_false (show ¬ ((v : Int) < 0) by omega)]; rfl
  ·rw [e,e0,ez,decide_eq_false (show ¬ ((v : Int) < 0) by omega)]
   simp only [in_cast hz,and_self,if_true,Int.toNat_natCast,ev]
   rfl
 | .node k a b,f + 1,i,hok,hex,hat,hf=>by
  obtain ⟨hi,hk,hle⟩:=at_top hat
  have hk : x.getD i ((0 : Int),(0 : Int)) = k:=hk
  obtain ⟨ha,hb⟩:=at_node hat
  obtain ⟨hkk,oa,ob'⟩:=ok_node hok
  have hex : (a.ex c && b.ex c) = true:=hex
  rw [Bool.and_eq_true] at hex
  rw [flat_node] at hf hle ⊢
  have ra:=q125 h hx a f (i + 1) oa hex.1 ha (by omega)
  have rb:=q125 h hx b f (i + 1 + a.flat.length) ob' hex.2 hb (by omega)
  show B125 (R125 f) _ = _
  unfold B125
  have d0 : decide (k.1 = 0) = false:=decide_eq_false (by omega)
  have d1 : decide (k.1 = 1) = false:=decide_eq_false (by omega)
  simp only [Prod.eta,in_cast hi,and_self,if_true,Int.toNat_natCast,hk,d0,d1,cond_false,wN (show i < 9223372036854775807 by omega),ra,rb,Option.bind_some]
  have el : i + 1 + a.flat.length + b.flat.length = i + (a.flat.length + b.flat.length + 1):=by omega
  rw [el]
  rcases vl_rng h a oa hex.1 with e | ⟨v,hv,e⟩
  ·have e3 : vl c am (.node k a b) = -1:=by
    show (bif decide (vl c am a < 0) || _ then _ else _) = _
    rw [e]; rfl
   rw [e3,e]; rfl
  rcases vl_rng h b ob' hex.2 with e' | ⟨v',hv',e'⟩
  ·have e3 : vl c am (.node k a b) = -1:=by
    show (bif _ || decide (vl c am b < 0) then _ else _) = _
    rw [e',Bool.or_comm]; rfl
   rw [e3,e',e]
   rw [decide_eq_false (show ¬ ((v : Int) < 0) by omega)]; rfl
  have e3 : vl c am (.node k a b) = bif decide (k.1 = 2) then T c v v' else cell am v v':=by
   show (bif decide (vl c am a < 0) || decide (vl c am b < 0) then _ else _) = _
   rw [e,e',decide_eq_false (by omega),decide_eq_false (by omega)]
   simp only [Int.toNat_natCast]
   rfl
  rw [e3,e,e',decide_eq_false (show ¬ ((v : Int) < 0) by omega),decide_eq_false (show ¬ ((v' : Int) < 0) by omega)]
  simp only [cond_false,Option.bind_some,Bool.not_false,Bool.not_true]
  have hac : ar c = c.2.1.length:=rfl
  obtain ⟨a1,a2,a3,a4,a5,a6,a7,a8⟩:=h.sh.hd
  rcases hkk with e2 | e2
  ·have g1 : decide (k.1 = 3) = false:=decide_eq_false (by omega)
   have g2 : decide (k.1 = 2) = true:=decide_eq_true e2
   simp only [g1,g2,cond_false,cond_true]
   show (if (0 : Int)≤(v : Int)∧(v : Int) < (c.2.2.1.length : Int) then (if (0 : Int)≤(v' : Int)∧(v' : Int) < (c.2.1.length : Int) then (bif !decide (c.2.2.1.getD (v : Int).toNat 0 = c.2.1.getD (v' : Int).toNat 0) then _ else Option.bind (G110 (c,((v : Int),(v' : Int)))) _) else none) else none) = _
   rw [if_pos (in_cast (by omega)),if_pos (in_cast (by omega)),Int.toNat_natCast,Int.toNat_natCast]
   have e4:=p110 h.sh (f:=(v : Int)) (g:=(v' : Int)) (in_cast hv) (in_cast hv')
   simp only [Int.toNat_natCast] at e4
   rw [e4]
   have em : decide (c.2.2.1.getD v 0 = c.2.1.getD v' 0) = mt c v v':=rfl
   rw [em]
   cases hm : mt c v v' with
   | true=>
    obtain ⟨q1,q2,_⟩:=h.sh.pos v v' hv hv' hm
    rw [decide_eq_false (show ¬ (T c v v' < 0) by omega)]
    rfl
   | false=>
    have:=h.sh.neg v v' hv hv' hm
    rw [this]
    rfl
  ·have g1 : decide (k.1 = 3) = true:=decide_eq_true e2
   have g2 : decide (k.1 = 2) = false:=decide_eq_false (by omega)
   simp only [g1,g2,cond_false,cond_true]
   have hl:=h.ha.len
   have hr:=h.ha.row v hv
   show (if (0 : Int)≤(v : Int)∧(v : Int) < (am.length : Int) then (if (0 : Int)≤(v' : Int)∧(v' : Int) < ((am.getD (v : Int).toNat []).length : Int) then _ else none) else none) = _
   rw [if_pos (in_cast (by omega)),Int.toNat_natCast,if_pos (in_cast (by omega))]
   obtain ⟨y,hy,ey⟩:=h.ha.val v v' hv hv'
   rw [ey,decide_eq_false (show ¬ ((y : Int) < 0) by omega)]
   show some ((am.getD v []).getD v' 0,_) = _
   have ey : (am.getD v []).getD v' 0 = (y : Int):=ey
   rw [ey]
   rfl
end
end Go.Ve.D


namespace Go.Ve.D
open Go Go.Ve
noncomputable section

def rgt (ob : List (List Int)) (y : Int) (r : List Int) : List Int:=[r.getD 0 0,r.getD 1 0,cell ob (r.getD 2 0).toNat y.toNat]
def lft (ob : List (List Int)) (y : Int) (r : List Int) : List Int:=[cell ob y.toNat (r.getD 0 0).toNat,r.getD 1 0,r.getD 2 0]
def sl (c : Cat) (u : Int) (ob am : List (List Int)) : Tr→List (List Int)
 | .leaf k=>bif decide (k.1 = 0) then [[u,k.2,u]] else []
 | .node k a b=>bif decide (k.1 = 2) then sl c u ob am a ++ sl c u ob am b else (sl c u ob am a).map (rgt ob (fT c (vl c am b).toNat)) ++ (sl c u ob am b).map (lft ob (tT c (vl c am a).toNat))
def row3 (n : Nat) (r : List Int) : Prop:=∃ (p s : Nat) (q : Int),r = [(p : Int),q,(s : Int)]∧p < n∧s < n
theorem vl_node {c : Cat} {u : Int} {ob am : List (List Int)} {n : Nat} (h : MH c u ob am n) {k : Nd} {a b : Tr} (hok : (Tr.node k a b).ok = true) (hex : (Tr.node k a b).ex c = true) (hv : decide (vl c am (.node k a b) < 0) = false) :
  ∃ v v' : Nat,v < ar c∧v' < ar c∧vl c am a = (v : Int)∧vl c am b = (v' : Int):=by
 obtain ⟨_,oa,ob'⟩:=ok_node hok
 have hex : (a.ex c && b.ex c) = true:=hex
 rw [Bool.and_eq_true] at hex
 have hv:=of_decide_eq_false hv
 rcases vl_rng h a oa hex.1 with e | ⟨v,g,e⟩
 ·exfalso
  apply hv
  show (bif decide (vl c am a < 0) || _ then _ else _) < 0
  rw [e]
  show (-1 : Int) < 0
  decide
 rcases vl_rng h b ob' hex.2 with e' | ⟨v',g',e'⟩
 ·exfalso
  apply hv
  show (bif _ || decide (vl c am b < 0) then _ else _) < 0
  rw [e',Bool.or_comm]
  show (-1 : Int) < 0
  decide
 exact ⟨v,v',g,g',e,e'⟩
theorem neg_f {v : Nat} : decide ((v : Int) < 0) = false:=decide_eq_false (by omega)
theorem sl_ok {c : Cat} {u : Int} {ob am : List (List Int)} {n : Nat} (h : MH c u ob am n) : ∀ t : Tr,t.ok = true→t.ex c = true→decide (vl c am t < 0) = false→(∀ r ∈ sl c u ob am t,row3 n r)∧(sl c u ob am t).length≤t.flat.length
 | .leaf k,hok,hex,hv=>by
  obtain ⟨un,eu,hun⟩:=nat_of (n:=n) (by rw [← h.hn]; exact h.uin)
  unfold sl
  cases decide (k.1 = 0) with
  | true=>
   refine ⟨fun r hr=>?_,Nat.le_refl _⟩
   have : r = [u,k.2,u]:=by simpa using hr
   exact ⟨un,un,k.2,by rw [this,eu],hun,hun⟩
  | false=>exact ⟨fun r hr=>(by cases hr),Nat.zero_le _⟩
 | .node k a b,hok,hex,hv=>by
  obtain ⟨v,v',g,g',e,e'⟩:=vl_node h hok hex hv
  obtain ⟨_,oa,ob'⟩:=ok_node hok
  have hex : (a.ex c && b.ex c) = true:=hex
  rw [Bool.and_eq_true] at hex
  obtain ⟨r1,l1⟩:=sl_ok h a oa hex.1 (by rw [e]; exact neg_f)
  obtain ⟨r2,l2⟩:=sl_ok h b ob' hex.2 (by rw [e']; exact neg_f)
  rw [flat_node]
  unfold sl
  cases decide (k.1 = 2) with
  | true=>
   refine ⟨fun r hr=>?_,by simp only [cond_true,List.length_append]; omega⟩
   rcases List.mem_append.1 hr with hr | hr
   ·exact r1 r hr
   ·exact r2 r hr
  | false=>
   refine ⟨fun r hr=>?_,by simp only [cond_false,List.length_append,List.length_map]; omega⟩
   rcases List.mem_append.1 hr with hr | hr
   ·obtain ⟨r',hr',rfl⟩:=List.mem_map.1 hr
    obtain ⟨p,s,q,rfl,hp,hs⟩:=r1 r' hr'
    obtain ⟨y,ey,hy⟩:=nat_of (n:=n) (by rw [← h.hn]; exact h.sh.fr v' g')
    obtain ⟨z,hz,ez⟩:=h.ho.val s y hs hy
    refine ⟨p,z,q,?_,hp,hz⟩
    unfold rgt fT
    rw [e',Int.toNat_natCast,ey]
    show [(p : Int),q,cell ob s y] = _
    rw [ez]
   ·obtain ⟨r',hr',rfl⟩:=List.mem_map.1 hr
    obtain ⟨p,s,q,rfl,hp,hs⟩:=r2 r' hr'
    obtain ⟨y,ey,hy⟩:=nat_of (n:=n) (by rw [← h.hn]; exact h.sh.to v g)
    obtain ⟨z,hz,ez⟩:=h.ho.val y p hy hp
    refine ⟨z,s,q,?_,hz,hs⟩
    unfold lft tT
    rw [e,Int.toNat_natCast,ey]
    show [cell ob y p,q,(s : Int)] = _
    rw [ez]
def mset (f : List Int→List Int) (L : List (List Int)) (i : Nat) : List (List Int):=(L.take i).map f ++ L.drop i
theorem mset_len {f : List Int→List Int} {L : List (List Int)} {i : Nat} (hi : i≤L.length) : (mset f L i).length = L.length:=by
 unfold mset
 rw [List.length_append,List.length_map,List.length_take,List.length_drop]; omega
theorem mset_get {f : List Int→List Int} {L : List (List Int)} {i : Nat} (hi : i < L.length) : (mset f L i).getD i [] = L.getD i []:=by
 unfold mset
 rw [List.getD_eq_getElem?_getD,List.getElem?_append_right (by simp only [List.length_map,List.length_take]; omega),List.getElem?_drop,List.getD_eq_getElem?_getD]
 congr 2
 simp only [List.length_map,List.length_take]; omega
theorem mset_set {f : List Int→List Int} {L : List (List Int)} {i : Nat} (hi : i < L.length) : (mset f L i).set i (f (L.getD i [])) = mset f L (i + 1):=by
 unfold mset
 have hd : L.drop i = L.getD i [] :: L.drop (i + 1):=by
  rw [List.drop_eq_getElem_cons hi]
  congr 1
  rw [List.getD_eq_getElem?_getD,List.getElem?_eq_getElem hi]; rfl
 have hl : ((L.take i).map f).length = i:=by rw [List.length_map,List.length_take]; omega
 have ht : L.take (i + 1) = L.take i ++ [L.getD i []]:=by
  rw [List.take_add_one,List.getElem?_eq_getElem hi,List.getD_eq_getElem?_getD,List.getElem?_eq_getElem hi]; rfl
 rw [hd,ht,List.map_append,List.append_assoc]
 generalize (L.take i).map f = A at hl
 subst hl
 rw [List.set_append_right _ _ (Nat.le_refl _),Nat.sub_self]
 rfl
theorem take_s {f : List Int→List Int} {L : List (List Int)} {i : Nat} (hi : i < L.length) : (L.take (i + 1)).map f = (L.take i).map f ++ [f (L.getD i [])]:=by
 rw [List.take_add_one,List.getElem?_eq_getElem hi,List.getD_eq_getElem?_getD,List.getElem?_eq_getElem hi,List.map_append]; rfl
theorem mset_end {f : List Int→List Int} {L : List (List Int)} : mset f L L.length = L.map f:=by
 unfold mset
 rw [List.take_length,List.drop_length,List.append_nil]
theorem tloop_iter' {X R : Type} {f : X→Option (LO X R)} {st : Nat→X} {x : X} (hx : st 0 = x) {n : Nat} {o : LO X R} (h1 : ∀ i,i < n→f (st i) = some (.next (st (i + 1)))) (h2 : f (st n) = some o) (ho : ∀ y,o≠.next y) : tloop f x = some o:=hx ▸ tloop_iter h1 h2 ho
theorem q77 {c : Cat} {u : Int} {ob am : List (List Int)} {n : Nat} (h : MH c u ob am n) {x : Dg} (hx : x.length≤40) : ∀ (t : Tr) (f i : Nat),t.ok = true→t.ex c = true→decide (vl c am t < 0) = false→At x i t→t.flat.length≤f→R77 f (mkM c u ob am,(x,(i : Int))) = some (sl c u ob am t,(vl c am t,((i + t.flat.length : Nat) : Int)))
 | t,0,i,_,_,_,_,hf=>by have:=flat_pos t; omega
 | .leaf k,f + 1,i,hok,hex,hneg,hat,hf=>by
  obtain ⟨hi,hk,hle⟩:=at_top hat
  have hk : x.getD i ((0 : Int),(0 : Int)) = k:=hk
  show B77 (R77 f) _ = _
  unfold B77 mkM sl
  simp only [in_cast hi,and_self,if_true,Int.toNat_natCast,hk]
  have ew : IntKind.wrap .i64 ((i : Int) + 1) = ((i + (Tr.leaf k).flat.length : Nat) : Int):=wN (by omega)
  rw [ew]
  rcases leaf_val h hok hex with ⟨e0,v,hv,ev,e⟩ | ⟨e0,z,v,hz,ez,hv,ev,e⟩
  ·rw [e,e0,ev]; rfl
  ·rw [e,e0,ez]
   simp only [in_cast hz,and_self,if_true,Int.toNat_natCast,ev]
   rfl
 | .node k a b,f + 1,i,hok,hex,hneg,hat,hf=>by
  obtain ⟨hi,hk,hle⟩:=at_top hat
  have hk : x.getD i ((0 : Int),(0 : Int)) = k:=hk
  obtain ⟨ha,hb⟩:=at_node hat
  obtain ⟨v,v',hv,hv',e,e'⟩:=vl_node h hok hex hneg
  obtain ⟨hkk,oa,ob'⟩:=ok_node hok
  have hex : (a.ex c && b.ex c) = true:=hex
  rw [Bool.and_eq_true] at hex
  have na : decide (vl c am a < 0) = false:=by rw [e]; exact neg_f
  have nb : decide (vl c am b < 0) = false:=by rw [e']; exact neg_f
  rw [flat_node] at hf hle ⊢
  have ra:=q77 h hx a f (i + 1) oa hex.1 na ha (by omega)
  have rb:=q77 h hx b f (i + 1 + a.flat.length) ob' hex.2 nb hb (by omega)
  obtain ⟨sa,la⟩:=sl_ok h a oa hex.1 na
  obtain ⟨sb,lb⟩:=sl_ok h b ob' hex.2 nb
  show B77 (R77 f) _ = _
  unfold B77
  have d0 : decide (k.1 = 0) = false:=decide_eq_false (by omega)
  have d1 : decide (k.1 = 1) = false:=decide_eq_false (by omega)
  have el : i + 1 + a.flat.length + b.flat.length = i + (a.flat.length + b.flat.length + 1):=by omega
  simp only [in_cast hi,and_self,if_true,Int.toNat_natCast,hk,d0,d1,cond_false,wN (show i < 9223372036854775807 by omega),ra,rb,Option.bind_some,el,e,e']
  have e3 : vl c am (.node k a b) = bif decide (k.1 = 2) then T c v v' else cell am v v':=by
   show (bif decide (vl c am a < 0) || decide (vl c am b < 0) then _ else _) = _
   rw [na,nb,e,e']
   simp only [Int.toNat_natCast]
   rfl
  have e5 : sl c u ob am (.node k a b) = bif decide (k.1 = 2) then sl c u ob am a ++ sl c u ob am b else (sl c u ob am a).map (rgt ob (fT c v')) ++ (sl c u ob am b).map (lft ob (tT c v)):=by
   show (bif _ then _ else (sl c u ob am a).map (rgt ob (fT c (vl c am b).toNat)) ++ (sl c u ob am b).map (lft ob (tT c (vl c am a).toNat))) = _
   rw [e,e',Int.toNat_natCast,Int.toNat_natCast]
  rw [e3,e5]
  generalize sl c u ob am a = A at sa la
  generalize sl c u ob am b = B at sb lb
  have hac : ar c = c.2.1.length:=rfl
  obtain ⟨a1,a2,a3,a4,a5,a6,a7,a8⟩:=h.sh.hd
  cases decide (k.1 = 2) with
  | true=>
   simp only [cond_true]
   rw [if_pos (show A.length + B.length≤5864062014805 by omega)]
   have e4:=p118 h.sh (f:=(v : Int)) (g:=(v' : Int)) (in_cast hv) (in_cast hv')
   simp only [Int.toNat_natCast] at e4
   show Option.bind (G118 (c,((v : Int),(v' : Int)))) _ = _
   rw [e4]; rfl
  | false=>
   simp only [cond_false]
   have hl:=h.ha.len
   have hr:=h.ha.row v hv
   obtain ⟨y,ey,hy⟩:=nat_of (n:=n) (by rw [← h.hn]; exact h.sh.fr v' hv')
   obtain ⟨z,ez,hz⟩:=nat_of (n:=n) (by rw [← h.hn]; exact h.sh.to v hv)
   have lo:=h.ho.len
   have rz:=h.ho.row z hz
   have ef : fT c v' = (y : Int):=ey
   have et : tT c v = (z : Int):=ez
   rw [ef,et]
   unfold mkM
   refine bind_of (v:=.brk 1 ((A.length : Int),(A.map (rgt ob (y : Int)),B))) (tloop_iter (st:=fun j : Nat=>((j : Int),(mset (rgt ob (y : Int)) A j,B))) (n:=A.length) (fun j hj=>?_) ?_ (fun q=>by simp)) ?_
   ·obtain ⟨p,s,q,er,hp,hs⟩:=sa (A.getD j []) (by rw [List.getD_eq_getElem?_getD,List.getElem?_eq_getElem hj]; exact List.getElem_mem ..)
    have ml:=mset_len (f:=rgt ob (y : Int)) (Nat.le_of_lt hj)
    have rs:=h.ho.row s hs
    simp only [lt_cast,hj,decide_true,cond_true,in_cast (show j < (mset (rgt ob (y : Int)) A j).length by omega),and_self,if_true,Int.toNat_natCast,mset_get hj,er,ey]
    show (if (0 : Int)≤2∧(2 : Int) < 3 then (if (0 : Int)≤(s : Int)∧(s : Int) < (ob.length : Int) then (if (0 : Int)≤(v' : Int)∧(v' : Int) < (c.2.1.length : Int) then (if (0 : Int)≤(y : Int)∧(y : Int) < ((ob.getD (s : Int).toNat []).length : Int) then (if (0 : Int)≤2∧(2 : Int) < 3 then _ else none) else none) else none) else none) else none) = _
    rw [if_pos (by decide),if_pos (in_cast (by omega)),if_pos (in_cast (by omega)),Int.toNat_natCast,if_pos (in_cast (by omega)),if_pos (by decide),wN (by omega),← mset_set hj,er]
    rfl
   ·rw [mset_end]
    simp only [lt_self,cond_false]
   ·show (if 1 = 1 then _ else none) = _
    rw [if_pos rfl]
    generalize hA' : A.map (rgt ob (y : Int)) = A'
    have lA : A'.length = A.length:=by rw [← hA',List.length_map]
    refine bind_of (v:=.brk 3 ((B.length : Int),(A',B.map (lft ob (z : Int))))) (tloop_iter (st:=fun j : Nat=>((j : Int),(A',mset (lft ob (z : Int)) B j))) (n:=B.length) (fun j hj=>?_) ?_ (fun q=>by simp)) ?_
    ·obtain ⟨p,s,q,er,hp,hs⟩:=sb (B.getD j []) (by rw [List.getD_eq_getElem?_getD,List.getElem?_eq_getElem hj]; exact List.getElem_mem ..)
     have ml:=mset_len (f:=lft ob (z : Int)) (Nat.le_of_lt hj)
     simp only [lt_cast,hj,decide_true,cond_true,in_cast (show j < (mset (lft ob (z : Int)) B j).length by omega),and_self,if_true,Int.toNat_natCast,mset_get hj,er,ez]
     show (if (0 : Int)≤(v : Int)∧(v : Int) < (c.2.2.1.length : Int) then (if (0 : Int)≤(z : Int)∧(z : Int) < (ob.length : Int) then (if (0 : Int)≤0∧(0 : Int) < 3 then (if (0 : Int)≤(p : Int)∧(p : Int) < ((ob.getD (z : Int).toNat []).length : Int) then (if (0 : Int)≤0∧(0 : Int) < 3 then _ else none) else none) else none) else none) else none) = _
     rw [if_pos (in_cast (by omega)),if_pos (in_cast (by omega)),if_pos (by decide),Int.toNat_natCast,if_pos (in_cast (by omega)),if_pos (by decide),wN (by omega),← mset_set hj,er]
     rfl
    ·rw [mset_end]
     simp only [lt_self,cond_false]
    ·show (if 3 = 3 then _ else none) = _
     rw [if_pos rfl,List.length_map,lA,if_pos (show A.length + B.length≤5864062014805 by omega)]
     show (if (0 : Int)≤(v : Int)∧(v : Int) < (am.length : Int) then (if (0 : Int)≤(v' : Int)∧(v' : Int) < ((am.getD (v : Int).toNat []).length : Int) then _ else none) else none) = _
     rw [if_pos (in_cast (by omega)),Int.toNat_natCast,if_pos (in_cast (by omega))]
     rfl
theorem q74 {c : Cat} {u : Int} {ob am : List (List Int)} {n : Nat} (h : MH c u ob am n) {x : Dg} (hx : x.length≤40) : ∀ (t : Tr) (f i : Nat),t.ok = true→t.ex c = true→decide (vl c am t < 0) = false→At x i t→t.flat.length≤f→R74 f (mkM c u ob am,(x,(i : Int))) = some (sl c u ob am t,((i + t.flat.length : Nat) : Int))
 | t,0,i,_,_,_,_,hf=>by have:=flat_pos t; omega
 | .leaf k,f + 1,i,hok,hex,hneg,hat,hf=>by
  obtain ⟨hi,hk,hle⟩:=at_top hat
  have hk : x.getD i ((0 : Int),(0 : Int)) = k:=hk
  show B74 (R74 f) _ = _
  unfold B74 mkM sl
  simp only [in_cast hi,and_self,if_true,Int.toNat_natCast,hk]
  have ew : IntKind.wrap .i64 ((i : Int) + 1) = ((i + (Tr.leaf k).flat.length : Nat) : Int):=wN (by omega)
  rw [ew]
  rcases ok_leaf hok with e0 | ⟨e0,_⟩
  ·rw [e0]; rfl
  ·rw [e0]; rfl
 | .node k a b,f + 1,i,hok,hex,hneg,hat,hf=>by
  obtain ⟨hi,hk,hle⟩:=at_top hat
  have hk : x.getD i ((0 : Int),(0 : Int)) = k:=hk
  obtain ⟨ha,hb⟩:=at_node hat
  obtain ⟨v,v',hv,hv',e,e'⟩:=vl_node h hok hex hneg
  obtain ⟨hkk,oa,ob'⟩:=ok_node hok
  have hex : (a.ex c && b.ex c) = true:=hex
  rw [Bool.and_eq_true] at hex
  have na : decide (vl c am a < 0) = false:=by rw [e]; exact neg_f
  have nb : decide (vl c am b < 0) = false:=by rw [e']; exact neg_f
  rw [flat_node] at hf hle ⊢
  have ra:=q74 h hx a f (i + 1) oa hex.1 na ha (by omega)
  have rb:=q74 h hx b f (i + 1 + a.flat.length) ob' hex.2 nb hb (by omega)
  have va : G125 (mkM c u ob am,(x,((i + 1 : Nat) : Int))) = _:=q125 h hx a 4096 (i + 1) oa hex.1 ha (by omega)
  have vb : G125 (mkM c u ob am,(x,((i + 1 + a.flat.length : Nat) : Int))) = _:=q125 h hx b 4096 (i + 1 + a.flat.length) ob' hex.2 hb (by omega)
  obtain ⟨sa,la⟩:=sl_ok h a oa hex.1 na
  obtain ⟨sb,lb⟩:=sl_ok h b ob' hex.2 nb
  show B74 (R74 f) _ = _
  unfold B74
  have d0 : decide (k.1 = 0) = false:=decide_eq_false (by omega)
  have d1 : decide (k.1 = 1) = false:=decide_eq_false (by omega)
  have el : i + 1 + a.flat.length + b.flat.length = i + (a.flat.length + b.flat.length + 1):=by omega
  simp only [Prod.eta,in_cast hi,and_self,if_true,Int.toNat_natCast,hk,d0,d1,cond_false,wN (show i < 9223372036854775807 by omega),ra,rb,va,vb,Option.bind_some,el,na,nb,e,e']
  have e5 : sl c u ob am (.node k a b) = bif decide (k.1 = 2) then sl c u ob am a ++ sl c u ob am b else (sl c u ob am a).map (rgt ob (fT c v')) ++ (sl c u ob am b).map (lft ob (tT c v)):=by
   show (bif _ then _ else (sl c u ob am a).map (rgt ob (fT c (vl c am b).toNat)) ++ (sl c u ob am b).map (lft ob (tT c (vl c am a).toNat))) = _
   rw [e,e',Int.toNat_natCast,Int.toNat_natCast]
  rw [e5]
  generalize sl c u ob am a = A at sa la
  generalize sl c u ob am b = B at sb lb
  have hac : ar c = c.2.1.length:=rfl
  obtain ⟨a1,a2,a3,a4,a5,a6,a7,a8⟩:=h.sh.hd
  cases decide (k.1 = 2) with
  | true=>
   simp only [cond_true]
   rw [if_pos (show A.length + B.length≤5864062014805 by omega)]
  | false=>
   simp only [cond_false]
   obtain ⟨y,ey,hy⟩:=nat_of (n:=n) (by rw [← h.hn]; exact h.sh.fr v' hv')
   obtain ⟨z,ez,hz⟩:=nat_of (n:=n) (by rw [← h.hn]; exact h.sh.to v hv)
   have lo:=h.ho.len
   have rz:=h.ho.row z hz
   have ef : fT c v' = (y : Int):=ey
   have et : tT c v = (z : Int):=ez
   rw [ef,et]
   unfold mkM
   refine bind_of (v:=.brk 1 ((A.length : Int),A.map (rgt ob (y : Int)))) (tloop_iter (st:=fun j : Nat=>((j : Int),(A.take j).map (rgt ob (y : Int)))) (n:=A.length) (fun j hj=>?_) ?_ (fun q=>by simp)) ?_
   ·obtain ⟨p,s,q,er,hp,hs⟩:=sa (A.getD j []) (by rw [List.getD_eq_getElem?_getD,List.getElem?_eq_getElem hj]; exact List.getElem_mem ..)
    have rs:=h.ho.row s hs
    have lt : ((A.take j).map (rgt ob (y : Int))).length≤j:=by rw [List.length_map,List.length_take]; omega
    simp only [lt_cast,hj,decide_true,cond_true,in_cast hj,and_self,if_true,Int.toNat_natCast,er,neg_f,cond_false,ey]
    show (if (0 : Int)≤0∧(0 : Int) < 3 then (if (0 : Int)≤1∧(1 : Int) < 3 then (if (0 : Int)≤2∧(2 : Int) < 3 then (if (0 : Int)≤(s : Int)∧(s : Int) < (ob.length : Int) then (if (0 : Int)≤(v' : Int)∧(v' : Int) < (c.2.1.length : Int) then (if (0 : Int)≤(y : Int)∧(y : Int) < ((ob.getD (s : Int).toNat []).length : Int) then (if ((A.take j).map (rgt ob (y : Int))).length + 1≤5864062014805 then _ else none) else none) else none) else none) else none) else none) else none) = _
    rw [if_pos (by decide),if_pos (by decide),if_pos (by decide),if_pos (in_cast (by omega)),if_pos (in_cast (by omega)),Int.toNat_natCast,if_pos (in_cast (by omega)),if_pos (by omega),wN (by omega),take_s hj,er]
    rfl
   ·rw [List.take_length]
    simp only [lt_self,cond_false]
   ·show (if 1 = 1 then _ else none) = _
    rw [if_pos rfl]
    generalize hA' : A.map (rgt ob (y : Int)) = A'
    have lA : A'.length = A.length:=by rw [← hA',List.length_map]
    refine bind_of (v:=.brk 3 ((B.length : Int),A' ++ B.map (lft ob (z : Int)))) (tloop_iter' (st:=fun j : Nat=>((j : Int),A' ++ (B.take j).map (lft ob (z : Int)))) (by rw [List.take_zero,List.map_nil,List.append_nil]; rfl) (n:=B.length) (fun j hj=>?_) ?_ (fun q=>by simp)) ?_
    ·obtain ⟨p,s,q,er,hp,hs⟩:=sb (B.getD j []) (by rw [List.getD_eq_getElem?_getD,List.getElem?_eq_getElem hj]; exact List.getElem_mem ..)
     have lt : (A' ++ (B.take j).map (lft ob (z : Int))).length≤A.length + j:=by rw [List.length_append,List.length_map,List.length_take]; omega
     simp only [lt_cast,hj,decide_true,cond_true,in_cast hj,and_self,if_true,Int.toNat_natCast,er,neg_f,cond_false,ez]
     show (if (0 : Int)≤(v : Int)∧(v : Int) < (c.2.2.1.length : Int) then (if (0 : Int)≤(z : Int)∧(z : Int) < (ob.length : Int) then (if (0 : Int)≤0∧(0 : Int) < 3 then (if (0 : Int)≤(p : Int)∧(p : Int) < ((ob.getD (z : Int).toNat []).length : Int) then (if (0 : Int)≤1∧(1 : Int) < 3 then (if (0 : Int)≤2∧(2 : Int) < 3 then (if (A' ++ (B.take j).map (lft ob (z : Int))).length + 1≤5864062014805 then _ else none) else none) else none) else none) else none) else none) else none) = _
     rw [if_pos (in_cast (by omega)),if_pos (in_cast (by omega)),if_pos (by decide),Int.toNat_natCast,if_pos (in_cast (by omega)),if_pos (by decide),if_pos (by decide),if_pos (by omega),wN (by omega),take_s hj,er,List.append_assoc]
     rfl
    ·rw [List.take_length]
     simp only [lt_self,cond_false]
    ·show (if 3 = 3 then _ else none) = _
     rw [if_pos rfl]
end
end Go.Ve.D


namespace Go.Ve.D
open Go Go.Ve
noncomputable section

section
variable {c : Cat} {u : Int} {ob am : List (List Int)} {x : Dg}
theorem p124 (c : Cat) (y : Int) : G124 (c,y) = some (inn (ar c : Int) y):=by
 unfold G124 inn
 show Option.bind (bif decide (0≤y) then some (decide (y < ((c.2.1.length : Nat) : Int))) else some false) _ = _
 cases decide (0≤y) <;> rfl
theorem xstep {c : Cat} (k : Nd) {R : Type} (z : Option (LO Int R)) (y : LO Int R) :
  (exN c k = true→(Option.bind (bif decide (k.1 = 0) then Option.bind (G124 (c,k.2)) (fun v3 : Bool=>some (!v3)) else some false) fun v3 : Bool=>Option.bind (bif v3 then some true else bif decide (k.1 = 1) then Option.bind (G58 (c,k.2)) (fun v4 : Bool=>some (!v4)) else some false) fun v4 : Bool=>bif v4 then z else some y) = some y) ∧
  (exN c k = false→(Option.bind (bif decide (k.1 = 0) then Option.bind (G124 (c,k.2)) (fun v3 : Bool=>some (!v3)) else some false) fun v3 : Bool=>Option.bind (bif v3 then some true else bif decide (k.1 = 1) then Option.bind (G58 (c,k.2)) (fun v4 : Bool=>some (!v4)) else some false) fun v4 : Bool=>bif v4 then z else some y) = z):=by
 rw [p124,p58]
 unfold exN
 cases decide (k.1 = 0) <;> cases inn (ar c : Int) k.2 <;> cases decide (k.1 = 1) <;> cases inn c.1 k.2 <;> exact ⟨fun h=>(by first | rfl | cases h),fun h=>(by first | rfl | cases h)⟩
inductive Cd (c : Cat) (u : Int) (ob am : List (List Int)) (x : Dg) : Prop where
 | bad (h : (isMon c u ob am && isDg x) = false)
 | out (h : isMon c u ob am = true) (h' : isDg x = true) (h'' : exD c x = false)
 | tree (h : isMon c u ob am = true) (h' : isDg x = true) (h'' : exD c x = true) (n : Nat) (m : MH c u ob am n) (t : Tr) (ok : t.ok = true) (ex : t.ex c = true) (e : x = t.flat) (l : x.length≤40)
theorem cd_of (c : Cat) (u : Int) (ob am : List (List Int)) (x : Dg) : Cd c u ob am x:=by
 cases h1 : isMon c u ob am with
 | false=>exact .bad (by rw [h1]; rfl)
 | true=>
 cases h2 : isDg x with
 | false=>exact .bad (by rw [h2,Bool.and_false])
 | true=>
 cases h3 : exD c x with
 | false=>exact .out h1 h2 h3
 | true=>
  obtain ⟨t,ht,e,l⟩:=dg_tr h2
  have hh : headM c u ob am = true:=by
   have h1':=h1
   unfold isMon at h1'
   rw [Bool.and_eq_true] at h1'
   exact h1'.1
  obtain ⟨n,m⟩:=mh_of hh
  exact .tree h1 h2 h3 n m t ht (exD_tr h3 t 0 ⟨[],[],by rw [e]; simp,rfl⟩) e l
def dcode (c : Cat) (u : Int) (ob am : List (List Int)) (x : Dg) (v : Int) : Int × Int:=bif !(isMon c u ob am && isDg x) then (0,1) else bif !exD c x then (0,2) else bif decide (v < 0) then (0,5) else (v,0)
theorem p73 (ok : okM8 c ob am) (hx : x.length≤1048576) {v : Int} {e : Int} (hv : isMon c u ob am = true→isDg x = true→exD c x = true→G125 (mkM c u ob am,(x,(0 : Int))) = some ((bif decide (v < 0) then 0 else v),(e,!decide (v < 0)))) : G73 (mkM c u ob am,x) = some (dcode c u ob am x v):=by
 unfold G73 dcode
 have e64:=p64 (u:=u) ok
 unfold mkM at e64 hv ⊢
 simp only [Prod.eta,e64,p123 hx,Option.bind_some]
 cases h1 : isMon c u ob am with
 | false=>rfl
 | true=>
 cases h2 : isDg x with
 | false=>rfl
 | true=>
 have hv:=hv h1 h2
 simp only [Bool.not_true,cond_false,Option.bind_some,Bool.and_self]
 refine chk_bind (st:=fun i : Nat=>(i : Int)) (n:=x.length) (p:=fun i=>exN c (nd x i)) (Q:=fun r : Int × Int=>r = (0,2)) (o:=.brk 0 (x.length : Int)) (Post:=fun o : Option (Int × Int)=>o = some (bif !exD c x then (0,2) else bif decide (v < 0) then (0,5) else (v,0))) (fun i hi=>?_) ?_ (fun y=>by simp) (fun hall=>?_) (fun hall r hr=>?_)
 ·simp only [lt_cast,hi,decide_true,cond_true,in_cast hi,and_self,if_true,Int.toNat_natCast]
  rw [wrap_sm (by omega) (by omega)]
  obtain ⟨k1,k2⟩:=xstep (c:=c) (nd x i) (retM (X:=Int) (some ((0 : Int),(2 : Int)))) (LO.next ((i + 1 : Nat) : Int))
  exact ⟨fun h=>k1 h,fun h=>⟨(0,2),k2 h,rfl⟩⟩
 ·simp only [lt_cast,Nat.lt_irrefl,decide_false,cond_false]
 ·have h3 : exD c x = true:=hall
  rw [h3]
  show Option.bind (G125 ((c.1,(c.2.1,(c.2.2.1,(c.2.2.2.1,(c.2.2.2.2,(u,(ob,am))))))),(x,(0 : Int)))) _ = _
  rw [hv h3]
  cases decide (v < 0) <;> rfl
 ·have h3 : exD c x = false:=hall
  rw [hr,h3]; rfl
theorem p76 (ok : okM8 c ob am) (hx : x.length≤1048576) {v : Int} {e : Int} (hv : isMon c u ob am = true→isDg x = true→exD c x = true→G128 (mkM c u ob am,(x,(0 : Int))) = some (v,e)) : G76 (mkM c u ob am,x) = some (dcode c u ob am x v):=by
 unfold G76 dcode
 simp only [p68 ok,p126 hx,Option.bind_some]
 cases h1 : isMon c u ob am with
 | false=>rfl
 | true=>
 cases h2 : isDg x with
 | false=>rfl
 | true=>
 have hv:=hv h1 h2
 simp only [Bool.not_true,cond_false,Option.bind_some,Bool.and_self,p127 hx h2]
 cases h3 : exD c x with
 | false=>rfl
 | true=>
  simp only [Bool.not_true,cond_false,hv h3,Option.bind_some]
  cases decide (v < 0) <;> rfl
theorem p3335 (ok : okM8 c ob am) (hx : x.length≤1048576) : ∃ r : List (List Int) × Int,G33 (mkM c u ob am,x) = some r∧G35 (mkM c u ob am,x) = some r∧r.1.length≤40∧∀ y ∈ r.1,y.length≤1048576:=by
 unfold G33 G35
 cases cd_of c u ob am x with
 | bad hb=>
  have hn : ¬ (isMon c u ob am = true∧isDg x = true):=by
   rintro ⟨a,b⟩; rw [a,b] at hb; cases hb
  have h1:=p73 (u:=u) ok hx (v:=0) (e:=0) (fun a b=>absurd ⟨a,b⟩ hn)
  have h2:=p76 (u:=u) ok hx (v:=0) (e:=0) (fun a b=>absurd ⟨a,b⟩ hn)
  have hd : dcode c u ob am x 0 = (0,1):=by unfold dcode; rw [hb]; rfl
  simp only [Prod.eta,h1,h2,hd,Option.bind_some]
  exact ⟨([],1),rfl,rfl,Nat.zero_le _,fun y hy=>by cases hy⟩
 | out a b c'=>
  have h1:=p73 (u:=u) ok hx (v:=0) (e:=0) (fun _ _ h=>by rw [c'] at h; cases h)
  have h2:=p76 (u:=u) ok hx (v:=0) (e:=0) (fun _ _ h=>by rw [c'] at h; cases h)
  have hd : dcode c u ob am x 0 = (0,2):=by unfold dcode; rw [a,b,c']; rfl
  simp only [Prod.eta,h1,h2,hd,Option.bind_some]
  exact ⟨([],2),rfl,rfl,Nat.zero_le _,fun y hy=>by cases hy⟩
 | tree a b c' n m t tok tex e l=>
  have hat : At x 0 t:=⟨[],[],by rw [e]; simp,rfl⟩
  have hf : t.flat.length≤4096:=by rw [← e]; omega
  have h1:=p73 (u:=u) ok hx (fun _ _ _=>q125 m l t 4096 0 tok tex hat hf)
  have h2:=p76 (u:=u) ok hx (fun _ _ _=>q128 m l t 4096 0 tok tex hat hf)
  have hd : dcode c u ob am x (vl c am t) = bif decide (vl c am t < 0) then (0,5) else (vl c am t,0):=by unfold dcode; rw [a,b,c']; rfl
  simp only [Prod.eta,h1,h2,hd,Option.bind_some]
  cases hn : decide (vl c am t < 0) with
  | true=>exact ⟨([],5),rfl,rfl,Nat.zero_le _,fun y hy=>by cases hy⟩
  | false=>
   have g1 : G74 (mkM c u ob am,(x,(0 : Int))) = _:=q74 m l t 4096 0 tok tex hn hat hf
   have g2 : G77 (mkM c u ob am,(x,(0 : Int))) = _:=q77 m l t 4096 0 tok tex hn hat hf
   simp only [cond_false,decide_true,Bool.not_true,g1,g2,Option.bind_some]
   obtain ⟨s1,s2⟩:=sl_ok m t tok tex hn
   refine ⟨(sl c u ob am t,0),rfl,rfl,?_,fun y hy=>?_⟩
   ·have : t.flat.length≤40:=by rw [← e]; exact l
    show (sl c u ob am t).length≤40
    omega
   ·obtain ⟨p,s,q,rfl,_,_⟩:=s1 y hy
    show 3≤1048576
    omega
end
end
end Go.Ve.D


namespace Go.Ve.D
open Go Go.Ve
noncomputable section

theorem mk39 {x : List (List Int)} {k : Int} (h0 : 0≤k) (h1 : k≤1125899906842624) (h : x.length≤1048576) (hx : ∀ y ∈ x,y.length≤1048576) : ∃ k' y,G39 (x,k) = some (k',y)∧0≤k'∧k'≤k + 1099511627776:=by
 have ht:=tot_le hx x.length (Nat.le_refl _)
 exact ⟨_,_,p39 h0 h1 h hx,by omega,by omega⟩
theorem mk46 {c : Cat} {k : Int} (h0 : 0≤k) (h1 : k≤562949953421312) (h : okC c) : ∃ k' y,G46 (c,k) = some (k',y)∧0≤k'∧k'≤k + 8796093022208:=by
 obtain ⟨g1,g2,g3,g4,g5⟩:=h
 obtain ⟨k1,y1,a1,b1,c1,d1⟩:=mh16 h0 (by omega) g1
 obtain ⟨k2,y2,a2,b2,c2,d2⟩:=mh16 b1 (by omega) g2
 obtain ⟨k3,y3,a3,b3,c3,d3⟩:=mh16 b2 (by omega) g3
 obtain ⟨k4,y4,a4,b4,c4⟩:=mk39 b3 (by omega) g4 g5
 refine ⟨k4,(y1,(y2,(y3,y4))),?_,b4,by omega⟩
 unfold G46
 simp only [a1,a2,a3,a4,Option.bind_some]
theorem p41b {c : Cat} {b : Int} (hb : 0≤b∧b≤1048576) (h1 : c.2.1.length≤maxLen) (h2 : c.2.2.1.length≤maxLen) (h3 : c.2.2.2.1.length≤maxLen) (h4 : c.2.2.2.2.length≤maxLen) (h5 : ∀ y ∈ c.2.2.2.2,y.length≤maxLen) :
  ∃ r,G41 (c,b) = some r∧(r < 0∨(0≤r∧r≤1048576∧okC c)):=by
 unfold G41
 obtain ⟨r1,e1,f1⟩:=p47 (b:=b) hb h1
 simp only [e1,Option.bind_some]
 by_cases n1 : r1 < 0
 ·exact ⟨-1,by simp only [n1,decide_true,cond_true],.inl (by decide)⟩
 simp only [n1,decide_false,cond_false]
 obtain ⟨r2,e2,f2⟩:=p47 (b:=r1) (by omega) h2
 simp only [e2,Option.bind_some]
 by_cases n2 : r2 < 0
 ·exact ⟨-1,by simp only [n2,decide_true,cond_true],.inl (by decide)⟩
 simp only [n2,decide_false,cond_false]
 obtain ⟨r3,e3,f3⟩:=p47 (b:=r2) (by omega) h3
 simp only [e3,Option.bind_some]
 by_cases n3 : r3 < 0
 ·exact ⟨-1,by simp only [n3,decide_true,cond_true],.inl (by decide)⟩
 simp only [n3,decide_false,cond_false]
 obtain ⟨r4,e4,f4⟩:=p48 (b:=r3) (by omega) h4 h5
 simp only [e4,Option.bind_some]
 by_cases n4 : r4 < 0
 ·exact ⟨-1,by simp only [n4,decide_true,cond_true],.inl (by decide)⟩
 simp only [n4,decide_false,cond_false]
 refine ⟨r4,rfl,.inr ?_⟩
 have f4:=f4.resolve_left n4
 exact ⟨f4.1,by omega,by omega,by omega,by omega,f4.2.2.1,f4.2.2.2⟩
theorem p40 {x : List (List Int)} {k : Int} (h0 : 0≤k) (h1 : k≤1125899906842624) (h : x.length≤1048576) (hx : ∀ y ∈ x,y.length≤1048576) : G40 (mks x k,k) = some (k + (tot x x.length : Int)):=by
 unfold G40
 have hst : ((k,(0 : Int)) : Int × Int) = (fun i : Nat=>(k + (tot x i : Int),(i : Int))) 0:=by simp [tot]
 simp only [hst]
 refine bind_of (v:=.brk 0 (k + (tot x x.length : Int),(x.length : Int))) (tloop_iter (st:=fun i : Nat=>(k + (tot x i : Int),(i : Int))) (n:=x.length) (fun i hi=>?_) ?_ (fun y=>by simp)) rfl
 ·have ht:=tot_le hx i (Nat.le_of_lt hi)
  have hr:=hx _ (getD_mem' [] hi)
  have m : ¬ (k + (tot x i : Int) + ((x.getD i []).length : Int) < 0):=by omega
  simp only [mks_len,lt_cast,hi,decide_true,cond_true,in_cast hi,if_true,Int.toNat_natCast,and_self,mks_get hi,p17 (x:=x.getD i []) (k:=k + (tot x i : Int)) (by omega) (by omega) hr,Option.bind_some,m,decide_false,cond_false]
  rw [wrap_sm (by omega) (by omega),tot_succ hi]
  simp only [Int.natCast_add,Int.add_assoc]
  rfl
 ·simp only [mks_len,lt_cast,Nat.lt_irrefl,decide_false,cond_false]
section
variable {c : Cat} {u : Int} {ob am : List (List Int)}
theorem p25 (ok : okM8 c ob am) : G25 (mkM c u ob am) = some (mkM c u ob am):=by
 obtain ⟨oc,⟨o1,o2⟩,⟨o3,o4⟩⟩:=ok
 unfold G25 mkM
 simp only [Prod.eta,p43 oc,p52 o1 o2,p52 o3 o4,Option.bind_some]
theorem p28 (ok : okM8 c ob am) : G28 (mkM c u ob am,mkM c u ob am) = some true:=by
 obtain ⟨oc,⟨o1,o2⟩,⟨o3,o4⟩⟩:=ok
 unfold G28 mkM
 simp only [Prod.eta,p45 oc,p36 o1 o2,p36 o3 o4,Option.bind_some,Bool.not_true,cond_false,decide_true]
theorem mk29 (ok : okM8 c ob am) : ∃ k' y,G29 (mkM c u ob am,1) = some (k',y)∧0≤k'∧k'≤1152921504606846976:=by
 obtain ⟨oc,⟨o1,o2⟩,⟨o3,o4⟩⟩:=ok
 obtain ⟨k1,y1,a1,b1,c1⟩:=mk46 (k:=1) (by omega) (by omega) oc
 obtain ⟨k2,y2,a2,b2,c2⟩:=mk39 b1 (by omega) o1 o2
 obtain ⟨k3,y3,a3,b3,c3⟩:=mk39 b2 (by omega) o3 o4
 refine ⟨k3,(y1.1,(y1.2.1,(y1.2.2.1,(y1.2.2.2,(y2,y3))))),?_,b3,by omega⟩
 unfold G29 mkM
 simp only [Prod.eta,a1,a2,a3,Option.bind_some]
end
theorem p34 {x : Dg} (h : x.length≤1048576) : G34 x = some x:=by
 unfold G34
 rw [if_pos (by omega)]
 refine bind_of (v:=.brk 0 ((x.length : Int),x)) (tloop_iter (st:=fun i=>((i : Int),x.take i ++ (List.replicate x.length ((0 : Int),(0 : Int))).drop i)) (n:=x.length) (fun i hi=>?_) (by simp) (fun y=>by simp)) rfl
 have e : (x.take i ++ (List.replicate x.length ((0 : Int),(0 : Int))).drop i).length = x.length:=by simp; omega
 have hs:=take_set (x:=x) (y:=List.replicate x.length ((0 : Int),(0 : Int))) (i:=i) ((0 : Int),(0 : Int)) (by simp) hi
 generalize x.take i ++ (List.replicate x.length ((0 : Int),(0 : Int))).drop i = z at e hs
 have g1 : ∀ k : Nd,(z.set i k).getD i ((0 : Int),(0 : Int)) = k:=fun k=>by
  rw [List.getD_eq_getElem?_getD,List.getElem?_set_self (by omega)]; rfl
 have g75 : ∀ k : Nd,G75 (k.1,k.2) = some k:=fun k=>rfl
 simp only [lt_cast,hi,decide_true,cond_true,in_cast hi,if_true,e,Int.toNat_natCast,and_self,g75,Option.bind_some,g1,List.set_set]
 rw [← hs,wrap_sm (by omega) (by omega)]
 rfl
theorem p78 (k : Nd) : G78 ((k.1,k.2),(k.1,k.2)) = some true:=by
 unfold G78
 simp only [decide_true,Bool.not_true,cond_false]
theorem p37 {x : Dg} (h : x.length≤1048576) : G37 (x,x) = some true:=by
 unfold G37
 simp only [decide_true,Bool.not_true,cond_false]
 refine bind_of (v:=.brk 0 (x.length : Int)) (tloop_iter (st:=fun i=>(i : Int)) (n:=x.length) (fun i hi=>?_) (by simp) (fun y=>by simp)) rfl
 simp only [lt_cast,hi,decide_true,cond_true,in_cast hi,if_true,Int.toNat_natCast,and_self,p78,Bool.not_true,cond_false,Option.bind_some]
 rw [wrap_sm (by omega) (by omega)]
 rfl
def mk38 (x : Dg) (k : Int) : Dg:=(List.range x.length).map fun (i : Nat)=>(k + 2 * (i : Int),k + 2 * (i : Int) + 1)
theorem p38 {x : Dg} {k : Int} (h0 : 0≤k) (h1 : k≤1152921504606846976) (h : x.length≤1048576) : ∃ k' y,G38 (x,k) = some (k',y)∧0≤k':=by
 refine ⟨k + 2 * (x.length : Int),mk38 x k,?_,by omega⟩
 unfold G38
 have hl : (mk38 x k).length = x.length:=by simp [mk38]
 refine bind_of (v:=.brk 0 (k + 2 * (x.length : Int),((x.length : Int),mk38 x k))) (tloop_iter' (st:=fun i : Nat=>(k + 2 * (i : Int),((i : Int),(mk38 x k).take i ++ x.drop i))) (by simp) (n:=x.length) (fun i hi=>?_) ?_ (fun y=>by simp)) rfl
 ·have e : ((mk38 x k).take i ++ x.drop i).length = x.length:=by simp [hl]; omega
  have hs:=take_set (x:=mk38 x k) (y:=x) (i:=i) ((0 : Int),(0 : Int)) hl.symm (by omega)
  have hg : (mk38 x k).getD i ((0 : Int),(0 : Int)) = (k + 2 * (i : Int),k + 2 * (i : Int) + 1):=by simp [mk38,hi]
  generalize (mk38 x k).take i ++ x.drop i = z at e hs
  have g1 : ∀ k : Nd,(z.set i k).getD i ((0 : Int),(0 : Int)) = k:=fun k=>by
   rw [List.getD_eq_getElem?_getD,List.getElem?_set_self (by omega)]; rfl
  simp only [e,List.length_set,lt_cast,hi,decide_true,cond_true,in_cast hi,if_true,Int.toNat_natCast,and_self,g1,List.set_set]
  rw [wrap_sm (n:=(i : Int) + 1) (by omega) (by omega),wrap_id (n:=k + 2 * (i : Int) + 1) (by omega) (by omega),wrap_id (n:=k + 2 * (i : Int) + 1 + 1) (by omega) (by omega),← hg,hs]
  have e2 : k + 2 * (i : Int) + 1 + 1 = k + 2 * ((i + 1 : Nat) : Int):=by omega
  rw [e2]
  rfl
 ·have e : ((mk38 x k).take x.length ++ x.drop x.length) = mk38 x k:=by
   rw [List.drop_length,List.append_nil]
   exact List.take_of_length_le (by rw [hl]; exact Nat.le_refl _)
  simp only [e,hl,lt_cast,Nat.lt_irrefl,decide_false,cond_false]
theorem p32 {x : Dg} {b : Int} (hb : 0≤b∧b≤1048576) (hx : x.length≤maxLen) : ∃ r,G32 (x,b) = some r∧(r < 0∨(0≤r∧r≤b∧x.length≤1048576)):=by
 unfold G32
 have hm : x.length≤9223372036854775807:=hx
 rw [wrap_id (n:=b - (x.length : Int)) (by omega) (by omega)]
 by_cases h : b - (x.length : Int) < 0
 ·exact ⟨-1,by simp only [h,decide_true,cond_true],.inl (by decide)⟩
 ·exact ⟨b - (x.length : Int),by simp only [h,decide_false,cond_false],.inr ⟨by omega,by omega,by omega⟩⟩
theorem p6 (x : MC × Dg) (h : okT (PT S6.ps) x) : G6 x = some true:=by
 obtain ⟨⟨c1,c2,c3,c4,c5,u,ob,am⟩,d⟩:=x
 obtain ⟨⟨_,h2,h3,h4,h5,_,ho,ha⟩,hd⟩:=h
 unfold G6 G23
 simp only [Prod.eta]
 obtain ⟨r1,e1,f1⟩:=p41b (c:=(c1,(c2,(c3,(c4,c5))))) (b:=1048576) (by omega) h2.1 h3.1 h4.1 h5.1 (fun y hy=>(h5.2 y hy).1)
 simp only [e1,Option.bind_some]
 by_cases n1 : r1 < 0
 ·simp only [n1,decide_true,cond_true,Option.bind_some]; rfl
 have f1:=f1.resolve_left n1
 obtain ⟨r2,e2,f2⟩:=p48 (x:=ob) (b:=r1) ⟨f1.1,f1.2.1⟩ ho.1 (fun y hy=>(ho.2 y hy).1)
 simp only [n1,decide_false,cond_false,e2,Option.bind_some]
 by_cases n2 : r2 < 0
 ·simp only [n2,decide_true,cond_true,Option.bind_some]; rfl
 have f2:=f2.resolve_left n2
 obtain ⟨r3,e3,f3⟩:=p48 (x:=am) (b:=r2) ⟨f2.1,by omega⟩ ha.1 (fun y hy=>(ha.2 y hy).1)
 simp only [n2,decide_false,cond_false,e3,Option.bind_some]
 by_cases n3 : r3 < 0
 ·simp only [n3,decide_true,cond_true,Option.bind_some]; rfl
 have f3:=f3.resolve_left n3
 obtain ⟨r4,e4,f4⟩:=p32 (x:=d) (b:=r3) ⟨f3.1,by omega⟩ hd.1
 simp only [n3,decide_false,cond_false,e4,Option.bind_some]
 by_cases n4 : r4 < 0
 ·simp only [n4,decide_true,cond_true]
 have f4:=f4.resolve_left n4
 have ok : okM8 (c1,(c2,(c3,(c4,c5)))) ob am:=⟨f1.2.2,f2.2.2,f3.2.2⟩
 have q25:=p25 (u:=u) ok
 have q28:=p28 (u:=u) ok
 have q34:=p34 f4.2.2
 have q37:=p37 f4.2.2
 obtain ⟨r,q33,q35,rl,ry⟩:=p3335 (u:=u) ok f4.2.2
 obtain ⟨k',y,q29,hk,hk2⟩ : ∃ k' y,G29 (mkM (c1,(c2,(c3,(c4,c5)))) u ob am,1) = some (k',y)∧0≤k'∧k'≤1152921504606846976:=mk29 (u:=u) ok
 obtain ⟨k2,y2,q38,hk3⟩:=p38 hk hk2 f4.2.2
 unfold mkM at q25 q28 q33 q35 q29
 have q36:=p36 (x:=r.1) (by omega) ry
 have q39:=p39 (x:=r.1) (k:=1) (by omega) (by omega) (by omega) ry
 have q40:=p40 (x:=r.1) (k:=1) (by omega) (by omega) (by omega) ry
 have m1 : ¬ (k2 < 0):=by omega
 have m2 : ¬ ((1 : Int) + (tot r.1 r.1.length : Int) < 0):=by omega
 simp only [n4,decide_false,cond_false,q25,q28,q34,q37,q33,q35,q29,q38,q36,q39,q40,m1,m2,Option.bind_some,decide_true,Bool.not_true]
end
end Go.Ve.D

