/- Braidings: the choices and their numbers. -/
import Derived.Test.YtcdekmccongjgaaOda
import Derived.Test.YtcdekmccongjgaaOba
import Derived.Test.YtcdekmccongjgaaOca
namespace Go.Ve.D
open Go Go.Ve
noncomputable section

theorem accC {α C R : Type} {F : C × (Int × List α)→Option (LO (C × (Int × List α)) R)} {n K L : Nat} {g : Nat→List α} {φ : List α→C} {id : Nat} (hg : ∀ i,i < n→(g i).length≤K)
  (h1 : ∀ i,i < n→∀ acc : List α,acc.length≤L + i * K→F (φ acc,((i : Int),acc)) = some (.next (φ (acc ++ g i),(((i + 1 : Nat) : Int),acc ++ g i)))) (h2 : ∀ acc : List α,F (φ acc,((n : Int),acc)) = some (.brk id (φ acc,((n : Int),acc)))) (acc0 : List α) (h0 : acc0.length≤L) :
  tloop F (φ acc0,((0 : Int),acc0)) = some (.brk id (φ (acc0 ++ (List.range n).flatMap g),((n : Int),acc0 ++ (List.range n).flatMap g))):=by
 have hl : ∀ i,i≤n→(acc0 ++ (List.range i).flatMap g).length≤L + i * K:=by
  intro i hi
  have:=flat_len (g:=g) (K:=K) i fun j hj=>hg j (by omega)
  rw [List.length_append]; omega
 have hst:=tloop_iter (f:=F) (st:=fun i : Nat=>(φ (acc0 ++ (List.range i).flatMap g),((i : Int),acc0 ++ (List.range i).flatMap g))) (n:=n) (o:=.brk id (φ (acc0 ++ (List.range n).flatMap g),((n : Int),acc0 ++ (List.range n).flatMap g))) (fun i hi=>?_) (h2 _) (fun y=>by simp)
 ·simpa using hst
 ·rw [h1 i hi _ (hl i (by omega)),List.range_succ,List.flatMap_append,← List.append_assoc]
  simp

theorem fillD {R : Type} {F : Int × (Int × List Int)→Option (LO (Int × (Int × List Int)) R)} {n : Nat} {nm : Nat→Int} {y : Nat→Int} {id : Nat}
  (h1 : ∀ j i,j + i + 1 = n→∀ o : List Int,o.length = n→F (nm j,((i : Int),o)) = some (.next (nm (j + 1),((i : Int) - 1,o.set i (y i))))) (h2 : ∀ o : List Int,F (nm n,(-1,o)) = some (.brk id (nm n,(-1,o)))) :
  tloop F (nm 0,((n : Int) - 1,List.replicate n 0)) = some (.brk id (nm n,(-1,(List.range n).map y))):=by
 have e0 : List.replicate n (0 : Int) = (List.range n).map fun i=>if n - 0≤i then y i else 0:=by
  apply List.ext_getElem (by simp)
  intro i h1 h2
  have : i < n:=by simpa using h1
  simp; omega
 have e1 : (List.range n).map y = (List.range n).map fun i=>if n - n≤i then y i else 0:=by
  apply List.map_congr_left
  intro i _
  rw [if_pos (by omega)]
 rw [e0,e1]
 have hst:=tloop_iter (f:=F) (st:=fun j : Nat=>(nm j,((n : Int) - 1 - (j : Int),(List.range n).map fun i=>if n - j≤i then y i else 0))) (n:=n) (o:=.brk id (nm n,(-1,(List.range n).map fun i=>if n - n≤i then y i else 0))) (fun j hj=>?_) ?_ (fun y=>by simp)
 ·simpa using hst
 ·obtain ⟨i,hi⟩ : ∃ i,j + i + 1 = n:=⟨n - 1 - j,by omega⟩
  have ei : (n : Int) - 1 - (j : Int) = (i : Int):=by omega
  have ei2 : (n : Int) - 1 - ((j + 1 : Nat) : Int) = (i : Int) - 1:=by omega
  simp only [ei,ei2]
  rw [h1 j i hi _ (by simp)]
  congr 4
  apply List.ext_getElem (by simp)
  intro k g1 g2
  have hk : k < n:=by simpa using g2
  rw [List.getElem_set]
  by_cases h : i = k
  ·subst h
   simp; omega
  ·rw [if_neg h]
   simp
   by_cases h3 : n≤k + j
   ·rw [if_pos h3,if_pos (by omega)]
   ·rw [if_neg h3,if_neg (by omega)]
 ·have ei : (n : Int) - 1 - (n : Int) = -1:=by omega
  simp only [ei]
  exact h2 _

def nmS (sz : List Int) (k : Int) : Nat→Int
 | 0=>k
 | j + 1=>Int.tdiv (nmS sz k j) (sz.getD (sz.length - 1 - j) 0)
def dgS (sz : List Int) (k : Int) (i : Nat) : Int:=Int.tmod (nmS sz k (sz.length - 1 - i)) (sz.getD i 0)
def posL (sz : List Int) : Prop:=∀ i,i < sz.length→0 < sz.getD i 0
theorem nmS_in {sz : List Int} (hp : posL sz) {k : Int} (hk : 0≤k∧k≤200) : ∀ j,j≤sz.length→0≤nmS sz k j∧nmS sz k j≤200
 | 0,_=>hk
 | j + 1,h=>by
  obtain ⟨h1,h2⟩:=nmS_in hp hk j (by omega)
  have hp:=hp (sz.length - 1 - j) (by omega)
  unfold nmS
  refine ⟨Int.tdiv_nonneg h1 (by omega),?_⟩
  rw [Int.tdiv_eq_ediv_of_nonneg h1]
  exact Int.le_trans (Int.ediv_le_self _ h1) h2
theorem dgS_in {sz : List Int} (hp : posL sz) {k : Int} (hk : 0≤k∧k≤200) {i : Nat} (hi : i < sz.length) : 0≤dgS sz k i∧dgS sz k i < sz.getD i 0:=by
 obtain ⟨h1,h2⟩:=nmS_in hp hk (sz.length - 1 - i) (by omega)
 have hp:=hp i hi
 unfold dgS
 exact ⟨Int.tmod_nonneg _ h1,Int.tmod_lt_of_pos _ hp⟩
theorem p66 {sz : List Int} (hp : posL sz) (hl : sz.length≤1000) {k : Int} (hk : 0≤k∧k≤200) : G66 (sz,k) = some ((List.range sz.length).map (dgS sz k)):=by
 unfold G66
 dsimp only
 rw [if_pos (by omega),wrap_id (by omega) (by omega),Int.toNat_natCast]
 refine bind_of (v:=.brk 0 (nmS sz k sz.length,(-1,(List.range sz.length).map (dgS sz k)))) (fillD (nm:=nmS sz k) (y:=dgS sz k) (fun j i hj o ho=>?_) fun o=>?_) rfl
 ·have p:=hp i (by omega)
  obtain ⟨n1,n2⟩:=nmS_in hp hk j (by omega)
  obtain ⟨m1,m2⟩:=nmS_in hp hk (j + 1) (by omega)
  have e1 : sz.length - 1 - j = i:=by omega
  have e2 : sz.length - 1 - i = j:=by omega
  have e3 : nmS sz k (j + 1) = Int.tdiv (nmS sz k j) (sz.getD i 0):=by
   show Int.tdiv _ (sz.getD (sz.length - 1 - j) 0) = _
   rw [e1]
  have e4 : dgS sz k i = Int.tmod (nmS sz k j) (sz.getD i 0):=by
   unfold dgS; rw [e2]
  rw [e4]
  have hne : sz.getD i 0≠0:=by omega
  simp (disch:=omega) only [leN,ltN,and_self,if_true,decide_true,cond_true,Int.toNat_natCast,if_pos hne]
  rw [← e3,wrap_id (by omega) (by omega),wrap_id (by omega) (by omega)]
 ·rfl
end
end Go.Ve.D


namespace Go.Ve.D
open Go Go.Ve
noncomputable section

theorem flat1 {α β : Type} {f : α→β} : ∀ l : List α,(l.flatMap fun y=>[f y]) = l.map f
 | []=>rfl
 | a :: l=>by rw [List.flatMap_cons,flat1 l]; rfl
def swG (c : Cat) (ob : List (List Int)) (x y : Nat) : List Int:=homL c (cell ob x y) (cell ob y x)
def swp (c : Cat) (ob : List (List Int)) (x y : Nat) : List Int:=((List.range (swG c ob x y).length).filter fun i=>decide (0≤inv c ((swG c ob x y).getD i 0).toNat)).map fun i=>(swG c ob x y).getD i 0
def swR (c : Cat) (ob : List (List Int)) (n x : Nat) : List (List Int):=(List.range n).flatMap fun y=>[swp c ob x y]
def swaps (c : Cat) (ob : List (List Int)) (n : Nat) : List (List Int):=(List.range n).flatMap (swR c ob n)
theorem swG_len {c : Cat} {ob : List (List Int)} {x y : Nat} : (swG c ob x y).length≤ar c:=fm_len
theorem swp_len {c : Cat} {ob : List (List Int)} {x y : Nat} : (swp c ob x y).length≤ar c:=by
 unfold swp
 rw [List.length_map]
 have:=List.length_filter_le (fun i=>decide (0≤inv c ((swG c ob x y).getD i 0).toNat)) (List.range (swG c ob x y).length)
 rw [List.length_range] at this
 have:=swG_len (c:=c) (ob:=ob) (x:=x) (y:=y)
 omega
theorem swG_get {c : Cat} {ob : List (List Int)} {x y i : Nat} (hi : i < (swG c ob x y).length) : ∃ k : Nat,k < ar c∧fT c k = cell ob x y∧tT c k = cell ob y x∧(swG c ob x y).getD i 0 = (k : Int):=by
 obtain ⟨k,hk,q,ek⟩:=fm_get hi
 rw [Bool.and_eq_true,decide_eq_true_eq,decide_eq_true_eq] at q
 exact ⟨k,hk,q.1,q.2,ek⟩
theorem swp_get {c : Cat} {ob : List (List Int)} {x y i : Nat} (hi : i < (swp c ob x y).length) : ∃ k : Nat,k < ar c∧fT c k = cell ob x y∧tT c k = cell ob y x∧0≤inv c k∧(swp c ob x y).getD i 0 = (k : Int):=by
 have hm:=getD_mem' (0 : Int) hi
 obtain ⟨j,hj,e⟩:=List.mem_map.1 hm
 obtain ⟨h1,h2⟩:=List.mem_filter.1 hj
 obtain ⟨k,hk,f1,f2,ek⟩:=swG_get (List.mem_range.1 h1)
 rw [ek,Int.toNat_natCast] at h2
 exact ⟨k,hk,f1,f2,of_decide_eq_true h2,by rw [← e,ek]⟩
theorem swR_len {c : Cat} {ob : List (List Int)} {n x : Nat} : (swR c ob n x).length = n:=by
 unfold swR
 rw [flat1]; simp
theorem swaps_len {c : Cat} {ob : List (List Int)} {n : Nat} : (swaps c ob n).length = n * n:=by
 unfold swaps
 have : ∀ m,((List.range m).flatMap (swR c ob n)).length = m * n:=by
  intro m
  induction m with
  | zero=>simp
  | succ m ih=>
   rw [List.range_succ,List.flatMap_append,List.length_append,ih,Nat.succ_mul]
   simp [swR_len]
 exact this n
theorem swaps_get {c : Cat} {ob : List (List Int)} {n x y : Nat} (hx : x < n) (hy : y < n) : (swaps c ob n).getD (x * n + y) [] = swp c ob x y:=by
 have hr : (swR c ob n x).getD y [] = swp c ob x y:=by
  unfold swR
  rw [flat1]
  simp [hy]
 have : ∀ m,x < m→((List.range m).flatMap (swR c ob n)).getD (x * n + y) [] = swp c ob x y:=by
  intro m
  induction m with
  | zero=>intro h; omega
  | succ m ih=>
   intro h
   have hl : ((List.range m).flatMap (swR c ob n)).length = m * n:=by
    have : ∀ m,((List.range m).flatMap (swR c ob n)).length = m * n:=by
     intro m
     induction m with
     | zero=>simp
     | succ m ih=>
      rw [List.range_succ,List.flatMap_append,List.length_append,ih,Nat.succ_mul]
      simp [swR_len]
    exact this m
   rw [List.range_succ,List.flatMap_append,List.getD_eq_getElem?_getD]
   by_cases hm : x < m
   ·have : (x + 1) * n≤m * n:=Nat.mul_le_mul_right n hm
    rw [List.getElem?_append_left (by rw [hl,Nat.succ_mul] at *; omega),← List.getD_eq_getElem?_getD]
    exact ih hm
   ·obtain rfl : x = m:=by omega
    rw [List.getElem?_append_right (by omega),hl,← List.getD_eq_getElem?_getD]
    have : x * n + y - x * n = y:=by omega
    rw [this]
    simpa using hr
 exact this n hx

theorem p65 {c : Cat} {u : Int} {ob am : List (List Int)} {n : Nat} (h : MH c u ob am n) : G65 (mkM c u ob am) = some (swaps c ob n):=by
 obtain ⟨a1,a2,a3,a4,a5,a6,a7,a8⟩:=h.sh.hd
 have hm : ar c≤40:=a2
 have hac : ar c = c.2.1.length:=rfl
 have hn:=h.hn
 have hn8 : n≤8:=by omega
 have lo:=h.ho.len
 have ltc : ∀ x : Nat,x < n→((x : Int) < c.1) = True:=fun x hx=>eq_true (by omega)
 have ltn : decide ((n : Int) < c.1) = false:=decide_eq_false (by omega)
 unfold G65 mkM swaps
 simp only [Prod.eta]
 refine bind_of (v:=.brk 0 ((n : Int),[] ++ (List.range n).flatMap (swR c ob n))) (accum (K:=8) (L:=0) (fun i hi=>by rw [swR_len]; exact hn8) (fun x hx acc ha=>?_) (fun acc=>?_) [] (Nat.zero_le _)) (by rw [List.nil_append]; rfl)
 ·have hacc : acc.length≤64:=by omega
  have rx:=h.ho.row x hx
  simp only [ltc x hx,decide_true,cond_true]
  refine bind_of (v:=.brk 2 ((n : Int),acc ++ swR c ob n x)) (accum (K:=1) (L:=acc.length) (g:=fun y=>[swp c ob x y]) (n:=n) (fun b hb=>Nat.le_refl _) (fun y hy acc2 ha2=>?_) (fun acc2=>?_) acc (Nat.le_refl _)) ?_
  ·have ry:=h.ho.row y hy
   have e : G108 (c,((ob.getD x []).getD y 0,(ob.getD y []).getD x 0)) = some (swG c ob x y):=p108 (by omega) a3 _ _
   have hl:=swG_len (c:=c) (ob:=ob) (x:=x) (y:=y)
   simp (disch:=omega) only [ltc y hy,leN,ltN,and_self,if_true,decide_true,cond_true,Int.toNat_natCast,e,Option.bind_some]
   refine bind_of (v:=.brk 4 (((swG c ob x y).length : Int),swp c ob x y)) (gather (fun i hi acc3 ha3=>?_) fun acc3=>?_) ?_
   ·obtain ⟨k,hk,_,_,ek⟩:=swG_get hi
    simp (disch:=omega) only [leN,ltN,and_self,if_true,decide_true,cond_true,Int.toNat_natCast,ek,p109 h.sh hk,Option.bind_some,wN,List.length_cons,List.length_nil]
    rw [if_pos (show acc3.length + (0 + 1)≤17592186044416 by omega)]
    cases decide (0≤inv c k) <;> rfl
   ·simp only [lt_self,cond_false]
   ·show (if 4 = 4 then _ else none) = _
    simp (disch:=omega) only [if_true,wN,List.length_cons,List.length_nil]
    rw [if_pos (show acc2.length + (0 + 1)≤5864062014805 by omega)]
  ·simp only [ltn,cond_false]
  ·show (if 2 = 2 then _ else none) = _
   rw [if_pos rfl,wN (by omega)]
 ·simp only [ltn,cond_false]

def lensL (ch : List (List Int)) : List Int:=ch.map fun s=>(s.length : Int)
theorem lensL_len {ch : List (List Int)} : (lensL ch).length = ch.length:=by simp [lensL]
theorem lensL_get {ch : List (List Int)} {i : Nat} (hi : i < ch.length) : (lensL ch).getD i 0 = ((ch.getD i []).length : Int):=by
 simp [lensL,hi]
def flat (ch : List (List Int)) (k : Int) (i : Nat) : Int:=(ch.getD i []).getD (dgS (lensL ch) k i).toNat 0
def btab (ch : List (List Int)) (n : Nat) (k : Int) : List (List Int):=(List.range n).map fun x=>(List.range n).map fun y=>flat ch k (x * n + y)
def full (ch : List (List Int)) : Prop:=∀ i,i < ch.length→0 < (ch.getD i []).length
theorem full_pos {ch : List (List Int)} (h : full ch) : posL (lensL ch):=fun i hi=>by
 rw [lensL_len] at hi
 rw [lensL_get hi]
 have:=h i hi
 omega
theorem p119 {x : List Int} (hx : x.length≤1000) : G119 x = some x:=by
 unfold G119
 rw [if_pos (by simp only [List.length_nil]; omega),List.nil_append]
theorem ix_lt {n x y : Nat} (hx : x < n) (hy : y < n) : x * n + y < n * n:=by
 have : (x + 1) * n≤n * n:=Nat.mul_le_mul_right n hx
 rw [Nat.succ_mul] at this
 omega
theorem p71 {c : Cat} {u : Int} {ob am : List (List Int)} {n : Nat} (hn : c.1 = (n : Int)) (hn8 : n≤8) {ch : List (List Int)} (hl : ch.length = n * n) (hf : full ch) {k : Int} (hk : 0≤k∧k≤200) : G71 (mkM c u ob am,(ch,k)) = some (btab ch n k):=by
 have hp:=full_pos hf
 have h64 : n * n≤64:=Nat.mul_le_mul hn8 hn8
 unfold G71 mkM
 dsimp only
 rw [if_pos (by omega),wrap_id (by omega) (by omega),Int.toNat_natCast,hn]
 refine bind_of (v:=.brk 0 (nmS (lensL ch) k ch.length,(-1,(List.range ch.length).map (flat ch k)))) (fillD (nm:=nmS (lensL ch) k) (y:=flat ch k) (fun j i hj o ho=>?_) fun o=>?_) ?_
 ·have p:=hf i (by omega)
  have hl2:=lensL_len (ch:=ch)
  obtain ⟨n1,n2⟩:=nmS_in hp hk j (by omega)
  obtain ⟨m1,m2⟩:=nmS_in hp hk (j + 1) (by omega)
  have e1 : (lensL ch).length - 1 - j = i:=by omega
  have e2 : (lensL ch).length - 1 - i = j:=by omega
  have e0:=lensL_get (ch:=ch) (i:=i) (by omega)
  have e3 : nmS (lensL ch) k (j + 1) = Int.tdiv (nmS (lensL ch) k j) ((ch.getD i []).length : Int):=by
   show Int.tdiv _ ((lensL ch).getD ((lensL ch).length - 1 - j) 0) = _
   rw [e1,e0]
  have e4 : dgS (lensL ch) k i = Int.tmod (nmS (lensL ch) k j) ((ch.getD i []).length : Int):=by
   unfold dgS; rw [e2,e0]
  obtain ⟨d1,d2⟩:=dgS_in hp hk (i:=i) (by omega)
  rw [e0] at d2
  obtain ⟨d,ed,hd⟩:=nat_of (a:=dgS (lensL ch) k i) (n:=(ch.getD i []).length) ⟨d1,d2⟩
  have hne : ((ch.getD i []).length : Int)≠0:=by omega
  unfold flat
  rw [ed,Int.toNat_natCast]
  rw [ed] at e4
  simp (disch:=omega) only [leN,ltN,and_self,if_true,decide_true,cond_true,Int.toNat_natCast,if_pos hne,← e4]
  rw [← e3,wrap_id (by omega) (by omega),wrap_id (by omega) (by omega)]
 ·rfl
 ·show (if 0 = 0 then _ else none) = _
  rw [if_pos rfl]
  refine bind_of (v:=.brk 2 ((n : Int),btab ch n k)) (gatherM (fun x hx acc ha=>?_) fun acc=>?_) rfl
  ·have h1 : (x + 1) * n≤n * n:=Nat.mul_le_mul_right n hx
   have h2 : (x + 1) * n = x * n + n:=Nat.succ_mul x n
   have q1 : IntKind.wrap .i64 ((x : Int) * (n : Int)) = ((x * n : Nat) : Int):=by
    rw [← Int.natCast_mul,wrap_id (by omega) (by omega)]
   have q2 : IntKind.wrap .i64 (((x + 1 : Nat) : Int) * (n : Int)) = (((x + 1) * n : Nat) : Int):=by
    rw [← Int.natCast_mul,wrap_id (by omega) (by omega)]
   simp (disch:=omega) only [decide_true,ltN,cond_true,wN,q1,q2]
   rw [if_pos ⟨by omega,by omega,by rw [List.length_map,List.length_range]; omega⟩]
   have e5 : subX ((x * n : Nat) : Int).toNat ((((x + 1) * n : Nat) : Int).toNat - ((x * n : Nat) : Int).toNat) ((List.range ch.length).map (flat ch k)) (0 : Int) = (List.range n).map fun y=>flat ch k (x * n + y):=by
    unfold subX
    rw [Int.toNat_natCast,Int.toNat_natCast,h2,Nat.add_sub_cancel_left]
    apply List.map_congr_left
    intro y hy
    have hy:=List.mem_range.1 hy
    simp [show x * n + y < ch.length by omega]
   rw [e5,p119 (by simp; omega),Option.bind_some]
   rw [if_pos (by simp only [List.length_cons,List.length_nil]; omega)]
  ·simp only [lt_self,cond_false]
end
end Go.Ve.D


namespace Go.Ve.D
open Go Go.Ve
noncomputable section

structure BT (c : Cat) (ob b : List (List Int)) (n : Nat) : Prop where
 len : b.length = n
 row : ∀ x,x < n→(b.getD x []).length = n
 val : ∀ x y,x < n→y < n→∃ k : Nat,k < ar c∧cell b x y = (k : Int)∧fT c k = cell ob x y∧tT c k = cell ob y x∧0≤inv c k
def natC (c : Cat) (am b : List (List Int)) (f g : Nat) : Bool:=decide (T c (cell am f g).toNat (cell b (tT c f).toNat (tT c g).toNat).toNat = T c (cell b (fT c f).toNat (fT c g).toNat).toNat (cell am g f).toNat)
def natB (c : Cat) (am b : List (List Int)) : Bool:=(List.range (ar c)).all fun f=>(List.range (ar c)).all (natC c am b f)
def hexC (c : Cat) (ob am b : List (List Int)) (x y z : Nat) : Bool:=decide (cell b x (cell ob y z).toNat = T c (cell am (cell b x y).toNat (idA c z)).toNat (cell am (idA c y) (cell b x z).toNat).toNat) && decide (cell b (cell ob x y).toNat z = T c (cell am (idA c x) (cell b y z).toNat).toNat (cell am (cell b x z).toNat (idA c y)).toNat)
def hexB (c : Cat) (ob am b : List (List Int)) (n : Nat) : Bool:=(List.range n).all fun x=>(List.range n).all fun y=>(List.range n).all (hexC c ob am b x y)
theorem p67 {c : Cat} {u : Int} {ob am b : List (List Int)} {n : Nat} (h : MH c u ob am n) (hb : BT c ob b n) : G67 (mkM c u ob am,b) = some (natB c am b && hexB c ob am b n):=by
 obtain ⟨a1,a2,a3,a4,a5,a6,a7,a8⟩:=h.sh.hd
 have hm : ar c≤40:=a2
 have hac : ar c = c.2.1.length:=rfl
 have hn:=h.hn
 have lo:=h.ho.len
 have la:=h.ha.len
 have lb:=hb.len
 have ltc : ∀ x : Nat,x < n→((x : Int) < c.1) = True:=fun x hx=>eq_true (by omega)
 have ltn : decide ((n : Int) < c.1) = false:=decide_eq_false (by omega)
 unfold G67 mkM natB
 dsimp only
 refine chkT (n:=ar c) (p:=fun f=>(List.range (ar c)).all (natC c am b f)) (bad:=badB) (id:=0) (Post:=fun t (o : Option Bool)=>o = some (t && hexB c ob am b n)) (fun f hf=>?_) ?_ ?_ (fun r hr=>by rw [hr]; rfl)
 ·have hf2 : f < c.2.1.length:=hf
  simp only [ltN hf2,decide_true,cond_true]
  refine chkL (n:=ar c) (p:=natC c am b f) (bad:=badB) (id:=2) (s:=((f + 1 : Nat) : Int)) (fun g hg=>?_) ?_ ?_
  ·obtain ⟨x,hx,ex⟩:=h.ha.val f g hf hg
   obtain ⟨y,hy,ey⟩:=h.ha.val g f hg hf
   have ex' : (am.getD f []).getD g 0 = (x : Int):=ex
   have ey' : (am.getD g []).getD f 0 = (y : Int):=ey
   have w1:=h.ha.row f hf
   have w2:=h.ha.row g hg
   obtain ⟨f1,ef1,hf1⟩:=nat_of (a:=c.2.1.getD f 0) (n:=n) (by rw [← hn]; exact h.sh.fr f hf)
   obtain ⟨g1,eg1,hg1⟩:=nat_of (a:=c.2.1.getD g 0) (n:=n) (by rw [← hn]; exact h.sh.fr g hg)
   obtain ⟨f2,ef2,hf2⟩:=nat_of (a:=c.2.2.1.getD f 0) (n:=n) (by rw [← hn]; exact h.sh.to f hf)
   obtain ⟨g2,eg2,hg2⟩:=nat_of (a:=c.2.2.1.getD g 0) (n:=n) (by rw [← hn]; exact h.sh.to g hg)
   obtain ⟨p,hp,ep,_⟩:=hb.val f2 g2 hf2 hg2
   obtain ⟨q,hq,eq,_⟩:=hb.val f1 g1 hf1 hg1
   have ep' : (b.getD f2 []).getD g2 0 = (p : Int):=ep
   have eq' : (b.getD f1 []).getD g1 0 = (q : Int):=eq
   have w3:=hb.row f1 hf1
   have w4:=hb.row f2 hf2
   simp (disch:=omega) only [leN,ltN,and_self,if_true,decide_true,cond_true,Int.toNat_natCast,ex',ey',ef1,eg1,ef2,eg2,ep',eq',Prod.eta,T110 h.sh hx hp,T110 h.sh hq hy,Option.bind_some,wN]
   have e9 : natC c am b f g = decide (T c x p = T c q y):=by
    unfold natC fT tT
    exact decide_eq_decide.2 (by simp only [ef1,eg1,ef2,eg2,ex,ey,ep,eq,Int.toNat_natCast])
   rw [e9]
   cases decide (T c x p = T c q y) with
   | true=>exact inn1_t rfl
   | false=>exact inn1_bad rfl rfl
  ·have e : decide (ar c < c.2.1.length) = false:=decide_eq_false (Nat.lt_irrefl _)
   simp only [lt_cast,e,cond_false]
  ·show (if 2 = 2 then _ else none) = _
   rw [if_pos rfl,wN (by omega)]
 ·have e : decide (ar c < c.2.1.length) = false:=decide_eq_false (Nat.lt_irrefl _)
  simp only [lt_cast,e,cond_false]
 show (if 0 = 0 then _ else none) = _
 rw [if_pos rfl,Bool.true_and]
 unfold hexB
 refine chkT (n:=n) (p:=fun x=>(List.range n).all fun y=>(List.range n).all (hexC c ob am b x y)) (bad:=badB) (id:=4) (Post:=fun t (o : Option Bool)=>o = some t) (fun x hx=>?_) ?_ rfl (fun r hr=>by rw [hr])
 ·obtain ⟨ix,hix,eix,_,_⟩:=idX h.sh h.cat (x:=x) (by omega)
  have rx:=h.ho.row x hx
  have sx:=hb.row x hx
  simp only [ltc x hx,leN,and_self,if_true,decide_true,cond_true,Int.toNat_natCast]
  refine chkL (n:=n) (p:=fun y=>(List.range n).all (hexC c ob am b x y)) (bad:=badB) (id:=6) (s:=((x + 1 : Nat) : Int)) (fun y hy=>?_) ?_ ?_
  ·obtain ⟨iy,hiy,eiy,_,_⟩:=idX h.sh h.cat (x:=y) (by omega)
   have ry:=h.ho.row y hy
   have sy:=hb.row y hy
   simp only [ltc y hy,leN,and_self,if_true,decide_true,cond_true,Int.toNat_natCast]
   refine chkL (n:=n) (p:=hexC c ob am b x y) (bad:=lift badB) (id:=8) (s:=((y + 1 : Nat) : Int)) (fun z hz=>?_) ?_ ?_
   ·obtain ⟨iz,hiz,eiz,_,_⟩:=idX h.sh h.cat (x:=z) (by omega)
    obtain ⟨yz,hyz,eyz⟩:=h.ho.val y z hy hz
    obtain ⟨xy,hxy,exy⟩:=h.ho.val x y hx hy
    have eyz' : (ob.getD y []).getD z 0 = (yz : Int):=eyz
    have exy' : (ob.getD x []).getD y 0 = (xy : Int):=exy
    have sxy:=hb.row xy hxy
    obtain ⟨p,hp,ep,_⟩:=hb.val x y hx hy
    obtain ⟨q,hq,eq,_⟩:=hb.val x z hx hz
    obtain ⟨r,hr,er,_⟩:=hb.val y z hy hz
    have ep' : (b.getD x []).getD y 0 = (p : Int):=ep
    have eq' : (b.getD x []).getD z 0 = (q : Int):=eq
    have er' : (b.getD y []).getD z 0 = (r : Int):=er
    obtain ⟨s1,hs1,es1⟩:=h.ha.val p iz hp hiz
    obtain ⟨s2,hs2,es2⟩:=h.ha.val iy q hiy hq
    obtain ⟨s3,hs3,es3⟩:=h.ha.val ix r hix hr
    obtain ⟨s4,hs4,es4⟩:=h.ha.val q iy hq hiy
    have es1' : (am.getD p []).getD iz 0 = (s1 : Int):=es1
    have es2' : (am.getD iy []).getD q 0 = (s2 : Int):=es2
    have es3' : (am.getD ix []).getD r 0 = (s3 : Int):=es3
    have es4' : (am.getD q []).getD iy 0 = (s4 : Int):=es4
    have v1:=h.ha.row p hp
    have v2:=h.ha.row iy hiy
    have v3:=h.ha.row ix hix
    have v4:=h.ha.row q hq
    simp (disch:=omega) only [ltc z hz,leN,ltN,and_self,if_true,decide_true,cond_true,Int.toNat_natCast,eix,eiy,eiz,eyz',exy',ep',eq',er',es1',es2',es3',es4',Prod.eta,T110 h.sh hs1 hs2,T110 h.sh hs3 hs4,Option.bind_some,wN]
    have e9 : hexC c ob am b x y z = (decide (cell b x yz = T c s1 s2) && decide (cell b xy z = T c s3 s4)):=by
     unfold hexC idA
     exact congr (congrArg and (decide_eq_decide.2 (by simp only [eix,eiy,eiz,eyz,exy,ep,eq,er,es1,es2,es3,es4,Int.toNat_natCast]))) (decide_eq_decide.2 (by simp only [eix,eiy,eiz,eyz,exy,ep,eq,er,es1,es2,es3,es4,Int.toNat_natCast]))
    rw [e9]
    show inn1 _ _ (decide ((b.getD x []).getD yz 0 = T c s1 s2) && decide ((b.getD xy []).getD z 0 = T c s3 s4)) _
    cases decide ((b.getD x []).getD yz 0 = T c s1 s2) with
    | false=>exact inn1_f ⟨_,rfl,_,rfl,_,rfl,rfl⟩
    | true=>
    cases decide ((b.getD xy []).getD z 0 = T c s3 s4) with
    | false=>exact inn1_f ⟨_,rfl,_,rfl,_,rfl,rfl⟩
    | true=>exact inn1_t rfl
   ·simp only [ltn,cond_false]
   ·show (if 8 = 8 then _ else none) = _
    rw [if_pos rfl,wN (by omega)]
  ·simp only [ltn,cond_false]
  ·show (if 6 = 6 then _ else none) = _
   rw [if_pos rfl,wN (by omega)]
 ·simp only [ltn,cond_false]
theorem p121 {c : Cat} {u : Int} {ob am b : List (List Int)} {n : Nat} (h : MH c u ob am n) (hb : BT c ob b n) : G121 (mkM c u ob am,b) = some (natB c am b):=by
 obtain ⟨a1,a2,a3,a4,a5,a6,a7,a8⟩:=h.sh.hd
 have hm : ar c≤40:=a2
 have hac : ar c = c.2.1.length:=rfl
 have hn:=h.hn
 have lo:=h.ho.len
 have la:=h.ha.len
 have lb:=hb.len
 unfold G121 mkM natB
 dsimp only
 refine chkT (n:=ar c) (p:=fun f=>(List.range (ar c)).all (natC c am b f)) (bad:=badB) (id:=0) (Post:=fun t (o : Option Bool)=>o = some t) (fun f hf=>?_) ?_ rfl (fun r hr=>by rw [hr])
 ·have hf2 : f < c.2.1.length:=hf
  simp only [ltN hf2,decide_true,cond_true]
  refine chkL (n:=ar c) (p:=natC c am b f) (bad:=badB) (id:=2) (s:=((f + 1 : Nat) : Int)) (fun g hg=>?_) ?_ ?_
  ·obtain ⟨x,hx,ex⟩:=h.ha.val f g hf hg
   obtain ⟨y,hy,ey⟩:=h.ha.val g f hg hf
   have ex' : (am.getD f []).getD g 0 = (x : Int):=ex
   have ey' : (am.getD g []).getD f 0 = (y : Int):=ey
   have w1:=h.ha.row f hf
   have w2:=h.ha.row g hg
   obtain ⟨f1,ef1,hf1⟩:=nat_of (a:=c.2.1.getD f 0) (n:=n) (by rw [← hn]; exact h.sh.fr f hf)
   obtain ⟨g1,eg1,hg1⟩:=nat_of (a:=c.2.1.getD g 0) (n:=n) (by rw [← hn]; exact h.sh.fr g hg)
   obtain ⟨f2,ef2,hf2⟩:=nat_of (a:=c.2.2.1.getD f 0) (n:=n) (by rw [← hn]; exact h.sh.to f hf)
   obtain ⟨g2,eg2,hg2⟩:=nat_of (a:=c.2.2.1.getD g 0) (n:=n) (by rw [← hn]; exact h.sh.to g hg)
   obtain ⟨p,hp,ep,_⟩:=hb.val f2 g2 hf2 hg2
   obtain ⟨q,hq,eq,_⟩:=hb.val f1 g1 hf1 hg1
   have ep' : (b.getD f2 []).getD g2 0 = (p : Int):=ep
   have eq' : (b.getD f1 []).getD g1 0 = (q : Int):=eq
   have w3:=hb.row f1 hf1
   have w4:=hb.row f2 hf2
   simp (disch:=omega) only [leN,ltN,and_self,if_true,decide_true,cond_true,Int.toNat_natCast,ex',ey',ef1,eg1,ef2,eg2,ep',eq',Prod.eta,T118 h.sh hx hp,T118 h.sh hq hy,Option.bind_some,wN]
   have e9 : natC c am b f g = decide (T c x p = T c q y):=by
    unfold natC fT tT
    exact decide_eq_decide.2 (by simp only [ef1,eg1,ef2,eg2,ex,ey,ep,eq,Int.toNat_natCast])
   rw [e9]
   cases decide (T c x p = T c q y) with
   | true=>exact inn1_t rfl
   | false=>exact inn1_bad rfl rfl
  ·have e : decide (ar c < c.2.1.length) = false:=decide_eq_false (Nat.lt_irrefl _)
   simp only [lt_cast,e,cond_false]
  ·show (if 2 = 2 then _ else none) = _
   rw [if_pos rfl,wN (by omega)]
 ·have e : decide (ar c < c.2.1.length) = false:=decide_eq_false (Nat.lt_irrefl _)
  simp only [lt_cast,e,cond_false]
theorem p122 {c : Cat} {u : Int} {ob am b : List (List Int)} {n : Nat} (h : MH c u ob am n) (hb : BT c ob b n) : G122 (mkM c u ob am,b) = some (hexB c ob am b n):=by
 obtain ⟨a1,a2,a3,a4,a5,a6,a7,a8⟩:=h.sh.hd
 have hm : ar c≤40:=a2
 have hac : ar c = c.2.1.length:=rfl
 have hn:=h.hn
 have lo:=h.ho.len
 have la:=h.ha.len
 have lb:=hb.len
 have ltc : ∀ x : Nat,x < n→((x : Int) < ((c.2.2.2.1.length : Nat) : Int)) = True:=fun x hx=>eq_true (by omega)
 have ltn : decide ((n : Int) < ((c.2.2.2.1.length : Nat) : Int)) = false:=decide_eq_false (by omega)
 unfold G122 mkM hexB
 dsimp only
 refine chkT (n:=n) (p:=fun x=>(List.range n).all fun y=>(List.range n).all (hexC c ob am b x y)) (bad:=badB) (id:=0) (Post:=fun t (o : Option Bool)=>o = some t) (fun x hx=>?_) ?_ rfl (fun r hr=>by rw [hr])
 ·obtain ⟨ix,hix,eix,_,_⟩:=idX h.sh h.cat (x:=x) (by omega)
  have rx:=h.ho.row x hx
  have sx:=hb.row x hx
  simp only [ltc x hx,leN,and_self,if_true,decide_true,cond_true,Int.toNat_natCast]
  refine chkL (n:=n) (p:=fun y=>(List.range n).all (hexC c ob am b x y)) (bad:=badB) (id:=2) (s:=((x + 1 : Nat) : Int)) (fun y hy=>?_) ?_ ?_
  ·obtain ⟨iy,hiy,eiy,_,_⟩:=idX h.sh h.cat (x:=y) (by omega)
   have ry:=h.ho.row y hy
   have sy:=hb.row y hy
   simp only [ltc y hy,leN,and_self,if_true,decide_true,cond_true,Int.toNat_natCast]
   refine chkL (n:=n) (p:=hexC c ob am b x y) (bad:=lift badB) (id:=4) (s:=((y + 1 : Nat) : Int)) (fun z hz=>?_) ?_ ?_
   ·obtain ⟨iz,hiz,eiz,_,_⟩:=idX h.sh h.cat (x:=z) (by omega)
    obtain ⟨yz,hyz,eyz⟩:=h.ho.val y z hy hz
    obtain ⟨xy,hxy,exy⟩:=h.ho.val x y hx hy
    have eyz' : (ob.getD y []).getD z 0 = (yz : Int):=eyz
    have exy' : (ob.getD x []).getD y 0 = (xy : Int):=exy
    have sxy:=hb.row xy hxy
    obtain ⟨p,hp,ep,_⟩:=hb.val x y hx hy
    obtain ⟨q,hq,eq,_⟩:=hb.val x z hx hz
    obtain ⟨r,hr,er,_⟩:=hb.val y z hy hz
    have ep' : (b.getD x []).getD y 0 = (p : Int):=ep
    have eq' : (b.getD x []).getD z 0 = (q : Int):=eq
    have er' : (b.getD y []).getD z 0 = (r : Int):=er
    obtain ⟨s1,hs1,es1⟩:=h.ha.val p iz hp hiz
    obtain ⟨s2,hs2,es2⟩:=h.ha.val iy q hiy hq
    obtain ⟨s3,hs3,es3⟩:=h.ha.val ix r hix hr
    obtain ⟨s4,hs4,es4⟩:=h.ha.val q iy hq hiy
    have es1' : (am.getD p []).getD iz 0 = (s1 : Int):=es1
    have es2' : (am.getD iy []).getD q 0 = (s2 : Int):=es2
    have es3' : (am.getD ix []).getD r 0 = (s3 : Int):=es3
    have es4' : (am.getD q []).getD iy 0 = (s4 : Int):=es4
    have v1:=h.ha.row p hp
    have v2:=h.ha.row iy hiy
    have v3:=h.ha.row ix hix
    have v4:=h.ha.row q hq
    simp (disch:=omega) only [ltc z hz,leN,ltN,and_self,if_true,decide_true,cond_true,Int.toNat_natCast,eix,eiy,eiz,eyz',exy',ep',eq',er',es1',es2',es3',es4',Prod.eta,T118 h.sh hs1 hs2,T118 h.sh hs3 hs4,Option.bind_some,wN]
    have e9 : hexC c ob am b x y z = (decide (cell b x yz = T c s1 s2) && decide (cell b xy z = T c s3 s4)):=by
     unfold hexC idA
     exact congr (congrArg and (decide_eq_decide.2 (by simp only [eix,eiy,eiz,eyz,exy,ep,eq,er,es1,es2,es3,es4,Int.toNat_natCast]))) (decide_eq_decide.2 (by simp only [eix,eiy,eiz,eyz,exy,ep,eq,er,es1,es2,es3,es4,Int.toNat_natCast]))
    rw [e9]
    show inn1 _ _ (decide ((b.getD x []).getD yz 0 = T c s1 s2) && decide ((b.getD xy []).getD z 0 = T c s3 s4)) _
    cases decide ((b.getD x []).getD yz 0 = T c s1 s2) with
    | false=>exact inn1_f ⟨_,rfl,_,rfl,_,rfl,rfl⟩
    | true=>
    cases decide ((b.getD xy []).getD z 0 = T c s3 s4) with
    | false=>exact inn1_f ⟨_,rfl,_,rfl,_,rfl,rfl⟩
    | true=>exact inn1_t rfl
   ·simp only [ltn,cond_false]
   ·show (if 4 = 4 then _ else none) = _
    rw [if_pos rfl,wN (by omega)]
  ·simp only [ltn,cond_false]
  ·show (if 2 = 2 then _ else none) = _
   rw [if_pos rfl,wN (by omega)]
 ·simp only [ltn,cond_false]
end
end Go.Ve.D


namespace Go.Ve.D
open Go Go.Ve
noncomputable section

theorem p72 {c : Cat} {u : Int} {ob am b : List (List Int)} {n : Nat} (h : MH c u ob am n) (hb : BT c ob b n) : G72 (mkM c u ob am,b) = some (natB c am b && hexB c ob am b n):=by
 obtain ⟨a1,a2,a3,a4,a5,a6,a7,a8⟩:=h.sh.hd
 have hm : ar c≤40:=a2
 have hac : ar c = c.2.1.length:=rfl
 have hn:=h.hn
 have lo:=h.ho.len
 have lb:=hb.len
 have e0 : decide (((b.length : Nat) : Int) = c.1) = true:=decide_eq_true (by omega)
 have e1:=p121 h hb
 have e2:=p122 h hb
 unfold mkM at e1 e2
 unfold G72 mkM
 dsimp only
 simp only [e0,Bool.not_true,cond_false]
 refine bind_of (v:=.brk 0 (b.length : Int)) (tloop_iter (st:=fun x : Nat=>(x : Int)) (n:=b.length) (fun x hx=>?_) ?_ (fun y=>by simp)) ?_
 ·have hx' : x < n:=by omega
  have sx:=hb.row x hx'
  have rx:=h.ho.row x hx'
  have e3 : decide ((((b.getD x []).length : Nat) : Int) = c.1) = true:=decide_eq_true (by omega)
  have e4 : wi ((c.2.1.length : Nat) : Int) (b.getD x []) = true:=by
   unfold wi
   rw [← all_idx (0 : Int) (inn ((c.2.1.length : Nat) : Int)) (b.getD x [])]
   refine List.all_eq_true.2 fun y hy=>?_
   have hy:=List.mem_range.1 hy
   obtain ⟨k,hk,ek,_⟩:=hb.val x y hx' (by omega)
   have ek' : (b.getD x []).getD y 0 = (k : Int):=ek
   rw [ek']
   exact inn_iff.2 (by omega)
  have e5:=p120 (n:=((c.2.1.length : Nat) : Int)) (x:=b.getD x []) (by omega) (by omega)
  rw [e4] at e5
  simp only [ltN hx,leN,and_self,if_true,decide_true,cond_true,Int.toNat_natCast,e3,e5,p113,Option.bind_some,Bool.not_true,cond_false]
  refine bind_of (v:=.brk 2 ((b.getD x []).length : Int)) (tloop_iter (st:=fun y : Nat=>(y : Int)) (n:=(b.getD x []).length) (fun y hy=>?_) ?_ (fun y=>by simp)) ?_
  ·have hy' : y < n:=by omega
   have ry:=h.ho.row y hy'
   obtain ⟨k,hk,ek,ef,et,ei⟩:=hb.val x y hx' hy'
   have ek' : (b.getD x []).getD y 0 = (k : Int):=ek
   have e114:=p114 (c:=c) (a:=(k : Int)) (by omega) (by omega)
   rw [Int.toNat_natCast] at e114
   have ef' : c.2.1.getD k 0 = (ob.getD x []).getD y 0:=ef
   have et' : c.2.2.1.getD k 0 = (ob.getD y []).getD x 0:=et
   have e6 : decide (inv c k < 0) = false:=decide_eq_false (by omega)
   simp (disch:=omega) only [leN,ltN,and_self,if_true,decide_true,cond_true,Int.toNat_natCast,ek',e114,ef',et',Prod.eta,p70 h.sh hk,e6,Option.bind_some,Bool.not_true,Bool.and_true,cond_false,wN]
  ·simp only [lt_self,cond_false]
  ·show (if 2 = 2 then _ else none) = _
   rw [if_pos rfl,wN (by omega)]
 ·simp only [lt_self,cond_false]
 ·show (if 0 = 0 then _ else none) = _
  rw [if_pos rfl,e1]
  cases natB c am b with
  | false=>rfl
  | true=>simp only [Option.bind_some,cond_true,e2,Bool.true_and]

def stC (a : Int) (s : List Int) : Int:=minI (a * (s.length : Int)) 201
def cntL (l : List (List Int)) : Int:=l.foldl stC 1
theorem cntL_snoc {l : List (List Int)} {s : List Int} : cntL (l ++ [s]) = stC (cntL l) s:=by
 unfold cntL
 rw [List.foldl_append]; rfl
theorem cntL_in (l : List (List Int)) : 0≤cntL l∧cntL l≤201:=by
 unfold cntL
 have : ∀ (l : List (List Int)) (a : Int),0≤a→a≤201→0≤l.foldl stC a∧l.foldl stC a≤201:=by
  intro l
  induction l with
  | nil=>intro a h1 h2; exact ⟨h1,h2⟩
  | cons s l ih=>
   intro a h1 h2
   refine ih _ ?_ ?_
   ·have : 0≤a * (s.length : Int):=Int.mul_nonneg h1 (by omega)
    unfold stC minI
    split <;> omega
   ·unfold stC minI
    split <;> omega
 exact this l 1 (by omega) (by omega)
theorem wrap_st {l : List (List Int)} {s : List Int} (hs : s.length≤40) : IntKind.wrap .i64 (cntL l * (s.length : Int)) = cntL l * (s.length : Int):=by
 obtain ⟨h1,h2⟩:=cntL_in l
 have g1 : 0≤cntL l * (s.length : Int):=Int.mul_nonneg h1 (by omega)
 have g2 : cntL l * (s.length : Int)≤201 * 40:=Int.mul_le_mul h2 (by omega) (by omega) (by omega)
 exact wrap_id (by omega) (by omega)
def emp (ch : List (List Int)) (i : Nat) : Bool:=decide (((ch.getD i []).length : Int) = 0)
def empB (ch : List (List Int)) : Bool:=(List.range ch.length).any (emp ch)
theorem full_of {ch : List (List Int)} (h : empB ch = false) : full ch:=by
 intro i hi
 unfold empB at h
 rw [List.any_eq_false] at h
 have:=h i (List.mem_range.2 hi)
 unfold emp at this
 simp only [decide_eq_true_eq] at this
 omega
def goodB (c : Cat) (ob am : List (List Int)) (n : Nat) (ch : List (List Int)) (k : Nat) : Bool:=natB c am (btab ch n k) && hexB c ob am (btab ch n k) n
def brs (c : Cat) (ob am : List (List Int)) (n N : Nat) (ch : List (List Int)) : List (List (List Int)):=((List.range N).filter (goodB c ob am n ch)).map fun (k : Nat)=>btab ch n (k : Int)
def resB (c : Cat) (u : Int) (ob am : List (List Int)) : List (List (List Int)) × Int:=
 bif !isMon c u ob am then ([],1) else bif empB (swaps c ob c.1.toNat) then ([],0) else bif decide (200 < cntL (swaps c ob c.1.toNat)) then ([],3) else (brs c ob am c.1.toNat (cntL (swaps c ob c.1.toNat)).toNat (swaps c ob c.1.toNat),0)

theorem bt_of {c : Cat} {ob : List (List Int)} {n : Nat} (hf : full (swaps c ob n)) {k : Int} (hk : 0≤k∧k≤200) : BT c ob (btab (swaps c ob n) n k) n:=by
 refine ⟨by simp [btab],fun x hx=>?_,fun x y hx hy=>?_⟩
 ·simp [btab,hx]
 ·have e : cell (btab (swaps c ob n) n k) x y = flat (swaps c ob n) k (x * n + y):=by
   unfold cell btab
   simp [hx,hy]
  have hi:=ix_lt hx hy
  have hl:=swaps_len (c:=c) (ob:=ob) (n:=n)
  obtain ⟨d1,d2⟩:=dgS_in (full_pos hf) hk (i:=x * n + y) (by rw [lensL_len]; omega)
  rw [lensL_get (by omega),swaps_get hx hy] at d2
  obtain ⟨d,ed,hd⟩:=nat_of (a:=dgS (lensL (swaps c ob n)) k (x * n + y)) (n:=(swp c ob x y).length) ⟨d1,d2⟩
  obtain ⟨v,hv,f1,f2,f3,ev⟩:=swp_get hd
  refine ⟨v,hv,?_,f1,f2,f3⟩
  rw [e]
  unfold flat
  rw [swaps_get hx hy,ed,Int.toNat_natCast,ev]

theorem brs_len {c : Cat} {ob am : List (List Int)} {n N : Nat} {ch : List (List Int)} : (brs c ob am n N ch).length≤N:=by
 unfold brs
 rw [List.length_map]
 have:=List.length_filter_le (goodB c ob am n ch) (List.range N)
 rwa [List.length_range] at this

theorem p26 {c : Cat} {u : Int} {ob am : List (List Int)} (ok : okM8 c ob am) : G26 (mkM c u ob am) = some (resB c u ob am):=by
 have e68:=p68 (u:=u) ok
 unfold mkM at e68
 unfold G26 mkM resB
 dsimp only
 rw [e68]
 cases hmon : isMon c u ob am with
 | false=>rfl
 | true=>
 have hh : headM c u ob am = true:=by
  unfold isMon at hmon
  rw [Bool.and_eq_true] at hmon
  exact hmon.1
 obtain ⟨n,h⟩:=mh_of hh
 obtain ⟨a1,a2,a3,a4,a5,a6,a7,a8⟩:=h.sh.hd
 have hm : ar c≤40:=a2
 have hac : ar c = c.2.1.length:=rfl
 have hn:=h.hn
 have hn8 : n≤8:=by omega
 have h64 : n * n≤64:=Nat.mul_le_mul hn8 hn8
 have lo:=h.ho.len
 have ent : c.1.toNat = n:=by omega
 have ltc : ∀ x : Nat,x < n→((x : Int) < c.1) = True:=fun x hx=>eq_true (by omega)
 have ltn : decide ((n : Int) < c.1) = false:=decide_eq_false (by omega)
 have hch:=swaps_len (c:=c) (ob:=ob) (n:=n)
 rw [ent]
 simp only [Bool.not_true,cond_false,Option.bind_some]
 refine bind_of (v:=.brk 0 (cntL (swaps c ob n),((n : Int),swaps c ob n))) ?_ ?_
 ·have:=accC (R:=List (List (List Int)) × Int) (φ:=cntL) (K:=8) (L:=0) (g:=swR c ob n) (n:=n) (id:=0) (F:=?_) (fun i hi=>by rw [swR_len]; exact hn8) (fun x hx acc ha=>?_) (fun acc=>?_) [] (Nat.zero_le _)
  ·rw [List.nil_append] at this
   exact this
  ·have hacc : acc.length≤64:=by omega
   have rx:=h.ho.row x hx
   simp only [ltc x hx,decide_true,cond_true]
   refine bind_of (v:=.brk 2 (cntL (acc ++ swR c ob n x),((n : Int),acc ++ swR c ob n x))) (accC (φ:=cntL) (K:=1) (L:=acc.length) (g:=fun y=>[swp c ob x y]) (n:=n) (fun b hb=>Nat.le_refl _) (fun y hy acc2 ha2=>?_) (fun acc2=>?_) acc (Nat.le_refl _)) ?_
   ·have ry:=h.ho.row y hy
    have e : G69 (c,((ob.getD x []).getD y 0,(ob.getD y []).getD x 0)) = some (swG c ob x y):=p69 (by omega) a3 _ _
    have hl:=swG_len (c:=c) (ob:=ob) (x:=x) (y:=y)
    have hl2:=swp_len (c:=c) (ob:=ob) (x:=x) (y:=y)
    simp (disch:=omega) only [ltc y hy,leN,ltN,and_self,if_true,decide_true,cond_true,Int.toNat_natCast,Prod.eta,e,Option.bind_some]
    refine bind_of (v:=.brk 4 (((swG c ob x y).length : Int),swp c ob x y)) (gather (fun i hi acc3 ha3=>?_) fun acc3=>?_) ?_
    ·obtain ⟨k,hk,_,_,ek⟩:=swG_get hi
     simp (disch:=omega) only [leN,ltN,and_self,if_true,decide_true,cond_true,Int.toNat_natCast,ek,p70 h.sh hk,Option.bind_some,wN,List.length_cons,List.length_nil]
     rw [if_pos (show acc3.length + (0 + 1)≤17592186044416 by omega)]
     cases decide (0≤inv c k) <;> rfl
    ·simp only [lt_self,cond_false]
    ·show (if 4 = 4 then _ else none) = _
     simp (disch:=omega) only [if_true,wN,List.length_cons,List.length_nil,List.length_replicate,wrap_st (show (swp c ob x y).length≤40 by omega)]
     rw [if_pos (show acc2.length + (0 + 1)≤5864062014805 by omega),cntL_snoc]
     rfl
   ·simp only [ltn,cond_false]
   ·show (if 2 = 2 then _ else none) = _
    rw [if_pos rfl,wN (by omega)]
  ·simp only [ltn,cond_false]
 ·show (if 0 = 0 then _ else none) = _
  rw [if_pos rfl]
  obtain ⟨c1,c2⟩:=cntL_in (swaps c ob n)
  refine bind_of (v:=.brk 6 (bif empB (swaps c ob n) then 0 else cntL (swaps c ob n),((swaps c ob n).length : Int))) (tloop_iter (st:=fun i : Nat=>(bif (List.range i).any (emp (swaps c ob n)) then 0 else cntL (swaps c ob n),(i : Int))) (n:=(swaps c ob n).length) (fun i hi=>?_) ?_ (fun y=>by simp)) ?_
  ·simp (disch:=omega) only [leN,ltN,and_self,if_true,decide_true,cond_true,Int.toNat_natCast,wN]
   rw [List.range_succ,List.any_append]
   show (bif emp (swaps c ob n) i then _ else _) = some (LO.next (bif _ || (emp (swaps c ob n) i || false) then _ else _,_))
   rw [Bool.or_false]
   cases emp (swaps c ob n) i with
   | true=>rw [Bool.or_true]; rfl
   | false=>rw [Bool.or_false]; rfl
  ·simp only [lt_self,cond_false]; rfl
  ·show (if 6 = 6 then _ else none) = _
   rw [if_pos rfl]
   cases hem : empB (swaps c ob n) with
   | true=>
    simp only [cond_true]
    rw [tloop_eq]
    rfl
   | false=>
    simp only [cond_false]
    have hf:=full_of hem
    cases h200 : decide (200 < cntL (swaps c ob n)) with
    | true=>rfl
    | false=>
    have h200:=of_decide_eq_false h200
    obtain ⟨N,eN,hN⟩:=nat_of (a:=cntL (swaps c ob n)) (n:=201) ⟨c1,by omega⟩
    simp only [cond_false]
    rw [eN,Int.toNat_natCast]
    refine bind_of (v:=.brk 8 ((N : Int),brs c ob am n N (swaps c ob n))) (gather (fun k hk acc ha=>?_) fun acc=>?_) rfl
    ·have e71:=p71 (u:=u) (am:=am) (ob:=ob) hn hn8 hch hf (k:=(k : Int)) ⟨by omega,by omega⟩
     have e72:=p72 h (bt_of (k:=(k : Int)) hf ⟨by omega,by omega⟩)
     unfold mkM at e71 e72
     simp only [ltN hk,decide_true,cond_true,e71,e72,Option.bind_some,wN (show k < 9223372036854775807 by omega),List.length_cons,List.length_nil,if_true]
     rw [if_pos (show acc.length + (0 + 1)≤5864062014805 by omega)]
     show _ = some (LO.next (_,bif (natB c am (btab (swaps c ob n) n k) && hexB c ob am (btab (swaps c ob n) n k) n) then _ else _))
     cases natB c am (btab (swaps c ob n) n k) && hexB c ob am (btab (swaps c ob n) n k) n <;> rfl
    ·simp only [lt_self,cond_false]
end
end Go.Ve.D


namespace Go.Ve.D
open Go Go.Ve
noncomputable section

def stI (a s : Int) : Int:=minI (a * s) 201
def cntS (l : List Int) : Int:=l.foldl stI 1
theorem cntS_lens {ch : List (List Int)} : cntS (lensL ch) = cntL ch:=by
 unfold cntS cntL lensL
 rw [List.foldl_map]; rfl
theorem swaps_row {c : Cat} {ob : List (List Int)} {n i : Nat} (hi : i < (swaps c ob n).length) : ((swaps c ob n).getD i []).length≤ar c:=by
 have hm:=getD_mem' ([] : List Int) hi
 obtain ⟨x,_,h2⟩:=List.mem_flatMap.1 hm
 unfold swR at h2
 rw [flat1] at h2
 obtain ⟨y,_,h3⟩:=List.mem_map.1 h2
 rw [← h3]
 exact swp_len
theorem lens_range {ch : List (List Int)} : (List.range ch.length).map (fun i=>((ch.getD i []).length : Int)) = lensL ch:=by
 apply List.ext_getElem (by simp [lensL])
 intro i h1 h2
 have : i < ch.length:=by simpa using h1
 simp [lensL,this]
theorem cntS_take {ch : List (List Int)} {i : Nat} : cntS (((List.range i).map fun j=>((ch.getD j []).length : Int))) = cntL ((List.range i).map fun j=>ch.getD j []):=by
 unfold cntS cntL
 rw [List.foldl_map,List.foldl_map]; rfl

theorem p24 {c : Cat} {u : Int} {ob am : List (List Int)} (ok : okM8 c ob am) : G24 (mkM c u ob am) = some (resB c u ob am):=by
 have e64:=p64 (u:=u) ok
 unfold mkM at e64
 unfold G24 mkM resB
 dsimp only
 rw [e64]
 cases hmon : isMon c u ob am with
 | false=>rfl
 | true=>
 have hh : headM c u ob am = true:=by
  unfold isMon at hmon
  rw [Bool.and_eq_true] at hmon
  exact hmon.1
 obtain ⟨n,h⟩:=mh_of hh
 obtain ⟨a1,a2,a3,a4,a5,a6,a7,a8⟩:=h.sh.hd
 have hm : ar c≤40:=a2
 have hn:=h.hn
 have hn8 : n≤8:=by omega
 have h64 : n * n≤64:=Nat.mul_le_mul hn8 hn8
 have ent : c.1.toNat = n:=by omega
 have ltc : ∀ x : Nat,x < n→((x : Int) < c.1) = True:=fun x hx=>eq_true (by omega)
 have ltn : decide ((n : Int) < c.1) = false:=decide_eq_false (by omega)
 have hch:=swaps_len (c:=c) (ob:=ob) (n:=n)
 have e65:=p65 h
 unfold mkM at e65
 rw [ent]
 simp only [Bool.not_true,cond_false,Option.bind_some,e65]
 refine srch (st:=fun i : Nat=>(i : Int)) (n:=(swaps c ob n).length) (q:=emp (swaps c ob n)) (Q:=fun r : List (List (List Int)) × Int=>r = ([],0)) (o:=.brk 0 ((swaps c ob n).length : Int)) (Post:=fun t (o : Option (List (List (List Int)) × Int))=>empB (swaps c ob n) = t→o = some (bif t then ([],0) else bif decide (200 < cntL (swaps c ob n)) then ([],3) else (brs c ob am n (cntL (swaps c ob n)).toNat (swaps c ob n),0))) (fun i hi=>?_) ?_ (fun y=>by simp) (fun hem=>?_) (fun r hr _=>by rw [hr]; rfl) rfl
 ·simp (disch:=omega) only [leN,ltN,and_self,if_true,decide_true,cond_true,Int.toNat_natCast,wN]
  show (emp (swaps c ob n) i = false→(bif emp (swaps c ob n) i then _ else _) = _)∧(_→∃ r,(bif emp (swaps c ob n) i then _ else _) = _∧_)
  cases emp (swaps c ob n) i with
  | true=>exact ⟨(fun h=>by cases h),fun _=>⟨_,rfl,rfl⟩⟩
  | false=>exact ⟨fun _=>rfl,(fun h=>by cases h)⟩
 ·simp only [lt_self,cond_false]
 show (if 0 = 0 then _ else none) = _
 rw [if_pos rfl,cond_false]
 have hf:=full_of hem
 obtain ⟨c1,c2⟩:=cntL_in (swaps c ob n)
 refine bind_of (v:=.brk 2 (cntL (swaps c ob n),(((swaps c ob n).length : Int),lensL (swaps c ob n)))) ?_ ?_
 ·have:=tloop_iter (R:=List (List (List Int)) × Int) (f:=?_) (st:=fun i : Nat=>(cntS ((List.range i).map fun j=>(((swaps c ob n).getD j []).length : Int)),((i : Int),(List.range i).map fun j=>(((swaps c ob n).getD j []).length : Int)))) (n:=(swaps c ob n).length) (o:=.brk 2 (cntL (swaps c ob n),(((swaps c ob n).length : Int),lensL (swaps c ob n)))) (fun i hi=>?_) ?_ (fun y=>by simp)
  ·exact this
  ·have hr:=swaps_row hi
   have hb : (((List.range i).map fun j=>(((swaps c ob n).getD j []).length : Int))).length = i:=by simp
   simp (disch:=omega) only [leN,ltN,and_self,if_true,decide_true,cond_true,Int.toNat_natCast,wN,List.length_cons,List.length_nil,hb]
   rw [if_pos (show i + (0 + 1)≤17592186044416 by omega)]
   have e1 : (List.range (i + 1)).map (fun j=>(((swaps c ob n).getD j []).length : Int)) = ((List.range i).map fun j=>(((swaps c ob n).getD j []).length : Int)) ++ [(((swaps c ob n).getD i []).length : Int)]:=by
    rw [List.range_succ,List.map_append]; rfl
   have e2 : cntS (((List.range i).map fun j=>(((swaps c ob n).getD j []).length : Int)) ++ [(((swaps c ob n).getD i []).length : Int)]) = minI (cntS ((List.range i).map fun j=>(((swaps c ob n).getD j []).length : Int)) * (((swaps c ob n).getD i []).length : Int)) 201:=by
    unfold cntS
    rw [List.foldl_append]; rfl
   rw [e1,e2,cntS_take,wrap_st (show ((swaps c ob n).getD i []).length≤40 by omega)]
  ·simp only [lt_self,cond_false]
   rw [lens_range,cntS_lens]
 ·show (if 2 = 2 then _ else none) = _
  rw [if_pos rfl]
  dsimp only
  cases h200 : decide (200 < cntL (swaps c ob n)) with
  | true=>rfl
  | false=>
  have h200:=of_decide_eq_false h200
  obtain ⟨N,eN,hN⟩:=nat_of (a:=cntL (swaps c ob n)) (n:=201) ⟨c1,by omega⟩
  simp only [cond_false]
  rw [eN,Int.toNat_natCast]
  have hp:=full_pos hf
  have hl:=lensL_len (ch:=swaps c ob n)
  refine bind_of (v:=.brk 4 ((N : Int),brs c ob am n N (swaps c ob n))) (gather (fun k hk acc ha=>?_) fun acc=>?_) rfl
  ·have hk2 : 0≤(k : Int)∧(k : Int)≤200:=⟨by omega,by omega⟩
   have e66:=p66 hp (by omega) hk2
   have e67:=p67 h (bt_of hf hk2)
   unfold mkM at e67
   simp only [ltN hk,decide_true,cond_true,e66,Option.bind_some,wN (show k < 9223372036854775807 by omega),List.length_cons,List.length_nil,if_true]
   refine bind_of (v:=.brk 6 ((n : Int),btab (swaps c ob n) n k)) (gatherM (fun x hx acc2 ha2=>?_) fun acc2=>?_) ?_
   ·simp only [ltc x hx,decide_true,cond_true]
    refine bind_of (v:=.brk 8 ((n : Int),(List.range n).map fun y=>flat (swaps c ob n) k (x * n + y))) (gatherM (fun y hy acc3 ha3=>?_) fun acc3=>?_) ?_
    ·have hxy:=ix_lt hx hy
     have q1 : IntKind.wrap .i64 (IntKind.wrap .i64 ((x : Int) * c.1) + (y : Int)) = ((x * n + y : Nat) : Int):=by
      have q0 : IntKind.wrap .i64 ((x : Int) * c.1) = ((x * n : Nat) : Int):=by
       rw [hn,← Int.natCast_mul,wrap_id (by omega) (by omega)]
      rw [q0,← Int.natCast_add,wrap_id (by omega) (by omega)]
     have e3 : ((List.range (lensL (swaps c ob n)).length).map (dgS (lensL (swaps c ob n)) (k : Int))).getD (x * n + y) 0 = dgS (lensL (swaps c ob n)) k (x * n + y):=by
      simp [show x * n + y < (lensL (swaps c ob n)).length by omega]
     have e4 : ((List.range (lensL (swaps c ob n)).length).map (dgS (lensL (swaps c ob n)) (k : Int))).length = (lensL (swaps c ob n)).length:=by simp
     obtain ⟨d1,d2⟩:=dgS_in hp hk2 (i:=x * n + y) (by omega)
     rw [lensL_get (by omega)] at d2
     simp (disch:=omega) only [ltc y hy,q1,leN,ltN,e3,e4,d1,d2,and_self,if_true,decide_true,cond_true,Int.toNat_natCast,wN,List.length_cons,List.length_nil]
     rw [if_pos (show acc3.length + (0 + 1)≤17592186044416 by omega)]
     rfl
    ·simp only [ltn,cond_false]
    ·show (if 8 = 8 then _ else none) = _
     simp (disch:=omega) only [if_true,wN,List.length_cons,List.length_nil]
     rw [if_pos (show acc2.length + (0 + 1)≤5864062014805 by omega)]
   ·simp only [ltn,cond_false]
   ·show (if 6 = 6 then _ else none) = _
    rw [if_pos rfl]
    simp only [e67,Option.bind_some]
    rw [if_pos (show acc.length + (0 + 1)≤5864062014805 by omega)]
    show _ = some (LO.next (_,bif (natB c am (btab (swaps c ob n) n k) && hexB c ob am (btab (swaps c ob n) n k) n) then _ else _))
    cases natB c am (btab (swaps c ob n) n k) && hexB c ob am (btab (swaps c ob n) n k) n <;> rfl
  ·simp only [lt_self,cond_false]
end
end Go.Ve.D


namespace Go.Ve.D
open Go Go.Ve
noncomputable section

theorem p40 {x : List (List Int)} {k : Int} (h0 : 0≤k) (h1 : k≤1125899906842624) (h : x.length≤1048576) (hx : ∀ y ∈ x,y.length≤1048576) : G40 (mks x k,k) = some (k + (tot x x.length : Int)):=by
 unfold G40
 have hst : ((k,(0 : Int)) : Int × Int) = (fun i : Nat=>(k + (tot x i : Int),(i : Int))) 0:=by simp [tot]
 simp only [hst]
 refine bind_of (v:=.brk 0 (k + (tot x x.length : Int),(x.length : Int))) (tloop_iter (st:=fun i : Nat=>(k + (tot x i : Int),(i : Int))) (n:=x.length) (fun i hi=>?_) ?_ (fun y=>by simp)) rfl
 ·have ht:=tot_le hx i (Nat.le_of_lt hi)
  have hr:=hx _ (getD_mem' [] hi)
  have m : ¬ (k + (tot x i : Int) + ((x.getD i []).length : Int) < 0):=by omega
  simp only [mks_len,lt_cast,hi,decide_true,cond_true,in_cast hi,if_true,Int.toNat_natCast,and_self,mks_get hi,p17 (x:=x.getD i []) (k:=k + (tot x i : Int)) (by omega) (by omega) hr,Option.bind_some,m,decide_false,cond_false]
  rw [wrap_sm (by omega) (by omega),tot_succ hi]
  simp only [Int.natCast_add,Int.add_assoc]
  rfl
 ·simp only [mks_len,lt_cast,Nat.lt_irrefl,decide_false,cond_false]
def okB (x : List (List (List Int))) : Prop:=x.length≤1048576∧∀ z ∈ x,z.length≤8∧∀ y ∈ z,y.length≤8
def tot3 (x : List (List (List Int))) (i : Nat) : Nat:=((x.take i).map fun z=>tot z z.length).sum
theorem tot3_succ {x : List (List (List Int))} {i : Nat} (hi : i < x.length) : tot3 x (i + 1) = tot3 x i + tot (x.getD i []) (x.getD i []).length:=by
 unfold tot3
 rw [← take_snoc [] hi]
 simp
theorem tot8 {x : List (List Int)} (hx : ∀ y ∈ x,y.length≤8) : ∀ i,i≤x.length→tot x i≤i * 8
 | 0,_=>by simp [tot]
 | i + 1,hi=>by
  rw [tot_succ (by omega)]
  have:=tot8 hx i (by omega)
  have:=hx _ (getD_mem' [] (show i < x.length by omega))
  omega
theorem tot3_le {x : List (List (List Int))} (hx : okB x) : ∀ i,i≤x.length→tot3 x i≤i * 64
 | 0,_=>by simp [tot3]
 | i + 1,hi=>by
  rw [tot3_succ (by omega)]
  have:=tot3_le hx i (by omega)
  obtain ⟨h1,h2⟩:=hx.2 _ (getD_mem' [] (show i < x.length by omega))
  have:=tot8 h2 _ (Nat.le_refl _)
  omega
def mk3 (x : List (List (List Int))) (k : Int) : List (List (List Int)):=(List.range x.length).map fun (i : Nat)=>mks (x.getD i []) (k + (tot3 x i : Int))
theorem mk3_len {x : List (List (List Int))} {k : Int} : (mk3 x k).length = x.length:=by simp [mk3]
theorem mk3_get {x : List (List (List Int))} {k : Int} {i : Nat} (hi : i < x.length) : (mk3 x k).getD i [] = mks (x.getD i []) (k + (tot3 x i : Int)):=by
 simp [mk3,hi]
theorem okB_row {x : List (List (List Int))} (hx : okB x) {i : Nat} (hi : i < x.length) : (x.getD i []).length≤1048576∧∀ y ∈ x.getD i [],y.length≤1048576:=by
 obtain ⟨h1,h2⟩:=hx.2 _ (getD_mem' [] hi)
 exact ⟨by omega,fun y hy=>by have:=h2 y hy; omega⟩
theorem p30 {x : List (List (List Int))} {k : Int} (h0 : 0≤k) (h1 : k≤1048576) (hx : okB x) : G30 (x,k) = some (k + (tot3 x x.length : Int),mk3 x k):=by
 have h:=hx.1
 unfold G30
 have hst : ((k,((0 : Int),x)) : Int × Int × List (List (List Int))) = (fun i : Nat=>(k + (tot3 x i : Int),((i : Int),(mk3 x k).take i ++ x.drop i))) 0:=by simp [tot3]
 simp only [hst]
 refine bind_of (v:=.brk 0 (k + (tot3 x x.length : Int),((x.length : Int),mk3 x k))) (tloop_iter (st:=fun i : Nat=>(k + (tot3 x i : Int),((i : Int),(mk3 x k).take i ++ x.drop i))) (n:=x.length) (fun i hi=>?_) ?_ (fun y=>by simp)) rfl
 ·have e : ((mk3 x k).take i ++ x.drop i).length = x.length:=by simp [mk3_len]; omega
  have e2 : ((mk3 x k).take i ++ x.drop i).getD i [] = x.getD i []:=by
   simp only [List.getD_eq_getElem?_getD]
   rw [List.getElem?_append_right (by simp [mk3_len]; omega)]
   simp [mk3_len,Nat.min_eq_left (Nat.le_of_lt hi)]
  have ht:=tot3_le hx i (Nat.le_of_lt hi)
  obtain ⟨r1,r2⟩:=okB_row hx hi
  simp only [e,e2,lt_cast,hi,decide_true,cond_true,in_cast hi,if_true,Int.toNat_natCast,and_self,p39 (x:=x.getD i []) (k:=k + (tot3 x i : Int)) (by omega) (by omega) r1 r2,Option.bind_some]
  have hm:=take_set (x:=mk3 x k) (y:=x) (i:=i) [] mk3_len.symm (by rw [mk3_len]; exact hi)
  rw [mk3_get hi] at hm
  rw [hm,wrap_sm (by omega) (by omega),tot3_succ hi]
  simp only [Int.natCast_add,Int.add_assoc]
  rfl
 ·have e : ((mk3 x k).take x.length ++ x.drop x.length) = mk3 x k:=by
   rw [List.drop_length,List.append_nil]
   exact List.take_of_length_le (by rw [mk3_len]; exact Nat.le_refl _)
  simp only [e,mk3_len,lt_cast,Nat.lt_irrefl,decide_false,cond_false]
theorem p31 {x : List (List (List Int))} {k : Int} (h0 : 0≤k) (h1 : k≤1048576) (hx : okB x) : G31 (mk3 x k,k) = some (k + (tot3 x x.length : Int)):=by
 have h:=hx.1
 unfold G31
 have hst : ((k,(0 : Int)) : Int × Int) = (fun i : Nat=>(k + (tot3 x i : Int),(i : Int))) 0:=by simp [tot3]
 simp only [hst]
 refine bind_of (v:=.brk 0 (k + (tot3 x x.length : Int),(x.length : Int))) (tloop_iter (st:=fun i : Nat=>(k + (tot3 x i : Int),(i : Int))) (n:=x.length) (fun i hi=>?_) ?_ (fun y=>by simp)) rfl
 ·have ht:=tot3_le hx i (Nat.le_of_lt hi)
  obtain ⟨r1,r2⟩:=okB_row hx hi
  have m : ¬ (k + (tot3 x i : Int) + (tot (x.getD i []) (x.getD i []).length : Int) < 0):=by omega
  simp only [mk3_len,lt_cast,hi,decide_true,cond_true,in_cast hi,if_true,Int.toNat_natCast,and_self,mk3_get hi,p40 (x:=x.getD i []) (k:=k + (tot3 x i : Int)) (by omega) (by omega) r1 r2,Option.bind_some,m,decide_false,cond_false]
  rw [wrap_sm (by omega) (by omega),tot3_succ hi]
  simp only [Int.natCast_add,Int.add_assoc]
  rfl
 ·simp only [mk3_len,lt_cast,Nat.lt_irrefl,decide_false,cond_false]

theorem resB_ok {c : Cat} {u : Int} {ob am : List (List Int)} : okB (resB c u ob am).1:=by
 unfold resB
 cases hmon : isMon c u ob am with
 | false=>exact ⟨Nat.zero_le _,fun z hz=>by cases hz⟩
 | true=>
 have hh : headM c u ob am = true:=by
  unfold isMon at hmon
  rw [Bool.and_eq_true] at hmon
  exact hmon.1
 obtain ⟨n,h⟩:=mh_of hh
 obtain ⟨a1,_⟩:=h.sh.hd
 obtain ⟨c1,c2⟩:=cntL_in (swaps c ob c.1.toNat)
 cases empB (swaps c ob c.1.toNat) with
 | true=>exact ⟨Nat.zero_le _,fun z hz=>by cases hz⟩
 | false=>
 cases decide (200 < cntL (swaps c ob c.1.toNat)) with
 | true=>exact ⟨Nat.zero_le _,fun z hz=>by cases hz⟩
 | false=>
 refine ⟨Nat.le_trans brs_len (by omega),fun z hz=>?_⟩
 obtain ⟨k,_,rfl⟩:=List.mem_map.1 hz
 refine ⟨by simp [btab]; omega,fun y hy=>?_⟩
 obtain ⟨x,_,rfl⟩:=List.mem_map.1 hy
 simp; omega
theorem okB_L {x : List (List (List Int))} (h : okB x) : okL x:=⟨h.1,fun z hz=>⟨by have:=(h.2 z hz).1; omega,fun y hy=>by have:=(h.2 z hz).2 y hy; omega⟩⟩

section
variable {c : Cat} {u : Int} {ob am : List (List Int)}
theorem p25 (ok : okM8 c ob am) : G25 (mkM c u ob am) = some (mkM c u ob am):=by
 obtain ⟨oc,⟨o1,o2⟩,⟨o3,o4⟩⟩:=ok
 unfold G25 mkM
 simp only [Prod.eta,p43 oc,p52 o1 o2,p52 o3 o4,Option.bind_some]
theorem p28 (ok : okM8 c ob am) : G28 (mkM c u ob am,mkM c u ob am) = some true:=by
 obtain ⟨oc,⟨o1,o2⟩,⟨o3,o4⟩⟩:=ok
 unfold G28 mkM
 simp only [Prod.eta,p45 oc,p36 o1 o2,p36 o3 o4,Option.bind_some,Bool.not_true,cond_false,decide_true]
theorem mk29 (ok : okM8 c ob am) : ∃ k' y,G29 (mkM c u ob am,1) = some (k',y)∧0≤k':=by
 obtain ⟨oc,⟨o1,o2⟩,⟨o3,o4⟩⟩:=ok
 obtain ⟨k1,y1,a1,b1,c1⟩:=mk46 (k:=1) (by omega) (by omega) oc
 obtain ⟨k2,y2,a2,b2,c2⟩:=mk39 b1 (by omega) o1 o2
 obtain ⟨k3,y3,a3,b3,c3⟩:=mk39 b2 (by omega) o3 o4
 refine ⟨k3,(y1.1,(y1.2.1,(y1.2.2.1,(y1.2.2.2,(y2,y3))))),?_,b3⟩
 unfold G29 mkM
 simp only [Prod.eta,a1,a2,a3,Option.bind_some]
end
theorem p5 (x : MC) (h : okT (PT S5.ps) x) : G5 x = some true:=by
 obtain ⟨c1,c2,c3,c4,c5,u,ob,am⟩:=x
 obtain ⟨_,h2,h3,h4,h5,_,ho,ha⟩:=h
 unfold G5 G23
 simp only [Prod.eta]
 obtain ⟨r1,e1,f1⟩:=p41b (c:=(c1,(c2,(c3,(c4,c5))))) (b:=1048576) (by omega) h2.1 h3.1 h4.1 h5.1 (fun y hy=>(h5.2 y hy).1)
 simp only [e1,Option.bind_some]
 by_cases n1 : r1 < 0
 ·simp only [n1,decide_true,cond_true,Option.bind_some]; rfl
 have f1:=f1.resolve_left n1
 obtain ⟨r2,e2,f2⟩:=p48 (x:=ob) (b:=r1) ⟨f1.1,f1.2.1⟩ ho.1 (fun y hy=>(ho.2 y hy).1)
 simp only [n1,decide_false,cond_false,e2,Option.bind_some]
 by_cases n2 : r2 < 0
 ·simp only [n2,decide_true,cond_true,Option.bind_some]; rfl
 have f2:=f2.resolve_left n2
 obtain ⟨r3,e3,f3⟩:=p48 (x:=am) (b:=r2) ⟨f2.1,by omega⟩ ha.1 (fun y hy=>(ha.2 y hy).1)
 simp only [n2,decide_false,cond_false,e3,Option.bind_some]
 by_cases n3 : r3 < 0
 ·simp only [n3,decide_true,cond_true,Option.bind_some]; rfl
 have f3:=f3.resolve_left n3
 have ok : okM8 (c1,(c2,(c3,(c4,c5)))) ob am:=⟨f1.2.2,f2.2.2,f3.2.2⟩
 have q25:=p25 (u:=u) ok
 have q28:=p28 (u:=u) ok
 have q24:=p24 (u:=u) ok
 have q26:=p26 (u:=u) ok
 obtain ⟨k',y,q29,hk⟩:=mk29 (u:=u) ok
 have hr:=resB_ok (c:=(c1,(c2,(c3,(c4,c5))))) (u:=u) (ob:=ob) (am:=am)
 unfold mkM at q25 q28 q24 q26 q29
 generalize resB (c1,(c2,(c3,(c4,c5)))) u ob am = r at *
 have q30:=p30 (x:=r.1) (k:=1) (by omega) (by omega) hr
 have q31:=p31 (x:=r.1) (k:=1) (by omega) (by omega) hr
 have q27:=p27 (okB_L hr)
 have m1 : ¬ (k' < 0):=by omega
 have m2 : ¬ ((1 : Int) + (tot3 r.1 r.1.length : Int) < 0):=by omega
 simp only [n3,decide_false,cond_false,q25,q28,q24,q26,q27,q29,q30,q31,m1,m2,Option.bind_some,decide_true,Bool.not_true]
end
end Go.Ve.D

