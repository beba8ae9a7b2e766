/- Loops and categories, what is needed of them. -/
import Derived.Test.YtcdekmccongjgaaLa
namespace Go.Ve.D
open Go Go.Ve

theorem chk2 {R S : Type} {F : Int→Option (LO Int R)} {n : Nat} {p : Nat→Bool} {Q : R→Prop} {o : LO Int R} {k : LO Int R→Option S} {Post : Bool→Option S→Prop}
  (h1 : ∀ i,i < n→(p i = true→F (i : Int) = some (.next ((i + 1 : Nat) : Int)))∧(p i = false→∃ r,F (i : Int) = some (.ret r)∧Q r)) (h2 : F (n : Int) = some o) (ho : ∀ y,o≠.next y)
  (hA : Post true (k o)) (hB : ∀ r,Q r→Post false (k (.ret r))) : Post ((List.range n).all p) (Option.bind (tloop F (0 : Int)) k):=by
 refine chk_bind (st:=fun i : Nat=>(i : Int)) (p:=p) (Q:=Q) (o:=o) (Post:=fun x=>Post ((List.range n).all p) x) h1 h2 ho (fun hall=>?_) (fun hall r hr=>?_)
 ·rw [hall]; exact hA
 ·rw [hall]; exact hB r hr
def inn1 {R : Type} (bad : R→Prop) (s : Int) (p : Bool) (o : Option (LO Int R)) : Prop:=(p = true→o = some (.next s))∧(p = false→∃ r,o = some (.ret r)∧bad r)
def lift {R : Type} (bad : R→Prop) (r : LO Int R) : Prop:=∃ r',r = .ret r'∧bad r'
theorem chkL {R : Type} {bad : R→Prop} {F : Int→Option (LO Int (LO Int R))} {n : Nat} {p : Nat→Bool} {id : Nat} {s : Int} {g : Nat→Int→Option (LO Int R)}
  (h1 : ∀ i,i < n→inn1 (lift bad) ((i + 1 : Nat) : Int) (p i) (F (i : Int))) (h2 : F (n : Int) = some (.brk id (n : Int))) (hk : g id (n : Int) = some (.next s)) :
  inn1 bad s ((List.range n).all p) (Option.bind (tloop F (0 : Int)) (LO.fin g)):=by
 refine chk_bind (st:=fun i : Nat=>(i : Int)) (p:=p) (Q:=lift bad) (o:=.brk id (n : Int)) (Post:=fun x=>inn1 bad s ((List.range n).all p) x) h1 h2 (fun y=>by simp) (fun hall=>?_) (fun hall r hr=>?_)
 ·rw [hall]
  exact ⟨fun _=>hk,(fun h=>by cases h)⟩
 ·rw [hall]
  obtain ⟨r',rfl,hb⟩:=hr
  exact ⟨(fun h=>by cases h),fun _=>⟨r',rfl,hb⟩⟩
theorem chkT {R : Type} {bad : R→Prop} {F : Int→Option (LO Int R)} {n : Nat} {p : Nat→Bool} {id : Nat} {g : Nat→Int→Option R} {Post : Bool→Option R→Prop}
  (h1 : ∀ i,i < n→inn1 bad ((i + 1 : Nat) : Int) (p i) (F (i : Int))) (h2 : F (n : Int) = some (.brk id (n : Int))) (hA : Post true (g id (n : Int))) (hB : ∀ r,bad r→Post false (some r)) :
  Post ((List.range n).all p) (Option.bind (tloop F (0 : Int)) (LO.fin g)):=
 chk2 (Q:=bad) h1 h2 (fun y=>by simp) hA fun r hr=>hB r hr
theorem inn1_t {R : Type} {bad : R→Prop} {s : Int} {o : Option (LO Int R)} (h : o = some (.next s)) : inn1 bad s true o:=⟨fun _=>h,(fun h=>by cases h)⟩
theorem inn1_f {R : Type} {bad : R→Prop} {s : Int} {o : Option (LO Int R)} (h : ∃ r,o = some (.ret r)∧bad r) : inn1 bad s false o:=⟨(fun h=>by cases h),fun _=>h⟩
theorem p58 (c : Cat) (x : Int) : G58 (c,x) = some (inn c.1 x):=by
 unfold G58 inn
 cases decide (0≤x) <;> rfl
def badB (r : Bool) : Prop:=r = false
theorem inn1_bad {s : Int} {R : Type} {bad : R→Prop} {o : Option (LO Int (LO Int R))} {r : R} (h : o = some (.ret (.ret r))) (hb : bad r) : inn1 (lift bad) s false o:=inn1_f ⟨_,h,_,rfl,hb⟩
theorem lt_self {n : Nat} : decide ((n : Int) < (n : Int)) = false:=decide_eq_false (by omega)
theorem idX {c : Cat} (h : Sh c) (hs : isCat c = true) {x : Nat} (hx : (x : Int) < c.1) : ∃ a : Nat,a < ar c∧c.2.2.2.1.getD x 0 = (a : Int)∧fT c a = (x : Int)∧tT c a = (x : Int):=by
 unfold isCat shape at hs
 rw [Bool.and_eq_true,Bool.and_eq_true,Bool.and_eq_true] at hs
 obtain ⟨a1,a2,a3,a4,a5,a6,a7,a8⟩:=h.hd
 have hi:=List.all_eq_true.1 hs.1.2.1 x (List.mem_range.2 (by omega))
 unfold idOK at hi
 rw [Bool.and_eq_true,decide_eq_true_eq,decide_eq_true_eq] at hi
 obtain ⟨g1,g2⟩:=wi_get a8 (i:=x) (by omega)
 exact ⟨(c.2.2.2.1.getD x 0).toNat,by show _ < c.2.1.length; omega,by omega,hi⟩
def idA (c : Cat) (x : Nat) : Nat:=(c.2.2.2.1.getD x 0).toNat
theorem out_all {c : Cat} {x : Int} {q : Int→Bool} : (List.range (outL c x).length).all (fun i=>q ((outL c x).getD i 0)) = (List.range (ar c)).all fun b=>!decide (fT c b = x) || q (b : Int):=by
 rw [all_idx (0 : Int) q]
 unfold outL
 rw [List.all_map,List.all_filter]
 rfl
end Go.Ve.D


namespace Go.Ve.D
open Go Go.Ve
noncomputable section

def cell (t : List (List Int)) (i j : Nat) : Int:=(t.getD i []).getD j 0
def rowB (t : List (List Int)) (b : Int) (i : Nat) : Bool:=decide (((t.getD i []).length : Int) = (t.length : Int)) && wi b (t.getD i [])
def sqB (t : List (List Int)) (b : Int) : Bool:=(List.range t.length).all (rowB t b)
def tbl (t : List (List Int)) (n : Int) : Bool:=decide ((t.length : Int) = n) && sqB t n
theorem p162 {t : List (List Int)} {b : Int} (ht : t.length≤1048576) (hr : ∀ y ∈ t,y.length≤1048576) : G162 (t,b) = some (sqB t b):=by
 unfold G162 sqB
 refine chkT (n:=t.length) (p:=rowB t b) (bad:=badB) (id:=0) (Post:=fun b (o : Option Bool)=>o = some b) (fun i hi=>?_) ?_ rfl (fun r hr=>by rw [hr])
 ·unfold rowB
  simp only [lt_cast,hi,decide_true,cond_true,in_cast hi,and_self,if_true,Int.toNat_natCast,p143 (hr _ (getD_mem' ([] : List Int) hi)),Option.bind_some]
  rw [wrap_sm (by omega) (by omega)]
  cases decide (((t.getD i []).length : Int) = (t.length : Int)) with
  | false=>exact inn1_f ⟨_,rfl,rfl⟩
  | true=>
  rw [Bool.true_and]
  cases wi b (t.getD i []) with
  | false=>exact inn1_f ⟨_,rfl,rfl⟩
  | true=>exact inn1_t rfl
 ·simp only [lt_self,cond_false]
theorem p105 {t : List (List Int)} {n : Int} (ht : t.length≤1048576) (hr : ∀ y ∈ t,y.length≤1048576) : G105 (t,(n,n)) = some (tbl t n):=by
 unfold G105 tbl
 simp only [p162 ht hr,Option.bind_some]
 cases decide ((t.length : Int) = n) <;> rfl
theorem p112 {t : List (List Int)} {n : Int} (hn : 0≤n∧n≤9223372036854775807) (ht : t.length≤1048576) (hr : ∀ y ∈ t,y.length≤1048576) : G112 (t,n) = some (tbl t n):=by
 unfold G112 tbl sqB
 cases hl : decide ((t.length : Int) = n) with
 | false=>rfl
 | true=>
 have hl:=of_decide_eq_true hl
 simp only [Bool.not_true,cond_false,Bool.true_and]
 refine chkT (n:=t.length) (p:=rowB t n) (bad:=badB) (id:=0) (Post:=fun b (o : Option Bool)=>o = some b) (fun i hi=>?_) ?_ rfl (fun r hr=>by rw [hr])
 ·have e : decide (((t.getD i []).length : Int) = (t.length : Int)) = decide (((t.getD i []).length : Int) = n):=by rw [hl]
  unfold rowB
  rw [e]
  simp only [lt_cast,hi,decide_true,cond_true,in_cast hi,and_self,if_true,Int.toNat_natCast,p120 hn (hr _ (getD_mem' ([] : List Int) hi)),Option.bind_some]
  rw [wrap_sm (by omega) (by omega)]
  cases decide (((t.getD i []).length : Int) = n) with
  | false=>exact inn1_f ⟨_,rfl,rfl⟩
  | true=>
  rw [Bool.true_and]
  cases wi n (t.getD i []) with
  | false=>exact inn1_f ⟨_,rfl,rfl⟩
  | true=>exact inn1_t rfl
 ·simp only [lt_self,cond_false]
structure TB (t : List (List Int)) (n : Nat) : Prop where
 len : t.length = n
 row : ∀ i,i < n→(t.getD i []).length = n
 val : ∀ i j,i < n→j < n→∃ k : Nat,k < n∧cell t i j = (k : Int)
theorem tb_of {t : List (List Int)} {n : Nat} (h : tbl t n = true) : TB t n:=by
 unfold tbl sqB at h
 rw [Bool.and_eq_true,decide_eq_true_eq] at h
 obtain ⟨h1,h2⟩:=h
 have hl : t.length = n:=by omega
 have hr : ∀ i,i < n→rowB t n i = true:=fun i hi=>List.all_eq_true.1 h2 i (List.mem_range.2 (by omega))
 have h3 : ∀ i,i < n→(t.getD i []).length = n:=fun i hi=>by
  have:=hr i hi
  unfold rowB at this
  rw [Bool.and_eq_true,decide_eq_true_eq] at this
  omega
 refine ⟨hl,h3,fun i j hi hj=>?_⟩
 have:=hr i hi
 unfold rowB at this
 rw [Bool.and_eq_true] at this
 obtain ⟨g1,g2⟩:=wi_get this.2 (i:=j) (by rw [h3 i hi]; exact hj)
 exact ⟨(cell t i j).toNat,by unfold cell; omega,by unfold cell; omega⟩
def unC (t : List (List Int)) (u i : Nat) : Bool:=decide (cell t u i = (i : Int)) && decide (cell t i u = (i : Int))
def asC (t : List (List Int)) (i j k : Nat) : Bool:=decide (cell t (cell t i j).toNat k = cell t i (cell t j k).toNat)
def whC (t : List (List Int)) (u i : Nat) : Bool:=unC t u i && (List.range t.length).all fun j=>(List.range t.length).all (asC t i j)
def whole (t : List (List Int)) (u : Nat) : Bool:=(List.range t.length).all (whC t u)
theorem p107 {t : List (List Int)} {n u : Nat} (h : TB t n) (hu : u < n) (hn : n≤1048576) : G107 (t,(u : Int)) = some (whole t u):=by
 have hl:=h.len
 unfold G107 whole
 refine chkT (n:=t.length) (p:=whC t u) (bad:=badB) (id:=0) (Post:=fun b (o : Option Bool)=>o = some b) (fun i hi=>?_) ?_ rfl (fun r hr=>by rw [hr])
 ·have hi' : i < n:=by omega
  have u1 : u < t.length:=by omega
  have r1 : i < (t.getD u []).length:=by rw [h.row u hu]; exact hi'
  have r2 : u < (t.getD i []).length:=by rw [h.row i hi']; exact hu
  unfold whC unC
  simp only [lt_cast,hi,decide_true,cond_true,in_cast hi,in_cast u1,in_cast r1,in_cast r2,and_self,if_true,Int.toNat_natCast]
  have c1 : decide ((t.getD u []).getD i 0 = (i : Int)) = decide (cell t u i = (i : Int)):=rfl
  have c2 : decide ((t.getD i []).getD u 0 = (i : Int)) = decide (cell t i u = (i : Int)):=rfl
  simp only [c1,c2]
  cases decide (cell t u i = (i : Int)) with
  | false=>exact inn1_f ⟨_,rfl,rfl⟩
  | true=>
  cases decide (cell t i u = (i : Int)) with
  | false=>exact inn1_f ⟨_,rfl,rfl⟩
  | true=>
  simp only [Bool.not_true,cond_false,Option.bind_some,Bool.true_and]
  refine chkL (n:=t.length) (p:=fun j=>(List.range t.length).all (asC t i j)) (bad:=badB) (id:=2) (s:=((i + 1 : Nat) : Int)) (fun j hj=>?_) ?_ ?_
  ·have hj' : j < n:=by omega
   simp only [lt_cast,hj,decide_true,cond_true]
   refine chkL (n:=t.length) (p:=asC t i j) (bad:=lift badB) (id:=4) (s:=((j + 1 : Nat) : Int)) (fun k hk=>?_) ?_ ?_
   ·have hk' : k < n:=by omega
    obtain ⟨x,hx,ex⟩:=h.val i j hi' hj'
    obtain ⟨y,hy,ey⟩:=h.val j k hj' hk'
    have ex' : (t.getD i []).getD j 0 = (x : Int):=ex
    have ey' : (t.getD j []).getD k 0 = (y : Int):=ey
    have q1 : j < (t.getD i []).length:=by rw [h.row i hi']; exact hj'
    have q2 : x < t.length:=by omega
    have q3 : k < (t.getD x []).length:=by rw [h.row x hx]; exact hk'
    have q4 : k < (t.getD j []).length:=by rw [h.row j hj']; exact hk'
    have q5 : y < (t.getD i []).length:=by rw [h.row i hi']; exact hy
    simp only [lt_cast,hk,decide_true,cond_true,in_cast hi,in_cast hj,in_cast q1,ex',in_cast q2,in_cast q3,in_cast q4,ey',in_cast q5,and_self,if_true,Int.toNat_natCast]
    rw [wrap_sm (by omega) (by omega)]
    unfold asC
    rw [ex,ey,Int.toNat_natCast,Int.toNat_natCast]
    show inn1 _ _ (decide ((t.getD x []).getD k 0 = (t.getD i []).getD y 0)) _
    cases decide ((t.getD x []).getD k 0 = (t.getD i []).getD y 0) with
    | true=>exact inn1_t rfl
    | false=>exact inn1_f ⟨_,rfl,_,rfl,_,rfl,rfl⟩
   ·simp only [lt_self,cond_false]
   ·show (if 4 = 4 then _ else none) = _
    rw [if_pos rfl,wrap_sm (by omega) (by omega)]; rfl
  ·simp only [lt_self,cond_false]
  ·show (if 2 = 2 then _ else none) = _
   rw [if_pos rfl,wrap_sm (by omega) (by omega)]; rfl
 ·simp only [lt_self,cond_false]
theorem p116 {t : List (List Int)} {n u : Nat} (h : TB t n) (hu : u < n) (hn : n≤1048576) : G116 (t,(u : Int)) = some (whole t u):=by
 have hl:=h.len
 unfold G116 whole
 refine chkT (n:=t.length) (p:=whC t u) (bad:=badB) (id:=0) (Post:=fun b (o : Option Bool)=>o = some b) (fun i hi=>?_) ?_ rfl (fun r hr=>by rw [hr])
 ·have hi' : i < n:=by omega
  have u1 : u < t.length:=by omega
  have r1 : i < (t.getD u []).length:=by rw [h.row u hu]; exact hi'
  have r2 : u < (t.getD i []).length:=by rw [h.row i hi']; exact hu
  unfold whC unC
  simp only [lt_cast,hi,decide_true,cond_true,in_cast hi,in_cast u1,in_cast r1,in_cast r2,and_self,if_true,Int.toNat_natCast]
  have c1 : decide ((t.getD u []).getD i 0 = (i : Int)) = decide (cell t u i = (i : Int)):=rfl
  have c2 : decide ((t.getD i []).getD u 0 = (i : Int)) = decide (cell t i u = (i : Int)):=rfl
  simp only [c1,c2]
  cases decide (cell t i u = (i : Int)) with
  | false=>
   rw [Bool.and_false]
   exact inn1_f ⟨_,rfl,rfl⟩
  | true=>
  cases decide (cell t u i = (i : Int)) with
  | false=>exact inn1_f ⟨_,rfl,rfl⟩
  | true=>
  simp only [Bool.not_true,cond_false,Option.bind_some,Bool.true_and]
  refine chkL (n:=t.length) (p:=fun j=>(List.range t.length).all (asC t i j)) (bad:=badB) (id:=2) (s:=((i + 1 : Nat) : Int)) (fun j hj=>?_) ?_ ?_
  ·have hj' : j < n:=by omega
   simp only [lt_cast,hj,decide_true,cond_true]
   refine chkL (n:=t.length) (p:=asC t i j) (bad:=lift badB) (id:=4) (s:=((j + 1 : Nat) : Int)) (fun k hk=>?_) ?_ ?_
   ·have hk' : k < n:=by omega
    obtain ⟨x,hx,ex⟩:=h.val i j hi' hj'
    obtain ⟨y,hy,ey⟩:=h.val j k hj' hk'
    have ex' : (t.getD i []).getD j 0 = (x : Int):=ex
    have ey' : (t.getD j []).getD k 0 = (y : Int):=ey
    have q1 : j < (t.getD i []).length:=by rw [h.row i hi']; exact hj'
    have q2 : x < t.length:=by omega
    have q3 : k < (t.getD x []).length:=by rw [h.row x hx]; exact hk'
    have q4 : k < (t.getD j []).length:=by rw [h.row j hj']; exact hk'
    have q5 : y < (t.getD i []).length:=by rw [h.row i hi']; exact hy
    simp only [lt_cast,hk,decide_true,cond_true,in_cast hi,in_cast hj,in_cast q1,ex',in_cast q2,in_cast q3,in_cast q4,ey',in_cast q5,and_self,if_true,Int.toNat_natCast]
    rw [wrap_sm (by omega) (by omega)]
    unfold asC
    rw [ex,ey,Int.toNat_natCast,Int.toNat_natCast]
    show inn1 _ _ (decide ((t.getD x []).getD k 0 = (t.getD i []).getD y 0)) _
    cases decide ((t.getD x []).getD k 0 = (t.getD i []).getD y 0) with
    | true=>exact inn1_t rfl
    | false=>exact inn1_f ⟨_,rfl,_,rfl,_,rfl,rfl⟩
   ·simp only [lt_self,cond_false]
   ·show (if 4 = 4 then _ else none) = _
    rw [if_pos rfl,wrap_sm (by omega) (by omega)]; rfl
  ·simp only [lt_self,cond_false]
  ·show (if 2 = 2 then _ else none) = _
   rw [if_pos rfl,wrap_sm (by omega) (by omega)]; rfl
 ·simp only [lt_self,cond_false]
end

end Go.Ve.D


namespace Go.Ve.D
open Go Go.Ve
noncomputable section

abbrev MC:=Int × List Int × List Int × List Int × List (List Int) × Int × List (List Int) × List (List Int)
def mkM (c : Cat) (u : Int) (ob am : List (List Int)) : MC:=(c.1,(c.2.1,(c.2.2.1,(c.2.2.2.1,(c.2.2.2.2,(u,(ob,am)))))))
def okM8 (c : Cat) (ob am : List (List Int)) : Prop:=okC c∧(ob.length≤1048576∧∀ y ∈ ob,y.length≤1048576)∧(am.length≤1048576∧∀ y ∈ am,y.length≤1048576)
def enC (c : Cat) (ob am : List (List Int)) (f g : Nat) : Bool:=decide (fT c (cell am f g).toNat = cell ob (fT c f).toNat (fT c g).toNat) && decide (tT c (cell am f g).toNat = cell ob (tT c f).toNat (tT c g).toNat)
def endsB (c : Cat) (ob am : List (List Int)) : Bool:=(List.range (ar c)).all fun f=>(List.range (ar c)).all (enC c ob am f)
theorem p106 {c : Cat} {u : Int} {ob am : List (List Int)} {n : Nat} (h : Sh c) (hn : c.1 = (n : Int)) (ho : TB ob n) (ha : TB am (ar c)) : G106 (mkM c u ob am) = some (endsB c ob am):=by
 obtain ⟨a1,a2,a3,a4,a5,a6,a7,a8⟩:=h.hd
 have hm : ar c≤40:=a2
 have lo:=ho.len
 have la:=ha.len
 unfold G106 mkM endsB
 simp only
 refine chkT (n:=ar c) (p:=fun f=>(List.range (ar c)).all (enC c ob am f)) (bad:=badB) (id:=0) (Post:=fun b (o : Option Bool)=>o = some b) (fun f hf=>?_) ?_ rfl (fun r hr=>by rw [hr])
 ·have hf2 : f < c.2.1.length:=hf
  have hf3 : f < c.2.2.1.length:=by omega
  simp only [lt_cast,hf2,decide_true,cond_true]
  refine chkL (n:=ar c) (p:=enC c ob am f) (bad:=badB) (id:=2) (s:=((f + 1 : Nat) : Int)) (fun g hg=>?_) ?_ ?_
  ·have hg2 : g < c.2.1.length:=hg
   have hg3 : g < c.2.2.1.length:=by omega
   obtain ⟨x,hx,ex⟩:=ha.val f g hf hg
   have ex' : (am.getD f []).getD g 0 = (x : Int):=ex
   have hfa : f < am.length:=by omega
   have hga : g < (am.getD f []).length:=by rw [ha.row f hf]; exact hg
   have hx2 : x < c.2.1.length:=hx
   have hx3 : x < c.2.2.1.length:=by omega
   obtain ⟨f1,f2⟩:=h.fr f hf
   obtain ⟨g1,g2⟩:=h.fr g hg
   obtain ⟨t1,t2⟩:=h.to f hf
   obtain ⟨u1,u2⟩:=h.to g hg
   obtain ⟨fn,ef⟩ : ∃ k : Nat,c.2.1.getD f 0 = (k : Int):=⟨(c.2.1.getD f 0).toNat,by omega⟩
   obtain ⟨gn,eg⟩ : ∃ k : Nat,c.2.1.getD g 0 = (k : Int):=⟨(c.2.1.getD g 0).toNat,by omega⟩
   obtain ⟨ft,eft⟩ : ∃ k : Nat,c.2.2.1.getD f 0 = (k : Int):=⟨(c.2.2.1.getD f 0).toNat,by omega⟩
   obtain ⟨gt,egt⟩ : ∃ k : Nat,c.2.2.1.getD g 0 = (k : Int):=⟨(c.2.2.1.getD g 0).toNat,by omega⟩
   have o1 : fn < ob.length:=by omega
   have o2 : gn < (ob.getD fn []).length:=by rw [ho.row fn (by omega)]; omega
   have o3 : ft < ob.length:=by omega
   have o4 : gt < (ob.getD ft []).length:=by rw [ho.row ft (by omega)]; omega
   simp only [lt_cast,hg2,decide_true,cond_true,in_cast hfa,in_cast hga,ex',in_cast hx2,in_cast hx3,in_cast hf2,in_cast hf3,in_cast hg2,in_cast hg3,ef,eg,eft,egt,in_cast o1,in_cast o2,in_cast o3,in_cast o4,and_self,if_true,Int.toNat_natCast]
   rw [wrap_sm (by omega) (by omega)]
   unfold enC fT tT
   rw [ex,ef,eg,eft,egt]
   simp only [Int.toNat_natCast]
   show inn1 _ _ (decide (c.2.1.getD x 0 = (ob.getD fn []).getD gn 0) && decide (c.2.2.1.getD x 0 = (ob.getD ft []).getD gt 0)) _
   cases decide (c.2.1.getD x 0 = (ob.getD fn []).getD gn 0) with
   | false=>exact inn1_bad rfl rfl
   | true=>
   cases decide (c.2.2.1.getD x 0 = (ob.getD ft []).getD gt 0) with
   | false=>exact inn1_bad rfl rfl
   | true=>exact inn1_t rfl
  ·have e : decide (ar c < c.2.1.length) = false:=decide_eq_false (Nat.lt_irrefl _)
   simp only [lt_cast,e,cond_false]
  ·show (if 2 = 2 then _ else none) = _
   rw [if_pos rfl,wrap_sm (by omega) (by omega)]; rfl
 ·have e : decide (ar c < c.2.1.length) = false:=decide_eq_false (Nat.lt_irrefl _)
  simp only [lt_cast,e,cond_false]
end

end Go.Ve.D


namespace Go.Ve.D
open Go Go.Ve
noncomputable section

def idM (c : Cat) (ob am : List (List Int)) (x y : Nat) : Bool:=decide (cell am (idA c x) (idA c y) = c.2.2.2.1.getD (cell ob x y).toNat 0)
def idsM (c : Cat) (ob am : List (List Int)) : Bool:=(List.range c.1.toNat).all fun x=>(List.range c.1.toNat).all (idM c ob am x)
def exC (c : Cat) (am : List (List Int)) (f h g k : Nat) : Bool:=!mt c g k || decide (cell am (T c f h).toNat (T c g k).toNat = T c (cell am f g).toNat (cell am h k).toNat)
def exF (c : Cat) (am : List (List Int)) (f h : Nat) : Bool:=!mt c f h || (List.range (ar c)).all fun g=>(List.range (ar c)).all (exC c am f h g)
def exB' (c : Cat) (am : List (List Int)) : Bool:=(List.range (ar c)).all fun f=>(List.range (ar c)).all (exF c am f)
def headM (c : Cat) (u : Int) (ob am : List (List Int)) : Bool:=(isCat c && inn c.1 u) && (tbl ob c.1 && tbl am (ar c))
def isMon (c : Cat) (u : Int) (ob am : List (List Int)) : Bool:=headM c u ob am && (((endsB c ob am && whole ob u.toNat) && whole am (idA c u.toNat)) && (idsM c ob am && exB' c am))
structure MH (c : Cat) (u : Int) (ob am : List (List Int)) (n : Nat) : Prop where
 cat : isCat c = true
 sh : Sh c
 hn : c.1 = (n : Int)
 uin : 0≤u∧u < c.1
 ho : TB ob n
 ha : TB am (ar c)
theorem mh_of {c : Cat} {u : Int} {ob am : List (List Int)} (h : headM c u ob am = true) : ∃ n,MH c u ob am n:=by
 unfold headM at h
 simp only [Bool.and_eq_true] at h
 obtain ⟨⟨h1,h2⟩,h3,h4⟩:=h
 have hs:=isCat_sh h1
 obtain ⟨a1,_⟩:=hs.hd
 obtain ⟨n,hn⟩ : ∃ n : Nat,c.1 = (n : Int):=⟨c.1.toNat,by omega⟩
 rw [hn] at h3
 exact ⟨n,h1,hs,hn,inn_iff.1 h2,tb_of h3,tb_of h4⟩
theorem p64 {c : Cat} {u : Int} {ob am : List (List Int)} (ok : okM8 c ob am) : G64 (mkM c u ob am) = some (isMon c u ob am):=by
 obtain ⟨oc,⟨o1,o2⟩,⟨o3,o4⟩⟩:=ok
 have e58:=p58 c u
 have e1:=p105 (n:=c.1) o1 o2
 have e2:=p105 (n:=((c.2.1.length : Nat) : Int)) o3 o4
 unfold isMon
 cases hh : headM c u ob am with
 | false=>
  unfold G64 mkM
  simp only [Prod.eta,p96 oc,e58,e1,e2,Option.bind_some]
  unfold headM ar at hh
  cases h1 : isCat c with
  | false=>rfl
  | true=>
  cases h2 : inn c.1 u with
  | false=>rfl
  | true=>
  cases h3 : tbl ob c.1 with
  | false=>rfl
  | true=>
  cases h4 : tbl am ((c.2.1.length : Nat) : Int) with
  | false=>rfl
  | true=>rw [h1,h2,h3,h4] at hh; cases hh
 | true=>
 obtain ⟨n,h⟩:=mh_of hh
 have hh':=hh
 unfold headM at hh'
 simp only [Bool.and_eq_true] at hh'
 obtain ⟨⟨h1,h2⟩,h3,h4⟩:=hh'
 have h4 : tbl am ((c.2.1.length : Nat) : Int) = true:=h4
 obtain ⟨a1,a2,a3,a4,a5,a6,a7,a8⟩:=h.sh.hd
 have hm : ar c≤40:=a2
 have hn:=h.hn
 have lo:=h.ho.len
 have la:=h.ha.len
 have c5 : c.2.2.2.2.length = ar c:=a6
 obtain ⟨un,eu⟩ : ∃ k : Nat,u = (k : Int):=⟨u.toNat,by have:=h.uin.1; omega⟩
 have hun : un < n:=by have:=h.uin.2; omega
 subst eu
 have hul : un < c.2.2.2.1.length:=by omega
 obtain ⟨iu,hiu,eiu,_,_⟩:=idX h.sh h.cat (x:=un) (by omega)
 have e106:=p106 (u:=(un : Int)) h.sh hn h.ho h.ha
 unfold mkM at e106
 have e107:=p107 h.ho hun (by omega)
 have e107':=p107 h.ha hiu (by omega)
 have eid : idA c un = iu:=by unfold idA; rw [eiu,Int.toNat_natCast]
 rw [Int.toNat_natCast,eid]
 unfold G64 mkM
 simp only [Prod.eta,p96 oc,e58,e1,e2,h1,h2,h3,h4,e106,e107,in_cast hul,eiu,e107',and_self,if_true,Int.toNat_natCast,Option.bind_some,Bool.not_true,cond_false,Bool.true_and]
 cases endsB c ob am with
 | false=>rfl
 | true=>
 cases whole ob un with
 | false=>rfl
 | true=>
 cases whole am iu with
 | false=>rfl
 | true=>
 simp only [Bool.not_true,cond_false,Option.bind_some,Bool.true_and]
 unfold idsM
 rw [hn,Int.toNat_natCast]
 refine chkT (n:=n) (p:=fun x=>(List.range n).all (idM c ob am x)) (bad:=badB) (id:=0) (Post:=fun b (o : Option Bool)=>o = some (b && exB' c am)) (fun x hx=>?_) ?_ ?_ (fun r hr=>by rw [hr]; rfl)
 ·simp only [lt_cast,hx,decide_true,cond_true]
  refine chkL (n:=n) (p:=idM c ob am x) (bad:=badB) (id:=2) (s:=((x + 1 : Nat) : Int)) (fun y hy=>?_) ?_ ?_
  ·obtain ⟨ix,hix,eix,_,_⟩:=idX h.sh h.cat (x:=x) (by omega)
   obtain ⟨iy,hiy,eiy,_,_⟩:=idX h.sh h.cat (x:=y) (by omega)
   obtain ⟨z,hz,ez⟩:=h.ho.val x y hx hy
   have ez' : (ob.getD x []).getD y 0 = (z : Int):=ez
   have q1 : x < c.2.2.2.1.length:=by omega
   have q2 : y < c.2.2.2.1.length:=by omega
   have q3 : z < c.2.2.2.1.length:=by omega
   have q4 : ix < am.length:=by omega
   have q5 : iy < (am.getD ix []).length:=by rw [h.ha.row ix hix]; exact hiy
   have q6 : x < ob.length:=by omega
   have q7 : y < (ob.getD x []).length:=by rw [h.ho.row x hx]; exact hy
   simp only [lt_cast,hy,decide_true,cond_true,in_cast q1,eix,in_cast q4,in_cast q2,eiy,in_cast q5,in_cast q6,in_cast q7,ez',in_cast q3,and_self,if_true,Int.toNat_natCast]
   rw [wrap_sm (by omega) (by omega)]
   unfold idM idA
   rw [eix,eiy,ez,Int.toNat_natCast,Int.toNat_natCast,Int.toNat_natCast]
   show inn1 _ _ (decide ((am.getD ix []).getD iy 0 = c.2.2.2.1.getD z 0)) _
   cases decide ((am.getD ix []).getD iy 0 = c.2.2.2.1.getD z 0) with
   | true=>exact inn1_t rfl
   | false=>exact inn1_bad rfl rfl
  ·simp only [lt_self,cond_false]
  ·show (if 2 = 2 then _ else none) = _
   rw [if_pos rfl,wrap_sm (by omega) (by omega)]; rfl
 ·simp only [lt_self,cond_false]
 show (if 0 = 0 then _ else none) = _
 rw [if_pos rfl,Bool.true_and]
 unfold exB'
 refine chkT (n:=ar c) (p:=fun f=>(List.range (ar c)).all (exF c am f)) (bad:=badB) (id:=4) (Post:=fun b (o : Option Bool)=>o = some b) (fun f hf=>?_) ?_ rfl (fun r hr=>by rw [hr])
 ·have hf2 : f < c.2.1.length:=hf
  simp only [lt_cast,hf2,decide_true,cond_true]
  refine chkL (n:=ar c) (p:=exF c am f) (bad:=badB) (id:=6) (s:=((f + 1 : Nat) : Int)) (fun k hk=>?_) ?_ ?_
  ·have hk2 : k < c.2.1.length:=hk
   have r1 : f < c.2.2.2.2.length:=by omega
   have r2 : k < (c.2.2.2.2.getD f []).length:=by have:=h.sh.row f hf; omega
   simp only [lt_cast,hk2,decide_true,cond_true,in_cast r1,in_cast r2,and_self,if_true,Int.toNat_natCast]
   unfold exF
   cases hmt : mt c f k with
   | false=>
    have e : (c.2.2.2.2.getD f []).getD k 0 = -1:=h.sh.neg f k hf hk hmt
    have e0 : decide ((c.2.2.2.2.getD f []).getD k 0 < 0) = true:=decide_eq_true (by omega)
    refine inn1_t ?_
    simp only [e0,cond_true]
    rw [wrap_sm (by omega) (by omega)]; rfl
   | true=>
    obtain ⟨t1,t2,_⟩:=h.sh.pos f k hf hk hmt
    obtain ⟨t,et⟩ : ∃ t : Nat,T c f k = (t : Int):=⟨(T c f k).toNat,by omega⟩
    have et' : (c.2.2.2.2.getD f []).getD k 0 = (t : Int):=et
    have ht : t < ar c:=by show t < c.2.1.length; omega
    have e0 : decide ((t : Int) < 0) = false:=decide_eq_false (by omega)
    rw [Bool.not_true,Bool.false_or]
    simp only [et',e0,cond_false]
    refine chkL (n:=ar c) (p:=fun g=>(List.range (ar c)).all (exC c am f k g)) (bad:=lift badB) (id:=8) (s:=((k + 1 : Nat) : Int)) (fun g hg=>?_) ?_ ?_
    ·have hg2 : g < c.2.1.length:=hg
     simp only [lt_cast,hg2,decide_true,cond_true]
     refine chkL (n:=ar c) (p:=exC c am f k g) (bad:=lift (lift badB)) (id:=10) (s:=((g + 1 : Nat) : Int)) (fun l hl=>?_) ?_ ?_
     ·have hl2 : l < c.2.1.length:=hl
      have s1 : g < c.2.2.2.2.length:=by omega
      have s2 : l < (c.2.2.2.2.getD g []).length:=by have:=h.sh.row g hg; omega
      simp only [lt_cast,hl2,decide_true,cond_true,in_cast s1,in_cast s2,and_self,if_true,Int.toNat_natCast]
      rw [wrap_sm (by omega) (by omega)]
      unfold exC
      cases hgl : mt c g l with
      | false=>
       have e : (c.2.2.2.2.getD g []).getD l 0 = -1:=h.sh.neg g l hg hl hgl
       have e0 : decide (0≤(c.2.2.2.2.getD g []).getD l 0) = false:=decide_eq_false (by omega)
       refine inn1_t ?_
       simp only [e0,cond_false,Option.bind_some]
       rfl
      | true=>
       obtain ⟨v1,v2,_⟩:=h.sh.pos g l hg hl hgl
       obtain ⟨v,ev⟩ : ∃ t : Nat,T c g l = (t : Int):=⟨(T c g l).toNat,by omega⟩
       have ev' : (c.2.2.2.2.getD g []).getD l 0 = (v : Int):=ev
       have hv : v < ar c:=by show v < c.2.1.length; omega
       have e9 : decide ((0 : Int)≤(v : Int)) = true:=decide_eq_true (by omega)
       obtain ⟨p,hp,ep⟩:=h.ha.val f g hf hg
       obtain ⟨q,hq,eq⟩:=h.ha.val k l hk hl
       have ep' : (am.getD f []).getD g 0 = (p : Int):=ep
       have eq' : (am.getD k []).getD l 0 = (q : Int):=eq
       have w1 : t < am.length:=by omega
       have w2 : v < (am.getD t []).length:=by rw [h.ha.row t ht]; exact hv
       have w3 : f < am.length:=by omega
       have w4 : g < (am.getD f []).length:=by rw [h.ha.row f hf]; exact hg
       have w5 : k < am.length:=by omega
       have w6 : l < (am.getD k []).length:=by rw [h.ha.row k hk]; exact hl
       have w7 : p < c.2.2.2.2.length:=by omega
       have w8 : q < (c.2.2.2.2.getD p []).length:=by have:=h.sh.row p hp; have : ar c = c.2.1.length:=rfl; omega
       simp only [ev',e9,decide_true,cond_true,in_cast r1,in_cast r2,et',in_cast w1,in_cast w2,in_cast w3,in_cast w4,ep',in_cast w7,in_cast w5,in_cast w6,eq',in_cast w8,and_self,if_true,Int.toNat_natCast,Option.bind_some,Bool.not_true,Bool.false_or]
       rw [et,ev,ep,eq,Int.toNat_natCast,Int.toNat_natCast,Int.toNat_natCast,Int.toNat_natCast]
       show inn1 _ _ (decide ((am.getD t []).getD v 0 = (c.2.2.2.2.getD p []).getD q 0)) _
       cases decide ((am.getD t []).getD v 0 = (c.2.2.2.2.getD p []).getD q 0) with
       | true=>exact inn1_t rfl
       | false=>exact inn1_f ⟨_,rfl,_,rfl,_,rfl,_,rfl,rfl⟩
     ·have e : decide (ar c < c.2.1.length) = false:=decide_eq_false (Nat.lt_irrefl _)
      simp only [lt_cast,e,cond_false]
     ·show (if 10 = 10 then _ else none) = _
      rw [if_pos rfl,wrap_sm (by omega) (by omega)]; rfl
    ·have e : decide (ar c < c.2.1.length) = false:=decide_eq_false (Nat.lt_irrefl _)
     simp only [lt_cast,e,cond_false]
    ·show (if 8 = 8 then _ else none) = _
     rw [if_pos rfl,wrap_sm (by omega) (by omega)]; rfl
  ·have e : decide (ar c < c.2.1.length) = false:=decide_eq_false (Nat.lt_irrefl _)
   simp only [lt_cast,e,cond_false]
  ·show (if 6 = 6 then _ else none) = _
   rw [if_pos rfl,wrap_sm (by omega) (by omega)]; rfl
 ·have e : decide (ar c < c.2.1.length) = false:=decide_eq_false (Nat.lt_irrefl _)
  simp only [lt_cast,e,cond_false]
end

end Go.Ve.D


namespace Go.Ve.D
open Go Go.Ve
noncomputable section

theorem p117 {c : Cat} {u : Int} {ob am : List (List Int)} {n : Nat} (h : MH c u ob am n) : G117 (mkM c u ob am) = some (exB' c am):=by
 obtain ⟨a1,a2,a3,a4,a5,a6,a7,a8⟩:=h.sh.hd
 have hm : ar c≤40:=a2
 have la:=h.ha.len
 have hob : c.2.1.length≤1048576:=by omega
 have out_eq : ∀ (a : Nat) (q : Nat→Bool),((List.range (ar c)).all fun b=>!mt c a b || q b) = (List.range (outL c (tT c a)).length).all fun i=>q ((outL c (tT c a)).getD i 0).toNat:=by
  intro a q
  rw [out_all (q:=fun b=>q b.toNat)]
  refine all_congr' fun b _=>?_
  rw [Int.toNat_natCast]
  congr 2
  exact decide_eq_decide.2 eq_comm
 unfold G117 mkM exB'
 simp only [Prod.eta]
 refine chkT (n:=ar c) (p:=fun f=>(List.range (ar c)).all (exF c am f)) (bad:=badB) (id:=0) (Post:=fun b (o : Option Bool)=>o = some b) (fun f hf=>?_) ?_ rfl (fun r hr=>by rw [hr])
 ·have hf2 : f < c.2.1.length:=hf
  have hf3 : f < c.2.2.1.length:=by omega
  have e0 : G148 (c,c.2.2.1.getD f 0) = some (outL c (tT c f)):=p148 hob _
  have hlf : (outL c (tT c f)).length≤ar c:=fm_len
  simp only [lt_cast,hf2,decide_true,cond_true,in_cast hf3,e0,Option.bind_some,and_self,if_true,Int.toNat_natCast]
  have es : (List.range (ar c)).all (exF c am f) = (List.range (outL c (tT c f)).length).all fun i=>(List.range (ar c)).all fun g=>(List.range (ar c)).all (exC c am f ((outL c (tT c f)).getD i 0).toNat g):=
   out_eq f fun k=>(List.range (ar c)).all fun g=>(List.range (ar c)).all (exC c am f k g)
  rw [es]
  refine chkL (n:=(outL c (tT c f)).length) (p:=fun i=>(List.range (ar c)).all fun g=>(List.range (ar c)).all (exC c am f ((outL c (tT c f)).getD i 0).toNat g)) (bad:=badB) (id:=2) (s:=((f + 1 : Nat) : Int)) (fun i hi=>?_) ?_ ?_
  ·obtain ⟨k,hk,hkq,ek⟩ : ∃ k : Nat,k < ar c∧decide (fT c k = tT c f) = true∧(outL c (tT c f)).getD i 0 = (k : Int):=fm_get hi
   have hmf : mt c f k = true:=decide_eq_true (of_decide_eq_true hkq).symm
   have hk2 : k < c.2.1.length:=hk
   simp only [lt_cast,hi,decide_true,cond_true,in_cast hi,and_self,if_true,Int.toNat_natCast,ek]
   refine chkL (n:=ar c) (p:=fun g=>(List.range (ar c)).all (exC c am f k g)) (bad:=lift badB) (id:=4) (s:=((i + 1 : Nat) : Int)) (fun g hg=>?_) ?_ ?_
   ·have hg2 : g < c.2.1.length:=hg
    have hg3 : g < c.2.2.1.length:=by omega
    have e9 : G148 (c,c.2.2.1.getD g 0) = some (outL c (tT c g)):=p148 hob _
    have hlg : (outL c (tT c g)).length≤ar c:=fm_len
    simp only [lt_cast,hg2,decide_true,cond_true,in_cast hg3,e9,Option.bind_some,and_self,if_true,Int.toNat_natCast]
    have es2 : (List.range (ar c)).all (exC c am f k g) = (List.range (outL c (tT c g)).length).all fun j=>decide (cell am (T c f k).toNat (T c g ((outL c (tT c g)).getD j 0).toNat).toNat = T c (cell am f g).toNat (cell am k ((outL c (tT c g)).getD j 0).toNat).toNat):=
     out_eq g fun l=>decide (cell am (T c f k).toNat (T c g l).toNat = T c (cell am f g).toNat (cell am k l).toNat)
    rw [es2]
    refine chkL (n:=(outL c (tT c g)).length) (p:=fun j=>decide (cell am (T c f k).toNat (T c g ((outL c (tT c g)).getD j 0).toNat).toNat = T c (cell am f g).toNat (cell am k ((outL c (tT c g)).getD j 0).toNat).toNat)) (bad:=lift (lift badB)) (id:=6) (s:=((g + 1 : Nat) : Int)) (fun j hj=>?_) ?_ ?_
    ·obtain ⟨l,hl,hlq,el⟩ : ∃ k : Nat,k < ar c∧decide (fT c k = tT c g) = true∧(outL c (tT c g)).getD j 0 = (k : Int):=fm_get hj
     have hmg : mt c g l = true:=decide_eq_true (of_decide_eq_true hlq).symm
     have hl2 : l < c.2.1.length:=hl
     obtain ⟨t1,t2,_⟩:=h.sh.pos f k hf hk hmf
     obtain ⟨t,et⟩ : ∃ t : Nat,T c f k = (t : Int):=⟨(T c f k).toNat,by omega⟩
     have ht : t < ar c:=by show t < c.2.1.length; omega
     obtain ⟨v1,v2,_⟩:=h.sh.pos g l hg hl hmg
     obtain ⟨v,ev⟩ : ∃ t : Nat,T c g l = (t : Int):=⟨(T c g l).toNat,by omega⟩
     have hv : v < ar c:=by show v < c.2.1.length; omega
     obtain ⟨p,hp,ep⟩:=h.ha.val f g hf hg
     obtain ⟨q,hq,eq⟩:=h.ha.val k l hk hl
     have ep' : (am.getD f []).getD g 0 = (p : Int):=ep
     have eq' : (am.getD k []).getD l 0 = (q : Int):=eq
     have w1 : t < am.length:=by omega
     have w2 : v < (am.getD t []).length:=by rw [h.ha.row t ht]; exact hv
     have w3 : f < am.length:=by omega
     have w4 : g < (am.getD f []).length:=by rw [h.ha.row f hf]; exact hg
     have w5 : k < am.length:=by omega
     have w6 : l < (am.getD k []).length:=by rw [h.ha.row k hk]; exact hl
     have x1:=p118 h.sh (f:=(f : Int)) (g:=(k : Int)) (in_cast hf2) (in_cast hk2)
     have x2:=p118 h.sh (f:=(g : Int)) (g:=(l : Int)) (in_cast hg2) (in_cast hl2)
     have x3:=p118 h.sh (f:=(p : Int)) (g:=(q : Int)) (in_cast (show p < c.2.1.length from hp)) (in_cast (show q < c.2.1.length from hq))
     simp only [Int.toNat_natCast] at x1 x2 x3
     simp only [lt_cast,hj,decide_true,cond_true,in_cast hj,el,x1,x2,et,ev,in_cast w1,in_cast w2,in_cast w3,in_cast w4,ep',in_cast w5,in_cast w6,eq',x3,and_self,if_true,Int.toNat_natCast,Option.bind_some]
     rw [wrap_sm (by omega) (by omega),ep,eq]
     simp only [Int.toNat_natCast]
     show inn1 _ _ (decide ((am.getD t []).getD v 0 = T c p q)) _
     cases decide ((am.getD t []).getD v 0 = T c p q) with
     | true=>exact inn1_t rfl
     | false=>exact inn1_f ⟨_,rfl,_,rfl,_,rfl,_,rfl,rfl⟩
    ·simp only [lt_self,cond_false]
    ·show (if 6 = 6 then _ else none) = _
     rw [if_pos rfl,wrap_sm (by omega) (by omega)]; rfl
   ·have e : decide (ar c < c.2.1.length) = false:=decide_eq_false (Nat.lt_irrefl _)
    simp only [lt_cast,e,cond_false]
   ·show (if 4 = 4 then _ else none) = _
    rw [if_pos rfl,wrap_sm (by omega) (by omega)]; rfl
  ·simp only [lt_self,cond_false]
  ·show (if 2 = 2 then _ else none) = _
   rw [if_pos rfl,wrap_sm (by omega) (by omega)]; rfl
 ·have e : decide (ar c < c.2.1.length) = false:=decide_eq_false (Nat.lt_irrefl _)
  simp only [lt_cast,e,cond_false]
end

end Go.Ve.D


namespace Go.Ve.D
open Go Go.Ve
noncomputable section

theorem leN {i : Nat} : ((0 : Int)≤(i : Int)) = True:=eq_true (by omega)
theorem ltN {i n : Nat} (h : i < n) : ((i : Int) < (n : Int)) = True:=eq_true (by omega)
theorem wN {i : Nat} (h : i < 9223372036854775807) : IntKind.wrap .i64 ((i : Int) + 1) = ((i + 1 : Nat) : Int):=by
 rw [wrap_sm (by omega) (by omega)]; rfl
theorem and_iff3 {a b c : Bool} (h : a = true ↔ b = true∧c = true) : a = (b && c):=by
 rw [Bool.eq_iff_iff,Bool.and_eq_true]; exact h
theorem nat_of {a : Int} {n : Nat} (h : 0≤a∧a < (n : Int)) : ∃ k : Nat,a = (k : Int)∧k < n:=⟨a.toNat,by omega,by omega⟩

theorem p115 {c : Cat} (h : Sh c) {f : Nat} (hf : f < ar c) : G115 (c,(f : Int)) = some (isId c f):=by
 obtain ⟨a1,a2,a3,a4,a5,a6,a7,a8⟩:=h.hd
 have hf2 : f < c.2.1.length:=hf
 obtain ⟨x,ex,hx⟩:=nat_of (a:=c.2.1.getD f 0) (n:=c.2.2.2.1.length) (by have:=h.fr f hf; omega)
 unfold G115 isId fT
 simp (disch:=omega) only [Int.toNat_natCast,ex,leN,ltN,and_self,if_true]
def dbC (c : Cat) (ob am : List (List Int)) (f g : Nat) : Bool:=enC c ob am f g && !(isId c f && (isId c g && !isId c (cell am f g).toNat))
theorem dbs {c : Cat} {u : Int} {ob am : List (List Int)} {n : Nat} (h : MH c u ob am n) : ((List.range (ar c)).all fun f=>(List.range (ar c)).all (dbC c ob am f)) = (endsB c ob am && idsM c ob am):=by
 have hn:=h.hn
 refine and_iff3 ⟨fun H=>?_,fun H=>?_⟩
 ·have K : ∀ f g,f < ar c→g < ar c→dbC c ob am f g = true:=fun f g hf hg=>List.all_eq_true.1 (List.all_eq_true.1 H f (List.mem_range.2 hf)) g (List.mem_range.2 hg)
  have E : ∀ f g,f < ar c→g < ar c→enC c ob am f g = true:=fun f g hf hg=>by
   have:=K f g hf hg
   unfold dbC at this
   rw [Bool.and_eq_true] at this
   exact this.1
  refine ⟨List.all_eq_true.2 fun f hf=>List.all_eq_true.2 fun g hg=>E f g (List.mem_range.1 hf) (List.mem_range.1 hg),?_⟩
  refine List.all_eq_true.2 fun x hx=>List.all_eq_true.2 fun y hy=>?_
  rw [List.mem_range] at hx hy
  obtain ⟨ix,hix,eix,fx,tx⟩:=idX h.sh h.cat (x:=x) (by omega)
  obtain ⟨iy,hiy,eiy,fy,ty⟩:=idX h.sh h.cat (x:=y) (by omega)
  obtain ⟨z,hz,ez⟩:=h.ha.val ix iy hix hiy
  have k:=K ix iy hix hiy
  unfold dbC at k
  have i1 : isId c ix = true:=by
   unfold isId; rw [fx,Int.toNat_natCast]; exact decide_eq_true eix
  have i2 : isId c iy = true:=by
   unfold isId; rw [fy,Int.toNat_natCast]; exact decide_eq_true eiy
  rw [i1,i2,ez,Int.toNat_natCast,Bool.and_eq_true] at k
  obtain ⟨k1,k2⟩:=k
  have i3 : isId c z = true:=by simpa using k2
  unfold enC at k1
  rw [ez,Int.toNat_natCast,fx,fy,Int.toNat_natCast,Int.toNat_natCast,Bool.and_eq_true,decide_eq_true_eq] at k1
  unfold isId at i3
  rw [k1.1] at i3
  unfold idM idA
  rw [eix,eiy,Int.toNat_natCast,Int.toNat_natCast,ez]
  exact decide_eq_true (of_decide_eq_true i3).symm
 ·obtain ⟨H1,H2⟩:=H
  refine List.all_eq_true.2 fun f hf=>List.all_eq_true.2 fun g hg=>?_
  rw [List.mem_range] at hf hg
  have e:=List.all_eq_true.1 (List.all_eq_true.1 H1 f (List.mem_range.2 hf)) g (List.mem_range.2 hg)
  unfold dbC
  rw [e,Bool.true_and]
  cases i1 : isId c f with
  | false=>rfl
  | true=>
  cases i2 : isId c g with
  | false=>rfl
  | true=>
  obtain ⟨x,ex,hx⟩:=nat_of (n:=n) (by rw [← hn]; exact h.sh.fr f hf)
  obtain ⟨y,ey,hy⟩:=nat_of (n:=n) (by rw [← hn]; exact h.sh.fr g hg)
  have q:=List.all_eq_true.1 (List.all_eq_true.1 H2 x (List.mem_range.2 (by omega))) y (List.mem_range.2 (by omega))
  have ex' : fT c f = (x : Int):=ex
  have ey' : fT c g = (y : Int):=ey
  unfold isId at i1 i2
  rw [ex',Int.toNat_natCast,decide_eq_true_eq] at i1
  rw [ey',Int.toNat_natCast,decide_eq_true_eq] at i2
  unfold enC at e
  rw [ex',ey',Int.toNat_natCast,Int.toNat_natCast,Bool.and_eq_true,decide_eq_true_eq] at e
  unfold idM idA at q
  rw [i1,i2,Int.toNat_natCast,Int.toNat_natCast,decide_eq_true_eq] at q
  obtain ⟨z,hz,ez⟩:=h.ha.val f g hf hg
  have : isId c (cell am f g).toNat = true:=by
   unfold isId
   rw [e.1,← q]
   exact decide_eq_true (by omega)
  rw [this]; rfl

theorem p68 {c : Cat} {u : Int} {ob am : List (List Int)} (ok : okM8 c ob am) : G68 (mkM c u ob am) = some (isMon c u ob am):=by
 obtain ⟨oc,⟨o1,o2⟩,⟨o3,o4⟩⟩:=ok
 unfold isMon
 cases hcat : isCat c with
 | false=>
  have hh : headM c u ob am = false:=by unfold headM; rw [hcat]; rfl
  unfold G68 mkM
  simp only [Prod.eta,p111 oc,hcat,hh,Option.bind_some,Bool.not_false,Bool.false_and,cond_true]
 | true=>
 obtain ⟨a1,a2,a3,a4,a5,a6,a7,a8⟩:=(isCat_sh hcat).hd
 have hm : ar c≤40:=a2
 have e62:=p62' u c.1 ⟨a1.1,by omega⟩
 have e1:=p112 (n:=c.1) ⟨a1.1,by omega⟩ o1 o2
 have e2:=p112 (n:=((c.2.1.length : Nat) : Int)) ⟨by omega,by omega⟩ o3 o4
 cases hh : headM c u ob am with
 | false=>
  unfold G68 mkM
  simp only [Prod.eta,p111 oc,e62,e1,e2,p113,hcat,Option.bind_some]
  unfold headM ar at hh
  rw [hcat] at hh
  cases h2 : inn c.1 u with
  | false=>rfl
  | true=>
  cases h3 : tbl ob c.1 with
  | false=>rfl
  | true=>
  cases h4 : tbl am ((c.2.1.length : Nat) : Int) with
  | false=>rfl
  | true=>rw [h2,h3,h4] at hh; cases hh
 | true=>
 obtain ⟨n,h⟩:=mh_of hh
 have hh':=hh
 unfold headM at hh'
 simp only [Bool.and_eq_true] at hh'
 obtain ⟨⟨_,h2⟩,h3,h4⟩:=hh'
 have h4 : tbl am ((c.2.1.length : Nat) : Int) = true:=h4
 have hn:=h.hn
 have lo:=h.ho.len
 have la:=h.ha.len
 obtain ⟨un,eu,hun⟩:=nat_of (n:=n) (by rw [← hn]; exact h.uin)
 subst eu
 have hul : un < c.2.2.2.1.length:=by omega
 obtain ⟨iu,hiu,eiu,_,_⟩:=idX h.sh h.cat (x:=un) (by omega)
 have e117:=p117 h
 unfold mkM at e117
 have e116:=p116 h.ho hun (by omega)
 have e116':=p116 h.ha hiu (by omega)
 have eid : idA c un = iu:=by unfold idA; rw [eiu,Int.toNat_natCast]
 rw [Int.toNat_natCast,eid,Bool.true_and]
 have sh : ((endsB c ob am && whole ob un) && whole am iu && (idsM c ob am && exB' c am)) = ((endsB c ob am && idsM c ob am) && ((whole ob un && whole am iu) && exB' c am)):=by
  cases endsB c ob am <;> cases whole ob un <;> cases whole am iu <;> cases idsM c ob am <;> rfl
 rw [sh,← dbs h]
 unfold G68 mkM
 simp only [Prod.eta,p111 oc,e62,e1,e2,p113,hcat,h2,h3,h4,Option.bind_some,Bool.not_true,cond_false]
 rw [← la]
 refine chkT (n:=am.length) (p:=fun f=>(List.range am.length).all (dbC c ob am f)) (bad:=badB) (id:=0) (Post:=fun b (o : Option Bool)=>o = some (b && ((whole ob un && whole am iu) && exB' c am))) (fun f hf=>?_) ?_ ?_ (fun r hr=>by rw [hr]; rfl)
 ·have hf' : f < ar c:=by omega
  have hfr:=h.ha.row f hf'
  simp only [lt_cast,hf,decide_true,cond_true,in_cast hf,and_self,if_true,Int.toNat_natCast]
  refine chkL (n:=am.length) (p:=dbC c ob am f) (bad:=badB) (id:=2) (s:=((f + 1 : Nat) : Int)) (fun g hg=>?_) ?_ ?_
  ·have hg' : g < ar c:=by omega
   have hac : ar c = c.2.1.length:=rfl
   obtain ⟨z,hz,ez⟩:=h.ha.val f g hf' hg'
   have ez' : (am.getD f []).getD g 0 = (z : Int):=ez
   have e114:=p114 (c:=c) (a:=(z : Int)) (by omega) (by omega)
   obtain ⟨f1,ef1,hf1⟩:=nat_of (n:=n) (by rw [← hn]; exact h.sh.fr f hf')
   obtain ⟨g1,eg1,hg1⟩:=nat_of (n:=n) (by rw [← hn]; exact h.sh.fr g hg')
   obtain ⟨f2,ef2,hf2⟩:=nat_of (n:=n) (by rw [← hn]; exact h.sh.to f hf')
   obtain ⟨g2,eg2,hg2⟩:=nat_of (n:=n) (by rw [← hn]; exact h.sh.to g hg')
   have r1:=h.ho.row f1 hf1
   have r2:=h.ho.row f2 hf2
   simp (disch:=omega) only [decide_true,cond_true,leN,ltN,and_self,if_true,Int.toNat_natCast,ez',e114,ef1,eg1,ef2,eg2,Option.bind_some,p115 h.sh,wN]
   unfold dbC enC fT tT
   rw [ez,ef1,eg1,ef2,eg2]
   simp only [Int.toNat_natCast]
   show inn1 _ _ ((decide (c.2.1.getD z 0 = (ob.getD f1 []).getD g1 0) && decide (c.2.2.1.getD z 0 = (ob.getD f2 []).getD g2 0)) && _) _
   cases decide (c.2.1.getD z 0 = (ob.getD f1 []).getD g1 0) with
   | false=>exact inn1_bad rfl rfl
   | true=>
   cases decide (c.2.2.1.getD z 0 = (ob.getD f2 []).getD g2 0) with
   | false=>exact inn1_bad rfl rfl
   | true=>
   cases isId c f with
   | false=>exact inn1_t rfl
   | true=>
   cases isId c g with
   | false=>exact inn1_t rfl
   | true=>
   cases isId c z with
   | false=>exact inn1_bad rfl rfl
   | true=>exact inn1_t rfl
  ·have e : decide (((am.length : Nat) : Int) < (((am.getD f []).length : Nat) : Int)) = false:=decide_eq_false (by omega)
   simp only [e,cond_false]
  ·show (if 2 = 2 then _ else none) = _
   rw [if_pos rfl,wN (by omega)]
 ·simp only [lt_self,cond_false]
 ·show (if 0 = 0 then _ else none) = _
  rw [if_pos rfl]
  simp (disch:=omega) only [e116,eiu,e116',leN,ltN,and_self,if_true,Int.toNat_natCast,Option.bind_some]
  cases whole ob un with
  | false=>rfl
  | true=>
  cases whole am iu with
  | false=>rfl
  | true=>
  simp only [cond_true,Option.bind_some,Bool.true_and]
  rw [e117]; rfl
end

end Go.Ve.D

