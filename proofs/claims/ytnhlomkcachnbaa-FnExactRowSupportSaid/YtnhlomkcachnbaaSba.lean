/- Set functors: what makes them. -/
import Derived.Test.YtnhlomkcachnbaaLa
namespace Go.Ve.D
open Go Go.Ve

theorem chk2 {R S : Type} {F : Int→Option (LO Int R)} {n : Nat} {p : Nat→Bool} {Q : R→Prop} {o : LO Int R} {k : LO Int R→Option S} {Post : Bool→Option S→Prop}
  (h1 : ∀ i,i < n→(p i = true→F (i : Int) = some (.next ((i + 1 : Nat) : Int)))∧(p i = false→∃ r,F (i : Int) = some (.ret r)∧Q r)) (h2 : F (n : Int) = some o) (ho : ∀ y,o≠.next y)
  (hA : Post true (k o)) (hB : ∀ r,Q r→Post false (k (.ret r))) : Post ((List.range n).all p) (Option.bind (tloop F (0 : Int)) k):=by
 refine chk_bind (st:=fun i : Nat=>(i : Int)) (p:=p) (Q:=Q) (o:=o) (Post:=fun x=>Post ((List.range n).all p) x) h1 h2 ho (fun hall=>?_) (fun hall r hr=>?_)
 ·rw [hall]; exact hA
 ·rw [hall]; exact hB r hr

def inn1 {R : Type} (bad : R→Prop) (s : Int) (p : Bool) (o : Option (LO Int R)) : Prop:=(p = true→o = some (.next s))∧(p = false→∃ r,o = some (.ret r)∧bad r)
def lift {R : Type} (bad : R→Prop) (r : LO Int R) : Prop:=∃ r',r = .ret r'∧bad r'
theorem chkL {R : Type} {bad : R→Prop} {F : Int→Option (LO Int (LO Int R))} {n : Nat} {p : Nat→Bool} {id : Nat} {s : Int} {g : Nat→Int→Option (LO Int R)}
  (h1 : ∀ i,i < n→inn1 (lift bad) ((i + 1 : Nat) : Int) (p i) (F (i : Int))) (h2 : F (n : Int) = some (.brk id (n : Int))) (hk : g id (n : Int) = some (.next s)) :
  inn1 bad s ((List.range n).all p) (Option.bind (tloop F (0 : Int)) (LO.fin g)):=by
 refine chk_bind (st:=fun i : Nat=>(i : Int)) (p:=p) (Q:=lift bad) (o:=.brk id (n : Int)) (Post:=fun x=>inn1 bad s ((List.range n).all p) x) h1 h2 (fun y=>by simp) (fun hall=>?_) (fun hall r hr=>?_)
 ·rw [hall]
  exact ⟨fun _=>hk,(fun h=>by cases h)⟩
 ·rw [hall]
  obtain ⟨r',rfl,hb⟩:=hr
  exact ⟨(fun h=>by cases h),fun _=>⟨r',rfl,hb⟩⟩
theorem chkT {R : Type} {bad : R→Prop} {F : Int→Option (LO Int R)} {n : Nat} {p : Nat→Bool} {id : Nat} {g : Nat→Int→Option R} {Post : Bool→Option R→Prop}
  (h1 : ∀ i,i < n→inn1 bad ((i + 1 : Nat) : Int) (p i) (F (i : Int))) (h2 : F (n : Int) = some (.brk id (n : Int))) (hA : Post true (g id (n : Int))) (hB : ∀ r,bad r→Post false (some r)) :
  Post ((List.range n).all p) (Option.bind (tloop F (0 : Int)) (LO.fin g)):=
 chk2 (Q:=bad) h1 h2 (fun y=>by simp) hA fun r hr=>hB r hr
theorem inn1_t {R : Type} {bad : R→Prop} {s : Int} {o : Option (LO Int R)} (h : o = some (.next s)) : inn1 bad s true o:=⟨fun _=>h,(fun h=>by cases h)⟩
theorem inn1_f {R : Type} {bad : R→Prop} {s : Int} {o : Option (LO Int R)} (h : ∃ r,o = some (.ret r)∧bad r) : inn1 bad s false o:=⟨(fun h=>by cases h),fun _=>h⟩

abbrev SF:=Int × List Int × List Int × List Int × List (List Int) × List Int × List (List Int)
def shS (f : SF) : Cat:=(f.1,(f.2.1,(f.2.2.1,(f.2.2.2.1,f.2.2.2.2.1))))
def szF (f : SF) : List Int:=f.2.2.2.2.2.1
def acF (f : SF) : List (List Int):=f.2.2.2.2.2.2
def okS (f : SF) : Prop:=okC (shS f)∧(szF f).length≤1048576∧(acF f).length≤1048576∧∀ y ∈ acF f,y.length≤1048576
def act (f : SF) (a : Nat) : List Int:=(acF f).getD a []
def sz (f : SF) (x : Int) : Int:=(szF f).getD x.toNat 0
def actOK (f : SF) (a : Nat) : Bool:=decide (((act f a).length : Int) = sz f (fT (shS f) a)) && wi (sz f (tT (shS f) a)) (act f a)
def headS (f : SF) : Bool:=isCat (shS f) && (decide (((szF f).length : Int) = f.1) && (decide (((acF f).length : Int) = (ar (shS f) : Int)) && wi 17 (szF f)))
def shapeS (f : SF) : Bool:=headS f && (List.range (acF f).length).all (actOK f)
theorem wi17 (x : List Int) : wi 17 x = (List.range x.length).all fun i=>decide (0≤x.getD i 0) && decide (x.getD i 0≤16):=by
 rw [all_idx (0 : Int) (fun a=>decide (0≤a) && decide (a≤16)) x]
 unfold wi
 congr 1
 funext a
 unfold inn
 rw [Bool.eq_iff_iff]
 simp only [Bool.and_eq_true,decide_eq_true_eq]; omega
theorem sz_in {f : SF} (h1 : ((szF f).length : Int) = f.1) (hs : wi 17 (szF f) = true) {x : Int} (hx : 0≤x∧x < f.1) : 0≤sz f x∧sz f x≤16:=by
 obtain ⟨g1,g2⟩:=wi_get hs (i:=x.toNat) (by omega)
 exact ⟨g1,by unfold sz; omega⟩
theorem act_len {f : SF} (h : okS f) {a : Nat} (ha : a < (acF f).length) : (act f a).length≤1048576:=h.2.2.2 _ (by
 unfold act
 rw [List.getD_eq_getElem?_getD,List.getElem?_eq_getElem ha]
 exact List.getElem_mem ha)

theorem p164 {f : SF} (h : okS f) : G164 f = some (shapeS f):=by
 have hh:=h
 obtain ⟨hc,hl,hal,hac⟩:=hh
 unfold G164 shapeS headS
 have e1 : (f.1,(f.2.1,(f.2.2.1,(f.2.2.2.1,f.2.2.2.2.1)))) = shS f:=rfl
 simp only [e1,p82 hc,Option.bind_some]
 cases hcat : isCat (shS f) with
 | false=>rfl
 | true=>
 have hsh:=isCat_sh hcat
 have hd:=hsh.hd
 obtain ⟨a1,a2,a3,a4,a5,a6,a7,a8⟩:=hd
 simp only [Bool.not_true,cond_false,Bool.true_and,Option.bind_some]
 have e2 : decide (((f.2.2.2.2.2.1.length : Nat) : Int) = f.1) = decide (((szF f).length : Int) = f.1):=rfl
 rw [e2]
 cases h1 : decide (((szF f).length : Int) = f.1) with
 | false=>rfl
 | true=>
 have h1:=of_decide_eq_true h1
 simp only [Bool.not_true,cond_false,Bool.true_and,Option.bind_some]
 have e3 : decide (((f.2.2.2.2.2.2.length : Nat) : Int) = ((f.2.1.length : Nat) : Int)) = decide (((acF f).length : Int) = (ar (shS f) : Int)):=rfl
 rw [e3]
 cases h2 : decide (((acF f).length : Int) = (ar (shS f) : Int)) with
 | false=>rfl
 | true=>
 have h2:=of_decide_eq_true h2
 simp only [Bool.not_true,cond_false,Bool.true_and,Option.bind_some]
 rw [wi17]
 refine chkT (n:=(szF f).length) (p:=fun i=>decide (0≤(szF f).getD i 0) && decide ((szF f).getD i 0≤16)) (bad:=fun r : Bool=>r = false) (id:=0) (Post:=fun b (o : Option Bool)=>o = some (b && (List.range (acF f).length).all (actOK f))) (fun i hi=>?_) ?_ ?_ (fun r hr=>by rw [hr]; rfl)
 ·have hi' : i < f.2.2.2.2.2.1.length:=hi
  simp only [lt_cast,hi',decide_true,cond_true,in_cast hi',and_self,if_true,Int.toNat_natCast,p184,Option.bind_some]
  rw [wrap_sm (by omega) (by omega)]
  show inn1 _ _ (decide (0≤f.2.2.2.2.2.1.getD i 0) && decide (f.2.2.2.2.2.1.getD i 0≤16)) _
  cases decide (0≤f.2.2.2.2.2.1.getD i 0) && decide (f.2.2.2.2.2.1.getD i 0≤16) with
  | true=>exact inn1_t rfl
  | false=>exact inn1_f ⟨_,rfl,rfl⟩
 ·have e : decide ((((szF f).length : Nat) : Int) < ((f.2.2.2.2.2.1.length : Nat) : Int)) = false:=by rw [lt_cast]; exact decide_eq_false (Nat.lt_irrefl _)
  simp only [e,cond_false]
 ·show (if 0 = 0 then _ else none) = _
  rw [if_pos rfl,Bool.true_and]
  refine chkT (n:=(acF f).length) (p:=actOK f) (bad:=fun r : Bool=>r = false) (id:=2) (Post:=fun b (o : Option Bool)=>o = some b) (fun i hi=>?_) ?_ rfl (fun r hr=>by rw [hr])
  ·have hi' : i < f.2.2.2.2.2.2.length:=hi
   have him : i < ar (shS f):=by omega
   have hi2 : i < f.2.1.length:=him
   have hi3 : i < f.2.2.1.length:=by
    have : f.2.2.1.length = f.2.1.length:=a3
    omega
   obtain ⟨b1,b2⟩:=hsh.fr i him
   obtain ⟨b3,b4⟩:=hsh.to i him
   have g1 : (0 : Int)≤f.2.1.getD i 0∧f.2.1.getD i 0 < ((f.2.2.2.2.2.1.length : Nat) : Int):=⟨b1,by rw [show ((f.2.2.2.2.2.1.length : Nat) : Int) = f.1 from h1]; exact b2⟩
   have g2 : (0 : Int)≤f.2.2.1.getD i 0∧f.2.2.1.getD i 0 < ((f.2.2.2.2.2.1.length : Nat) : Int):=⟨b3,by rw [show ((f.2.2.2.2.2.1.length : Nat) : Int) = f.1 from h1]; exact b4⟩
   simp only [lt_cast,hi',decide_true,cond_true,in_cast hi',in_cast hi2,in_cast hi3,g1,g2,and_self,if_true,Int.toNat_natCast]
   rw [wrap_sm (by omega) (by omega)]
   have e4 : G120 (f.2.2.2.2.2.1.getD (f.2.2.1.getD i 0).toNat 0,f.2.2.2.2.2.2.getD i []) = some (wi (sz f (tT (shS f) i)) (act f i)):=p120 (act_len h hi)
   rw [e4]
   show inn1 _ _ (decide ((((f.2.2.2.2.2.2.getD i []).length : Nat) : Int) = f.2.2.2.2.2.1.getD (f.2.1.getD i 0).toNat 0) && wi (sz f (tT (shS f) i)) (act f i)) _
   cases decide ((((f.2.2.2.2.2.2.getD i []).length : Nat) : Int) = f.2.2.2.2.2.1.getD (f.2.1.getD i 0).toNat 0) with
   | false=>exact inn1_f ⟨_,rfl,rfl⟩
   | true=>
    rw [Bool.true_and]
    cases wi (sz f (tT (shS f) i)) (act f i) with
    | true=>exact inn1_t rfl
    | false=>exact inn1_f ⟨_,rfl,rfl⟩
  ·have e : decide ((((acF f).length : Nat) : Int) < ((f.2.2.2.2.2.2.length : Nat) : Int)) = false:=by rw [lt_cast]; exact decide_eq_false (Nat.lt_irrefl _)
   simp only [e,cond_false]

theorem p228 {x : List Int} {k n : Int} (hn : 0≤n∧n≤9223372036854775807) (hx : x.length≤1048576) : G228 (x,(k,n)) = some (decide ((x.length : Int) = k) && wi n x):=by
 unfold G228
 simp only [p127 hn hx,Option.bind_some]
 cases decide (((x.length : Nat) : Int) = k) <;> rfl
theorem p172 {f : SF} (h : okS f) : G172 f = some (shapeS f):=by
 have hh:=h
 obtain ⟨hc,hl,hal,hac⟩:=hh
 unfold G172 shapeS headS
 have e1 : (f.1,(f.2.1,(f.2.2.1,(f.2.2.2.1,f.2.2.2.2.1)))) = shS f:=rfl
 have ew : G127 (f.2.2.2.2.2.1,(17 : Int)) = some (wi 17 (szF f)):=p127 (by omega) hl
 simp only [e1,p89 hc,ew,p159,Option.bind_some]
 cases hcat : isCat (shS f) with
 | false=>rfl
 | true=>
 have hsh:=isCat_sh hcat
 have hd:=hsh.hd
 obtain ⟨a1,a2,a3,a4,a5,a6,a7,a8⟩:=hd
 simp only [Bool.not_true,cond_false,Bool.true_and,Option.bind_some]
 have e2 : decide (((f.2.2.2.2.2.1.length : Nat) : Int) = f.1) = decide (((szF f).length : Int) = f.1):=rfl
 rw [e2]
 cases h1 : decide (((szF f).length : Int) = f.1) with
 | false=>rfl
 | true=>
 have h1:=of_decide_eq_true h1
 simp only [Bool.not_true,cond_false,Bool.true_and,Option.bind_some]
 have e3 : decide (((f.2.2.2.2.2.2.length : Nat) : Int) = (((shS f).2.1.length : Nat) : Int)) = decide (((acF f).length : Int) = (ar (shS f) : Int)):=rfl
 rw [e3]
 cases hw : wi 17 (szF f) with
 | false=>cases decide (((acF f).length : Int) = (ar (shS f) : Int)) <;> rfl
 | true=>
 simp only [Bool.not_true,cond_false,Option.bind_some]
 cases h2 : decide (((acF f).length : Int) = (ar (shS f) : Int)) with
 | false=>rfl
 | true=>
 have h2:=of_decide_eq_true h2
 simp only [Bool.not_true,cond_false,Bool.true_and,Option.bind_some]
 refine chkT (n:=(acF f).length) (p:=actOK f) (bad:=fun r : Bool=>r = false) (id:=0) (Post:=fun b (o : Option Bool)=>o = some b) (fun i hi=>?_) ?_ rfl (fun r hr=>by rw [hr])
 ·have hi' : i < f.2.2.2.2.2.2.length:=hi
  have him : i < ar (shS f):=by omega
  have hi2 : i < f.2.1.length:=him
  have hi3 : i < f.2.2.1.length:=by
   have : f.2.2.1.length = f.2.1.length:=a3
   omega
  obtain ⟨b1,b2⟩:=hsh.fr i him
  obtain ⟨b3,b4⟩:=hsh.to i him
  have g1 : (0 : Int)≤f.2.1.getD i 0∧f.2.1.getD i 0 < ((f.2.2.2.2.2.1.length : Nat) : Int):=⟨b1,by rw [show ((f.2.2.2.2.2.1.length : Nat) : Int) = f.1 from h1]; exact b2⟩
  have g2 : (0 : Int)≤f.2.2.1.getD i 0∧f.2.2.1.getD i 0 < ((f.2.2.2.2.2.1.length : Nat) : Int):=⟨b3,by rw [show ((f.2.2.2.2.2.1.length : Nat) : Int) = f.1 from h1]; exact b4⟩
  simp only [lt_cast,hi',decide_true,cond_true,in_cast hi',in_cast hi2,in_cast hi3,g1,g2,and_self,if_true,Int.toNat_natCast]
  rw [wrap_sm (by omega) (by omega)]
  obtain ⟨z1,z2⟩:=sz_in h1 hw (x:=tT (shS f) i) ⟨b3,b4⟩
  have e4 : G228 (f.2.2.2.2.2.2.getD i [],(f.2.2.2.2.2.1.getD (f.2.1.getD i 0).toNat 0,f.2.2.2.2.2.1.getD (f.2.2.1.getD i 0).toNat 0)) = some (actOK f i):=p228 (x:=act f i) (k:=sz f (fT (shS f) i)) (n:=sz f (tT (shS f) i)) ⟨z1,by omega⟩ (act_len h hi)
  rw [e4,Option.bind_some]
  cases actOK f i with
  | true=>exact inn1_t rfl
  | false=>exact inn1_f ⟨_,rfl,rfl⟩
 ·have e : decide ((((acF f).length : Nat) : Int) < ((f.2.2.2.2.2.2.length : Nat) : Int)) = false:=by rw [lt_cast]; exact decide_eq_false (Nat.lt_irrefl _)
  simp only [e,cond_false]

structure FS (f : SF) : Prop where
 cat : isCat (shS f) = true
 sh : Sh (shS f)
 sp : shape (shS f) = true
 l1 : ((szF f).length : Int) = f.1
 l2 : (acF f).length = ar (shS f)
 w : wi 17 (szF f) = true
 al : ∀ a,a < ar (shS f)→((act f a).length : Int) = sz f (fT (shS f) a)
 aw : ∀ a,a < ar (shS f)→wi (sz f (tT (shS f) a)) (act f a) = true
theorem fs_of {f : SF} (h : shapeS f = true) : FS f:=by
 unfold shapeS headS at h
 simp only [Bool.and_eq_true,decide_eq_true_eq] at h
 obtain ⟨⟨h1,h2,h3,h4⟩,h5⟩:=h
 have h3 : (acF f).length = ar (shS f):=by omega
 have ha : ∀ a,a < ar (shS f)→actOK f a = true:=fun a ha=>List.all_eq_true.1 h5 a (List.mem_range.2 (by omega))
 refine ⟨h1,isCat_sh h1,?_,h2,h3,h4,fun a hl=>?_,fun a hl=>?_⟩
 ·unfold isCat at h1
  rw [Bool.and_eq_true] at h1
  exact h1.1
 ·have:=ha a hl
  unfold actOK at this
  rw [Bool.and_eq_true,decide_eq_true_eq] at this
  exact this.1
 ·have:=ha a hl
  unfold actOK at this
  rw [Bool.and_eq_true] at this
  exact this.2
theorem FS.szi {f : SF} (h : FS f) {x : Int} (hx : 0≤x∧x < f.1) : 0≤sz f x∧sz f x≤16:=sz_in h.l1 h.w hx
def idAt (f : SF) (x : Nat) : Int:=f.2.2.2.1.getD x 0
theorem FS.ida {f : SF} (h : FS f) {x : Nat} (hx : x < f.2.2.2.1.length) : ∃ a : Nat,a < ar (shS f)∧idAt f x = (a : Int)∧fT (shS f) a = (x : Int):=by
 have hs:=h.sp
 unfold shape at hs
 rw [Bool.and_eq_true,Bool.and_eq_true] at hs
 have hi:=List.all_eq_true.1 hs.2.1 x (List.mem_range.2 hx)
 unfold idOK at hi
 rw [Bool.and_eq_true,decide_eq_true_eq,decide_eq_true_eq] at hi
 obtain ⟨a1,a2,a3,a4,a5,a6,a7,a8⟩:=h.sh.hd
 obtain ⟨g1,g2⟩:=wi_get a8 hx
 have g1 : 0≤idAt f x:=g1
 have g2 : idAt f x < (ar (shS f) : Int):=g2
 refine ⟨(idAt f x).toNat,by omega,by omega,hi.1⟩
def idOne (f : SF) (x e : Nat) : Bool:=decide ((act f (idAt f x).toNat).getD e 0 = (e : Int))
def idS (f : SF) : Bool:=(List.range f.2.2.2.1.length).all fun x=>(List.range (sz f (x : Int)).toNat).all (idOne f x)
def coOne (f : SF) (a b e : Nat) : Bool:=decide ((act f (T (shS f) a b).toNat).getD e 0 = (act f b).getD ((act f a).getD e 0).toNat 0)
def coB (f : SF) (a b : Nat) : Bool:=!mt (shS f) a b || (List.range (sz f (fT (shS f) a)).toNat).all (coOne f a b)
def coS (f : SF) : Bool:=(List.range (ar (shS f))).all fun a=>(List.range (ar (shS f))).all (coB f a)
abbrev R4:=Int × Int × Int × Int
def bad4 (r : R4) : Prop:=decide (r.1 = 0) = false
theorem FS.el {f : SF} (h : FS f) {a b e : Nat} (ha : a < ar (shS f)) (hb : b < ar (shS f)) (hm : mt (shS f) a b = true) (he : e < (act f a).length) : ∃ t : Nat,t < ar (shS f)∧T (shS f) a b = (t : Int)∧e < (act f t).length∧∃ d : Nat,(act f a).getD e 0 = (d : Int)∧d < (act f b).length:=by
 obtain ⟨t1,t2,t3,t4⟩:=h.sh.pos a b ha hb hm
 have t2 : T (shS f) a b < (ar (shS f) : Int):=t2
 have ht : (T (shS f) a b).toNat < ar (shS f):=by omega
 refine ⟨(T (shS f) a b).toNat,ht,by omega,?_,?_⟩
 ·have e1:=h.al a ha
  have e2:=h.al _ ht
  have e3 : fT (shS f) (T (shS f) a b).toNat = fT (shS f) a:=t3
  rw [e3] at e2
  omega
 ·obtain ⟨g1,g2⟩:=wi_get (h.aw a ha) he
  have e1:=h.al b hb
  have e2 : tT (shS f) a = fT (shS f) b:=of_decide_eq_true hm
  rw [e2] at g2
  exact ⟨((act f a).getD e 0).toNat,by omega,by omega⟩

theorem p165 {f : SF} (h : FS f) : ∃ r,G165 f = some r∧decide (r.1 = 0) = (idS f && coS f):=by
 obtain ⟨a1,a2,a3,a4,a5,a6,a7,a8⟩:=h.sh.hd
 have l1 : ((f.2.2.2.2.2.1.length : Nat) : Int) = f.1:=h.l1
 have l2 : f.2.2.2.2.2.2.length = ar (shS f):=h.l2
 have c4 : ((f.2.2.2.1.length : Nat) : Int) = f.1:=a7
 have hf1 : f.1≤8:=a1.2
 have hm : ar (shS f)≤40:=a2
 unfold G165 idS
 refine chkT (n:=f.2.2.2.1.length) (p:=fun x=>(List.range (sz f (x : Int)).toNat).all (idOne f x)) (bad:=bad4) (id:=0) (Post:=fun b (o : Option R4)=>∃ r,o = some r∧decide (r.1 = 0) = (b && coS f)) (fun x hx=>?_) ?_ ?_ (fun r hr=>⟨r,rfl,hr⟩)
 ·have hxf : decide ((x : Int) < f.1) = true:=decide_eq_true (by omega)
  simp only [hxf,cond_true]
  have hz:=h.szi (x:=(x : Int)) ⟨by omega,by omega⟩
  obtain ⟨n,hn⟩ : ∃ n : Nat,sz f (x : Int) = (n : Int):=⟨(sz f (x : Int)).toNat,by omega⟩
  rw [hn,Int.toNat_natCast]
  refine chkL (n:=n) (p:=idOne f x) (bad:=bad4) (id:=2) (s:=((x + 1 : Nat) : Int)) (fun e he=>?_) ?_ ?_
  ·obtain ⟨a,ha,ea,ef⟩:=h.ida hx
   have hxl : x < f.2.2.2.2.2.1.length:=by omega
   have ea' : f.2.2.2.1.getD x 0 = (a : Int):=ea
   have hal : a < f.2.2.2.2.2.2.length:=by omega
   have hn' : f.2.2.2.2.2.1.getD x 0 = (n : Int):=hn
   have hel : e < (act f a).length:=by
    have:=h.al a ha
    rw [ef,hn] at this; omega
   have hel' : e < (f.2.2.2.2.2.2.getD a []).length:=hel
   simp only [in_cast hxl,in_cast hx,and_self,if_true,Int.toNat_natCast,hn',lt_cast,he,decide_true,cond_true,ea',in_cast hal,in_cast hel']
   rw [wrap_sm (by omega) (by omega)]
   unfold idOne
   rw [ea,Int.toNat_natCast]
   show inn1 _ _ (decide ((f.2.2.2.2.2.2.getD a []).getD e 0 = (e : Int))) _
   cases decide ((f.2.2.2.2.2.2.getD a []).getD e 0 = (e : Int)) with
   | true=>exact inn1_t rfl
   | false=>exact inn1_f ⟨_,rfl,_,rfl,rfl⟩
  ·have hxl : x < f.2.2.2.2.2.1.length:=by omega
   have hn' : f.2.2.2.2.2.1.getD x 0 = (n : Int):=hn
   simp only [in_cast hxl,and_self,if_true,Int.toNat_natCast,hn',lt_cast,Nat.lt_irrefl,decide_false,cond_false]
  ·show (if 2 = 2 then _ else none) = _
   rw [if_pos rfl,wrap_sm (by omega) (by omega)]; rfl
 ·have e : decide (((f.2.2.2.1.length : Nat) : Int) < f.1) = false:=decide_eq_false (by omega)
  simp only [e,cond_false]
 ·show ∃ r,(if 0 = 0 then _ else none) = some r∧_
  rw [if_pos rfl,Bool.true_and]
  unfold coS
  refine chkT (n:=ar (shS f)) (p:=fun a=>(List.range (ar (shS f))).all (coB f a)) (bad:=bad4) (id:=4) (Post:=fun b (o : Option R4)=>∃ r,o = some r∧decide (r.1 = 0) = b) (fun a ha=>?_) ?_ ⟨_,rfl,rfl⟩ (fun r hr=>⟨r,rfl,hr⟩)
  ·have ha2 : a < f.2.1.length:=ha
   have ha3 : a < f.2.2.1.length:=by
    have : f.2.2.1.length = f.2.1.length:=a3
    omega
   simp only [lt_cast,ha2,decide_true,cond_true]
   refine chkL (n:=ar (shS f)) (p:=coB f a) (bad:=bad4) (id:=6) (s:=((a + 1 : Nat) : Int)) (fun b hb=>?_) ?_ ?_
   ·have hb2 : b < f.2.1.length:=hb
    simp only [lt_cast,hb2,decide_true,cond_true,in_cast ha3,in_cast hb2,and_self,if_true,Int.toNat_natCast]
    unfold coB
    show inn1 _ _ (!decide (f.2.2.1.getD a 0 = f.2.1.getD b 0) || _) _
    cases hm : decide (f.2.2.1.getD a 0 = f.2.1.getD b 0) with
    | false=>
     refine inn1_t ?_
     rw [Bool.not_false,cond_true,wrap_sm (by omega) (by omega)]; rfl
    | true=>
     have hm : mt (shS f) a b = true:=hm
     rw [Bool.not_true,cond_false,Bool.false_or]
     obtain ⟨f1,f2⟩:=h.sh.fr a ha
     obtain ⟨z1,z2⟩:=h.szi (x:=fT (shS f) a) ⟨f1,f2⟩
     have hal:=h.al a ha
     obtain ⟨n,hn⟩ : ∃ n : Nat,sz f (fT (shS f) a) = (n : Int):=⟨(sz f (fT (shS f) a)).toNat,by omega⟩
     rw [hn,Int.toNat_natCast]
     have hg : (0 : Int)≤f.2.1.getD a 0∧f.2.1.getD a 0 < ((f.2.2.2.2.2.1.length : Nat) : Int):=⟨f1,by rw [l1]; exact f2⟩
     have hn' : f.2.2.2.2.2.1.getD (f.2.1.getD a 0).toNat 0 = (n : Int):=hn
     refine chkL (n:=n) (p:=coOne f a b) (bad:=lift bad4) (id:=8) (s:=((b + 1 : Nat) : Int)) (fun e he=>?_) ?_ ?_
     ·have he' : e < (act f a).length:=by omega
      obtain ⟨t,ht,et,hel,d,ed,hd⟩:=h.el ha hb hm he'
      have r1 : a < f.2.2.2.2.1.length:=by
       have : f.2.2.2.2.1.length = f.2.1.length:=a6
       omega
      have r2 : b < (f.2.2.2.2.1.getD a []).length:=by
       have : (f.2.2.2.2.1.getD a []).length = f.2.1.length:=h.sh.row a ha
       omega
      have et' : (f.2.2.2.2.1.getD a []).getD b 0 = (t : Int):=et
      have ed' : (f.2.2.2.2.2.2.getD a []).getD e 0 = (d : Int):=ed
      have q1 : t < f.2.2.2.2.2.2.length:=by omega
      have q2 : e < (f.2.2.2.2.2.2.getD t []).length:=hel
      have q3 : b < f.2.2.2.2.2.2.length:=by omega
      have q4 : a < f.2.2.2.2.2.2.length:=by omega
      have q5 : e < (f.2.2.2.2.2.2.getD a []).length:=he'
      have q6 : d < (f.2.2.2.2.2.2.getD b []).length:=hd
      simp only [in_cast ha2,hg,hn',lt_cast,he,decide_true,cond_true,in_cast r1,in_cast r2,et',in_cast q1,in_cast q2,in_cast q3,in_cast q4,in_cast q5,ed',in_cast q6,and_self,if_true,Int.toNat_natCast]
      rw [wrap_sm (by omega) (by omega)]
      unfold coOne
      rw [et,ed,Int.toNat_natCast,Int.toNat_natCast]
      show inn1 _ _ (decide ((f.2.2.2.2.2.2.getD t []).getD e 0 = (f.2.2.2.2.2.2.getD b []).getD d 0)) _
      cases decide ((f.2.2.2.2.2.2.getD t []).getD e 0 = (f.2.2.2.2.2.2.getD b []).getD d 0) with
      | true=>exact inn1_t rfl
      | false=>exact inn1_f ⟨_,rfl,_,rfl,_,rfl,rfl⟩
     ·simp only [in_cast ha2,hg,hn',lt_cast,Nat.lt_irrefl,decide_false,cond_false,and_self,if_true,Int.toNat_natCast]
     ·show (if 8 = 8 then _ else none) = _
      rw [if_pos rfl,wrap_sm (by omega) (by omega)]; rfl
   ·have e : decide (((ar (shS f) : Nat) : Int) < ((f.2.1.length : Nat) : Int)) = false:=by rw [lt_cast]; exact decide_eq_false (Nat.lt_irrefl _)
    simp only [e,cond_false]
   ·show (if 6 = 6 then _ else none) = _
    rw [if_pos rfl,wrap_sm (by omega) (by omega)]; rfl
  ·have e : decide (((ar (shS f) : Nat) : Int) < ((f.2.1.length : Nat) : Int)) = false:=by rw [lt_cast]; exact decide_eq_false (Nat.lt_irrefl _)
   simp only [e,cond_false]

end Go.Ve.D


namespace Go.Ve.D
open Go Go.Ve

theorem p173 {f : SF} (h : FS f) : ∃ r,G173 f = some r∧decide (r.1 = 0) = (idS f && coS f):=by
 obtain ⟨a1,a2,a3,a4,a5,a6,a7,a8⟩:=h.sh.hd
 have l1 : ((f.2.2.2.2.2.1.length : Nat) : Int) = f.1:=h.l1
 have l2 : f.2.2.2.2.2.2.length = ar (shS f):=h.l2
 have c4 : ((f.2.2.2.1.length : Nat) : Int) = f.1:=a7
 have c5 : f.2.2.2.2.1.length = ar (shS f):=a6
 have hf1 : f.1≤8:=a1.2
 have hm : ar (shS f)≤40:=a2
 unfold G173 idS
 refine chkT (n:=f.2.2.2.1.length) (p:=fun x=>(List.range (sz f (x : Int)).toNat).all (idOne f x)) (bad:=bad4) (id:=0) (Post:=fun b (o : Option R4)=>∃ r,o = some r∧decide (r.1 = 0) = (b && coS f)) (fun x hx=>?_) ?_ ?_ (fun r hr=>⟨r,rfl,hr⟩)
 ·have hz:=h.szi (x:=(x : Int)) ⟨by omega,by omega⟩
  obtain ⟨n,hn⟩ : ∃ n : Nat,sz f (x : Int) = (n : Int):=⟨(sz f (x : Int)).toNat,by omega⟩
  obtain ⟨a,ha,ea,ef⟩:=h.ida hx
  have ea' : f.2.2.2.1.getD x 0 = (a : Int):=ea
  have hal : a < f.2.2.2.2.2.2.length:=by omega
  have hel : (act f a).length = n:=by
   have:=h.al a ha
   rw [ef,hn] at this; omega
  have hel' : (f.2.2.2.2.2.2.getD a []).length = n:=hel
  simp only [lt_cast,hx,decide_true,cond_true,in_cast hx,ea',in_cast hal,and_self,if_true,Int.toNat_natCast,hel']
  rw [hn,Int.toNat_natCast]
  refine chkL (n:=n) (p:=idOne f x) (bad:=bad4) (id:=2) (s:=((x + 1 : Nat) : Int)) (fun e he=>?_) ?_ ?_
  ·simp only [he,decide_true,cond_true,in_cast he,and_self,if_true,Int.toNat_natCast]
   rw [wrap_sm (by omega) (by omega)]
   unfold idOne
   rw [ea,Int.toNat_natCast]
   show inn1 _ _ (decide ((f.2.2.2.2.2.2.getD a []).getD e 0 = (e : Int))) _
   cases decide ((f.2.2.2.2.2.2.getD a []).getD e 0 = (e : Int)) with
   | true=>exact inn1_t rfl
   | false=>exact inn1_f ⟨_,rfl,_,rfl,rfl⟩
  ·simp only [lt_cast,Nat.lt_irrefl,decide_false,cond_false]
  ·show (if 2 = 2 then _ else none) = _
   rw [if_pos rfl,wrap_sm (by omega) (by omega)]; rfl
 ·have e : decide (((f.2.2.2.1.length : Nat) : Int) < ((f.2.2.2.1.length : Nat) : Int)) = false:=by rw [lt_cast]; exact decide_eq_false (Nat.lt_irrefl _)
  simp only [e,cond_false]
 ·show ∃ r,(if 0 = 0 then _ else none) = some r∧_
  rw [if_pos rfl,Bool.true_and]
  unfold coS
  refine chkT (n:=ar (shS f)) (p:=fun a=>(List.range (ar (shS f))).all (coB f a)) (bad:=bad4) (id:=4) (Post:=fun b (o : Option R4)=>∃ r,o = some r∧decide (r.1 = 0) = b) (fun a ha=>?_) ?_ ⟨_,rfl,rfl⟩ (fun r hr=>⟨r,rfl,hr⟩)
  ·have r1 : a < f.2.2.2.2.1.length:=by omega
   have er : (f.2.2.2.2.1.getD a []).length = ar (shS f):=h.sh.row a ha
   have q4 : a < f.2.2.2.2.2.2.length:=by omega
   simp only [lt_cast,r1,decide_true,cond_true,in_cast r1,and_self,if_true,Int.toNat_natCast,er]
   refine chkL (n:=ar (shS f)) (p:=coB f a) (bad:=bad4) (id:=6) (s:=((a + 1 : Nat) : Int)) (fun b hb=>?_) ?_ ?_
   ·simp only [hb,decide_true,cond_true,in_cast hb,and_self,if_true,Int.toNat_natCast]
    unfold coB
    cases hmt : mt (shS f) a b with
    | false=>
     have e : (f.2.2.2.2.1.getD a []).getD b 0 = -1:=h.sh.neg a b ha hb hmt
     have e0 : decide ((f.2.2.2.2.1.getD a []).getD b 0 < 0) = true:=decide_eq_true (by omega)
     refine inn1_t ?_
     simp only [e0,cond_true]
     rw [wrap_sm (by omega) (by omega)]; rfl
    | true=>
     obtain ⟨t1,t2,_⟩:=h.sh.pos a b ha hb hmt
     obtain ⟨t,et⟩ : ∃ t : Nat,T (shS f) a b = (t : Int):=⟨(T (shS f) a b).toNat,by omega⟩
     have et' : (f.2.2.2.2.1.getD a []).getD b 0 = (t : Int):=et
     have e0 : decide ((t : Int) < 0) = false:=decide_eq_false (by omega)
     obtain ⟨f1,f2⟩:=h.sh.fr a ha
     obtain ⟨z1,z2⟩:=h.szi (x:=fT (shS f) a) ⟨f1,f2⟩
     have hal:=h.al a ha
     obtain ⟨n,hn⟩ : ∃ n : Nat,sz f (fT (shS f) a) = (n : Int):=⟨(sz f (fT (shS f) a)).toNat,by omega⟩
     have hel : (act f a).length = n:=by omega
     have hel' : (f.2.2.2.2.2.2.getD a []).length = n:=hel
     rw [Bool.not_true,Bool.false_or,hn,Int.toNat_natCast]
     simp only [et',e0,cond_false,in_cast q4,and_self,if_true,hel',Int.toNat_natCast]
     refine chkL (n:=n) (p:=coOne f a b) (bad:=lift bad4) (id:=8) (s:=((b + 1 : Nat) : Int)) (fun e he=>?_) ?_ ?_
     ·have he' : e < (act f a).length:=by omega
      obtain ⟨t',ht,et2,hl,d,ed,hd⟩:=h.el ha hb hmt he'
      have e3 : t' = t:=by omega
      rw [e3] at ht hl
      have ed' : (f.2.2.2.2.2.2.getD a []).getD e 0 = (d : Int):=ed
      have q1 : t < f.2.2.2.2.2.2.length:=by omega
      have q2 : e < (f.2.2.2.2.2.2.getD t []).length:=hl
      have q3 : b < f.2.2.2.2.2.2.length:=by omega
      have q6 : d < (f.2.2.2.2.2.2.getD b []).length:=hd
      simp only [lt_cast,he,decide_true,cond_true,in_cast he,in_cast q1,in_cast q2,in_cast q3,ed',in_cast q6,and_self,if_true,Int.toNat_natCast]
      rw [wrap_sm (by omega) (by omega)]
      unfold coOne
      rw [et,ed,Int.toNat_natCast,Int.toNat_natCast]
      show inn1 _ _ (decide ((f.2.2.2.2.2.2.getD t []).getD e 0 = (f.2.2.2.2.2.2.getD b []).getD d 0)) _
      cases decide ((f.2.2.2.2.2.2.getD t []).getD e 0 = (f.2.2.2.2.2.2.getD b []).getD d 0) with
      | true=>exact inn1_t rfl
      | false=>exact inn1_f ⟨_,rfl,_,rfl,_,rfl,rfl⟩
     ·simp only [lt_cast,Nat.lt_irrefl,decide_false,cond_false]
     ·show (if 8 = 8 then _ else none) = _
      rw [if_pos rfl,wrap_sm (by omega) (by omega)]; rfl
   ·simp only [lt_cast,Nat.lt_irrefl,decide_false,cond_false]
   ·show (if 6 = 6 then _ else none) = _
    rw [if_pos rfl,wrap_sm (by omega) (by omega)]; rfl
  ·have e : decide (((ar (shS f) : Nat) : Int) < ((f.2.2.2.2.1.length : Nat) : Int)) = false:=by rw [lt_cast]; exact decide_eq_false (by omega)
   simp only [e,cond_false]
def isSF (f : SF) : Bool:=shapeS f && (idS f && coS f)
theorem p99 {f : SF} (h : okS f) : G99 f = some (isSF f):=by
 unfold G99 isSF
 have e:=p164 h
 simp only [Prod.eta,e,Option.bind_some]
 cases hs : shapeS f with
 | false=>rfl
 | true=>
  obtain ⟨r,h1,h2⟩:=p165 (fs_of hs)
  simp only [Bool.not_true,cond_false,h1,Option.bind_some,Bool.true_and,h2]
theorem p103 {f : SF} (h : okS f) : G103 f = some (isSF f):=by
 unfold G103 isSF
 have e:=p172 h
 simp only [Prod.eta,e,Option.bind_some]
 cases hs : shapeS f with
 | false=>rfl
 | true=>
  obtain ⟨r,h1,h2⟩:=p173 (fs_of hs)
  simp only [Bool.not_true,cond_false,h1,Option.bind_some,Bool.true_and,h2]
theorem isSF_fs {f : SF} (h : isSF f = true) : FS f:=by
 unfold isSF at h
 rw [Bool.and_eq_true] at h
 exact fs_of h.1

end Go.Ve.D


namespace Go.Ve.D
open Go Go.Ve
noncomputable section

theorem set_mapA {α : Type} {n d : Nat} {q : Nat→α} {b : α} : ((List.range n).map q).set d b = (List.range n).map fun e=>if e = d then b else q e:=by
 apply List.ext_getElem (by simp)
 intro i h1 h2
 simp only [List.getElem_set,List.getElem_map,List.getElem_range]
 by_cases h : d = i
 ·rw [if_pos h,if_pos h.symm]
 ·rw [if_neg h,if_neg fun e=>h e.symm]
def thn (f g : List Int) : List Int:=(List.range f.length).map fun i=>g.getD (f.getD i 0).toNat 0
theorem thn_len {f g : List Int} : (thn f g).length = f.length:=by simp [thn]
theorem p67 {f g : List Int} (hf : f.length≤1048576) (hw : wi g.length f = true) : G67 (f,g) = some (thn f g):=by
 unfold G67
 simp only
 have hmem : ∀ i,i < f.length→∃ d : Nat,f.getD i 0 = (d : Int)∧d < g.length:=fun i hi=>by
  obtain ⟨h1,h2⟩:=wi_get hw hi
  exact ⟨(f.getD i 0).toNat,by omega,by omega⟩
 refine bind_of (v:=.brk 0 ((f.length : Int),thn f g)) ?_ rfl
 have key : ∀ i,i≤f.length→((List.range i).map fun i=>g.getD (f.getD i 0).toNat 0).length = i:=fun i _=>by simp
 refine tloop_iter (st:=fun i : Nat=>((i : Int),(List.range i).map fun i=>g.getD (f.getD i 0).toNat 0)) (n:=f.length) (fun i hi=>?_) ?_ (fun y=>by simp)
 ·obtain ⟨d,hd,hdg⟩:=hmem i hi
  simp only [lt_cast,hi,decide_true,cond_true,in_cast hi,hd,in_cast hdg,and_self,if_true,Int.toNat_natCast,List.length_map,List.length_range,List.length_cons,List.length_nil]
  rw [wrap_sm (by omega) (by omega),if_pos (show i + (0 + 1)≤17592186044416 by omega),List.range_succ,List.map_append]
  simp only [List.map_cons,List.map_nil,hd,Int.toNat_natCast]
  rfl
 ·simp only [lt_cast,Nat.lt_irrefl,decide_false,cond_false]
  rfl
theorem p69 {f g : List Int} (hf : f.length≤1048576) (hw : wi g.length f = true) : G69 (f,g) = some (thn f g):=by
 unfold G69
 have hG : (0 : Int)≤(f.length : Int)∧((f.length : Int)≤(f.length : Int)∧((8 : Int) * (f.length : Int)≤(281474976710656 : Int)∧(f.length : Int)≤(9223372036854775807 : Int))):=by omega
 simp only [hG,and_self,if_true,Int.toNat_natCast]
 have hmem : ∀ i,i < f.length→∃ d : Nat,f.getD i 0 = (d : Int)∧d < g.length:=fun i hi=>by
  obtain ⟨h1,h2⟩:=wi_get hw hi
  exact ⟨(f.getD i 0).toNat,by omega,by omega⟩
 have e0 : List.replicate f.length (0 : Int) = (List.range f.length).map fun j=>if j < 0 then g.getD (f.getD j 0).toNat 0 else 0:=by simp [List.map_const']
 rw [e0]
 refine bind_of (v:=.brk 0 ((f.length : Int),thn f g)) ?_ rfl
 refine tloop_iter (st:=fun i : Nat=>((i : Int),(List.range f.length).map fun j=>if j < i then g.getD (f.getD j 0).toNat 0 else 0)) (n:=f.length) (fun i hi=>?_) ?_ (fun y=>by simp)
 ·obtain ⟨d,hd,hdg⟩:=hmem i hi
  simp only [lt_cast,hi,decide_true,cond_true,in_cast hi,hd,in_cast hdg,and_self,if_true,Int.toNat_natCast,List.length_map,List.length_range]
  rw [wrap_sm (by omega) (by omega),set_mapA]
  have e : ((List.range f.length).map fun e=>if e = i then g.getD d 0 else if e < i then g.getD (f.getD e 0).toNat 0 else 0) = (List.range f.length).map fun j=>if j < i + 1 then g.getD (f.getD j 0).toNat 0 else 0:=List.map_congr_left fun e _=>by
   by_cases h : e = i
   ·subst h
    rw [if_pos rfl,if_pos (Nat.lt_succ_self _),hd,Int.toNat_natCast]
   ·rw [if_neg h]
    by_cases h2 : e < i
    ·rw [if_pos h2,if_pos (by omega)]
    ·rw [if_neg h2,if_neg (by omega)]
  rw [e]
  rfl
 ·have e : ((List.range f.length).map fun j=>if j < f.length then g.getD (f.getD j 0).toNat 0 else 0) = thn f g:=List.map_congr_left fun j hj=>if_pos (List.mem_range.1 hj)
  simp only [lt_cast,Nat.lt_irrefl,decide_false,cond_false,e]
end
end Go.Ve.D


namespace Go.Ve.D
open Go Go.Ve
noncomputable section

def prd : List Int→Nat
 | []=>1
 | a :: l=>a.toNat * prd l
theorem prd_app : ∀ (a b : List Int),prd (a ++ b) = prd a * prd b
 | [],b=>by simp [prd]
 | x :: a,b=>by
  show x.toNat * prd (a ++ b) = x.toNat * prd a * prd b
  rw [prd_app a b,Nat.mul_assoc]
theorem prd_le : ∀ {x : List Int},(∀ y ∈ x,y≤16)→prd x≤16 ^ x.length
 | [],_=>Nat.le_refl _
 | a :: l,h=>by
  have h1:=h a (List.mem_cons_self ..)
  have h2:=prd_le fun y hy=>h y (List.mem_cons_of_mem _ hy)
  show a.toNat * prd l≤16 ^ (l.length + 1)
  rw [Nat.pow_succ,Nat.mul_comm]
  exact Nat.mul_le_mul h2 (by omega)
theorem prd_succ {x : List Int} {i : Nat} (hi : i < x.length) : prd (x.take (i + 1)) = prd (x.take i) * (x.getD i 0).toNat:=by
 rw [← take_snoc 0 hi,prd_app]
 show _ * ((x.getD i 0).toNat * 1) = _
 rw [Nat.mul_one]
theorem prd_zero {x : List Int} {i : Nat} (hi : i < x.length) (h : x.getD i 0 = 0) : prd x = 0:=by
 have e : x = x.take (i + 1) ++ x.drop (i + 1):=(List.take_append_drop _ _).symm
 rw [e,prd_app,prd_succ hi,h]
 simp
structure Few (x : List Int) : Prop where
 l : x.length≤4
 b : ∀ y ∈ x,0≤y∧y≤16
theorem Few.get {x : List Int} (h : Few x) {i : Nat} (hi : i < x.length) : 0≤x.getD i 0∧x.getD i 0≤16:=h.b _ (getD_mem' 0 hi)
theorem Few.prd {x : List Int} (h : Few x) (i : Nat) : Go.Ve.D.prd (x.take i)≤65536:=by
 have h1:=prd_le (x:=x.take i) fun y hy=>(h.b y (List.mem_of_mem_take hy)).2
 have h2 : (x.take i).length≤4:=by have:=h.l; rw [List.length_take]; omega
 have h3 : 16 ^ (x.take i).length≤16 ^ 4:=Nat.pow_le_pow_right (by omega) h2
 have h4 : (16 : Nat) ^ 4 = 65536:=by decide
 omega
def noZ (x : List Int) (i : Nat) : Bool:=!decide (x.getD i 0 = 0)
theorem noZ_f {x : List Int} (h : (List.range x.length).all (noZ x) = false) : Go.Ve.D.prd x = 0:=by
 rw [List.all_eq_false] at h
 obtain ⟨i,hi,h⟩:=h
 have hi:=List.mem_range.1 hi
 unfold noZ at h
 exact prd_zero hi (by simpa using h)
theorem p186 {x : List Int} (h : Few x) : G186 x = some ((Go.Ve.D.prd x : Nat) : Int):=by
 unfold G186
 have hl:=h.l
 refine chk_bind (st:=fun i : Nat=>(((Go.Ve.D.prd (x.take i) : Nat) : Int),(i : Int))) (n:=x.length) (p:=noZ x) (Q:=fun r : Int=>r = 0) (o:=.brk 0 (((Go.Ve.D.prd x : Nat) : Int),(x.length : Int))) (Post:=fun o : Option Int=>o = some ((Go.Ve.D.prd x : Nat) : Int)) (fun i hi=>?_) ?_ (fun y=>by simp) (fun _=>?_) (fun hall r hr=>?_)
 ·have hp:=h.prd i
  obtain ⟨g1,g2⟩:=h.get hi
  obtain ⟨k,hk⟩ : ∃ k : Nat,x.getD i 0 = (k : Int):=⟨(x.getD i 0).toNat,by omega⟩
  have hc : ((Go.Ve.D.prd (x.take i) : Nat) : Int)≤1000000000000:=by omega
  have hmul : Go.Ve.D.prd (x.take i) * k≤65536 * 16:=Nat.mul_le_mul hp (by omega)
  have hs : Go.Ve.D.prd (x.take (i + 1)) = Go.Ve.D.prd (x.take i) * k:=by rw [prd_succ hi,hk,Int.toNat_natCast]
  unfold noZ
  simp only [lt_cast,hi,decide_true,cond_true,in_cast hi,and_self,if_true,Int.toNat_natCast,hk,hc]
  cases hz : decide ((k : Int) = 0) with
  | true=>exact ⟨(fun h=>by cases h),fun _=>⟨_,rfl,rfl⟩⟩
  | false=>
   refine ⟨fun _=>?_,(fun h=>by cases h)⟩
   simp only [cond_false]
   rw [wrap_sm (n:=(i : Int) + 1) (by omega) (by omega),show ((Go.Ve.D.prd (x.take i) : Nat) : Int) * (k : Int) = ((Go.Ve.D.prd (x.take i) * k : Nat) : Int) by simp,wrap_sm (by omega) (by omega),← hs]
   rfl
 ·simp only [lt_cast,Nat.lt_irrefl,decide_false,cond_false,List.take_length]
 ·have hp:=h.prd x.length
  rw [List.take_length] at hp
  show some (minI _ _) = _
  unfold minI
  congr 1
  first | omega | (rw [Int.min_eq_left (by omega)]) | (rw [if_pos (by omega)]) | simp; omega
 ·rw [noZ_f hall,hr]; rfl
end
end Go.Ve.D


namespace Go.Ve.D
open Go Go.Ve
noncomputable section

theorem tdiv_big {k : Nat} (h0 : k≠0) (h : k≤16) : 62500000000≤Int.tdiv 1000000000000 (k : Int)∧Int.tdiv 1000000000000 (k : Int)≤1000000000000:=by
 rw [Int.tdiv_eq_ediv_of_nonneg (by decide)]
 exact ⟨Int.le_ediv_of_mul_le (by omega) (by omega),Int.ediv_le_self _ (by decide)⟩
theorem p109 {x : List Int} (h : Few x) : G109 x = some ((Go.Ve.D.prd x : Nat) : Int):=by
 unfold G109
 have hl:=h.l
 refine chk_bind (st:=fun i : Nat=>(i : Int)) (n:=x.length) (p:=noZ x) (Q:=fun r : Int=>r = 0) (o:=.brk 0 (x.length : Int)) (Post:=fun o : Option Int=>o = some ((Go.Ve.D.prd x : Nat) : Int)) (fun i hi=>?_) ?_ (fun y=>by simp) (fun hall=>?_) (fun hall r hr=>by rw [noZ_f hall,hr]; rfl)
 ·unfold noZ
  simp only [lt_cast,hi,decide_true,cond_true,in_cast hi,and_self,if_true,Int.toNat_natCast]
  rw [wrap_sm (by omega) (by omega)]
  cases hz : decide (x.getD i 0 = 0) with
  | true=>exact ⟨(fun h=>by cases h),fun _=>⟨_,rfl,rfl⟩⟩
  | false=>exact ⟨fun _=>rfl,(fun h=>by cases h)⟩
 ·simp only [lt_cast,Nat.lt_irrefl,decide_false,cond_false]
 ·show (if 0 = 0 then _ else none) = _
  rw [if_pos rfl]
  refine bind_of (v:=.brk 2 (((Go.Ve.D.prd x : Nat) : Int),(x.length : Int))) (tloop_iter (st:=fun i : Nat=>(((Go.Ve.D.prd (x.take i) : Nat) : Int),(i : Int))) (n:=x.length) (fun i hi=>?_) ?_ (fun y=>by simp)) rfl
  ·have hp:=h.prd i
   obtain ⟨g1,g2⟩:=h.get hi
   obtain ⟨k,hk⟩ : ∃ k : Nat,x.getD i 0 = (k : Int):=⟨(x.getD i 0).toNat,by omega⟩
   have hz : ¬ ((k : Int) = 0):=by
    have:=List.all_eq_true.1 hall i (List.mem_range.2 hi)
    unfold noZ at this
    rw [hk] at this
    simpa using this
   have hk16 : k≤16:=by omega
   obtain ⟨t1,t2⟩:=tdiv_big (k:=k) (by omega) hk16
   have hmul : Go.Ve.D.prd (x.take i) * k≤65536 * 16:=Nat.mul_le_mul hp hk16
   have hs : Go.Ve.D.prd (x.take (i + 1)) = Go.Ve.D.prd (x.take i) * k:=by rw [prd_succ hi,hk,Int.toNat_natCast]
   have ew : IntKind.wrap .i64 (Int.tdiv (1000000000000 : Int) (k : Int)) = Int.tdiv (1000000000000 : Int) (k : Int):=wrap_sm (by omega) (by omega)
   have hn : ¬ (Int.tdiv (1000000000000 : Int) (k : Int) < ((Go.Ve.D.prd (x.take i) : Nat) : Int)):=by omega
   simp only [lt_cast,hi,decide_true,cond_true,in_cast hi,and_self,if_true,Int.toNat_natCast,hk]
   rw [if_pos hz]
   simp only [ew,decide_eq_false hn,cond_false]
   rw [wrap_sm (n:=(i : Int) + 1) (by omega) (by omega),show ((Go.Ve.D.prd (x.take i) : Nat) : Int) * (k : Int) = ((Go.Ve.D.prd (x.take i) * k : Nat) : Int) by simp,wrap_sm (by omega) (by omega),← hs]
   rfl
  ·simp only [lt_cast,Nat.lt_irrefl,decide_false,cond_false,List.take_length]
end
end Go.Ve.D


namespace Go.Ve.D
open Go Go.Ve
noncomputable section

theorem gatherM {α R : Type} {F : (Int × List α)→Option (LO (Int × List α) R)} {n : Nat} {g : Nat→α} {id : Nat}
  (h1 : ∀ i,i < n→∀ acc : List α,acc.length = i→F ((i : Int),acc) = some (.next (((i + 1 : Nat) : Int),acc ++ [g i])))
  (h2 : ∀ acc : List α,F ((n : Int),acc) = some (.brk id ((n : Int),acc))) :
  tloop F ((0 : Int),[]) = some (.brk id ((n : Int),(List.range n).map g)):=by
 refine tloop_iter (st:=fun i : Nat=>((i : Int),(List.range i).map g)) (n:=n) (fun i hi=>?_) (h2 _) (fun y=>by simp)
 rw [h1 i hi _ (by simp),List.range_succ,List.map_append]
 rfl
abbrev CF:=SF × (Int × Int) × (Int × Int)
def cnds (f : SF) (q : Qry) : List CF:=(List.range q.2.1.length).map fun i=>(f,(q.2.1.getD i (0,0),q.2.2.1.getD i (0,0)))
theorem p187 {f : SF} {q : Qry} (h1 : q.2.1.length≤6) (h2 : q.2.2.1.length = q.2.1.length) : G187 (q,f) = some (cnds f q):=by
 unfold G187
 simp only
 refine bind_of (gatherM (n:=q.2.1.length) (g:=fun i=>((f,(q.2.1.getD i (0,0),q.2.2.1.getD i (0,0))) : CF)) (id:=0) (fun i hi acc ha=>?_) fun acc=>?_) rfl
 ·have hi2 : i < q.2.2.1.length:=by omega
  simp only [lt_cast,hi,decide_true,cond_true,in_cast hi,in_cast hi2,and_self,if_true,Int.toNat_natCast,List.length_cons,List.length_nil]
  rw [wrap_sm (by omega) (by omega),if_pos (show acc.length + (0 + 1)≤17592186044416 by omega)]
  rfl
 ·simp only [lt_cast,Nat.lt_irrefl,decide_false,cond_false]
def trm (f : SF) (t : List Int) (l : Int × Int) : Int:=(act f l.2.toNat).getD (t.getD l.1.toNat 0).toNat 0
structure TK (f : SF) (t : List Int) (l : Int × Int) : Prop where
 a : 0≤l.2∧l.2 < ((f.2.2.2.2.2.2.length : Nat) : Int)
 v : 0≤l.1∧l.1 < ((t.length : Nat) : Int)
 e : 0≤t.getD l.1.toNat 0∧t.getD l.1.toNat 0 < (((f.2.2.2.2.2.2.getD l.2.toNat []).length : Nat) : Int)
def cndB (t : List Int) (c : CF) : Bool:=decide (trm c.1 t c.2.1 = trm c.1 t c.2.2)
theorem p237 {t : List Int} {c : CF} (hl : TK c.1 t c.2.1) (hr : TK c.1 t c.2.2) : G237 (t,c) = some (cndB t c):=by
 obtain ⟨f,l,r⟩:=c
 unfold G237
 simp only
 rw [if_pos hl.a,if_pos hl.v,if_pos hl.e,if_pos hr.a,if_pos hr.v,if_pos hr.e]
 rfl
theorem p190 {t : List Int} {c : CF} (hl : TK c.1 t c.2.1) (hr : TK c.1 t c.2.2) : G190 (c,t) = some (!cndB t c):=bind_of (a:=G237 (t,c)) (p237 hl hr) rfl
def c0 : CF:=(((0 : Int),(([] : List Int),(([] : List Int),(([] : List Int),(([] : List (List Int)),(([] : List Int),([] : List (List Int)))))))),(((0 : Int),(0 : Int)),((0 : Int),(0 : Int))))
theorem p189 {t : List Int} {cs : List CF} (hn : cs.length≤6) (h : ∀ i,i < cs.length→TK (cs.getD i c0).1 t (cs.getD i c0).2.1∧TK (cs.getD i c0).1 t (cs.getD i c0).2.2) : G189 (cs,t) = some (!(List.range cs.length).all fun i=>cndB t (cs.getD i c0)):=by
 have key : ∃ r,G239 (cs,t) = some r∧decide (0≤r) = !(List.range cs.length).all fun i=>cndB t (cs.getD i c0):=by
  unfold G239
  refine chk_bind (st:=fun i : Nat=>(i : Int)) (n:=cs.length) (p:=fun i=>cndB t (cs.getD i c0)) (Q:=fun r : Int=>decide (0≤r) = true) (o:=.brk 0 (cs.length : Int)) (Post:=fun o : Option Int=>∃ r,o = some r∧decide (0≤r) = !(List.range cs.length).all fun i=>cndB t (cs.getD i c0)) (fun i hi=>?_) ?_ (fun y=>by simp) (fun hall=>⟨-1,rfl,by rw [hall]; rfl⟩) (fun hall r hr=>⟨r,rfl,by rw [hall,hr]; rfl⟩)
  ·obtain ⟨hl,hr⟩:=h i hi
   have e:=p190 hl hr
   unfold c0 at e
   simp only [lt_cast,hi,decide_true,cond_true,in_cast hi,and_self,if_true,Int.toNat_natCast,e,Option.bind_some]
   rw [wrap_sm (by omega) (by omega)]
   show inn1 (fun r : Int=>decide (0≤r) = true) _ (cndB t (cs.getD i c0)) (bif !cndB t (cs.getD i c0) then _ else _)
   cases cndB t (cs.getD i c0) with
   | true=>exact inn1_t rfl
   | false=>exact inn1_f ⟨_,rfl,decide_eq_true (by omega)⟩
  ·simp only [lt_cast,Nat.lt_irrefl,decide_false,cond_false]
 obtain ⟨r,e1,e2⟩:=key
 refine bind_of (a:=G239 (cs,t)) e1 ?_
 rw [e2]
end
end Go.Ve.D

