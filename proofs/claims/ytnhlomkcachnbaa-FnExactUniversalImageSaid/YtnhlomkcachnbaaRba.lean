/- Set functors: what makes them. -/
import Derived.Test.YtnhlomkcachnbaaLa
namespace Go.Ve.D
open Go Go.Ve

theorem chk2 {R S : Type} {F : Int→Option (LO Int R)} {n : Nat} {p : Nat→Bool} {Q : R→Prop} {o : LO Int R} {k : LO Int R→Option S} {Post : Bool→Option S→Prop}
  (h1 : ∀ i,i < n→(p i = true→F (i : Int) = some (.next ((i + 1 : Nat) : Int)))∧(p i = false→∃ r,F (i : Int) = some (.ret r)∧Q r)) (h2 : F (n : Int) = some o) (ho : ∀ y,o≠.next y)
  (hA : Post true (k o)) (hB : ∀ r,Q r→Post false (k (.ret r))) : Post ((List.range n).all p) (Option.bind (tloop F (0 : Int)) k):=by
 refine chk_bind (st:=fun i : Nat=>(i : Int)) (p:=p) (Q:=Q) (o:=o) (Post:=fun x=>Post ((List.range n).all p) x) h1 h2 ho (fun hall=>?_) (fun hall r hr=>?_)
 ·rw [hall]; exact hA
 ·rw [hall]; exact hB r hr

def inn1 {R : Type} (bad : R→Prop) (s : Int) (p : Bool) (o : Option (LO Int R)) : Prop:=(p = true→o = some (.next s))∧(p = false→∃ r,o = some (.ret r)∧bad r)
def lift {R : Type} (bad : R→Prop) (r : LO Int R) : Prop:=∃ r',r = .ret r'∧bad r'
theorem chkL {R : Type} {bad : R→Prop} {F : Int→Option (LO Int (LO Int R))} {n : Nat} {p : Nat→Bool} {id : Nat} {s : Int} {g : Nat→Int→Option (LO Int R)}
  (h1 : ∀ i,i < n→inn1 (lift bad) ((i + 1 : Nat) : Int) (p i) (F (i : Int))) (h2 : F (n : Int) = some (.brk id (n : Int))) (hk : g id (n : Int) = some (.next s)) :
  inn1 bad s ((List.range n).all p) (Option.bind (tloop F (0 : Int)) (LO.fin g)):=by
 refine chk_bind (st:=fun i : Nat=>(i : Int)) (p:=p) (Q:=lift bad) (o:=.brk id (n : Int)) (Post:=fun x=>inn1 bad s ((List.range n).all p) x) h1 h2 (fun y=>by simp) (fun hall=>?_) (fun hall r hr=>?_)
 ·rw [hall]
  exact ⟨fun _=>hk,(fun h=>by cases h)⟩
 ·rw [hall]
  obtain ⟨r',rfl,hb⟩:=hr
  exact ⟨(fun h=>by cases h),fun _=>⟨r',rfl,hb⟩⟩
theorem chkT {R : Type} {bad : R→Prop} {F : Int→Option (LO Int R)} {n : Nat} {p : Nat→Bool} {id : Nat} {g : Nat→Int→Option R} {Post : Bool→Option R→Prop}
  (h1 : ∀ i,i < n→inn1 bad ((i + 1 : Nat) : Int) (p i) (F (i : Int))) (h2 : F (n : Int) = some (.brk id (n : Int))) (hA : Post true (g id (n : Int))) (hB : ∀ r,bad r→Post false (some r)) :
  Post ((List.range n).all p) (Option.bind (tloop F (0 : Int)) (LO.fin g)):=
 chk2 (Q:=bad) h1 h2 (fun y=>by simp) hA fun r hr=>hB r hr
theorem inn1_t {R : Type} {bad : R→Prop} {s : Int} {o : Option (LO Int R)} (h : o = some (.next s)) : inn1 bad s true o:=⟨fun _=>h,(fun h=>by cases h)⟩
theorem inn1_f {R : Type} {bad : R→Prop} {s : Int} {o : Option (LO Int R)} (h : ∃ r,o = some (.ret r)∧bad r) : inn1 bad s false o:=⟨(fun h=>by cases h),fun _=>h⟩

abbrev SF:=Int × List Int × List Int × List Int × List (List Int) × List Int × List (List Int)
def shS (f : SF) : Cat:=(f.1,(f.2.1,(f.2.2.1,(f.2.2.2.1,f.2.2.2.2.1))))
def szF (f : SF) : List Int:=f.2.2.2.2.2.1
def acF (f : SF) : List (List Int):=f.2.2.2.2.2.2
def okS (f : SF) : Prop:=okC (shS f)∧(szF f).length≤1048576∧(acF f).length≤1048576∧∀ y ∈ acF f,y.length≤1048576
def act (f : SF) (a : Nat) : List Int:=(acF f).getD a []
def sz (f : SF) (x : Int) : Int:=(szF f).getD x.toNat 0
def actOK (f : SF) (a : Nat) : Bool:=decide (((act f a).length : Int) = sz f (fT (shS f) a)) && wi (sz f (tT (shS f) a)) (act f a)
def headS (f : SF) : Bool:=isCat (shS f) && (decide (((szF f).length : Int) = f.1) && (decide (((acF f).length : Int) = (ar (shS f) : Int)) && wi 17 (szF f)))
def shapeS (f : SF) : Bool:=headS f && (List.range (acF f).length).all (actOK f)
theorem wi17 (x : List Int) : wi 17 x = (List.range x.length).all fun i=>decide (0≤x.getD i 0) && decide (x.getD i 0≤16):=by
 rw [all_idx (0 : Int) (fun a=>decide (0≤a) && decide (a≤16)) x]
 unfold wi
 congr 1
 funext a
 unfold inn
 rw [Bool.eq_iff_iff]
 simp only [Bool.and_eq_true,decide_eq_true_eq]; omega
theorem sz_in {f : SF} (h1 : ((szF f).length : Int) = f.1) (hs : wi 17 (szF f) = true) {x : Int} (hx : 0≤x∧x < f.1) : 0≤sz f x∧sz f x≤16:=by
 obtain ⟨g1,g2⟩:=wi_get hs (i:=x.toNat) (by omega)
 exact ⟨g1,by unfold sz; omega⟩
theorem act_len {f : SF} (h : okS f) {a : Nat} (ha : a < (acF f).length) : (act f a).length≤1048576:=h.2.2.2 _ (by
 unfold act
 rw [List.getD_eq_getElem?_getD,List.getElem?_eq_getElem ha]
 exact List.getElem_mem ha)

theorem p164 {f : SF} (h : okS f) : G164 f = some (shapeS f):=by
 have hh:=h
 obtain ⟨hc,hl,hal,hac⟩:=hh
 unfold G164 shapeS headS
 have e1 : (f.1,(f.2.1,(f.2.2.1,(f.2.2.2.1,f.2.2.2.2.1)))) = shS f:=rfl
 simp only [e1,p82 hc,Option.bind_some]
 cases hcat : isCat (shS f) with
 | false=>rfl
 | true=>
 have hsh:=isCat_sh hcat
 have hd:=hsh.hd
 obtain ⟨a1,a2,a3,a4,a5,a6,a7,a8⟩:=hd
 simp only [Bool.not_true,cond_false,Bool.true_and,Option.bind_some]
 have e2 : decide (((f.2.2.2.2.2.1.length : Nat) : Int) = f.1) = decide (((szF f).length : Int) = f.1):=rfl
 rw [e2]
 cases h1 : decide (((szF f).length : Int) = f.1) with
 | false=>rfl
 | true=>
 have h1:=of_decide_eq_true h1
 simp only [Bool.not_true,cond_false,Bool.true_and,Option.bind_some]
 have e3 : decide (((f.2.2.2.2.2.2.length : Nat) : Int) = ((f.2.1.length : Nat) : Int)) = decide (((acF f).length : Int) = (ar (shS f) : Int)):=rfl
 rw [e3]
 cases h2 : decide (((acF f).length : Int) = (ar (shS f) : Int)) with
 | false=>rfl
 | true=>
 have h2:=of_decide_eq_true h2
 simp only [Bool.not_true,cond_false,Bool.true_and,Option.bind_some]
 rw [wi17]
 refine chkT (n:=(szF f).length) (p:=fun i=>decide (0≤(szF f).getD i 0) && decide ((szF f).getD i 0≤16)) (bad:=fun r : Bool=>r = false) (id:=0) (Post:=fun b (o : Option Bool)=>o = some (b && (List.range (acF f).length).all (actOK f))) (fun i hi=>?_) ?_ ?_ (fun r hr=>by rw [hr]; rfl)
 ·have hi' : i < f.2.2.2.2.2.1.length:=hi
  simp only [lt_cast,hi',decide_true,cond_true,in_cast hi',and_self,if_true,Int.toNat_natCast,p184,Option.bind_some]
  rw [wrap_sm (by omega) (by omega)]
  show inn1 _ _ (decide (0≤f.2.2.2.2.2.1.getD i 0) && decide (f.2.2.2.2.2.1.getD i 0≤16)) _
  cases decide (0≤f.2.2.2.2.2.1.getD i 0) && decide (f.2.2.2.2.2.1.getD i 0≤16) with
  | true=>exact inn1_t rfl
  | false=>exact inn1_f ⟨_,rfl,rfl⟩
 ·have e : decide ((((szF f).length : Nat) : Int) < ((f.2.2.2.2.2.1.length : Nat) : Int)) = false:=by rw [lt_cast]; exact decide_eq_false (Nat.lt_irrefl _)
  simp only [e,cond_false]
 ·show (if 0 = 0 then _ else none) = _
  rw [if_pos rfl,Bool.true_and]
  refine chkT (n:=(acF f).length) (p:=actOK f) (bad:=fun r : Bool=>r = false) (id:=2) (Post:=fun b (o : Option Bool)=>o = some b) (fun i hi=>?_) ?_ rfl (fun r hr=>by rw [hr])
  ·have hi' : i < f.2.2.2.2.2.2.length:=hi
   have him : i < ar (shS f):=by omega
   have hi2 : i < f.2.1.length:=him
   have hi3 : i < f.2.2.1.length:=by
    have : f.2.2.1.length = f.2.1.length:=a3
    omega
   obtain ⟨b1,b2⟩:=hsh.fr i him
   obtain ⟨b3,b4⟩:=hsh.to i him
   have g1 : (0 : Int)≤f.2.1.getD i 0∧f.2.1.getD i 0 < ((f.2.2.2.2.2.1.length : Nat) : Int):=⟨b1,by rw [show ((f.2.2.2.2.2.1.length : Nat) : Int) = f.1 from h1]; exact b2⟩
   have g2 : (0 : Int)≤f.2.2.1.getD i 0∧f.2.2.1.getD i 0 < ((f.2.2.2.2.2.1.length : Nat) : Int):=⟨b3,by rw [show ((f.2.2.2.2.2.1.length : Nat) : Int) = f.1 from h1]; exact b4⟩
   simp only [lt_cast,hi',decide_true,cond_true,in_cast hi',in_cast hi2,in_cast hi3,g1,g2,and_self,if_true,Int.toNat_natCast]
   rw [wrap_sm (by omega) (by omega)]
   have e4 : G120 (f.2.2.2.2.2.1.getD (f.2.2.1.getD i 0).toNat 0,f.2.2.2.2.2.2.getD i []) = some (wi (sz f (tT (shS f) i)) (act f i)):=p120 (act_len h hi)
   rw [e4]
   show inn1 _ _ (decide ((((f.2.2.2.2.2.2.getD i []).length : Nat) : Int) = f.2.2.2.2.2.1.getD (f.2.1.getD i 0).toNat 0) && wi (sz f (tT (shS f) i)) (act f i)) _
   cases decide ((((f.2.2.2.2.2.2.getD i []).length : Nat) : Int) = f.2.2.2.2.2.1.getD (f.2.1.getD i 0).toNat 0) with
   | false=>exact inn1_f ⟨_,rfl,rfl⟩
   | true=>
    rw [Bool.true_and]
    cases wi (sz f (tT (shS f) i)) (act f i) with
    | true=>exact inn1_t rfl
    | false=>exact inn1_f ⟨_,rfl,rfl⟩
  ·have e : decide ((((acF f).length : Nat) : Int) < ((f.2.2.2.2.2.2.length : Nat) : Int)) = false:=by rw [lt_cast]; exact decide_eq_false (Nat.lt_irrefl _)
   simp only [e,cond_false]

theorem p228 {x : List Int} {k n : Int} (hn : 0≤n∧n≤9223372036854775807) (hx : x.length≤1048576) : G228 (x,(k,n)) = some (decide ((x.length : Int) = k) && wi n x):=by
 unfold G228
 simp only [p127 hn hx,Option.bind_some]
 cases decide (((x.length : Nat) : Int) = k) <;> rfl
theorem p172 {f : SF} (h : okS f) : G172 f = some (shapeS f):=by
 have hh:=h
 obtain ⟨hc,hl,hal,hac⟩:=hh
 unfold G172 shapeS headS
 have e1 : (f.1,(f.2.1,(f.2.2.1,(f.2.2.2.1,f.2.2.2.2.1)))) = shS f:=rfl
 have ew : G127 (f.2.2.2.2.2.1,(17 : Int)) = some (wi 17 (szF f)):=p127 (by omega) hl
 simp only [e1,p89 hc,ew,p159,Option.bind_some]
 cases hcat : isCat (shS f) with
 | false=>rfl
 | true=>
 have hsh:=isCat_sh hcat
 have hd:=hsh.hd
 obtain ⟨a1,a2,a3,a4,a5,a6,a7,a8⟩:=hd
 simp only [Bool.not_true,cond_false,Bool.true_and,Option.bind_some]
 have e2 : decide (((f.2.2.2.2.2.1.length : Nat) : Int) = f.1) = decide (((szF f).length : Int) = f.1):=rfl
 rw [e2]
 cases h1 : decide (((szF f).length : Int) = f.1) with
 | false=>rfl
 | true=>
 have h1:=of_decide_eq_true h1
 simp only [Bool.not_true,cond_false,Bool.true_and,Option.bind_some]
 have e3 : decide (((f.2.2.2.2.2.2.length : Nat) : Int) = (((shS f).2.1.length : Nat) : Int)) = decide (((acF f).length : Int) = (ar (shS f) : Int)):=rfl
 rw [e3]
 cases hw : wi 17 (szF f) with
 | false=>cases decide (((acF f).length : Int) = (ar (shS f) : Int)) <;> rfl
 | true=>
 simp only [Bool.not_true,cond_false,Option.bind_some]
 cases h2 : decide (((acF f).length : Int) = (ar (shS f) : Int)) with
 | false=>rfl
 | true=>
 have h2:=of_decide_eq_true h2
 simp only [Bool.not_true,cond_false,Bool.true_and,Option.bind_some]
 refine chkT (n:=(acF f).length) (p:=actOK f) (bad:=fun r : Bool=>r = false) (id:=0) (Post:=fun b (o : Option Bool)=>o = some b) (fun i hi=>?_) ?_ rfl (fun r hr=>by rw [hr])
 ·have hi' : i < f.2.2.2.2.2.2.length:=hi
  have him : i < ar (shS f):=by omega
  have hi2 : i < f.2.1.length:=him
  have hi3 : i < f.2.2.1.length:=by
   have : f.2.2.1.length = f.2.1.length:=a3
   omega
  obtain ⟨b1,b2⟩:=hsh.fr i him
  obtain ⟨b3,b4⟩:=hsh.to i him
  have g1 : (0 : Int)≤f.2.1.getD i 0∧f.2.1.getD i 0 < ((f.2.2.2.2.2.1.length : Nat) : Int):=⟨b1,by rw [show ((f.2.2.2.2.2.1.length : Nat) : Int) = f.1 from h1]; exact b2⟩
  have g2 : (0 : Int)≤f.2.2.1.getD i 0∧f.2.2.1.getD i 0 < ((f.2.2.2.2.2.1.length : Nat) : Int):=⟨b3,by rw [show ((f.2.2.2.2.2.1.length : Nat) : Int) = f.1 from h1]; exact b4⟩
  simp only [lt_cast,hi',decide_true,cond_true,in_cast hi',in_cast hi2,in_cast hi3,g1,g2,and_self,if_true,Int.toNat_natCast]
  rw [wrap_sm (by omega) (by omega)]
  obtain ⟨z1,z2⟩:=sz_in h1 hw (x:=tT (shS f) i) ⟨b3,b4⟩
  have e4 : G228 (f.2.2.2.2.2.2.getD i [],(f.2.2.2.2.2.1.getD (f.2.1.getD i 0).toNat 0,f.2.2.2.2.2.1.getD (f.2.2.1.getD i 0).toNat 0)) = some (actOK f i):=p228 (x:=act f i) (k:=sz f (fT (shS f) i)) (n:=sz f (tT (shS f) i)) ⟨z1,by omega⟩ (act_len h hi)
  rw [e4,Option.bind_some]
  cases actOK f i with
  | true=>exact inn1_t rfl
  | false=>exact inn1_f ⟨_,rfl,rfl⟩
 ·have e : decide ((((acF f).length : Nat) : Int) < ((f.2.2.2.2.2.2.length : Nat) : Int)) = false:=by rw [lt_cast]; exact decide_eq_false (Nat.lt_irrefl _)
  simp only [e,cond_false]

structure FS (f : SF) : Prop where
 cat : isCat (shS f) = true
 sh : Sh (shS f)
 sp : shape (shS f) = true
 l1 : ((szF f).length : Int) = f.1
 l2 : (acF f).length = ar (shS f)
 w : wi 17 (szF f) = true
 al : ∀ a,a < ar (shS f)→((act f a).length : Int) = sz f (fT (shS f) a)
 aw : ∀ a,a < ar (shS f)→wi (sz f (tT (shS f) a)) (act f a) = true
theorem fs_of {f : SF} (h : shapeS f = true) : FS f:=by
 unfold shapeS headS at h
 simp only [Bool.and_eq_true,decide_eq_true_eq] at h
 obtain ⟨⟨h1,h2,h3,h4⟩,h5⟩:=h
 have h3 : (acF f).length = ar (shS f):=by omega
 have ha : ∀ a,a < ar (shS f)→actOK f a = true:=fun a ha=>List.all_eq_true.1 h5 a (List.mem_range.2 (by omega))
 refine ⟨h1,isCat_sh h1,?_,h2,h3,h4,fun a hl=>?_,fun a hl=>?_⟩
 ·unfold isCat at h1
  rw [Bool.and_eq_true] at h1
  exact h1.1
 ·have:=ha a hl
  unfold actOK at this
  rw [Bool.and_eq_true,decide_eq_true_eq] at this
  exact this.1
 ·have:=ha a hl
  unfold actOK at this
  rw [Bool.and_eq_true] at this
  exact this.2
theorem FS.szi {f : SF} (h : FS f) {x : Int} (hx : 0≤x∧x < f.1) : 0≤sz f x∧sz f x≤16:=sz_in h.l1 h.w hx
def idAt (f : SF) (x : Nat) : Int:=f.2.2.2.1.getD x 0
theorem FS.ida {f : SF} (h : FS f) {x : Nat} (hx : x < f.2.2.2.1.length) : ∃ a : Nat,a < ar (shS f)∧idAt f x = (a : Int)∧fT (shS f) a = (x : Int):=by
 have hs:=h.sp
 unfold shape at hs
 rw [Bool.and_eq_true,Bool.and_eq_true] at hs
 have hi:=List.all_eq_true.1 hs.2.1 x (List.mem_range.2 hx)
 unfold idOK at hi
 rw [Bool.and_eq_true,decide_eq_true_eq,decide_eq_true_eq] at hi
 obtain ⟨a1,a2,a3,a4,a5,a6,a7,a8⟩:=h.sh.hd
 obtain ⟨g1,g2⟩:=wi_get a8 hx
 have g1 : 0≤idAt f x:=g1
 have g2 : idAt f x < (ar (shS f) : Int):=g2
 refine ⟨(idAt f x).toNat,by omega,by omega,hi.1⟩
def idOne (f : SF) (x e : Nat) : Bool:=decide ((act f (idAt f x).toNat).getD e 0 = (e : Int))
def idS (f : SF) : Bool:=(List.range f.2.2.2.1.length).all fun x=>(List.range (sz f (x : Int)).toNat).all (idOne f x)
def coOne (f : SF) (a b e : Nat) : Bool:=decide ((act f (T (shS f) a b).toNat).getD e 0 = (act f b).getD ((act f a).getD e 0).toNat 0)
def coB (f : SF) (a b : Nat) : Bool:=!mt (shS f) a b || (List.range (sz f (fT (shS f) a)).toNat).all (coOne f a b)
def coS (f : SF) : Bool:=(List.range (ar (shS f))).all fun a=>(List.range (ar (shS f))).all (coB f a)
abbrev R4:=Int × Int × Int × Int
def bad4 (r : R4) : Prop:=decide (r.1 = 0) = false
theorem FS.el {f : SF} (h : FS f) {a b e : Nat} (ha : a < ar (shS f)) (hb : b < ar (shS f)) (hm : mt (shS f) a b = true) (he : e < (act f a).length) : ∃ t : Nat,t < ar (shS f)∧T (shS f) a b = (t : Int)∧e < (act f t).length∧∃ d : Nat,(act f a).getD e 0 = (d : Int)∧d < (act f b).length:=by
 obtain ⟨t1,t2,t3,t4⟩:=h.sh.pos a b ha hb hm
 have t2 : T (shS f) a b < (ar (shS f) : Int):=t2
 have ht : (T (shS f) a b).toNat < ar (shS f):=by omega
 refine ⟨(T (shS f) a b).toNat,ht,by omega,?_,?_⟩
 ·have e1:=h.al a ha
  have e2:=h.al _ ht
  have e3 : fT (shS f) (T (shS f) a b).toNat = fT (shS f) a:=t3
  rw [e3] at e2
  omega
 ·obtain ⟨g1,g2⟩:=wi_get (h.aw a ha) he
  have e1:=h.al b hb
  have e2 : tT (shS f) a = fT (shS f) b:=of_decide_eq_true hm
  rw [e2] at g2
  exact ⟨((act f a).getD e 0).toNat,by omega,by omega⟩

theorem p165 {f : SF} (h : FS f) : ∃ r,G165 f = some r∧decide (r.1 = 0) = (idS f && coS f):=by
 obtain ⟨a1,a2,a3,a4,a5,a6,a7,a8⟩:=h.sh.hd
 have l1 : ((f.2.2.2.2.2.1.length : Nat) : Int) = f.1:=h.l1
 have l2 : f.2.2.2.2.2.2.length = ar (shS f):=h.l2
 have c4 : ((f.2.2.2.1.length : Nat) : Int) = f.1:=a7
 have hf1 : f.1≤8:=a1.2
 have hm : ar (shS f)≤40:=a2
 unfold G165 idS
 refine chkT (n:=f.2.2.2.1.length) (p:=fun x=>(List.range (sz f (x : Int)).toNat).all (idOne f x)) (bad:=bad4) (id:=0) (Post:=fun b (o : Option R4)=>∃ r,o = some r∧decide (r.1 = 0) = (b && coS f)) (fun x hx=>?_) ?_ ?_ (fun r hr=>⟨r,rfl,hr⟩)
 ·have hxf : decide ((x : Int) < f.1) = true:=decide_eq_true (by omega)
  simp only [hxf,cond_true]
  have hz:=h.szi (x:=(x : Int)) ⟨by omega,by omega⟩
  obtain ⟨n,hn⟩ : ∃ n : Nat,sz f (x : Int) = (n : Int):=⟨(sz f (x : Int)).toNat,by omega⟩
  rw [hn,Int.toNat_natCast]
  refine chkL (n:=n) (p:=idOne f x) (bad:=bad4) (id:=2) (s:=((x + 1 : Nat) : Int)) (fun e he=>?_) ?_ ?_
  ·obtain ⟨a,ha,ea,ef⟩:=h.ida hx
   have hxl : x < f.2.2.2.2.2.1.length:=by omega
   have ea' : f.2.2.2.1.getD x 0 = (a : Int):=ea
   have hal : a < f.2.2.2.2.2.2.length:=by omega
   have hn' : f.2.2.2.2.2.1.getD x 0 = (n : Int):=hn
   have hel : e < (act f a).length:=by
    have:=h.al a ha
    rw [ef,hn] at this; omega
   have hel' : e < (f.2.2.2.2.2.2.getD a []).length:=hel
   simp only [in_cast hxl,in_cast hx,and_self,if_true,Int.toNat_natCast,hn',lt_cast,he,decide_true,cond_true,ea',in_cast hal,in_cast hel']
   rw [wrap_sm (by omega) (by omega)]
   unfold idOne
   rw [ea,Int.toNat_natCast]
   show inn1 _ _ (decide ((f.2.2.2.2.2.2.getD a []).getD e 0 = (e : Int))) _
   cases decide ((f.2.2.2.2.2.2.getD a []).getD e 0 = (e : Int)) with
   | true=>exact inn1_t rfl
   | false=>exact inn1_f ⟨_,rfl,_,rfl,rfl⟩
  ·have hxl : x < f.2.2.2.2.2.1.length:=by omega
   have hn' : f.2.2.2.2.2.1.getD x 0 = (n : Int):=hn
   simp only [in_cast hxl,and_self,if_true,Int.toNat_natCast,hn',lt_cast,Nat.lt_irrefl,decide_false,cond_false]
  ·show (if 2 = 2 then _ else none) = _
   rw [if_pos rfl,wrap_sm (by omega) (by omega)]; rfl
 ·have e : decide (((f.2.2.2.1.length : Nat) : Int) < f.1) = false:=decide_eq_false (by omega)
  simp only [e,cond_false]
 ·show ∃ r,(if 0 = 0 then _ else none) = some r∧_
  rw [if_pos rfl,Bool.true_and]
  unfold coS
  refine chkT (n:=ar (shS f)) (p:=fun a=>(List.range (ar (shS f))).all (coB f a)) (bad:=bad4) (id:=4) (Post:=fun b (o : Option R4)=>∃ r,o = some r∧decide (r.1 = 0) = b) (fun a ha=>?_) ?_ ⟨_,rfl,rfl⟩ (fun r hr=>⟨r,rfl,hr⟩)
  ·have ha2 : a < f.2.1.length:=ha
   have ha3 : a < f.2.2.1.length:=by
    have : f.2.2.1.length = f.2.1.length:=a3
    omega
   simp only [lt_cast,ha2,decide_true,cond_true]
   refine chkL (n:=ar (shS f)) (p:=coB f a) (bad:=bad4) (id:=6) (s:=((a + 1 : Nat) : Int)) (fun b hb=>?_) ?_ ?_
   ·have hb2 : b < f.2.1.length:=hb
    simp only [lt_cast,hb2,decide_true,cond_true,in_cast ha3,in_cast hb2,and_self,if_true,Int.toNat_natCast]
    unfold coB
    show inn1 _ _ (!decide (f.2.2.1.getD a 0 = f.2.1.getD b 0) || _) _
    cases hm : decide (f.2.2.1.getD a 0 = f.2.1.getD b 0) with
    | false=>
     refine inn1_t ?_
     rw [Bool.not_false,cond_true,wrap_sm (by omega) (by omega)]; rfl
    | true=>
     have hm : mt (shS f) a b = true:=hm
     rw [Bool.not_true,cond_false,Bool.false_or]
     obtain ⟨f1,f2⟩:=h.sh.fr a ha
     obtain ⟨z1,z2⟩:=h.szi (x:=fT (shS f) a) ⟨f1,f2⟩
     have hal:=h.al a ha
     obtain ⟨n,hn⟩ : ∃ n : Nat,sz f (fT (shS f) a) = (n : Int):=⟨(sz f (fT (shS f) a)).toNat,by omega⟩
     rw [hn,Int.toNat_natCast]
     have hg : (0 : Int)≤f.2.1.getD a 0∧f.2.1.getD a 0 < ((f.2.2.2.2.2.1.length : Nat) : Int):=⟨f1,by rw [l1]; exact f2⟩
     have hn' : f.2.2.2.2.2.1.getD (f.2.1.getD a 0).toNat 0 = (n : Int):=hn
     refine chkL (n:=n) (p:=coOne f a b) (bad:=lift bad4) (id:=8) (s:=((b + 1 : Nat) : Int)) (fun e he=>?_) ?_ ?_
     ·have he' : e < (act f a).length:=by omega
      obtain ⟨t,ht,et,hel,d,ed,hd⟩:=h.el ha hb hm he'
      have r1 : a < f.2.2.2.2.1.length:=by
       have : f.2.2.2.2.1.length = f.2.1.length:=a6
       omega
      have r2 : b < (f.2.2.2.2.1.getD a []).length:=by
       have : (f.2.2.2.2.1.getD a []).length = f.2.1.length:=h.sh.row a ha
       omega
      have et' : (f.2.2.2.2.1.getD a []).getD b 0 = (t : Int):=et
      have ed' : (f.2.2.2.2.2.2.getD a []).getD e 0 = (d : Int):=ed
      have q1 : t < f.2.2.2.2.2.2.length:=by omega
      have q2 : e < (f.2.2.2.2.2.2.getD t []).length:=hel
      have q3 : b < f.2.2.2.2.2.2.length:=by omega
      have q4 : a < f.2.2.2.2.2.2.length:=by omega
      have q5 : e < (f.2.2.2.2.2.2.getD a []).length:=he'
      have q6 : d < (f.2.2.2.2.2.2.getD b []).length:=hd
      simp only [in_cast ha2,hg,hn',lt_cast,he,decide_true,cond_true,in_cast r1,in_cast r2,et',in_cast q1,in_cast q2,in_cast q3,in_cast q4,in_cast q5,ed',in_cast q6,and_self,if_true,Int.toNat_natCast]
      rw [wrap_sm (by omega) (by omega)]
      unfold coOne
      rw [et,ed,Int.toNat_natCast,Int.toNat_natCast]
      show inn1 _ _ (decide ((f.2.2.2.2.2.2.getD t []).getD e 0 = (f.2.2.2.2.2.2.getD b []).getD d 0)) _
      cases decide ((f.2.2.2.2.2.2.getD t []).getD e 0 = (f.2.2.2.2.2.2.getD b []).getD d 0) with
      | true=>exact inn1_t rfl
      | false=>exact inn1_f ⟨_,rfl,_,rfl,_,rfl,rfl⟩
     ·simp only [in_cast ha2,hg,hn',lt_cast,Nat.lt_irrefl,decide_false,cond_false,and_self,if_true,Int.toNat_natCast]
     ·show (if 8 = 8 then _ else none) = _
      rw [if_pos rfl,wrap_sm (by omega) (by omega)]; rfl
   ·have e : decide (((ar (shS f) : Nat) : Int) < ((f.2.1.length : Nat) : Int)) = false:=by rw [lt_cast]; exact decide_eq_false (Nat.lt_irrefl _)
    simp only [e,cond_false]
   ·show (if 6 = 6 then _ else none) = _
    rw [if_pos rfl,wrap_sm (by omega) (by omega)]; rfl
  ·have e : decide (((ar (shS f) : Nat) : Int) < ((f.2.1.length : Nat) : Int)) = false:=by rw [lt_cast]; exact decide_eq_false (Nat.lt_irrefl _)
   simp only [e,cond_false]

end Go.Ve.D


namespace Go.Ve.D
open Go Go.Ve

theorem p173 {f : SF} (h : FS f) : ∃ r,G173 f = some r∧decide (r.1 = 0) = (idS f && coS f):=by
 obtain ⟨a1,a2,a3,a4,a5,a6,a7,a8⟩:=h.sh.hd
 have l1 : ((f.2.2.2.2.2.1.length : Nat) : Int) = f.1:=h.l1
 have l2 : f.2.2.2.2.2.2.length = ar (shS f):=h.l2
 have c4 : ((f.2.2.2.1.length : Nat) : Int) = f.1:=a7
 have c5 : f.2.2.2.2.1.length = ar (shS f):=a6
 have hf1 : f.1≤8:=a1.2
 have hm : ar (shS f)≤40:=a2
 unfold G173 idS
 refine chkT (n:=f.2.2.2.1.length) (p:=fun x=>(List.range (sz f (x : Int)).toNat).all (idOne f x)) (bad:=bad4) (id:=0) (Post:=fun b (o : Option R4)=>∃ r,o = some r∧decide (r.1 = 0) = (b && coS f)) (fun x hx=>?_) ?_ ?_ (fun r hr=>⟨r,rfl,hr⟩)
 ·have hz:=h.szi (x:=(x : Int)) ⟨by omega,by omega⟩
  obtain ⟨n,hn⟩ : ∃ n : Nat,sz f (x : Int) = (n : Int):=⟨(sz f (x : Int)).toNat,by omega⟩
  obtain ⟨a,ha,ea,ef⟩:=h.ida hx
  have ea' : f.2.2.2.1.getD x 0 = (a : Int):=ea
  have hal : a < f.2.2.2.2.2.2.length:=by omega
  have hel : (act f a).length = n:=by
   have:=h.al a ha
   rw [ef,hn] at this; omega
  have hel' : (f.2.2.2.2.2.2.getD a []).length = n:=hel
  simp only [lt_cast,hx,decide_true,cond_true,in_cast hx,ea',in_cast hal,and_self,if_true,Int.toNat_natCast,hel']
  rw [hn,Int.toNat_natCast]
  refine chkL (n:=n) (p:=idOne f x) (bad:=bad4) (id:=2) (s:=((x + 1 : Nat) : Int)) (fun e he=>?_) ?_ ?_
  ·simp only [he,decide_true,cond_true,in_cast he,and_self,if_true,Int.toNat_natCast]
   rw [wrap_sm (by omega) (by omega)]
   unfold idOne
   rw [ea,Int.toNat_natCast]
   show inn1 _ _ (decide ((f.2.2.2.2.2.2.getD a []).getD e 0 = (e : Int))) _
   cases decide ((f.2.2.2.2.2.2.getD a []).getD e 0 = (e : Int)) with
   | true=>exact inn1_t rfl
   | false=>exact inn1_f ⟨_,rfl,_,rfl,rfl⟩
  ·simp only [lt_cast,Nat.lt_irrefl,decide_false,cond_false]
  ·show (if 2 = 2 then _ else none) = _
   rw [if_pos rfl,wrap_sm (by omega) (by omega)]; rfl
 ·have e : decide (((f.2.2.2.1.length : Nat) : Int) < ((f.2.2.2.1.length : Nat) : Int)) = false:=by rw [lt_cast]; exact decide_eq_false (Nat.lt_irrefl _)
  simp only [e,cond_false]
 ·show ∃ r,(if 0 = 0 then _ else none) = some r∧_
  rw [if_pos rfl,Bool.true_and]
  unfold coS
  refine chkT (n:=ar (shS f)) (p:=fun a=>(List.range (ar (shS f))).all (coB f a)) (bad:=bad4) (id:=4) (Post:=fun b (o : Option R4)=>∃ r,o = some r∧decide (r.1 = 0) = b) (fun a ha=>?_) ?_ ⟨_,rfl,rfl⟩ (fun r hr=>⟨r,rfl,hr⟩)
  ·have r1 : a < f.2.2.2.2.1.length:=by omega
   have er : (f.2.2.2.2.1.getD a []).length = ar (shS f):=h.sh.row a ha
   have q4 : a < f.2.2.2.2.2.2.length:=by omega
   simp only [lt_cast,r1,decide_true,cond_true,in_cast r1,and_self,if_true,Int.toNat_natCast,er]
   refine chkL (n:=ar (shS f)) (p:=coB f a) (bad:=bad4) (id:=6) (s:=((a + 1 : Nat) : Int)) (fun b hb=>?_) ?_ ?_
   ·simp only [hb,decide_true,cond_true,in_cast hb,and_self,if_true,Int.toNat_natCast]
    unfold coB
    cases hmt : mt (shS f) a b with
    | false=>
     have e : (f.2.2.2.2.1.getD a []).getD b 0 = -1:=h.sh.neg a b ha hb hmt
     have e0 : decide ((f.2.2.2.2.1.getD a []).getD b 0 < 0) = true:=decide_eq_true (by omega)
     refine inn1_t ?_
     simp only [e0,cond_true]
     rw [wrap_sm (by omega) (by omega)]; rfl
    | true=>
     obtain ⟨t1,t2,_⟩:=h.sh.pos a b ha hb hmt
     obtain ⟨t,et⟩ : ∃ t : Nat,T (shS f) a b = (t : Int):=⟨(T (shS f) a b).toNat,by omega⟩
     have et' : (f.2.2.2.2.1.getD a []).getD b 0 = (t : Int):=et
     have e0 : decide ((t : Int) < 0) = false:=decide_eq_false (by omega)
     obtain ⟨f1,f2⟩:=h.sh.fr a ha
     obtain ⟨z1,z2⟩:=h.szi (x:=fT (shS f) a) ⟨f1,f2⟩
     have hal:=h.al a ha
     obtain ⟨n,hn⟩ : ∃ n : Nat,sz f (fT (shS f) a) = (n : Int):=⟨(sz f (fT (shS f) a)).toNat,by omega⟩
     have hel : (act f a).length = n:=by omega
     have hel' : (f.2.2.2.2.2.2.getD a []).length = n:=hel
     rw [Bool.not_true,Bool.false_or,hn,Int.toNat_natCast]
     simp only [et',e0,cond_false,in_cast q4,and_self,if_true,hel',Int.toNat_natCast]
     refine chkL (n:=n) (p:=coOne f a b) (bad:=lift bad4) (id:=8) (s:=((b + 1 : Nat) : Int)) (fun e he=>?_) ?_ ?_
     ·have he' : e < (act f a).length:=by omega
      obtain ⟨t',ht,et2,hl,d,ed,hd⟩:=h.el ha hb hmt he'
      have e3 : t' = t:=by omega
      rw [e3] at ht hl
      have ed' : (f.2.2.2.2.2.2.getD a []).getD e 0 = (d : Int):=ed
      have q1 : t < f.2.2.2.2.2.2.length:=by omega
      have q2 : e < (f.2.2.2.2.2.2.getD t []).length:=hl
      have q3 : b < f.2.2.2.2.2.2.length:=by omega
      have q6 : d < (f.2.2.2.2.2.2.getD b []).length:=hd
      simp only [lt_cast,he,decide_true,cond_true,in_cast he,in_cast q1,in_cast q2,in_cast q3,ed',in_cast q6,and_self,if_true,Int.toNat_natCast]
      rw [wrap_sm (by omega) (by omega)]
      unfold coOne
      rw [et,ed,Int.toNat_natCast,Int.toNat_natCast]
      show inn1 _ _ (decide ((f.2.2.2.2.2.2.getD t []).getD e 0 = (f.2.2.2.2.2.2.getD b []).getD d 0)) _
      cases decide ((f.2.2.2.2.2.2.getD t []).getD e 0 = (f.2.2.2.2.2.2.getD b []).getD d 0) with
      | true=>exact inn1_t rfl
      | false=>exact inn1_f ⟨_,rfl,_,rfl,_,rfl,rfl⟩
     ·simp only [lt_cast,Nat.lt_irrefl,decide_false,cond_false]
     ·show (if 8 = 8 then _ else none) = _
      rw [if_pos rfl,wrap_sm (by omega) (by omega)]; rfl
   ·simp only [lt_cast,Nat.lt_irrefl,decide_false,cond_false]
   ·show (if 6 = 6 then _ else none) = _
    rw [if_pos rfl,wrap_sm (by omega) (by omega)]; rfl
  ·have e : decide (((ar (shS f) : Nat) : Int) < ((f.2.2.2.2.1.length : Nat) : Int)) = false:=by rw [lt_cast]; exact decide_eq_false (by omega)
   simp only [e,cond_false]
def isSF (f : SF) : Bool:=shapeS f && (idS f && coS f)
theorem p99 {f : SF} (h : okS f) : G99 f = some (isSF f):=by
 unfold G99 isSF
 have e:=p164 h
 simp only [Prod.eta,e,Option.bind_some]
 cases hs : shapeS f with
 | false=>rfl
 | true=>
  obtain ⟨r,h1,h2⟩:=p165 (fs_of hs)
  simp only [Bool.not_true,cond_false,h1,Option.bind_some,Bool.true_and,h2]
theorem p103 {f : SF} (h : okS f) : G103 f = some (isSF f):=by
 unfold G103 isSF
 have e:=p172 h
 simp only [Prod.eta,e,Option.bind_some]
 cases hs : shapeS f with
 | false=>rfl
 | true=>
  obtain ⟨r,h1,h2⟩:=p173 (fs_of hs)
  simp only [Bool.not_true,cond_false,h1,Option.bind_some,Bool.true_and,h2]
theorem isSF_fs {f : SF} (h : isSF f = true) : FS f:=by
 unfold isSF at h
 rw [Bool.and_eq_true] at h
 exact fs_of h.1

theorem p128 {x : List Int} (h : x.length≤1048576) (a : Int) : G128 (x,a) = some (x.contains a):=p121 h a
theorem out_all {c : Cat} {x : Int} {q : Int→Bool} : (List.range (outL c x).length).all (fun i=>q ((outL c x).getD i 0)) = (List.range (ar c)).all fun b=>!decide (fT c b = x) || q (b : Int):=by
 rw [all_idx (0 : Int) q]
 unfold outL
 rw [List.all_map,List.all_filter]
 rfl
end Go.Ve.D


namespace Go.Ve.D
open Go Go.Ve
noncomputable section

theorem gatherM {α R : Type} {F : (Int × List α)→Option (LO (Int × List α) R)} {n : Nat} {g : Nat→α} {id : Nat}
  (h1 : ∀ i,i < n→∀ acc : List α,acc.length = i→F ((i : Int),acc) = some (.next (((i + 1 : Nat) : Int),acc ++ [g i])))
  (h2 : ∀ acc : List α,F ((n : Int),acc) = some (.brk id ((n : Int),acc))) :
  tloop F ((0 : Int),[]) = some (.brk id ((n : Int),(List.range n).map g)):=by
 refine tloop_iter (st:=fun i : Nat=>((i : Int),(List.range i).map g)) (n:=n) (fun i hi=>?_) (h2 _) (fun y=>by simp)
 rw [h1 i hi _ (by simp),List.range_succ,List.map_append]
 rfl

end

end Go.Ve.D


namespace Go.Ve.D
open Go Go.Ve
noncomputable section

theorem list_eq {x y : List Int} (h : x.length = y.length) : decide (x = y) = (List.range x.length).all fun i=>decide (x.getD i 0 = y.getD i 0):=by
 rw [Bool.eq_iff_iff,decide_eq_true_eq,List.all_eq_true]
 constructor
 ·rintro rfl i _
  exact decide_eq_true rfl
 ·intro H
  refine List.ext_getElem h fun i h1 h2=>?_
  have:=of_decide_eq_true (H i (List.mem_range.2 h1))
  simpa [h1,h2] using this
theorem p66 {x y : List Int} (hx : x.length≤1048576) : G66 (x,y) = some (decide (x = y)):=by
 unfold G66
 cases hl : decide ((x.length : Int) = (y.length : Int)) with
 | false=>
  have hl:=of_decide_eq_false hl
  have : decide (x = y) = false:=decide_eq_false fun h=>hl (by rw [h])
  rw [this]; rfl
 | true=>
  have hl:=of_decide_eq_true hl
  have hl : x.length = y.length:=by omega
  rw [list_eq hl]
  simp only [Bool.not_true,cond_false]
  refine chkT (n:=x.length) (p:=fun i=>decide (x.getD i 0 = y.getD i 0)) (bad:=fun r : Bool=>r = false) (id:=0) (Post:=fun b (o : Option Bool)=>o = some b) (fun i hi=>?_) ?_ rfl (fun r hr=>by rw [hr])
  ·have hy : i < y.length:=by omega
   simp only [lt_cast,hi,decide_true,cond_true,in_cast hi,in_cast hy,and_self,if_true,Int.toNat_natCast]
   rw [wrap_sm (by omega) (by omega)]
   cases decide (x.getD i 0 = y.getD i 0) with
   | true=>exact inn1_t rfl
   | false=>exact inn1_f ⟨_,rfl,rfl⟩
  ·simp only [lt_cast,Nat.lt_irrefl,decide_false,cond_false]
theorem all_refl {x y : List Int} {n : Nat} (h : (List.range n).all (fun i=>decide (x.getD i 0 = y.getD i 0)) = false) : decide (x = y) = false:=by
 cases hd : decide (x = y) with
 | false=>rfl
 | true=>
  rw [of_decide_eq_true hd] at h
  have : (List.range n).all (fun i=>decide (y.getD i 0 = y.getD i 0)) = true:=List.all_eq_true.2 fun i _=>decide_eq_true rfl
  rw [this] at h; cases h
theorem p68 {x y : List Int} (hx : x.length≤1048576) (hy : y.length≤1048576) : G68 (x,y) = some (decide (x = y)):=by
 have key : ∃ r,G115 (x,y) = some r∧decide (r = 0) = decide (x = y):=by
  unfold G115
  have step : ∀ i,i < x.length→i < y.length→∀ F : Int→Option (LO Int Int),F = (fun (v0 : Int)=>(bif (decide (v0 < ((x.length : Nat) : Int))) then (bif (decide (v0 = ((y.length : Nat) : Int))) then (retM (some (1 : Int))) else (if (((0 : Int)≤v0)∧(v0 < ((x.length : Nat) : Int))) then (if (((0 : Int)≤v0)∧(v0 < ((y.length : Nat) : Int))) then (bif (!decide ((x.getD (v0).toNat (0 : Int)) = (y.getD (v0).toNat (0 : Int)))) then (if (((0 : Int)≤v0)∧(v0 < ((x.length : Nat) : Int))) then (if (((0 : Int)≤v0)∧(v0 < ((y.length : Nat) : Int))) then (bif (decide ((x.getD (v0).toNat (0 : Int)) < (y.getD (v0).toNat (0 : Int)))) then (retM (some (-(1 : Int)))) else (retM (some (1 : Int)))) else none) else none) else (some (LO.next (IntKind.wrap .i64 (v0 + (1 : Int)))))) else none) else none)) else (some (LO.brk 0 v0)))) →
    (decide (x.getD i 0 = y.getD i 0) = true→F (i : Int) = some (.next ((i + 1 : Nat) : Int)))∧(decide (x.getD i 0 = y.getD i 0) = false→∃ r,F (i : Int) = some (.ret r)∧decide (r = 0) = false):=by
   rintro i h1 h2 F rfl
   have e1 : decide ((i : Int) = (y.length : Int)) = false:=decide_eq_false (by omega)
   simp only [lt_cast,h1,decide_true,cond_true,in_cast h1,and_self,if_true,Int.toNat_natCast,e1,cond_false,in_cast h2]
   rw [wrap_sm (by omega) (by omega)]
   cases decide (x.getD i 0 = y.getD i 0) with
   | true=>exact ⟨fun _=>rfl,(fun h=>by cases h)⟩
   | false=>
    refine ⟨(fun h=>by cases h),fun _=>?_⟩
    simp only [Bool.not_false,cond_true]
    cases decide (x.getD i 0 < y.getD i 0) <;> exact ⟨_,rfl,rfl⟩
  by_cases hl : x.length≤y.length
  ·refine chk_bind (st:=fun i : Nat=>(i : Int)) (n:=x.length) (p:=fun i=>decide (x.getD i 0 = y.getD i 0)) (Q:=fun r : Int=>decide (r = 0) = false) (o:=.brk 0 (x.length : Int)) (Post:=fun o : Option Int=>∃ r,o = some r∧decide (r = 0) = decide (x = y)) (fun i hi=>step i hi (by omega) _ rfl) ?_ (fun y=>by simp) (fun hall=>?_) (fun hall r hr=>⟨r,rfl,by rw [hr,all_refl hall]⟩)
   ·simp only [lt_cast,Nat.lt_irrefl,decide_false,cond_false]
   ·show ∃ r,(if 0 = 0 then _ else none) = some r∧_
    rw [if_pos rfl]
    simp only [lt_cast]
    by_cases h2 : x.length < y.length
    ·have : decide (x = y) = false:=decide_eq_false fun h=>by rw [h] at h2; omega
     simp only [h2,decide_true,cond_true,this]
     exact ⟨_,rfl,rfl⟩
    ·have : decide (x = y) = true:=by rw [list_eq (by omega)]; exact hall
     simp only [h2,decide_false,cond_false,this]
     exact ⟨_,rfl,rfl⟩
  ·have hne : decide (x = y) = false:=decide_eq_false fun h=>hl (by rw [h]; exact Nat.le_refl _)
   have hyx : y.length < x.length:=by omega
   refine chk_bind (st:=fun i : Nat=>(i : Int)) (n:=y.length) (p:=fun i=>decide (x.getD i 0 = y.getD i 0)) (Q:=fun r : Int=>decide (r = 0) = false) (o:=.ret 1) (Post:=fun o : Option Int=>∃ r,o = some r∧decide (r = 0) = decide (x = y)) (fun i hi=>step i (by omega) hi _ rfl) ?_ (fun y=>by simp) (fun hall=>?_) (fun hall r hr=>⟨r,rfl,by rw [hr,hne]⟩)
   ·simp only [lt_cast,hyx,decide_true,cond_true]
    rfl
   ·exact ⟨1,rfl,by rw [hne]; rfl⟩
 obtain ⟨r,hr,he⟩:=key
 unfold G68
 simp only [hr,Option.bind_some,he]

theorem lists_eq {x y : List (List Int)} (h : x.length = y.length) : decide (x = y) = (List.range x.length).all fun i=>decide (x.getD i [] = y.getD i []):=by
 rw [Bool.eq_iff_iff,decide_eq_true_eq,List.all_eq_true]
 constructor
 ·rintro rfl i _
  exact decide_eq_true rfl
 ·intro H
  refine List.ext_getElem h fun i h1 h2=>?_
  have:=of_decide_eq_true (H i (List.mem_range.2 h1))
  simpa [h1,h2] using this
theorem getL {x : List (List Int)} {n : Nat} (hx : ∀ y ∈ x,y.length≤n) (i : Nat) : (x.getD i []).length≤n:=by
 by_cases hi : i < x.length
 ·exact hx _ (getD_mem' _ hi)
 ·rw [List.getD_eq_getElem?_getD,List.getElem?_eq_none (by omega)]; exact Nat.zero_le _
theorem p227 {x y : List (List Int)} (hl : x.length≤1048576) (hx : ∀ z ∈ x,z.length≤1048576) : G227 (x,y) = some (decide (x = y)):=by
 unfold G227
 cases hh : decide ((x.length : Int) = (y.length : Int)) with
 | false=>
  have hh:=of_decide_eq_false hh
  have : decide (x = y) = false:=decide_eq_false fun h=>hh (by rw [h])
  rw [this]; rfl
 | true=>
  have hh:=of_decide_eq_true hh
  have hh : x.length = y.length:=by omega
  rw [lists_eq hh]
  simp only [Bool.not_true,cond_false]
  refine chkT (n:=x.length) (p:=fun i=>decide (x.getD i [] = y.getD i [])) (bad:=fun r : Bool=>r = false) (id:=0) (Post:=fun b (o : Option Bool)=>o = some b) (fun i hi=>?_) ?_ rfl (fun r hr=>by rw [hr])
  ·have hy : i < y.length:=by omega
   simp only [lt_cast,hi,decide_true,cond_true,in_cast hi,in_cast hy,and_self,if_true,Int.toNat_natCast,p66 (getL hx i),Option.bind_some]
   rw [wrap_sm (by omega) (by omega)]
   cases decide (x.getD i [] = y.getD i []) with
   | true=>exact inn1_t rfl
   | false=>exact inn1_f ⟨_,rfl,rfl⟩
  ·simp only [lt_cast,Nat.lt_irrefl,decide_false,cond_false]
theorem cat_eq (c d : Cat) : decide (c = d) = (decide (c.1 = d.1) && (decide (c.2.1 = d.2.1) && (decide (c.2.2.1 = d.2.2.1) && (decide (c.2.2.2.1 = d.2.2.2.1) && decide (c.2.2.2.2 = d.2.2.2.2))))):=by
 obtain ⟨c1,c2,c3,c4,c5⟩:=c
 obtain ⟨d1,d2,d3,d4,d5⟩:=d
 rw [Bool.eq_iff_iff]
 simp only [decide_eq_true_eq,Bool.and_eq_true,Prod.mk.injEq]
theorem p191 {c d : Cat} (hc : okC c) : G191 (c,d) = some (decide (c = d)):=by
 obtain ⟨h1,h2,h3,h4,h5⟩:=hc
 unfold G191
 rw [cat_eq]
 simp only [p66 h1,p66 h2,p66 h3,p227 h4 h5,Option.bind_some]
 cases decide (c.1 = d.1) <;> cases decide (c.2.1 = d.2.1) <;> cases decide (c.2.2.1 = d.2.2.1) <;> cases decide (c.2.2.2.1 = d.2.2.2.1) <;> rfl
theorem p193 {c d : Cat} (hc : okC c) (hd : okC d) : G193 (c,d) = some (decide (c = d)):=by
 obtain ⟨h1,h2,h3,h4,h5⟩:=hc
 obtain ⟨g1,g2,g3,g4,g5⟩:=hd
 unfold G193
 rw [cat_eq]
 simp only [p68 h1 g1,p68 h2 g2,p68 h3 g3,Option.bind_some]
 cases decide (c.1 = d.1) with
 | false=>rfl
 | true=>
 cases decide (c.2.1 = d.2.1) with
 | false=>rfl
 | true=>
 cases decide (c.2.2.1 = d.2.2.1) with
 | false=>rfl
 | true=>
 cases decide (c.2.2.2.1 = d.2.2.2.1) with
 | false=>rfl
 | true=>
 simp only [Bool.not_true,cond_false,Option.bind_some,Bool.true_and]
 cases hh : decide ((c.2.2.2.2.length : Int) = (d.2.2.2.2.length : Int)) with
 | false=>
  have hh:=of_decide_eq_false hh
  have : decide (c.2.2.2.2 = d.2.2.2.2) = false:=decide_eq_false fun h=>hh (by rw [h])
  rw [this]; rfl
 | true=>
  have hh:=of_decide_eq_true hh
  have hh : c.2.2.2.2.length = d.2.2.2.2.length:=by omega
  rw [lists_eq hh]
  simp only [Bool.not_true,cond_false]
  generalize c.2.2.2.2 = x at *
  generalize d.2.2.2.2 = y at *
  refine chkT (n:=x.length) (p:=fun i=>decide (x.getD i [] = y.getD i [])) (bad:=fun r : Bool=>r = false) (id:=0) (Post:=fun b (o : Option Bool)=>o = some b) (fun i hi=>?_) ?_ rfl (fun r hr=>by rw [hr])
  ·have hy : i < y.length:=by omega
   simp only [lt_cast,hi,decide_true,cond_true,in_cast hi,in_cast hy,and_self,if_true,Int.toNat_natCast,p68 (getL h5 i) (getL g5 i),Option.bind_some]
   rw [wrap_sm (by omega) (by omega)]
   cases decide (x.getD i [] = y.getD i []) with
   | true=>exact inn1_t rfl
   | false=>exact inn1_f ⟨_,rfl,rfl⟩
  ·simp only [lt_cast,Nat.lt_irrefl,decide_false,cond_false]
theorem p192 {f g : SF} (hf : okS f) (hg : okS g) : G192 [f,g] = some (isSF f && isSF g):=by
 unfold G192
 have e : (isSF f && isSF g) = (List.range 2).all fun i=>isSF ([f,g].getD i f):=by
  show _ = (isSF f && (isSF g && true))
  rw [Bool.and_true]
 rw [e]
 refine chkT (n:=2) (p:=fun i=>isSF ([f,g].getD i f)) (bad:=fun r : Bool=>r = false) (id:=0) (Post:=fun b (o : Option Bool)=>o = some b) (fun i hi=>?_) ?_ rfl (fun r hr=>by rw [hr])
 ·have h2 : i < [f,g].length:=hi
  have e0 : ∀ z : SF,[f,g].getD i z = [f,g].getD i f:=fun z=>by
   rw [List.getD_eq_getElem?_getD,List.getD_eq_getElem?_getD,List.getElem?_eq_getElem h2]; rfl
  have hok : okS ([f,g].getD i f):=by
   match i,hi with
   | 0,_=>exact hf
   | 1,_=>exact hg
  simp only [lt_cast,h2,decide_true,cond_true,in_cast h2,and_self,if_true,Int.toNat_natCast,e0,p103 hok,Option.bind_some]
  rw [wrap_sm (by omega) (by omega)]
  cases isSF ([f,g].getD i f) with
  | true=>exact inn1_t rfl
  | false=>exact inn1_f ⟨_,rfl,rfl⟩
 ·rfl
theorem p116 {f g : SF} (hf : okS f) (hg : okS g) : G116 (f,g) = some (isSF f && isSF g && decide (shS f = shS g)):=by
 refine bind_of (p99 hf) ?_
 cases h1 : isSF f with
 | false=>rfl
 | true=>
 refine bind_of (a:=Option.bind (G99 g) _) (bind_of (p99 hg) rfl) ?_
 cases h2 : isSF g with
 | false=>rfl
 | true=>
 refine bind_of (a:=Option.bind (G191 (shS f,shS g)) _) (bind_of (p191 hf.1) rfl) ?_
 rfl
end
end Go.Ve.D


namespace Go.Ve.D
open Go Go.Ve
noncomputable section

abbrev SM:=Int × List Int × List Int × List Int × List (List Int) × List Int × List (List Int) × Int × List Int × List Int × List Int × List (List Int) × List Int × List (List Int) × List (List Int)
def srM (m : SM) : SF:=(m.1,(m.2.1,(m.2.2.1,(m.2.2.2.1,(m.2.2.2.2.1,(m.2.2.2.2.2.1,m.2.2.2.2.2.2.1))))))
def tgM (m : SM) : SF:=(m.2.2.2.2.2.2.2.1,(m.2.2.2.2.2.2.2.2.1,(m.2.2.2.2.2.2.2.2.2.1,(m.2.2.2.2.2.2.2.2.2.2.1,(m.2.2.2.2.2.2.2.2.2.2.2.1,(m.2.2.2.2.2.2.2.2.2.2.2.2.1,m.2.2.2.2.2.2.2.2.2.2.2.2.2.1))))))
def ptM (m : SM) : List (List Int):=m.2.2.2.2.2.2.2.2.2.2.2.2.2.2
theorem FS.ends {f : SF} (h : FS f) {a : Nat} (ha : a < ar (shS f)) : a < f.2.1.length∧a < f.2.2.1.length∧a < f.2.2.2.2.2.2.length∧∃ X Y : Nat,f.2.1.getD a 0 = (X : Int)∧f.2.2.1.getD a 0 = (Y : Int)∧X < f.2.2.2.2.2.1.length∧Y < f.2.2.2.2.2.1.length∧f.2.2.2.2.2.1.getD X 0 = ((act f a).length : Int)∧wi (f.2.2.2.2.2.1.getD Y 0) (act f a) = true:=by
 obtain ⟨a1,a2,a3,a4,a5,a6,a7,a8⟩:=h.sh.hd
 have l1 : ((f.2.2.2.2.2.1.length : Nat) : Int) = f.1:=h.l1
 have l2 : f.2.2.2.2.2.2.length = ar (shS f):=h.l2
 have hto : f.2.2.1.length = ar (shS f):=a3
 have hfr : f.2.1.length = ar (shS f):=rfl
 obtain ⟨b1,b2⟩:=h.sh.fr a ha
 obtain ⟨b3,b4⟩:=h.sh.to a ha
 have b1 : 0≤f.2.1.getD a 0:=b1
 have b2 : f.2.1.getD a 0 < f.1:=b2
 have b3 : 0≤f.2.2.1.getD a 0:=b3
 have b4 : f.2.2.1.getD a 0 < f.1:=b4
 exact ⟨ha,by omega,by omega,(f.2.1.getD a 0).toNat,(f.2.2.1.getD a 0).toNat,by omega,by omega,by omega,by omega,(h.al a ha).symm,h.aw a ha⟩

def partsB (f g : SF) (p : List (List Int)) : Bool:=decide (((p.length : Nat) : Int) = (((szF f).length : Nat) : Int)) && (List.range p.length).all fun i=>decide ((((p.getD i []).length : Nat) : Int) = (szF f).getD i 0) && wi ((szF g).getD i 0) (p.getD i [])
theorem p117 {f g : SF} (hf : FS f) (hg : FS g) (he : shS f = shS g) {p : List (List Int)} (hpp : p.length≤1048576∧∀ y ∈ p,y.length≤1048576) : G117 (f,(g,p)) = some (partsB f g p):=by
 unfold G117 partsB
 have l1 : ((f.2.2.2.2.2.1.length : Nat) : Int) = f.1:=hf.l1
 have l2 : ((g.2.2.2.2.2.1.length : Nat) : Int) = g.1:=hg.l1
 have e1 : f.1 = g.1:=congrArg (fun c : Cat=>c.1) he
 have e2 : decide (((p.length : Nat) : Int) = ((f.2.2.2.2.2.1.length : Nat) : Int)) = decide (((p.length : Nat) : Int) = (((szF f).length : Nat) : Int)):=rfl
 simp only [e2]
 cases hh : decide (((p.length : Nat) : Int) = (((szF f).length : Nat) : Int)) with
 | false=>rfl
 | true=>
  have hh : ((p.length : Nat) : Int) = ((f.2.2.2.2.2.1.length : Nat) : Int):=of_decide_eq_true hh
  simp only [Bool.not_true,cond_false,Bool.true_and]
  refine chkT (n:=p.length) (p:=fun i=>decide ((((p.getD i []).length : Nat) : Int) = (szF f).getD i 0) && wi ((szF g).getD i 0) (p.getD i [])) (bad:=fun r : Bool=>r = false) (id:=0) (Post:=fun b (o : Option Bool)=>o = some b) (fun i hi=>?_) ?_ rfl (fun r hr=>by rw [hr])
  ·have h2 : i < f.2.2.2.2.2.1.length:=by omega
   have h3 : i < g.2.2.2.2.2.1.length:=by omega
   simp only [lt_cast,hi,decide_true,cond_true,in_cast hi,in_cast h2,in_cast h3,and_self,if_true,Int.toNat_natCast,p120 (getL hpp.2 i),Option.bind_some]
   rw [wrap_sm (by omega) (by omega)]
   show inn1 _ _ (decide ((((p.getD i []).length : Nat) : Int) = f.2.2.2.2.2.1.getD i 0) && wi (g.2.2.2.2.2.1.getD i 0) (p.getD i [])) _
   cases decide ((((p.getD i []).length : Nat) : Int) = f.2.2.2.2.2.1.getD i 0) with
   | false=>exact inn1_f ⟨_,rfl,rfl⟩
   | true=>
    rw [Bool.true_and]
    cases wi (g.2.2.2.2.2.1.getD i 0) (p.getD i []) with
    | true=>exact inn1_t rfl
    | false=>exact inn1_f ⟨_,rfl,rfl⟩
  ·simp only [lt_cast,Nat.lt_irrefl,decide_false,cond_false]
theorem p194 {m : SM} (hf : FS (srM m)) (hg : FS (tgM m)) (he : shS (srM m) = shS (tgM m)) (hpp : (ptM m).length≤1048576∧∀ y ∈ ptM m,y.length≤1048576) : G194 m = some (partsB (srM m) (tgM m) (ptM m)):=by
 have key : ∀ (f g : SF) (p : List (List Int)),f = srM m→g = tgM m→p = ptM m→G194 m = some (partsB f g p):=by
  intro f g p e1 e2 e3
  rw [e1,e2,e3]
  unfold G194 partsB
  have l1 : ((m.2.2.2.2.2.1.length : Nat) : Int) = m.1:=hf.l1
  have l2 : ((m.2.2.2.2.2.2.2.2.2.2.2.2.1.length : Nat) : Int) = m.2.2.2.2.2.2.2.1:=hg.l1
  have e1 : m.1 = m.2.2.2.2.2.2.2.1:=congrArg (fun c : Cat=>c.1) he
  have e2 : decide ((((ptM m).length : Nat) : Int) = (((szF (srM m)).length : Nat) : Int)) = decide (((m.2.2.2.2.2.2.2.2.2.2.2.2.2.2.length : Nat) : Int) = ((m.2.2.2.2.2.1.length : Nat) : Int)):=rfl
  rw [e2]
  cases hh : decide (((m.2.2.2.2.2.2.2.2.2.2.2.2.2.2.length : Nat) : Int) = ((m.2.2.2.2.2.1.length : Nat) : Int)) with
  | false=>rfl
  | true=>
   have hh:=of_decide_eq_true hh
   have hl : (ptM m).length = m.2.2.2.2.2.2.2.2.2.2.2.2.2.2.length:=rfl
   simp only [Bool.not_true,cond_false,Bool.true_and]
   refine chkT (n:=(ptM m).length) (p:=fun i=>decide (((((ptM m).getD i []).length : Nat) : Int) = (szF (srM m)).getD i 0) && wi ((szF (tgM m)).getD i 0) ((ptM m).getD i [])) (bad:=fun r : Bool=>r = false) (id:=0) (Post:=fun b (o : Option Bool)=>o = some b) (fun i hi=>?_) ?_ rfl (fun r hr=>by rw [hr])
   ·have h1 : i < m.2.2.2.2.2.2.2.2.2.2.2.2.2.2.length:=hi
    have h2 : i < m.2.2.2.2.2.1.length:=by omega
    have h3 : i < m.2.2.2.2.2.2.2.2.2.2.2.2.1.length:=by omega
    obtain ⟨z1,z2⟩:=hg.szi (x:=(i : Int)) ⟨by omega,by show (i : Int) < m.2.2.2.2.2.2.2.1; omega⟩
    have e4 : G228 (m.2.2.2.2.2.2.2.2.2.2.2.2.2.2.getD i [],(m.2.2.2.2.2.1.getD i 0,m.2.2.2.2.2.2.2.2.2.2.2.2.1.getD i 0)) = some (decide (((((ptM m).getD i []).length : Nat) : Int) = (szF (srM m)).getD i 0) && wi ((szF (tgM m)).getD i 0) ((ptM m).getD i [])):=p228 (x:=(ptM m).getD i []) (k:=(szF (srM m)).getD i 0) (n:=(szF (tgM m)).getD i 0) ⟨z1,by have : (szF (tgM m)).getD i 0≤16:=z2; omega⟩ (getL hpp.2 i)
    simp only [lt_cast,h1,decide_true,cond_true,in_cast h1,in_cast h2,in_cast h3,and_self,if_true,Int.toNat_natCast,e4,Option.bind_some]
    rw [wrap_sm (by omega) (by omega)]
    cases decide (((((ptM m).getD i []).length : Nat) : Int) = (szF (srM m)).getD i 0) && wi ((szF (tgM m)).getD i 0) ((ptM m).getD i []) with
    | true=>exact inn1_t rfl
    | false=>exact inn1_f ⟨_,rfl,rfl⟩
   ·have e : decide ((((ptM m).length : Nat) : Int) < ((m.2.2.2.2.2.2.2.2.2.2.2.2.2.2.length : Nat) : Int)) = false:=by rw [lt_cast]; exact decide_eq_false (by omega)
    simp only [e,cond_false]
 exact key _ _ _ rfl rfl rfl
structure PB (f g : SF) (p : List (List Int)) : Prop where
 hf : FS f
 hg : FS g
 e : shS f = shS g
 l : p.length = f.2.2.2.2.2.1.length
 lg : p.length = g.2.2.2.2.2.1.length
 pl : ∀ i,i < p.length→(((p.getD i []).length : Nat) : Int) = f.2.2.2.2.2.1.getD i 0
 pw : ∀ i,i < p.length→wi (g.2.2.2.2.2.1.getD i 0) (p.getD i []) = true
theorem pb_of {f g : SF} (hf : FS f) (hg : FS g) (he : shS f = shS g) {p : List (List Int)} (h : partsB f g p = true) : PB f g p:=by
 unfold partsB at h
 rw [Bool.and_eq_true,decide_eq_true_eq] at h
 obtain ⟨h1,h2⟩:=h
 have h1 : ((p.length : Nat) : Int) = ((f.2.2.2.2.2.1.length : Nat) : Int):=h1
 have l1 : ((f.2.2.2.2.2.1.length : Nat) : Int) = f.1:=hf.l1
 have l2 : ((g.2.2.2.2.2.1.length : Nat) : Int) = g.1:=hg.l1
 have e1 : f.1 = g.1:=congrArg (fun c : Cat=>c.1) he
 have h3:=fun i (hi : i < p.length)=>by
  have:=List.all_eq_true.1 h2 i (List.mem_range.2 hi)
  rw [Bool.and_eq_true,decide_eq_true_eq] at this
  exact this
 exact ⟨hf,hg,he,by omega,by omega,fun i hi=>(h3 i hi).1,fun i hi=>(h3 i hi).2⟩

def natOne (f g : SF) (p : List (List Int)) (a e : Nat) : Bool:=decide ((p.getD (tT (shS f) a).toNat []).getD ((act f a).getD e 0).toNat 0 = (act g a).getD ((p.getD (fT (shS f) a).toNat []).getD e 0).toNat 0)
def natB (f g : SF) (p : List (List Int)) : Bool:=(List.range (ar (shS f))).all fun a=>(List.range (act f a).length).all (natOne f g p a)
theorem PB.el {f g : SF} {p : List (List Int)} (h : PB f g p) {a e X Y : Nat} (ha : a < ar (shS f)) (he : e < (act f a).length) (hX : f.2.1.getD a 0 = (X : Int)) (hY : f.2.2.1.getD a 0 = (Y : Int)) :
  X < p.length∧Y < p.length∧e < (p.getD X []).length∧∃ d k : Nat,(act f a).getD e 0 = (d : Int)∧d < (p.getD Y []).length∧(p.getD X []).getD e 0 = (k : Int)∧k < (act g a).length:=by
 obtain ⟨i1,i2,i3,X',Y',x1,y1,x2,y2,x3,y3⟩:=h.hf.ends ha
 have hXX : X' = X:=by omega
 have hYY : Y' = Y:=by omega
 subst hXX; subst hYY
 have hg : ar (shS g) = ar (shS f):=by rw [h.e]
 obtain ⟨j1,j2,j3,X2,Y2,u1,v1,u2,v2,u3,v3⟩:=h.hg.ends (a:=a) (by omega)
 have hfr : g.2.1 = f.2.1:=(congrArg (fun c : Cat=>c.2.1) h.e).symm
 rw [hfr,x1] at u1
 have hX2 : X2 = X':=by omega
 subst hX2
 have l:=h.l
 have p1:=h.pl X2 (by omega)
 have p2:=h.pl Y' (by omega)
 have p3:=h.pw X2 (by omega)
 have heX : e < (p.getD X2 []).length:=by omega
 obtain ⟨g1,g2⟩:=wi_get y3 he
 obtain ⟨g3,g4⟩:=wi_get p3 heX
 exact ⟨by omega,by omega,heX,((act f a).getD e 0).toNat,((p.getD X2 []).getD e 0).toNat,by omega,by omega,by omega,by omega⟩
abbrev R2:=Int × Int
def bad2 (r : R2) : Prop:=decide (r.1 < 0) = false
theorem p118 {f g : SF} {p : List (List Int)} (h : PB f g p) : ∃ r,G118 (f,(g,p)) = some r∧decide (r.1 < 0) = natB f g p:=by
 have l2 : f.2.2.2.2.2.2.length = ar (shS f):=h.hf.l2
 have hm : ar (shS f)≤40:=h.hf.sh.hd.2.1
 unfold G118 natB
 refine chkT (n:=ar (shS f)) (p:=fun a=>(List.range (act f a).length).all (natOne f g p a)) (bad:=bad2) (id:=0) (Post:=fun b (o : Option R2)=>∃ r,o = some r∧decide (r.1 < 0) = b) (fun a ha=>?_) ?_ ⟨_,rfl,rfl⟩ (fun r hr=>⟨r,rfl,hr⟩)
 ·obtain ⟨i1,i2,i3,X,Y,x1,y1,x2,y2,x3,y3⟩:=h.hf.ends ha
  have hXp : X < p.length:=by have:=h.l; omega
  have hYp : Y < p.length:=by have:=h.l; omega
  have i4 : a < g.2.2.2.2.2.2.length:=by
   have : g.2.2.2.2.2.2.length = ar (shS g):=h.hg.l2
   rw [← h.e] at this; omega
  have x3' : f.2.2.2.2.2.1.getD X 0 = (((f.2.2.2.2.2.2.getD a []).length : Nat) : Int):=x3
  simp only [lt_cast,i3,decide_true,cond_true,in_cast i1,in_cast i2,in_cast i3,in_cast i4,x1,y1,in_cast x2,in_cast hXp,in_cast hYp,and_self,if_true,Int.toNat_natCast,x3']
  refine chkL (n:=(act f a).length) (p:=natOne f g p a) (bad:=bad2) (id:=2) (s:=((a + 1 : Nat) : Int)) (fun e he=>?_) ?_ ?_
  ·obtain ⟨_,_,k1,d,k,k2,k3,k4,k5⟩:=h.el ha he x1 y1
   have he' : e < (f.2.2.2.2.2.2.getD a []).length:=he
   have k2' : (f.2.2.2.2.2.2.getD a []).getD e 0 = (d : Int):=k2
   have k5' : k < (g.2.2.2.2.2.2.getD a []).length:=k5
   simp only [lt_cast,he',decide_true,cond_true,in_cast he',in_cast k1,k2',in_cast k3,k4,in_cast k5',and_self,if_true,Int.toNat_natCast]
   rw [wrap_sm (by omega) (by have:=wi_get y3 he; have z:=h.hf.szi (x:=(Y : Int)) ⟨by omega,by have : ((f.2.2.2.2.2.1.length : Nat) : Int) = f.1:=h.hf.l1; omega⟩; have w:=h.hf.szi (x:=(X : Int)) ⟨by omega,by have : ((f.2.2.2.2.2.1.length : Nat) : Int) = f.1:=h.hf.l1; omega⟩; have : sz f (X : Int) = f.2.2.2.2.2.1.getD X 0:=rfl; omega)]
   have e5 : natOne f g p a e = decide ((p.getD Y []).getD d 0 = (g.2.2.2.2.2.2.getD a []).getD k 0):=by
    unfold natOne
    rw [show tT (shS f) a = (Y : Int) from y1,show fT (shS f) a = (X : Int) from x1,k2,Int.toNat_natCast,Int.toNat_natCast,Int.toNat_natCast,k4,Int.toNat_natCast]
    rfl
   rw [e5]
   cases decide ((p.getD Y []).getD d 0 = (g.2.2.2.2.2.2.getD a []).getD k 0) with
   | true=>exact inn1_t rfl
   | false=>exact inn1_f ⟨_,rfl,_,rfl,decide_eq_false (by show ¬ ((a : Int) < 0); omega)⟩
  ·have e : decide ((act f a).length < (f.2.2.2.2.2.2.getD a []).length) = false:=decide_eq_false (Nat.lt_irrefl _)
   simp only [lt_cast,e,cond_false]
  ·show (if 2 = 2 then _ else none) = _
   rw [if_pos rfl,wrap_sm (by omega) (by omega)]; rfl
 ·have e : decide (((ar (shS f) : Nat) : Int) < ((f.2.2.2.2.2.2.length : Nat) : Int)) = false:=by rw [lt_cast]; exact decide_eq_false (by omega)
  simp only [e,cond_false]
end
end Go.Ve.D


namespace Go.Ve.D
open Go Go.Ve
noncomputable section

def mkM (f g : SF) (p : List (List Int)) : SM:=(f.1,(f.2.1,(f.2.2.1,(f.2.2.2.1,(f.2.2.2.2.1,(f.2.2.2.2.2.1,(f.2.2.2.2.2.2,(g.1,(g.2.1,(g.2.2.1,(g.2.2.2.1,(g.2.2.2.2.1,(g.2.2.2.2.2.1,(g.2.2.2.2.2.2,p))))))))))))))
theorem p125 {f g : SF} {p : List (List Int)} (h : PB f g p) : ∃ r,G125 (mkM f g p) = some r∧decide (r.1 < 0) = natB f g p:=by
 have l2 : f.2.2.2.2.2.2.length = ar (shS f):=h.hf.l2
 have hm : ar (shS f)≤40:=h.hf.sh.hd.2.1
 unfold G125 natB mkM
 simp only
 refine chkT (n:=ar (shS f)) (p:=fun a=>(List.range (act f a).length).all (natOne f g p a)) (bad:=bad2) (id:=0) (Post:=fun b (o : Option R2)=>∃ r,o = some r∧decide (r.1 < 0) = b) (fun a ha=>?_) ?_ ⟨_,rfl,rfl⟩ (fun r hr=>⟨r,rfl,hr⟩)
 ·obtain ⟨i1,i2,i3,X,Y,x1,y1,x2,y2,x3,y3⟩:=h.hf.ends ha
  have hXp : X < p.length:=by have:=h.l; omega
  have hYp : Y < p.length:=by have:=h.l; omega
  have i4 : a < g.2.2.2.2.2.2.length:=by
   have : g.2.2.2.2.2.2.length = ar (shS g):=h.hg.l2
   rw [← h.e] at this; omega
  simp only [lt_cast,i1,decide_true,cond_true,in_cast i1,in_cast i2,in_cast i3,in_cast i4,x1,y1,in_cast x2,in_cast hXp,in_cast hYp,and_self,if_true,Int.toNat_natCast]
  refine chkL (n:=(act f a).length) (p:=natOne f g p a) (bad:=bad2) (id:=2) (s:=((a + 1 : Nat) : Int)) (fun e he=>?_) ?_ ?_
  ·obtain ⟨_,_,k1,d,k,k2,k3,k4,k5⟩:=h.el ha he x1 y1
   have he' : e < (f.2.2.2.2.2.2.getD a []).length:=he
   have k2' : (f.2.2.2.2.2.2.getD a []).getD e 0 = (d : Int):=k2
   have k5' : k < (g.2.2.2.2.2.2.getD a []).length:=k5
   simp only [lt_cast,he',decide_true,cond_true,in_cast he',in_cast k1,k2',in_cast k3,k4,in_cast k5',and_self,if_true,Int.toNat_natCast]
   rw [wrap_sm (by omega) (by have:=wi_get y3 he; have z:=h.hf.szi (x:=(Y : Int)) ⟨by omega,by have : ((f.2.2.2.2.2.1.length : Nat) : Int) = f.1:=h.hf.l1; omega⟩; have w:=h.hf.szi (x:=(X : Int)) ⟨by omega,by have : ((f.2.2.2.2.2.1.length : Nat) : Int) = f.1:=h.hf.l1; omega⟩; have : sz f (X : Int) = f.2.2.2.2.2.1.getD X 0:=rfl; omega)]
   have e5 : natOne f g p a e = decide ((p.getD Y []).getD d 0 = (g.2.2.2.2.2.2.getD a []).getD k 0):=by
    unfold natOne
    rw [show tT (shS f) a = (Y : Int) from y1,show fT (shS f) a = (X : Int) from x1,k2,Int.toNat_natCast,Int.toNat_natCast,Int.toNat_natCast,k4,Int.toNat_natCast]
    rfl
   rw [e5]
   cases decide ((p.getD Y []).getD d 0 = (g.2.2.2.2.2.2.getD a []).getD k 0) with
   | true=>exact inn1_t rfl
   | false=>exact inn1_f ⟨_,rfl,_,rfl,decide_eq_false (by show ¬ ((a : Int) < 0); omega)⟩
  ·have e : decide ((act f a).length < (f.2.2.2.2.2.2.getD a []).length) = false:=decide_eq_false (Nat.lt_irrefl _)
   simp only [lt_cast,e,cond_false]
  ·show (if 2 = 2 then _ else none) = _
   rw [if_pos rfl,wrap_sm (by omega) (by omega)]; rfl
 ·have e : decide (((ar (shS f) : Nat) : Int) < ((f.2.1.length : Nat) : Int)) = false:=by rw [lt_cast]; exact decide_eq_false (Nat.lt_irrefl _)
  simp only [e,cond_false]
def shapeM (f g : SF) (p : List (List Int)) : Bool:=(isSF f && isSF g && decide (shS f = shS g)) && partsB f g p
def isMap (f g : SF) (p : List (List Int)) : Bool:=shapeM f g p && natB f g p
abbrev okL (p : List (List Int)) : Prop:=p.length≤1048576∧∀ y ∈ p,y.length≤1048576
theorem bet {f g : SF} (h : (isSF f && isSF g && decide (shS f = shS g)) = true) : FS f∧FS g∧shS f = shS g:=by
 rw [Bool.and_eq_true,Bool.and_eq_true,decide_eq_true_eq] at h
 exact ⟨isSF_fs h.1.1,isSF_fs h.1.2,h.2⟩
theorem shapeM_pb {f g : SF} {p : List (List Int)} (h : shapeM f g p = true) : PB f g p:=by
 unfold shapeM at h
 rw [Bool.and_eq_true] at h
 obtain ⟨h1,h2,h3⟩:=bet h.1
 exact pb_of h1 h2 h3 h.2
theorem p70 {f g : SF} {p : List (List Int)} (hf : okS f) (hg : okS g) (hp : okL p) : G70 (mkM f g p) = some (isMap f g p):=by
 have hs : shapeM f g p = true→PB f g p:=shapeM_pb
 refine bind_of (a:=G116 (f,g)) (p116 hf hg) ?_
 unfold isMap shapeM at *
 cases h1 : (isSF f && isSF g && decide (shS f = shS g)) with
 | false=>rfl
 | true=>
 obtain ⟨b1,b2,b3⟩:=bet h1
 refine bind_of (a:=Option.bind (G117 (f,(g,p))) _) (bind_of (p117 b1 b2 b3 hp) rfl) ?_
 cases h2 : partsB f g p with
 | false=>rfl
 | true=>
 obtain ⟨r,e1,e2⟩:=p118 (hs (by rw [h1,h2]; rfl))
 refine bind_of (a:=G118 (f,(g,p))) e1 ?_
 rw [e2]; rfl
theorem p73 {f g : SF} {p : List (List Int)} (hf : okS f) (hg : okS g) (hp : okL p) : G73 (mkM f g p) = some (isMap f g p):=by
 have hs : shapeM f g p = true→PB f g p:=shapeM_pb
 have e124 : G124 (mkM f g p) = some (shapeM f g p):=by
  refine bind_of (a:=G192 [f,g]) (p192 hf hg) ?_
  unfold shapeM
  cases h1 : (isSF f && isSF g) with
  | false=>rfl
  | true=>
  refine bind_of (a:=Option.bind (G193 (shS f,shS g)) _) (bind_of (p193 hf.1 hg.1) rfl) ?_
  cases h2 : decide (shS f = shS g) with
  | false=>rfl
  | true=>
  obtain ⟨b1,b2,b3⟩:=bet (f:=f) (g:=g) (by rw [h1,h2]; rfl)
  refine bind_of (a:=Option.bind (G194 (mkM f g p)) _) (bind_of (p194 (m:=mkM f g p) b1 b2 b3 hp) rfl) ?_
  rfl
 refine bind_of e124 ?_
 unfold isMap
 cases h1 : shapeM f g p with
 | false=>rfl
 | true=>
 obtain ⟨r,e1,e2⟩:=p125 (hs h1)
 refine bind_of e1 ?_
 rw [e2]; rfl

def prtOne (f : SF) (p : List (List Int)) (a e : Nat) : Bool:=(p.getD (tT (shS f) a).toNat []).contains ((act f a).getD ((p.getD (fT (shS f) a).toNat []).getD e 0).toNat 0)
def prtCl (f : SF) (p : List (List Int)) : Bool:=(List.range (ar (shS f))).all fun a=>(List.range (p.getD (fT (shS f) a).toNat []).length).all (prtOne f p a)
def prtIn (f : SF) (p : List (List Int)) (i : Nat) : Bool:=risB (p.getD i []) && wi ((szF f).getD i 0) (p.getD i [])
def partB (f : SF) (p : List (List Int)) : Bool:=decide (((p.length : Nat) : Int) = (((szF f).length : Nat) : Int)) && ((List.range p.length).all (prtIn f p) && prtCl f p)
structure PT2 (f : SF) (p : List (List Int)) : Prop where
 l : p.length = f.2.2.2.2.2.1.length
 w : ∀ i,i < p.length→wi (f.2.2.2.2.2.1.getD i 0) (p.getD i []) = true
theorem pt_of {f : SF} {p : List (List Int)} (h1 : decide (((p.length : Nat) : Int) = (((szF f).length : Nat) : Int)) = true) (h2 : (List.range p.length).all (prtIn f p) = true) : PT2 f p:=by
 have h1 : ((p.length : Nat) : Int) = ((f.2.2.2.2.2.1.length : Nat) : Int):=of_decide_eq_true h1
 refine ⟨by omega,fun i hi=>?_⟩
 have:=List.all_eq_true.1 h2 i (List.mem_range.2 hi)
 unfold prtIn at this
 rw [Bool.and_eq_true] at this
 exact this.2
theorem partB_pt {f : SF} {p : List (List Int)} (h : partB f p = true) : PT2 f p:=by
 unfold partB at h
 rw [Bool.and_eq_true,Bool.and_eq_true] at h
 exact pt_of h.1 h.2.1
theorem PT2.el {f : SF} {p : List (List Int)} (hf : FS f) (h : PT2 f p) {a e X : Nat} (ha : a < ar (shS f)) (hX : f.2.1.getD a 0 = (X : Int)) (he : e < (p.getD X []).length) : ∃ d : Nat,(p.getD X []).getD e 0 = (d : Int)∧d < (act f a).length:=by
 obtain ⟨i1,i2,i3,X',Y',x1,y1,x2,y2,x3,y3⟩:=hf.ends ha
 have hXX : X' = X:=by omega
 subst hXX
 have l:=h.l
 obtain ⟨g1,g2⟩:=wi_get (h.w X' (by omega)) he
 exact ⟨((p.getD X' []).getD e 0).toNat,by omega,by omega⟩
theorem PT2.len {f : SF} {p : List (List Int)} (h : okL p) (X : Nat) : (p.getD X []).length≤1048576:=getL h.2 X
theorem p71 {f : SF} (hf : FS f) {p : List (List Int)} (hp : okL p) : G71 (f,p) = some (partB f p):=by
 unfold G71 partB
 have l2 : f.2.2.2.2.2.2.length = ar (shS f):=hf.l2
 have hm : ar (shS f)≤40:=hf.sh.hd.2.1
 have hpl:=hp.1
 have e2 : decide (((p.length : Nat) : Int) = ((f.2.2.2.2.2.1.length : Nat) : Int)) = decide (((p.length : Nat) : Int) = (((szF f).length : Nat) : Int)):=rfl
 simp only [e2]
 cases hh : decide (((p.length : Nat) : Int) = (((szF f).length : Nat) : Int)) with
 | false=>rfl
 | true=>
  have h1 : ((p.length : Nat) : Int) = ((f.2.2.2.2.2.1.length : Nat) : Int):=of_decide_eq_true hh
  simp only [Bool.not_true,cond_false,Bool.true_and]
  refine chk_bind (st:=fun i : Nat=>(i : Int)) (n:=p.length) (p:=prtIn f p) (Q:=fun r : Bool=>r = false) (o:=.brk 0 (p.length : Int)) (Post:=fun o : Option Bool=>o = some ((List.range p.length).all (prtIn f p) && prtCl f p)) (fun i hi=>?_) ?_ (fun y=>by simp) (fun hall=>?_) (fun hall r hr=>?_)
  ·have h2 : i < f.2.2.2.2.2.1.length:=by omega
   simp only [lt_cast,hi,decide_true,cond_true,in_cast hi,in_cast h2,and_self,if_true,Int.toNat_natCast,p119 (getL hp.2 i),p120 (getL hp.2 i),Option.bind_some]
   rw [wrap_sm (by omega) (by omega)]
   show inn1 _ _ (risB (p.getD i []) && wi (f.2.2.2.2.2.1.getD i 0) (p.getD i [])) _
   cases risB (p.getD i []) with
   | false=>exact inn1_f ⟨_,rfl,rfl⟩
   | true=>
    rw [Bool.true_and]
    cases wi (f.2.2.2.2.2.1.getD i 0) (p.getD i []) with
    | true=>exact inn1_t rfl
    | false=>exact inn1_f ⟨_,rfl,rfl⟩
  ·simp only [lt_cast,Nat.lt_irrefl,decide_false,cond_false]
  ·show (if 0 = 0 then _ else none) = _
   rw [if_pos rfl,hall,Bool.true_and]
   have hpt:=pt_of hh hall
   unfold prtCl
   refine chkT (n:=ar (shS f)) (p:=fun a=>(List.range (p.getD (fT (shS f) a).toNat []).length).all (prtOne f p a)) (bad:=fun r : Bool=>r = false) (id:=2) (Post:=fun b (o : Option Bool)=>o = some b) (fun a ha=>?_) ?_ rfl (fun r hr=>by rw [hr])
   ·obtain ⟨i1,i2,i3,X,Y,x1,y1,x2,y2,x3,y3⟩:=hf.ends ha
    have hXp : X < p.length:=by omega
    have hYp : Y < p.length:=by omega
    have eX : fT (shS f) a = (X : Int):=x1
    have hXl:=getL hp.2 X
    simp only [lt_cast,i3,decide_true,cond_true,in_cast i1,in_cast i2,in_cast i3,x1,y1,eX,in_cast hXp,in_cast hYp,and_self,if_true,Int.toNat_natCast]
    refine chkL (n:=(p.getD X []).length) (p:=prtOne f p a) (bad:=fun r : Bool=>r = false) (id:=4) (s:=((a + 1 : Nat) : Int)) (fun e he=>?_) ?_ ?_
    ·obtain ⟨d,d1,d2⟩:=hpt.el hf ha x1 he
     have d2' : d < (f.2.2.2.2.2.2.getD a []).length:=d2
     simp only [lt_cast,he,decide_true,cond_true,in_cast he,d1,in_cast d2',and_self,if_true,Int.toNat_natCast,p121 (getL hp.2 Y),Option.bind_some]
     rw [wrap_sm (by omega) (by omega)]
     have e5 : prtOne f p a e = (p.getD Y []).contains ((f.2.2.2.2.2.2.getD a []).getD d 0):=by
      unfold prtOne
      rw [show tT (shS f) a = (Y : Int) from y1,eX,Int.toNat_natCast,Int.toNat_natCast,d1,Int.toNat_natCast]
      rfl
     rw [e5]
     cases (p.getD Y []).contains ((f.2.2.2.2.2.2.getD a []).getD d 0) with
     | true=>exact inn1_t rfl
     | false=>exact inn1_f ⟨_,rfl,_,rfl,rfl⟩
    ·simp only [lt_cast,Nat.lt_irrefl,decide_false,cond_false]
    ·show (if 4 = 4 then _ else none) = _
     rw [if_pos rfl,wrap_sm (by omega) (by omega)]; rfl
   ·have e : decide (((ar (shS f) : Nat) : Int) < ((f.2.2.2.2.2.2.length : Nat) : Int)) = false:=by rw [lt_cast]; exact decide_eq_false (by omega)
    simp only [e,cond_false]
  ·rw [hall,hr]; rfl
theorem p74 {f : SF} (hf : FS f) {p : List (List Int)} (hp : okL p) : G74 (f,p) = some (partB f p):=by
 unfold G74 partB
 have l2 : f.2.2.2.2.2.2.length = ar (shS f):=hf.l2
 have hm : ar (shS f)≤40:=hf.sh.hd.2.1
 have hpl:=hp.1
 have e2 : decide (((p.length : Nat) : Int) = ((f.2.2.2.2.2.1.length : Nat) : Int)) = decide (((p.length : Nat) : Int) = (((szF f).length : Nat) : Int)):=rfl
 simp only [e2]
 cases hh : decide (((p.length : Nat) : Int) = (((szF f).length : Nat) : Int)) with
 | false=>rfl
 | true=>
  have h1 : ((p.length : Nat) : Int) = ((f.2.2.2.2.2.1.length : Nat) : Int):=of_decide_eq_true hh
  have l1 : ((f.2.2.2.2.2.1.length : Nat) : Int) = f.1:=hf.l1
  simp only [Bool.not_true,cond_false,Bool.true_and]
  refine chk_bind (st:=fun i : Nat=>(i : Int)) (n:=p.length) (p:=prtIn f p) (Q:=fun r : Bool=>r = false) (o:=.brk 0 (p.length : Int)) (Post:=fun o : Option Bool=>o = some ((List.range p.length).all (prtIn f p) && prtCl f p)) (fun i hi=>?_) ?_ (fun y=>by simp) (fun hall=>?_) (fun hall r hr=>?_)
  ·have h2 : i < f.2.2.2.2.2.1.length:=by omega
   obtain ⟨z1,z2⟩:=hf.szi (x:=(i : Int)) ⟨by omega,by omega⟩
   have z1 : 0≤f.2.2.2.2.2.1.getD i 0:=z1
   have z2 : f.2.2.2.2.2.1.getD i 0≤16:=z2
   have e7 : G127 (p.getD i [],f.2.2.2.2.2.1.getD i 0) = some (wi (f.2.2.2.2.2.1.getD i 0) (p.getD i [])):=p127 ⟨z1,by omega⟩ (getL hp.2 i)
   simp only [lt_cast,hi,decide_true,cond_true,in_cast hi,in_cast h2,and_self,if_true,Int.toNat_natCast,p126 (getL hp.2 i),e7,Option.bind_some]
   rw [wrap_sm (by omega) (by omega)]
   show inn1 _ _ (risB (p.getD i []) && wi (f.2.2.2.2.2.1.getD i 0) (p.getD i [])) _
   cases risB (p.getD i []) with
   | false=>exact inn1_f ⟨_,rfl,rfl⟩
   | true=>
    rw [Bool.true_and]
    cases wi (f.2.2.2.2.2.1.getD i 0) (p.getD i []) with
    | true=>exact inn1_t rfl
    | false=>exact inn1_f ⟨_,rfl,rfl⟩
  ·simp only [lt_cast,Nat.lt_irrefl,decide_false,cond_false]
  ·show (if 0 = 0 then _ else none) = _
   rw [if_pos rfl,hall,Bool.true_and]
   have hpt:=pt_of hh hall
   unfold prtCl
   refine chkT (n:=ar (shS f)) (p:=fun a=>(List.range (p.getD (fT (shS f) a).toNat []).length).all (prtOne f p a)) (bad:=fun r : Bool=>r = false) (id:=2) (Post:=fun b (o : Option Bool)=>o = some b) (fun a ha=>?_) ?_ rfl (fun r hr=>by rw [hr])
   ·obtain ⟨i1,i2,i3,X,Y,x1,y1,x2,y2,x3,y3⟩:=hf.ends ha
    have hXp : X < p.length:=by omega
    have hYp : Y < p.length:=by omega
    have eX : fT (shS f) a = (X : Int):=x1
    have hXl:=getL hp.2 X
    simp only [lt_cast,i3,decide_true,cond_true,in_cast i1,in_cast i2,in_cast i3,x1,y1,eX,in_cast hXp,in_cast hYp,and_self,if_true,Int.toNat_natCast]
    refine chkL (n:=(p.getD X []).length) (p:=prtOne f p a) (bad:=fun r : Bool=>r = false) (id:=4) (s:=((a + 1 : Nat) : Int)) (fun e he=>?_) ?_ ?_
    ·obtain ⟨d,d1,d2⟩:=hpt.el hf ha x1 he
     have d2' : d < (f.2.2.2.2.2.2.getD a []).length:=d2
     simp only [lt_cast,he,decide_true,cond_true,in_cast he,d1,in_cast d2',and_self,if_true,Int.toNat_natCast,p128 (getL hp.2 Y),Option.bind_some]
     rw [wrap_sm (by omega) (by omega)]
     have e5 : prtOne f p a e = (p.getD Y []).contains ((f.2.2.2.2.2.2.getD a []).getD d 0):=by
      unfold prtOne
      rw [show tT (shS f) a = (Y : Int) from y1,eX,Int.toNat_natCast,Int.toNat_natCast,d1,Int.toNat_natCast]
      rfl
     rw [e5]
     cases (p.getD Y []).contains ((f.2.2.2.2.2.2.getD a []).getD d 0) with
     | true=>exact inn1_t rfl
     | false=>exact inn1_f ⟨_,rfl,_,rfl,rfl⟩
    ·simp only [lt_cast,Nat.lt_irrefl,decide_false,cond_false]
    ·show (if 4 = 4 then _ else none) = _
     rw [if_pos rfl,wrap_sm (by omega) (by omega)]; rfl
   ·have e : decide (((ar (shS f) : Nat) : Int) < ((f.2.2.2.2.2.2.length : Nat) : Int)) = false:=by rw [lt_cast]; exact decide_eq_false (by omega)
    simp only [e,cond_false]
  ·rw [hall,hr]; rfl
end
end Go.Ve.D

