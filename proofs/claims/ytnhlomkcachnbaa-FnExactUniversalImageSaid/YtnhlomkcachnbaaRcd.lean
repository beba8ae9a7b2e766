/- Universal images: the program's. -/
import Derived.Test.YtnhlomkcachnbaaRba
namespace Go.Ve.D
open Go Go.Ve
noncomputable section

def faOne (g : SF) (P p : List (List Int)) (D a e : Nat) : Bool:=!decide ((P.getD (tT (shS g) a).toNat []).getD e 0 = (act g a).getD D 0) || (p.getD (tT (shS g) a).toNat []).contains (e : Int)
def faA (g : SF) (P p : List (List Int)) (D a : Nat) : Bool:=(List.range (P.getD (tT (shS g) a).toNat []).length).all (faOne g P p D a)
def faB (g : SF) (P p : List (List Int)) (Y D : Nat) : Bool:=(List.range (ar (shS g))).all fun a=>!decide (fT (shS g) a = (Y : Int)) || faA g P p D a
def faL (g : SF) (P p : List (List Int)) (Y : Nat) : List Int:=((List.range (sz g (Y : Int)).toNat).filter (faB g P p Y)).map fun (e : Nat)=>(e : Int)
def faR (g : SF) (P p : List (List Int)) : List (List Int):=(List.range g.2.2.2.2.2.1.length).map (faL g P p)
theorem p130 {f g : SF} {P p : List (List Int)} (h : PB f g P) (hp : PT2 f p) (hpo : okL p) (hPo : okL P) {Y D : Nat} (hY : Y < g.2.2.2.2.2.1.length) (hD : (D : Int) < g.2.2.2.2.2.1.getD Y 0) : G130 ((Y : Int),((D : Int),(shS g,(mkM f g P,p)))) = some (faB g P p Y D):=by
 have hm : ar (shS g)≤40:=h.hg.sh.hd.2.1
 unfold G130 mkM shS
 simp only
 refine bind_of (a:=G131 _) (p131 (c:=shS g) (show ar (shS g)≤1048576 by omega) (Y : Int)) ?_
 have hlen : (outL (shS g) (Y : Int)).length≤ar (shS g):=fm_len
 have e0 : faB g P p Y D = (List.range (outL (shS g) (Y : Int)).length).all (fun i=>faA g P p D ((outL (shS g) (Y : Int)).getD i 0).toNat):=(out_all (q:=fun a=>faA g P p D a.toNat)).symm
 rw [e0]
 have hw : ∀ i,i < (outL (shS g) (Y : Int)).length→∃ a : Nat,a < ar (shS g)∧fT (shS g) a = (Y : Int)∧(outL (shS g) (Y : Int)).getD i 0 = (a : Int):=fun i hi=>by
  obtain ⟨a,h1,h2,h3⟩:=fm_get hi
  exact ⟨a,h1,of_decide_eq_true h2,h3⟩
 generalize outL (shS g) (Y : Int) = w at *
 refine chkT (n:=w.length) (p:=fun i=>faA g P p D (w.getD i 0).toNat) (bad:=fun r : Bool=>r = false) (id:=0) (Post:=fun b (o : Option Bool)=>o = some b) (fun i hi=>?_) ?_ rfl (fun r hr=>by rw [hr])
 ·obtain ⟨a,ha,hfa,ea⟩:=hw i hi
  obtain ⟨i1,i2,i3,X,Z,x1,z1,x2,z2,x3,z3⟩:=h.hg.ends ha
  have hX : X = Y:=by
   have : g.2.1.getD a 0 = (Y : Int):=hfa
   omega
  subst hX
  have lg:=h.lg
  have l:=h.l
  have hZP : Z < P.length:=by omega
  have hZp : Z < p.length:=by have:=hp.l; omega
  have hDa : D < (g.2.2.2.2.2.2.getD a []).length:=by
   have : (act g a).length = (g.2.2.2.2.2.2.getD a []).length:=rfl
   omega
  have hZl:=getL hPo.2 Z
  simp only [lt_cast,hi,decide_true,cond_true,in_cast hi,ea,in_cast i2,in_cast i3,z1,in_cast hDa,in_cast hZP,and_self,if_true,Int.toNat_natCast]
  have eZ : tT (shS g) a = (Z : Int):=z1
  unfold faA
  rw [eZ,Int.toNat_natCast]
  refine chkL (n:=(P.getD Z []).length) (p:=faOne g P p D a) (bad:=fun r : Bool=>r = false) (id:=2) (s:=((i + 1 : Nat) : Int)) (fun e he=>?_) ?_ ?_
  ·have e132 : G132 (p,((Z : Int),(e : Int))) = some ((p.getD Z []).contains (e : Int)):=by
    unfold G132
    simp only [in_cast hZp,and_self,if_true,Int.toNat_natCast,p128 (getL hpo.2 Z),Option.bind_some]
   simp only [lt_cast,he,decide_true,cond_true,in_cast he,e132,and_self,if_true,Int.toNat_natCast,Option.bind_some]
   rw [wrap_sm (by omega) (by omega)]
   have e5 : faOne g P p D a e = (!decide ((P.getD Z []).getD e 0 = (g.2.2.2.2.2.2.getD a []).getD D 0) || (p.getD Z []).contains (e : Int)):=by
    unfold faOne
    rw [eZ,Int.toNat_natCast]
    rfl
   rw [e5]
   cases decide ((P.getD Z []).getD e 0 = (g.2.2.2.2.2.2.getD a []).getD D 0) with
   | false=>exact inn1_t rfl
   | true=>
    simp only [cond_true,Option.bind_some]
    cases (p.getD Z []).contains (e : Int) with
    | true=>exact inn1_t rfl
    | false=>exact inn1_f ⟨_,rfl,_,rfl,rfl⟩
  ·simp only [lt_cast,Nat.lt_irrefl,decide_false,cond_false]
  ·show (if 2 = 2 then _ else none) = _
   rw [if_pos rfl,wrap_sm (by omega) (by omega)]; rfl
 ·simp only [lt_cast,Nat.lt_irrefl,decide_false,cond_false]
theorem p129 {f g : SF} {P p : List (List Int)} (h : PB f g P) (hp : PT2 f p) (hpo : okL p) (hPo : okL P) : G129 (g,(shS g,(mkM f g P,p))) = some (faR g P p):=by
 have lg:=h.lg
 have hlen : g.2.2.2.2.2.1.length≤1048576:=by have:=hPo.1; omega
 have hg1 : ((g.2.2.2.2.2.1.length : Nat) : Int) = g.1:=h.hg.l1
 unfold G129
 simp only
 have e130 : ∀ Y,Y < g.2.2.2.2.2.1.length→∀ D : Nat,(D : Int) < g.2.2.2.2.2.1.getD Y 0→G130 ((Y : Int),((D : Int),((shS g).1,((shS g).2.1,((shS g).2.2.1,((shS g).2.2.2.1,(shS g).2.2.2.2)))),mkM f g P,p)) = some (faB g P p Y D):=fun Y hY D hD=>p130 h hp hpo hPo hY hD
 refine bind_of (tloop_iter (st:=fun i : Nat=>((i : Int),(([] : List (List Int)),(List.range i).map (faL g P p)))) (n:=g.2.2.2.2.2.1.length) (o:=.brk 0 (((g.2.2.2.2.2.1.length : Nat) : Int),(([] : List (List Int)),faR g P p))) (fun i hi=>?_) ?_ (fun y=>by simp)) rfl
 ·obtain ⟨z1,z2⟩:=h.hg.szi (x:=(i : Int)) ⟨by omega,by omega⟩
  obtain ⟨n,hn⟩ : ∃ n : Nat,g.2.2.2.2.2.1.getD i 0 = (n : Int):=⟨(g.2.2.2.2.2.1.getD i 0).toNat,by have : 0≤g.2.2.2.2.2.1.getD i 0:=z1; omega⟩
  have z2 : g.2.2.2.2.2.1.getD i 0≤16:=z2
  have hn16 : n≤16:=by omega
  have hsn : (sz g (i : Int)).toNat = n:=by
   show (g.2.2.2.2.2.1.getD i 0).toNat = n
   rw [hn,Int.toNat_natCast]
  have e130i:=fun (D : Nat) (hD : D < n)=>e130 i hi D (by rw [hn]; omega)
  simp only [lt_cast,hi,decide_true,cond_true,in_cast hi,and_self,if_true,Int.toNat_natCast,hn]
  refine bind_of (gather (n:=n) (q:=faB g P p i) (g:=fun (e : Nat)=>(e : Int)) (id:=2) (fun D hD acc ha=>?_) fun acc=>?_) ?_
  ·have e:=e130i D hD
   simp only [lt_cast,hD,decide_true,cond_true,e,Option.bind_some,List.length_cons,List.length_nil]
   rw [wrap_sm (by omega) (by omega),if_pos (show acc.length + (0 + 1)≤17592186044416 by omega)]
   cases faB g P p i D <;> rfl
  ·simp only [lt_cast,Nat.lt_irrefl,decide_false,cond_false]
  ·show (if 2 = 2 then _ else none) = _
   rw [if_pos rfl]
   simp only [List.length_map,List.length_range,List.length_cons,List.length_nil]
   rw [if_pos (show i + (0 + 1)≤5864062014805 by omega),wrap_sm (by omega) (by omega),List.range_succ,List.map_append]
   have e8 : ((List.range n).filter (faB g P p i)).map (fun (e : Nat)=>(e : Int)) = faL g P p i:=by unfold faL; rw [hsn]
   rw [e8]
   rfl
 ·simp only [lt_cast,Nat.lt_irrefl,decide_false,cond_false]
  rfl
theorem p75 {f g : SF} {P p : List (List Int)} (h : PB f g P) (hp : PT2 f p) (hpo : okL p) (hPo : okL P) : G75 (mkM f g P,p) = some (faR g P p):=bind_of (a:=G129 (g,(shS g,(mkM f g P,p)))) (p129 h hp hpo hPo) rfl
def uiR (f g : SF) (P p : List (List Int)) : List (List Int) × Int:=bif isMap f g P && partB f p then (faR g P p,0) else ([],1)
theorem isMap_pb {f g : SF} {P : List (List Int)} (h : isMap f g P = true) : PB f g P:=by
 unfold isMap at h
 rw [Bool.and_eq_true] at h
 exact shapeM_pb h.1
theorem p33 {f g : SF} {P p : List (List Int)} (hf : okS f) (hg : okS g) (hP : okL P) (hp : okL p) : G33 (mkM f g P,p) = some (uiR f g P p):=by
 refine bind_of (a:=G73 (mkM f g P)) (p73 hf hg hP) ?_
 unfold uiR
 cases h1 : isMap f g P with
 | false=>rfl
 | true=>
 have hpb:=isMap_pb h1
 refine bind_of (a:=Option.bind (G74 (f,p)) _) (bind_of (p74 hpb.hf hp) rfl) ?_
 cases h2 : partB f p with
 | false=>rfl
 | true=>exact bind_of (a:=G75 (mkM f g P,p)) (p75 hpb (partB_pt h2) hp hP) rfl
end
end Go.Ve.D


namespace Go.Ve.D
open Go Go.Ve
noncomputable section

theorem tloop_it {X R : Type} {f : X→Option (LO X R)} {st : Nat→X} {n : Nat} {o : LO X R} {x0 : X} (h0 : st 0 = x0) (h1 : ∀ i,i < n→f (st i) = some (.next (st (i + 1)))) (h2 : f (st n) = some o) (ho : ∀ y,o≠.next y) : tloop f x0 = some o:=h0 ▸ tloop_iter h1 h2 ho
theorem set_map {n d : Nat} {q : Nat→Bool} {b : Bool} : ((List.range n).map q).set d b = (List.range n).map fun e=>if e = d then b else q e:=by
 apply List.ext_getElem (by simp)
 intro i h1 h2
 simp only [List.getElem_set,List.getElem_map,List.getElem_range]
 by_cases h : d = i
 ·rw [if_pos h,if_pos h.symm]
 ·rw [if_neg h,if_neg fun e=>h e.symm]
theorem set2 {N X d : Nat} {nx : Nat→Nat} {q : Nat→Nat→Bool} {b : Bool} : ((List.range N).map fun x=>(List.range (nx x)).map (q x)).set X (((List.range (nx X)).map (q X)).set d b) = (List.range N).map fun x=>(List.range (nx x)).map fun e=>if x = X∧e = d then b else q x e:=by
 rw [set_map]
 apply List.ext_getElem (by simp)
 intro i h1 h2
 simp only [List.getElem_set,List.getElem_map,List.getElem_range]
 by_cases h : X = i
 ·subst h
  rw [if_pos rfl]
  refine List.map_congr_left fun e _=>?_
  by_cases he : e = d
  ·rw [if_pos he,if_pos ⟨rfl,he⟩]
  ·rw [if_neg he,if_neg fun h=>he h.2]
 ·rw [if_neg h]
  refine List.map_congr_left fun e _=>?_
  rw [if_neg fun e=>h e.1.symm]
theorem map2_congr {N : Nat} {nx : Nat→Nat} {q r : Nat→Nat→Bool} (h : ∀ x,x < N→∀ e,e < nx x→q x e = r x e) : ((List.range N).map fun x=>(List.range (nx x)).map (q x)) = (List.range N).map fun x=>(List.range (nx x)).map (r x):=
 List.map_congr_left fun x hx=>List.map_congr_left fun e he=>h x (List.mem_range.1 hx) e (List.mem_range.1 he)
theorem getM {α : Type} {n i : Nat} {q : Nat→α} {z : α} (hi : i < n) : ((List.range n).map q).getD i z = q i:=by
 rw [List.getD_eq_getElem?_getD,List.getElem?_map,List.getElem?_range hi]; rfl
theorem con_snoc {w : List Int} {k : Nat} (hk : k < w.length) (a : Int) : (w.take (k + 1)).contains a = ((w.take k).contains a || decide (w.getD k 0 = a)):=by
 rw [← take_snoc 0 hk,Bool.eq_iff_iff]
 simp only [List.contains_eq_mem,List.mem_append,List.mem_singleton,Bool.or_eq_true,decide_eq_true_eq]
 exact or_congr Iff.rfl eq_comm
def mkN (n : Nat) (w : List Int) : List Bool:=(List.range n).map fun (e : Nat)=>w.contains (e : Int)
def inL (f : SF) (p : List (List Int)) : List (List Bool):=(List.range f.2.2.2.2.2.1.length).map fun (x : Nat)=>mkN (sz f (x : Int)).toNat (p.getD x [])
theorem FS.size {f : SF} (hf : FS f) {i : Nat} (hi : i < f.2.2.2.2.2.1.length) : ∃ n : Nat,f.2.2.2.2.2.1.getD i 0 = (n : Int)∧n≤16∧(sz f (i : Int)).toNat = n:=by
 have hg1 : ((f.2.2.2.2.2.1.length : Nat) : Int) = f.1:=hf.l1
 obtain ⟨z1,z2⟩:=hf.szi (x:=(i : Int)) ⟨by omega,by omega⟩
 have z1 : 0≤f.2.2.2.2.2.1.getD i 0:=z1
 have z2 : f.2.2.2.2.2.1.getD i 0≤16:=z2
 refine ⟨(f.2.2.2.2.2.1.getD i 0).toNat,by omega,by omega,rfl⟩
theorem p122 {f : SF} {p : List (List Int)} (hf : FS f) (hp : PT2 f p) (hpo : okL p) : G122 (f,p) = some (inL f p):=by
 have l:=hp.l
 have hlen : f.2.2.2.2.2.1.length≤1048576:=by have:=hpo.1; omega
 unfold G122
 simp only
 refine bind_of (gatherM (n:=f.2.2.2.2.2.1.length) (g:=fun (x : Nat)=>mkN (sz f (x : Int)).toNat (p.getD x [])) (id:=0) (fun i hi acc ha=>?_) fun acc=>?_) rfl
 ·obtain ⟨n,hn,hn16,hsn⟩:=hf.size hi
  have hip : i < p.length:=by omega
  have hG : (0 : Int)≤(n : Int)∧((n : Int)≤(n : Int)∧((1 : Int) * (n : Int)≤(281474976710656 : Int)∧(n : Int)≤(9223372036854775807 : Int))):=by omega
  have hwl:=getL hpo.2 i
  have hww:=hp.w i hip
  rw [hn] at hww
  simp only [lt_cast,hi,decide_true,cond_true,in_cast hi,in_cast hip,hn,hG,and_self,if_true,Int.toNat_natCast]
  refine bind_of (tloop_it (st:=fun k : Nat=>((k : Int),(acc,(List.range n).map fun (e : Nat)=>((p.getD i []).take k).contains (e : Int)))) (n:=(p.getD i []).length) (o:=.brk 2 (((p.getD i []).length : Int),(acc,mkN n (p.getD i [])))) (by simp [List.map_const']) (fun k hk=>?_) ?_ (fun y=>by simp)) ?_
  ·obtain ⟨g1,g2⟩:=wi_get hww hk
   obtain ⟨d,hd⟩ : ∃ d : Nat,(p.getD i []).getD k 0 = (d : Int):=⟨((p.getD i []).getD k 0).toNat,by omega⟩
   have hdn : d < n:=by omega
   simp only [lt_cast,hk,decide_true,cond_true,in_cast hk,hd,List.length_map,List.length_range,in_cast hdn,and_self,if_true,Int.toNat_natCast]
   rw [wrap_sm (by omega) (by omega),set_map]
   congr 4
   refine List.map_congr_left fun e _=>?_
   rw [con_snoc hk,hd]
   by_cases h : e = d
   ·subst h; simp
   ·rw [if_neg h]
    have : decide ((d : Int) = (e : Int)) = false:=decide_eq_false (by omega)
    rw [this,Bool.or_false]
  ·simp only [lt_cast,Nat.lt_irrefl,decide_false,cond_false,take_all]
   rfl
  ·show (if 2 = 2 then _ else none) = _
   rw [if_pos rfl]
   simp only [List.length_cons,List.length_nil]
   rw [if_pos (show acc.length + (0 + 1)≤5864062014805 by omega),wrap_sm (by omega) (by omega),hsn]
   rfl
 ·simp only [lt_cast,Nat.lt_irrefl,decide_false,cond_false]
def mkd (x : List (List Bool)) : List (List Int):=(List.range x.length).map fun i=>((List.range (x.getD i []).length).filter fun e=>(x.getD i []).getD e false).map fun (e : Nat)=>(e : Int)
theorem p123 {x : List (List Bool)} (h1 : x.length≤1048576) (h2 : ∀ i,i < x.length→(x.getD i []).length≤1048576) : G123 x = some (mkd x):=by
 unfold G123
 refine bind_of (gatherM (n:=x.length) (g:=fun i=>((List.range (x.getD i []).length).filter fun e=>(x.getD i []).getD e false).map fun (e : Nat)=>(e : Int)) (id:=0) (fun i hi acc ha=>?_) fun acc=>?_) rfl
 ·have hy:=h2 i hi
  simp only [lt_cast,hi,decide_true,cond_true,in_cast hi,and_self,if_true,Int.toNat_natCast]
  refine bind_of (gather (n:=(x.getD i []).length) (q:=fun e=>(x.getD i []).getD e false) (g:=fun (e : Nat)=>(e : Int)) (id:=2) (fun e he ac hac=>?_) fun ac=>?_) ?_
  ·simp only [lt_cast,he,decide_true,cond_true,in_cast he,and_self,if_true,Int.toNat_natCast,List.length_cons,List.length_nil]
   rw [wrap_sm (by omega) (by omega),if_pos (show ac.length + (0 + 1)≤17592186044416 by omega)]
   cases (x.getD i []).getD e false <;> rfl
  ·simp only [lt_cast,Nat.lt_irrefl,decide_false,cond_false]
  ·show (if 2 = 2 then _ else none) = _
   rw [if_pos rfl]
   simp only [List.length_cons,List.length_nil]
   rw [if_pos (show acc.length + (0 + 1)≤5864062014805 by omega),wrap_sm (by omega) (by omega)]
   rfl
 ·simp only [lt_cast,Nat.lt_irrefl,decide_false,cond_false]
end
end Go.Ve.D


namespace Go.Ve.D
open Go Go.Ve
noncomputable section

def gB (P p : List (List Int)) (Z m k : Nat) : Bool:=(List.range m).all fun e=>!decide ((P.getD Z []).getD e 0 = (k : Int)) || (p.getD Z []).contains (e : Int)
def nx (g : SF) (x : Nat) : Nat:=(sz g (x : Int)).toNat
def gd (g : SF) (P p : List (List Int)) (Z : Nat) : List Bool:=(List.range (nx g Z)).map (gB P p Z (P.getD Z []).length)
def O (g : SF) (P p : List (List Int)) (a x d : Nat) : Bool:=(List.range a).all fun b=>!decide (fT (shS g) b = (x : Int)) || faA g P p d b
def outA (g : SF) (P p : List (List Int)) (a : Nat) : List (List Bool):=(List.range P.length).map fun x=>(List.range (nx g x)).map (O g P p a x)
def qA (g : SF) (P p : List (List Int)) (a X d x e : Nat) : Bool:=O g P p a x e && (!(decide (x = X) && decide (e < d)) || faA g P p e a)
theorem O_succ {g : SF} {P p : List (List Int)} {a x d : Nat} : O g P p (a + 1) x d = (O g P p a x d && (!decide (fT (shS g) a = (x : Int)) || faA g P p d a)):=by
 unfold O
 rw [List.range_succ,List.all_append]
 simp
theorem gB_succ {P p : List (List Int)} {Z m k : Nat} : gB P p Z (m + 1) k = (gB P p Z m k && (!decide ((P.getD Z []).getD m 0 = (k : Int)) || (p.getD Z []).contains (m : Int))):=by
 unfold gB
 rw [List.range_succ,List.all_append]
 simp
theorem in_len {f : SF} {p : List (List Int)} : (inL f p).length = f.2.2.2.2.2.1.length:=by simp [inL]
theorem in_row {f : SF} {p : List (List Int)} {i : Nat} (hi : i < f.2.2.2.2.2.1.length) : (inL f p).getD i [] = mkN (sz f (i : Int)).toNat (p.getD i []):=getM hi
theorem mkN_len {n : Nat} {w : List Int} : (mkN n w).length = n:=by simp [mkN]
theorem mkN_get {n : Nat} {w : List Int} {e : Nat} (he : e < n) : (mkN n w).getD e false = w.contains (e : Int):=getM he
theorem fin4 {α β R : Type} {k : Nat} {v : α} {g : Nat→α→Option R} {o : Option R} (h : g k v = o) : LO.fin g (LO.brk k v : LO α R) = o:=h

theorem row1 {f g : SF} {P p : List (List Int)} (h : PB f g P) (hPo : okL P) {i n : Nat} (hi : i < P.length) (hn : g.2.2.2.2.2.1.getD i 0 = (n : Int)) {k e : Nat} (he : e < (P.getD i []).length) (hk : (P.getD i []).getD e 0 = (k : Int)) :
  k < n∧(inL f p).length = f.2.2.2.2.2.1.length∧e < ((inL f p).getD i []).length∧((inL f p).getD i []).getD e false = (p.getD i []).contains (e : Int):=by
 have l:=h.l
 have hif : i < f.2.2.2.2.2.1.length:=by omega
 obtain ⟨m,hm,_,hsm⟩:=h.hf.size hif
 have h1:=h.pl i hi
 have h2:=h.pw i hi
 rw [hn] at h2
 obtain ⟨g1,g2⟩:=wi_get h2 he
 rw [in_row hif,hsm]
 exact ⟨by omega,in_len,by rw [mkN_len]; omega,mkN_get (by omega)⟩
theorem p72a {F : Int × List (List Bool) × List (List Bool) × List (List Bool) × List Bool × List Bool→Option (LO (Int × List (List Bool) × List (List Bool) × List (List Bool) × List Bool × List Bool) (LO (Int × List (List Bool) × List (List Bool) × List (List Bool)) (List (List Int))))} {IN A B : List (List Bool)} {n : Nat} (hn : n≤16)
  (hF : F = fun v2=>(bif (decide (v2.1 < ((v2.2.2.2.2.1.length : Nat) : Int))) then (if (((0 : Int)≤v2.1)∧(v2.1 < ((v2.2.2.2.2.1.length : Nat) : Int))) then (if (((0 : Int)≤v2.1)∧(v2.1 < ((v2.2.2.2.2.2.length : Nat) : Int))) then (some (LO.next ((IntKind.wrap .i64 (v2.1 + (1 : Int))),(v2.2.1,(v2.2.2.1,(v2.2.2.2.1,((v2.2.2.2.2.1.set (v2.1).toNat true),(v2.2.2.2.2.2.set (v2.1).toNat true)))))))) else none) else none) else (some (LO.brk 2 (v2.1,(v2.2.1,(v2.2.2.1,(v2.2.2.2.1,(v2.2.2.2.2.1,v2.2.2.2.2.2))))))))) :
  tloop F ((0 : Int),(IN,(A,(B,(List.replicate n false,List.replicate n false))))) = some (.brk 2 ((n : Int),(IN,(A,(B,((List.range n).map (fun _=>true),(List.range n).map fun _=>true)))))):=by
 subst hF
 refine tloop_it (st:=fun d : Nat=>((d : Int),(IN,(A,(B,((List.range n).map (fun e=>decide (e < d)),(List.range n).map fun e=>decide (e < d))))))) (n:=n) (by simp [List.map_const']) (fun d hd=>?_) ?_ (fun y=>by simp)
 ·simp only [lt_cast,List.length_map,List.length_range,hd,decide_true,cond_true,in_cast hd,and_self,if_true,Int.toNat_natCast]
  rw [wrap_sm (by omega) (by omega),set_map]
  have e : ((List.range n).map fun e=>if e = d then true else decide (e < d)) = (List.range n).map fun e=>decide (e < d + 1):=List.map_congr_left fun e _=>by
   by_cases h : e = d
   ·subst h; simp
   ·rw [if_neg h,Bool.eq_iff_iff]; simp only [decide_eq_true_eq]; omega
  rw [e]
  rfl
 ·have e : ((List.range n).map fun e=>decide (e < n)) = (List.range n).map fun _=>true:=List.map_congr_left fun e he=>decide_eq_true (List.mem_range.1 he)
  simp only [lt_cast,List.length_map,List.length_range,Nat.lt_irrefl,decide_false,cond_false,e]
theorem p72 {f g : SF} {P p : List (List Int)} (h : PB f g P) (hp : PT2 f p) (hpo : okL p) (hPo : okL P) : G72 (mkM f g P,p) = some (mkd (outA g P p (ar (shS g)))):=by
 have l:=h.l
 have lg:=h.lg
 have hPl:=hPo.1
 have l2 : g.2.2.2.2.2.2.length = ar (shS g):=h.hg.l2
 have hm : ar (shS g)≤40:=h.hg.sh.hd.2.1
 refine bind_of (a:=G122 (f,p)) (p122 h.hf hp hpo) ?_
 unfold mkM
 simp only
 refine bind_of (tloop_it (st:=fun i : Nat=>((i : Int),(inL f p,((List.range i).map (gd g P p),(List.range i).map fun x=>(List.range (nx g x)).map (O g P p 0 x))))) (n:=P.length) (o:=.brk 0 (((P.length : Nat) : Int),(inL f p,((List.range P.length).map (gd g P p),outA g P p 0)))) rfl (fun i hi=>?_) ?_ (fun y=>by simp)) ?_
 ·have hig : i < g.2.2.2.2.2.1.length:=by omega
  obtain ⟨n,hn,hn16,hsn⟩:=h.hg.size hig
  have hsn : nx g i = n:=hsn
  have hG : (0 : Int)≤(n : Int)∧((n : Int)≤(n : Int)∧((1 : Int) * (n : Int)≤(281474976710656 : Int)∧(n : Int)≤(9223372036854775807 : Int))):=by omega
  have hPi:=getL hPo.2 i
  simp only [lt_cast,hi,decide_true,cond_true,in_cast hi,in_cast hig,hn,hG,and_self,if_true,Int.toNat_natCast]
  refine bind_of (p72a hn16 rfl) ?_
  refine fin4 (β:=Unit) ?_
  show (if 2 = 2 then _ else none) = _
  rw [if_pos rfl]
  refine bind_of (tloop_it (st:=fun e : Nat=>((e : Int),(inL f p,((List.range i).map (gd g P p),((List.range i).map (fun x=>(List.range (nx g x)).map (O g P p 0 x)),((List.range n).map (gB P p i e),(List.range n).map fun _=>true)))))) (n:=(P.getD i []).length) (o:=.brk 4 ((((P.getD i []).length : Nat) : Int),(inL f p,((List.range i).map (gd g P p),((List.range i).map (fun x=>(List.range (nx g x)).map (O g P p 0 x)),((List.range n).map (gB P p i (P.getD i []).length),(List.range n).map fun _=>true)))))) rfl (fun e he=>?_) ?_ (fun y=>by simp)) ?_
  ·have hw:=h.pw i hi
   rw [hn] at hw
   obtain ⟨g1,g2⟩:=wi_get hw he
   obtain ⟨k,hk⟩ : ∃ k : Nat,(P.getD i []).getD e 0 = (k : Int):=⟨((P.getD i []).getD e 0).toNat,by omega⟩
   obtain ⟨r1,r2,r3,r4⟩:=row1 (p:=p) h hPo hi hn he hk
   have r5 : i < (inL f p).length:=by omega
   simp only [lt_cast,he,decide_true,cond_true,in_cast he,hk,List.length_map,List.length_range,in_cast r1,in_cast r5,in_cast r3,r4,getM r1,and_self,if_true,Int.toNat_natCast]
   have eb : (bif gB P p i e k then some ((p.getD i []).contains (e : Int)) else some false) = some (gB P p i e k && (p.getD i []).contains (e : Int)):=by cases gB P p i e k <;> rfl
   rw [eb,Option.bind_some,wrap_sm (by omega) (by omega),set_map]
   have e6 : ((List.range n).map fun e'=>if e' = k then gB P p i e k && (p.getD i []).contains (e : Int) else gB P p i e e') = (List.range n).map (gB P p i (e + 1)):=List.map_congr_left fun k' _=>by
    rw [gB_succ,hk]
    by_cases hkk : k' = k
    ·subst hkk; simp
    ·rw [if_neg hkk,decide_eq_false (show ¬ ((k : Int) = (k' : Int)) by omega)]; simp
   rw [e6]
   rfl
  ·simp only [lt_cast,Nat.lt_irrefl,decide_false,cond_false]
  ·refine fin4 (β:=Unit) ?_
   show (if 4 = 4 then _ else none) = _
   rw [if_pos rfl]
   simp only [List.length_map,List.length_range,List.length_cons,List.length_nil]
   rw [if_pos (show i + (0 + 1)≤5864062014805 by omega),wrap_sm (by omega) (by omega),List.range_succ,List.map_append,List.map_append]
   have e8 : (List.range n).map (gB P p i (P.getD i []).length) = gd g P p i:=by unfold gd; rw [hsn]
   have e9 : ((List.range n).map fun _=>true) = (List.range (nx g i)).map (O g P p 0 i):=by rw [hsn]; rfl
   rw [e8,e9,if_pos (show i + (0 + 1)≤5864062014805 by omega)]
   rfl
 ·simp only [lt_cast,Nat.lt_irrefl,decide_false,cond_false]
  rfl
 refine fin4 (β:=Unit) ?_
 show (if 0 = 0 then _ else none) = _
 rw [if_pos rfl]
 refine bind_of (tloop_it (st:=fun a : Nat=>((a : Int),((List.range P.length).map (gd g P p),outA g P p a))) (n:=ar (shS g)) (o:=.brk 6 (((ar (shS g) : Nat) : Int),((List.range P.length).map (gd g P p),outA g P p (ar (shS g))))) rfl (fun a ha=>?_) ?_ (fun y=>by simp)) ?_
 ·obtain ⟨i1,i2,i3,X,Z,x1,z1,x2,z2,x3,z3⟩:=h.hg.ends ha
  have hXP : X < P.length:=by omega
  have hZP : Z < P.length:=by omega
  obtain ⟨n,hn,hn16,hsn⟩:=h.hg.size x2
  obtain ⟨nz,hnz,hnz16,hsnz⟩:=h.hg.size z2
  have hsn : nx g X = n:=hsn
  have hsnz : nx g Z = nz:=hsnz
  have hal : (act g a).length = n:=by omega
  have hal' : (g.2.2.2.2.2.2.getD a []).length = n:=hal
  have eX : fT (shS g) a = (X : Int):=x1
  have eZ : tT (shS g) a = (Z : Int):=z1
  simp only [lt_cast,i3,decide_true,cond_true,in_cast i1,in_cast i2,in_cast i3,x1,z1,and_self,if_true,Int.toNat_natCast]
  refine bind_of (tloop_it (st:=fun d : Nat=>((d : Int),((List.range P.length).map (gd g P p),(List.range P.length).map fun x=>(List.range (nx g x)).map (qA g P p a X d x)))) (n:=n) (o:=.brk 8 ((n : Int),((List.range P.length).map (gd g P p),outA g P p (a + 1)))) ?_ (fun d hd=>?_) ?_ (fun y=>by simp)) ?_
  ·have e : ((List.range P.length).map fun x=>(List.range (nx g x)).map (qA g P p a X 0 x)) = outA g P p a:=map2_congr fun x _ e _=>by simp [qA]
   show (((0 : Nat) : Int),((List.range P.length).map (gd g P p),(List.range P.length).map fun x=>(List.range (nx g x)).map (qA g P p a X 0 x))) = _
   rw [e]; rfl
  ·obtain ⟨k,hk⟩ : ∃ k : Nat,(act g a).getD d 0 = (k : Int)∧k < nz:=by
    obtain ⟨g1,g2⟩:=wi_get z3 (i:=d) (by omega)
    exact ⟨((act g a).getD d 0).toNat,by omega,by omega⟩
   obtain ⟨hk,hkz⟩:=hk
   have hk' : (g.2.2.2.2.2.2.getD a []).getD d 0 = (k : Int):=hk
   have hd' : d < (g.2.2.2.2.2.2.getD a []).length:=by omega
   have hdn : d < nx g X:=by omega
   have hkn : k < nx g Z:=by omega
   have hgl : (gd g P p Z).length = nx g Z:=by simp [gd]
   have hgk : (gd g P p Z).getD k false = gB P p Z (P.getD Z []).length k:=getM hkn
   have hkg : k < (gd g P p Z).length:=by omega
   have hfa : gB P p Z (P.getD Z []).length k = faA g P p d a:=by
    unfold gB faA faOne
    rw [eZ,Int.toNat_natCast,hk]
   have hq : qA g P p a X d X d = O g P p a X d:=by simp [qA]
   simp only [lt_cast,hd',decide_true,cond_true,in_cast hd',hk',List.length_map,List.length_range,getM hXP,getM hZP,in_cast hXP,in_cast hZP,in_cast hdn,in_cast hkg,getM hdn,hgk,hfa,hq,and_self,if_true,Int.toNat_natCast]
   have eb : (bif O g P p a X d then some (faA g P p d a) else some false) = some (O g P p a X d && faA g P p d a):=by cases O g P p a X d <;> rfl
   rw [eb,Option.bind_some,wrap_sm (by omega) (by omega),set2]
   have e6 : ((List.range P.length).map fun x=>(List.range (nx g x)).map fun e=>if x = X∧e = d then O g P p a X d && faA g P p d a else qA g P p a X d x e) = (List.range P.length).map fun x=>(List.range (nx g x)).map (qA g P p a X (d + 1) x):=map2_congr fun x _ e _=>by
    by_cases hx : x = X
    ·subst hx
     by_cases he : e = d
     ·subst he; simp [qA]
     ·have : decide (e < d + 1) = decide (e < d):=by rw [Bool.eq_iff_iff]; simp only [decide_eq_true_eq]; omega
      rw [if_neg fun h=>he h.2]; simp [qA,this]
    ·rw [if_neg fun h=>hx h.1]; simp [qA,hx]
   rw [e6]
   rfl
  ·have e : ((List.range P.length).map fun x=>(List.range (nx g x)).map (qA g P p a X n x)) = outA g P p (a + 1):=map2_congr fun x _ e he=>by
    rw [O_succ,eX]
    unfold qA
    by_cases hx : x = X
    ·subst hx
     rw [decide_eq_true (rfl : x = x),decide_eq_true (show e < n by omega),decide_eq_true (rfl : (x : Int) = (x : Int))]
     rfl
    ·rw [decide_eq_false hx,decide_eq_false (show ¬ ((X : Int) = (x : Int)) by omega)]
     rfl
   simp only [lt_cast,hal',Nat.lt_irrefl,decide_false,cond_false,e]
  ·refine fin4 (β:=Unit) ?_
   show (if 8 = 8 then _ else none) = _
   rw [if_pos rfl,wrap_sm (by omega) (by omega)]
   rfl
 ·have e : decide (((ar (shS g) : Nat) : Int) < ((g.2.2.2.2.2.2.length : Nat) : Int)) = false:=by rw [lt_cast]; exact decide_eq_false (by omega)
  simp only [e,cond_false]
 refine fin4 (β:=Unit) ?_
 show (if 6 = 6 then _ else none) = _
 rw [if_pos rfl]
 have hol : (outA g P p (ar (shS g))).length = P.length:=by simp [outA]
 refine bind_of (p123 (x:=outA g P p (ar (shS g))) (by omega) fun i hi=>?_) rfl
 have hi : i < P.length:=by omega
 have er : (outA g P p (ar (shS g))).getD i [] = (List.range (nx g i)).map (O g P p (ar (shS g)) i):=getM hi
 rw [er,List.length_map,List.length_range]
 obtain ⟨n,hn,hn16,hsn⟩:=h.hg.size (i:=i) (by omega)
 show nx g i≤_
 have : nx g i = n:=hsn
 omega
theorem each_eq {f g : SF} {P p : List (List Int)} (h : PB f g P) : mkd (outA g P p (ar (shS g))) = faR g P p:=by
 have lg:=h.lg
 unfold mkd faR
 have hol : (outA g P p (ar (shS g))).length = P.length:=by simp [outA]
 rw [hol,lg]
 refine List.map_congr_left fun i hi=>?_
 have hi:=List.mem_range.1 hi
 have er : (outA g P p (ar (shS g))).getD i [] = (List.range (nx g i)).map (O g P p (ar (shS g)) i):=getM (by omega)
 rw [er,List.length_map,List.length_range]
 unfold faL
 congr 1
 refine List.filter_congr fun e he=>?_
 exact getM (List.mem_range.1 he)
theorem p30 {f g : SF} {P p : List (List Int)} (hf : okS f) (hg : okS g) (hP : okL P) (hp : okL p) : G30 (mkM f g P,p) = some (uiR f g P p):=by
 refine bind_of (a:=G70 (mkM f g P)) (p70 hf hg hP) ?_
 unfold uiR
 cases h1 : isMap f g P with
 | false=>rfl
 | true=>
 have hpb:=isMap_pb h1
 refine bind_of (a:=Option.bind (G71 (f,p)) _) (bind_of (p71 hpb.hf hp) rfl) ?_
 cases h2 : partB f p with
 | false=>rfl
 | true=>
  refine bind_of (a:=G72 (mkM f g P,p)) (p72 hpb (partB_pt h2) hp hP) ?_
  rw [each_eq hpb]; rfl
end
end Go.Ve.D


namespace Go.Ve.D
open Go Go.Ve
noncomputable section

theorem p22 {x : List (List Int)} {k : Int} (h0 : 0≤k) (h1 : k≤1125899906842624) (h : x.length≤1048576) (hx : ∀ y ∈ x,y.length≤1048576) : G22 (mks x k,k) = some (k + (tot x x.length : Int)):=by
 unfold G22
 have hst : ((k,(0 : Int)) : Int × Int) = (fun i : Nat=>(k + (tot x i : Int),(i : Int))) 0:=by simp [tot]
 simp only [hst]
 refine bind_of (v:=.brk 0 (k + (tot x x.length : Int),(x.length : Int))) (tloop_iter (st:=fun i : Nat=>(k + (tot x i : Int),(i : Int))) (n:=x.length) (fun i hi=>?_) ?_ (fun y=>by simp)) rfl
 ·have ht:=tot_le hx i (Nat.le_of_lt hi)
  have hr:=hx _ (getD_mem' [] hi)
  have m : ¬ (k + (tot x i : Int) + ((x.getD i []).length : Int) < 0):=by omega
  simp only [mks_len,lt_cast,hi,decide_true,cond_true,in_cast hi,if_true,Int.toNat_natCast,and_self,mks_get hi,p65 (x:=x.getD i []) (k:=k + (tot x i : Int)) (by omega) (by omega) hr,Option.bind_some,m,decide_false,cond_false]
  rw [wrap_sm (by omega) (by omega),tot_succ hi]
  simp only [Int.natCast_add,Int.add_assoc]
  rfl
 ·simp only [mks_len,lt_cast,Nat.lt_irrefl,decide_false,cond_false]
theorem p39g {c} {b : Int} (hb : 0≤b∧b≤1048576) (h1 : c.2.1.length≤maxLen) (h2 : c.2.2.1.length≤maxLen) (h3 : c.2.2.2.1.length≤maxLen) (h4 : c.2.2.2.2.length≤maxLen) (h5 : ∀ y ∈ c.2.2.2.2,y.length≤maxLen) :
  ∃ r,G39 (c,b) = some r∧(r < 0∨(0≤r∧r≤b∧okC c)):=by
 unfold G39
 obtain ⟨r1,e1,f1⟩:=p55 (b:=b) hb h1
 simp only [e1,Option.bind_some]
 by_cases n1 : r1 < 0
 ·exact ⟨-1,by simp only [n1,decide_true,cond_true],.inl (by decide)⟩
 simp only [n1,decide_false,cond_false]
 obtain ⟨r2,e2,f2⟩:=p55 (b:=r1) (by omega) h2
 simp only [e2,Option.bind_some]
 by_cases n2 : r2 < 0
 ·exact ⟨-1,by simp only [n2,decide_true,cond_true],.inl (by decide)⟩
 simp only [n2,decide_false,cond_false]
 obtain ⟨r3,e3,f3⟩:=p55 (b:=r2) (by omega) h3
 simp only [e3,Option.bind_some]
 by_cases n3 : r3 < 0
 ·exact ⟨-1,by simp only [n3,decide_true,cond_true],.inl (by decide)⟩
 simp only [n3,decide_false,cond_false]
 obtain ⟨r4,e4,f4⟩:=p56 (b:=r3) (by omega) h4 h5
 simp only [e4,Option.bind_some]
 by_cases n4 : r4 < 0
 ·exact ⟨-1,by simp only [n4,decide_true,cond_true],.inl (by decide)⟩
 simp only [n4,decide_false,cond_false]
 refine ⟨r4,rfl,.inr ?_⟩
 have f4:=f4.resolve_left n4
 exact ⟨f4.1,by omega,by omega,by omega,by omega,f4.2.2.1,f4.2.2.2⟩

theorem p10g {f : SF} {b : Int} (hb : 0≤b∧b≤1048576) (h1 : f.2.1.length≤maxLen) (h2 : f.2.2.1.length≤maxLen) (h3 : f.2.2.2.1.length≤maxLen) (h4 : f.2.2.2.2.1.length≤maxLen) (h5 : ∀ y ∈ f.2.2.2.2.1,y.length≤maxLen) (h6 : f.2.2.2.2.2.1.length≤maxLen) (h7 : f.2.2.2.2.2.2.length≤maxLen) (h8 : ∀ y ∈ f.2.2.2.2.2.2,y.length≤maxLen) :
  ∃ r,G10 (f,b) = some r∧(r < 0∨(0≤r∧r≤b∧okS f)):=by
 unfold G10
 obtain ⟨r1,e1,f1⟩:=p39g (c:=shS f) hb h1 h2 h3 h4 h5
 unfold shS at e1
 simp only [e1,Option.bind_some]
 by_cases n1 : r1 < 0
 ·exact ⟨-1,by simp only [n1,decide_true,cond_true],.inl (by decide)⟩
 have f1:=f1.resolve_left n1
 obtain ⟨r2,e2,f2⟩:=p55 (b:=r1) ⟨f1.1,by omega⟩ h6
 simp only [n1,decide_false,cond_false,e2,Option.bind_some]
 by_cases n2 : r2 < 0
 ·exact ⟨-1,by simp only [n2,decide_true,cond_true],.inl (by decide)⟩
 have f2:=f2.resolve_left n2
 obtain ⟨r3,e3,f3⟩:=p56 (b:=r2) ⟨f2.2,by omega⟩ h7 h8
 simp only [n2,decide_false,cond_false,e3,Option.bind_some]
 by_cases n3 : r3 < 0
 ·exact ⟨-1,by simp only [n3,decide_true,cond_true],.inl (by decide)⟩
 have f3:=f3.resolve_left n3
 refine ⟨r3,by simp only [n3,decide_false,cond_false],.inr ⟨f3.1,by omega,f1.2.2,?_,f3.2.2.1,f3.2.2.2⟩⟩
 have : f.2.2.2.2.2.1.length≤1048576:=by omega
 exact this
theorem p13 {f : SF} (h : okS f) : G13 f = some f:=by
 unfold G13
 have e1 : G41 (f.1,(f.2.1,(f.2.2.1,(f.2.2.2.1,f.2.2.2.2.1)))) = some (shS f):=p41 h.1
 have e2 : G24 f.2.2.2.2.2.1 = some f.2.2.2.2.2.1:=p24 h.2.1
 have e3 : G60 f.2.2.2.2.2.2 = some f.2.2.2.2.2.2:=p60 h.2.2.1 h.2.2.2
 simp only [e1,e2,e3,Option.bind_some]
 rfl
theorem p17 {f : SF} (h : okS f) : G17 (f,f) = some true:=by
 unfold G17
 have e1 : G43 ((f.1,(f.2.1,(f.2.2.1,(f.2.2.2.1,f.2.2.2.2.1)))),(f.1,(f.2.1,(f.2.2.1,(f.2.2.2.1,f.2.2.2.2.1))))) = some true:=p43 h.1
 have e2 : G26 (f.2.2.2.2.2.1,f.2.2.2.2.2.1) = some true:=p26 h.2.1
 have e3 : G16 (f.2.2.2.2.2.2,f.2.2.2.2.2.2) = some true:=p16 h.2.2.1 h.2.2.2
 simp only [e1,e2,e3,Option.bind_some,Bool.not_true,cond_false]
theorem mk21 {x : List (List Int)} {k : Int} (h0 : 0≤k) (h1 : k≤1125899906842624) (h : x.length≤1048576) (hx : ∀ y ∈ x,y.length≤1048576) : ∃ k' y,G21 (x,k) = some (k',y)∧0≤k'∧k'≤k + 1099511627776:=by
 have ht:=tot_le hx x.length (Nat.le_refl _)
 exact ⟨_,_,p21 h0 h1 h hx,by omega,by omega⟩
theorem mk44 {c : Cat} {k : Int} (h0 : 0≤k) (h1 : k≤562949953421312) (h : okC c) : ∃ k' y,G44 (c,k) = some (k',y)∧0≤k'∧k'≤k + 8796093022208:=by
 obtain ⟨g1,g2,g3,g4,g5⟩:=h
 obtain ⟨k1,y1,a1,b1,c1,d1⟩:=mh27 h0 (by omega) g1
 obtain ⟨k2,y2,a2,b2,c2,d2⟩:=mh27 b1 (by omega) g2
 obtain ⟨k3,y3,a3,b3,c3,d3⟩:=mh27 b2 (by omega) g3
 obtain ⟨k4,y4,a4,b4,c4⟩:=mk21 b3 (by omega) g4 g5
 refine ⟨k4,(y1,(y2,(y3,y4))),?_,b4,by omega⟩
 unfold G44
 simp only [a1,a2,a3,a4,Option.bind_some]
theorem mk19 {f : SF} {k : Int} (h0 : 0≤k) (h1 : k≤281474976710656) (h : okS f) : ∃ k' y,G19 (f,k) = some (k',y)∧0≤k'∧k'≤k + 35184372088832:=by
 obtain ⟨g1,g2,g3,g4⟩:=h
 obtain ⟨k1,y1,a1,b1,c1⟩:=mk44 h0 (by omega) g1
 obtain ⟨k2,y2,a2,b2,c2,_⟩:=mh27 b1 (by omega) g2
 obtain ⟨k3,y3,a3,b3,c3⟩:=mk21 b2 (by omega) g3 g4
 unfold shS at a1
 unfold szF at a2
 unfold acF at a3
 refine ⟨k3,(y1.1,(y1.2.1,(y1.2.2.1,(y1.2.2.2,(y2,y3))))),?_,b3,by omega⟩
 unfold G19
 simp only [a1,a2,a3,Option.bind_some]
theorem p31 {m : SM} (hf : okS (srM m)) (hg : okS (tgM m)) (hP : okL (ptM m)) : G31 m = some m:=
 bind_of (a:=G13 (srM m)) (p13 hf) (bind_of (a:=G13 (tgM m)) (p13 hg) (bind_of (a:=G60 (ptM m)) (p60 hP.1 hP.2) rfl))
theorem p32 {p : List (List Int)} (hp : okL p) : G32 p = some p:=bind_of (p60 hp.1 hp.2) rfl
theorem p34 {p : List (List Int)} (hp : okL p) : G34 (p,p) = some true:=bind_of (a:=G16 (p,p)) (p16 hp.1 hp.2) rfl
theorem p35 {m : SM} (hf : okS (srM m)) (hg : okS (tgM m)) (hP : okL (ptM m)) : G35 (m,m) = some true:=
 bind_of (a:=G17 (srM m,srM m)) (p17 hf) (bind_of (a:=G17 (tgM m,tgM m)) (p17 hg) (bind_of (a:=G16 (ptM m,ptM m)) (p16 hP.1 hP.2) rfl))
theorem mk36 {m : SM} (hf : okS (srM m)) (hg : okS (tgM m)) (hP : okL (ptM m)) : ∃ r,G36 (m,1) = some r∧0≤r.1∧r.1≤140737488355328:=by
 obtain ⟨k1,y1,a1,b1,c1⟩:=mk19 (f:=srM m) (k:=1) (by omega) (by omega) hf
 obtain ⟨k2,y2,a2,b2,c2⟩:=mk19 (f:=tgM m) (k:=k1) b1 (by omega) hg
 obtain ⟨k3,y3,a3,b3,c3⟩:=mk21 (x:=ptM m) (k:=k2) b2 (by omega) hP.1 hP.2
 refine ⟨_,bind_of (a:=G19 (srM m,1)) a1 (bind_of (a:=G19 (tgM m,k1)) a2 (bind_of (a:=G21 (ptM m,k2)) a3 rfl)),b3,by show k3≤_; omega⟩
theorem mk37 {p : List (List Int)} (hp : okL p) {k : Int} (h0 : 0≤k) (h1 : k≤1125899906842624) : ∃ r,G37 (p,k) = some r∧0≤r.1:=by
 obtain ⟨k1,y1,a1,b1,c1⟩:=mk21 (x:=p) (k:=k) h0 h1 hp.1 hp.2
 exact ⟨(k1,y1),bind_of (a:=G21 (p,k)) a1 rfl,b1⟩
theorem mh37 {p : List (List Int)} (hp : okL p) : ∃ k y,G37 (p,1) = some (k,y)∧0≤k∧G38 (y,1) = some k:=by
 have ht:=tot_le hp.2 p.length (Nat.le_refl _)
 have e1:=p21 (x:=p) (k:=1) (by omega) (by omega) hp.1 hp.2
 have e2:=p22 (x:=p) (k:=1) (by omega) (by omega) hp.1 hp.2
 refine ⟨1 + (tot p p.length : Int),mks p 1,bind_of (a:=G21 (p,1)) e1 rfl,by omega,bind_of (a:=G22 (mks p 1,1)) e2 ?_⟩
 have m : ¬ (1 + (tot p p.length : Int) < 0):=by omega
 show (bif decide (1 + (tot p p.length : Int) < 0) then _ else _) = _
 rw [decide_eq_false m]; rfl
theorem faR_ok {f g : SF} {P p : List (List Int)} (h : PB f g P) (hP : okL P) : okL (faR g P p):=by
 have lg:=h.lg
 refine ⟨by unfold faR; rw [List.length_map,List.length_range]; have:=hP.1; omega,fun y hy=>?_⟩
 obtain ⟨x,hx,rfl⟩:=List.mem_map.1 hy
 have hx:=List.mem_range.1 hx
 obtain ⟨n,hn,hn16,hsn⟩:=h.hg.size hx
 have : (faL g P p x).length≤(sz g (x : Int)).toNat:=fm_len
 omega
theorem uiR_ok {f g : SF} {P p : List (List Int)} (hP : okL P) : okL (uiR f g P p).1:=by
 unfold uiR
 cases h1 : isMap f g P with
 | false=>exact ⟨Nat.zero_le _,fun y hy=>by cases hy⟩
 | true=>
 cases partB f p with
 | false=>exact ⟨Nat.zero_le _,fun y hy=>by cases hy⟩
 | true=>exact faR_ok (isMap_pb h1) hP
theorem p28 {m : SM} (h : okT (PT S5.ps) (m,([] : List (List Int)))) : ∃ r,G28 (m,1048576) = some r∧(r < 0∨(0≤r∧r≤1048576∧okS (srM m)∧okS (tgM m)∧okL (ptM m))):=by
 obtain ⟨⟨_,h1,h2,h3,h4,h6,h7,_,g1,g2,g3,g4,g6,g7,hP⟩,_⟩:=h
 obtain ⟨r1,e1,f1⟩:=p10g (f:=srM m) (b:=1048576) (by omega) h1.1 h2.1 h3.1 h4.1 (fun y hy=>(h4.2 y hy).1) h6.1 h7.1 (fun y hy=>(h7.2 y hy).1)
 by_cases n1 : r1 < 0
 ·exact ⟨-1,bind_of (a:=G10 (srM m,1048576)) e1 (by simp only [n1,decide_true,cond_true]),.inl (by decide)⟩
 have f1:=f1.resolve_left n1
 obtain ⟨r2,e2,f2⟩:=p10g (f:=tgM m) (b:=r1) ⟨f1.1,f1.2.1⟩ g1.1 g2.1 g3.1 g4.1 (fun y hy=>(g4.2 y hy).1) g6.1 g7.1 (fun y hy=>(g7.2 y hy).1)
 by_cases n2 : r2 < 0
 ·refine ⟨-1,bind_of (a:=G10 (srM m,1048576)) e1 ?_,.inl (by decide)⟩
  simp only [n1,decide_false,cond_false]
  exact bind_of (a:=G10 (tgM m,r1)) e2 (by simp only [n2,decide_true,cond_true])
 have f2:=f2.resolve_left n2
 obtain ⟨r3,e3,f3⟩:=p56 (x:=ptM m) (b:=r2) ⟨f2.1,by omega⟩ hP.1 (fun y hy=>(hP.2 y hy).1)
 by_cases n3 : r3 < 0
 ·refine ⟨-1,bind_of (a:=G10 (srM m,1048576)) e1 ?_,.inl (by decide)⟩
  simp only [n1,decide_false,cond_false]
  refine bind_of (a:=G10 (tgM m,r1)) e2 ?_
  simp only [n2,decide_false,cond_false]
  exact bind_of (a:=G56 (ptM m,r2)) e3 (by simp only [n3,decide_true,cond_true])
 have f3:=f3.resolve_left n3
 refine ⟨r3,bind_of (a:=G10 (srM m,1048576)) e1 ?_,.inr ⟨f3.1,by omega,f1.2.2,f2.2.2,f3.2.2.1,f3.2.2.2⟩⟩
 simp only [n1,decide_false,cond_false]
 refine bind_of (a:=G10 (tgM m,r1)) e2 ?_
 simp only [n2,decide_false,cond_false]
 exact bind_of (a:=G56 (ptM m,r2)) e3 (by simp only [n3,decide_false,cond_false])
theorem pOk {m : SM} {p : List (List Int)} (h : okT (PT S5.ps) (m,p)) : okT (PT S5.ps) (m,([] : List (List Int)))∧p.length≤maxLen∧∀ y ∈ p,y.length≤maxLen:=by
 obtain ⟨h1,h2,h3⟩:=h
 exact ⟨⟨h1,Nat.zero_le _,fun y hy=>by cases hy⟩,h2,fun y hy=>(h3 y hy).1⟩
theorem p29 {p : List (List Int)} {r0 : Int} (b : 0≤r0∧r0≤1048576) (h1 : p.length≤maxLen) (h2 : ∀ y ∈ p,y.length≤maxLen) : ∃ r,G29 (p,r0) = some r∧(r < 0∨okL p):=by
 obtain ⟨r1,e1,f1⟩:=p56 (x:=p) (b:=r0) b h1 h2
 by_cases n1 : r1 < 0
 ·exact ⟨-1,bind_of (a:=G56 (p,r0)) e1 (by simp only [n1,decide_true,cond_true]),.inl (by decide)⟩
 ·have f1:=f1.resolve_left n1
  exact ⟨r1,bind_of (a:=G56 (p,r0)) e1 (by simp only [n1,decide_false,cond_false]),.inr ⟨f1.2.2.1,f1.2.2.2⟩⟩
end
end Go.Ve.D


namespace Go.Ve.D
open Go Go.Ve
noncomputable section

theorem mk_eta (m : SM) : mkM (srM m) (tgM m) (ptM m) = m:=rfl
theorem p5b {m : SM} {p : List (List Int)} {r0 r2 : Int} (e0 : G28 (m,1048576) = some r0) (n0 : ¬ r0 < 0) (e2 : G29 (p,r0) = some r2) (n2 : ¬ r2 < 0) (hf : okS (srM m)) (hg : okS (tgM m)) (hP : okL (ptM m)) (hp : okL p) : G5 (m,p) = some true:=by
 have e31:=p31 hf hg hP
 have e32:=p32 hp
 have e30:=p30 hf hg hP hp
 have e33:=p33 hf hg hP hp
 rw [mk_eta] at e30 e33
 have hr:=uiR_ok (f:=srM m) (g:=tgM m) (p:=p) hP
 generalize uiR (srM m) (tgM m) (ptM m) p = r at *
 obtain ⟨r36,e36,c1,c2⟩:=mk36 hf hg hP
 obtain ⟨r37,e37,c3⟩:=mk37 hp (k:=r36.1) c1 (by omega)
 obtain ⟨k,y,e37',c4,e38⟩:=mh37 hr
 have m1 : ¬ (r37.1 < 0):=by omega
 have m2 : ¬ (k < 0):=by omega
 have g1:=p34 hr
 have g2:=p34 hp
 have g3:=p35 hf hg hP
 unfold G5
 simp only [Prod.eta,e0,n0,e2,n2,decide_false,cond_false,e31,e32,e30,e33,g1,g2,g3,e36,e37,e37',e38,m1,m2,Option.bind_some,Bool.not_true,decide_true,cond_true]
theorem p5 (x : SM × List (List Int)) (h : okT (PT S5.ps) x) : G5 x = some true:=by
 obtain ⟨m,p⟩:=x
 obtain ⟨hm,h1,h2⟩:=pOk h
 obtain ⟨r0,e0,f0⟩:=p28 hm
 by_cases n0 : r0 < 0
 ·unfold G5
  simp only [Prod.eta,e0,n0,Option.bind_some,decide_true,cond_true]
 obtain ⟨b1,b2,hf,hg,hP⟩:=f0.resolve_left n0
 obtain ⟨r2,e2,f2⟩:=p29 (p:=p) (r0:=r0) ⟨b1,b2⟩ h1 h2
 by_cases n2 : r2 < 0
 ·unfold G5
  simp only [Prod.eta,e0,n0,e2,n2,Option.bind_some,decide_true,cond_true,decide_false,cond_false]
 exact p5b e0 n0 e2 n2 hf hg hP (f2.resolve_left n2)
end
end Go.Ve.D

