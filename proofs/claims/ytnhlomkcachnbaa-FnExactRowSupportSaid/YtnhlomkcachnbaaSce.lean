/- Queries: the tuple of a number. -/
import Derived.Test.YtnhlomkcachnbaaSba
namespace Go.Ve.D
open Go Go.Ve
noncomputable section

def nmN (x : List Int) (k : Nat) : Nat→Nat
 | 0=>k
 | j + 1=>nmN x k j / (x.getD (x.length - 1 - j) 0).toNat
def dig (x : List Int) (k e : Nat) : Int:=((nmN x k (x.length - 1 - e) % (x.getD e 0).toNat : Nat) : Int)
def tupL (x : List Int) (k : Nat) : List Int:=(List.range x.length).map (dig x k)
theorem nm_le (x : List Int) (k : Nat) : ∀ j,nmN x k j≤k
 | 0=>Nat.le_refl _
 | j + 1=>Nat.le_trans (Nat.div_le_self _ _) (nm_le x k j)
theorem at_loop {x : List Int} (h : Few x) (hz : ∀ i,i < x.length→x.getD i 0≠0) {k : Nat} (hk : k≤1000000000000) {R : Type} {F : Int × Int × List Int→Option (LO (Int × Int × List Int) R)}
  (hF : F = fun v0=>(bif (decide ((0 : Int)≤v0.2.1)) then (if (((0 : Int)≤v0.2.1)∧(v0.2.1 < ((x.length : Nat) : Int))) then (if ((x.getD (v0.2.1).toNat (0 : Int))≠(0 : Int)) then (if (((0 : Int)≤v0.2.1)∧(v0.2.1 < ((v0.2.2.length : Nat) : Int))) then (if (((0 : Int)≤v0.2.1)∧(v0.2.1 < ((x.length : Nat) : Int))) then (if ((x.getD (v0.2.1).toNat (0 : Int))≠(0 : Int)) then (some (LO.next ((IntKind.wrap .i64 (Int.tdiv v0.1 (x.getD (v0.2.1).toNat (0 : Int)))),((IntKind.wrap .i64 (v0.2.1 - (1 : Int))),(v0.2.2.set (v0.2.1).toNat (Int.tmod v0.1 (x.getD (v0.2.1).toNat (0 : Int)))))))) else none) else none) else none) else none) else none) else (some (LO.brk 0 (v0.1,(v0.2.1,v0.2.2)))))) :
  tloop F ((k : Int),((IntKind.wrap .i64 ((x.length : Int) - 1)),List.replicate x.length (0 : Int))) = some (.brk 0 (((nmN x k x.length : Nat) : Int),((x.length : Int) - 1 - (x.length : Int),tupL x k))):=by
 subst hF
 have hl:=h.l
 have ew : IntKind.wrap .i64 ((x.length : Int) - 1) = (x.length : Int) - 1 - ((0 : Nat) : Int):=by rw [wrap_id (by omega) (by omega)]; omega
 have e0 : List.replicate x.length (0 : Int) = (List.range x.length).map fun e=>if x.length≤e + 0 then dig x k e else 0:=by
  have : ((List.range x.length).map fun e=>if x.length≤e + 0 then dig x k e else 0) = (List.range x.length).map fun _=>(0 : Int):=List.map_congr_left fun e he=>if_neg (by have:=List.mem_range.1 he; omega)
  rw [this]; simp [List.map_const']
 rw [ew,e0]
 refine tloop_iter (st:=fun j : Nat=>(((nmN x k j : Nat) : Int),((x.length : Int) - 1 - (j : Int),(List.range x.length).map fun e=>if x.length≤e + j then dig x k e else 0))) (n:=x.length) (fun j hj=>?_) ?_ (fun y=>by simp)
 ·obtain ⟨i,hi⟩ : ∃ i : Nat,i = x.length - 1 - j:=⟨_,rfl⟩
  have hii : (x.length : Int) - 1 - (j : Int) = (i : Int):=by omega
  have hix : i < x.length:=by omega
  obtain ⟨g1,g2⟩:=h.get hix
  obtain ⟨b,hb⟩ : ∃ b : Nat,x.getD i 0 = (b : Int):=⟨(x.getD i 0).toNat,by omega⟩
  have hbz : (b : Int)≠0:=by rw [← hb]; exact hz i hix
  have hnm:=nm_le x k j
  have hdv : nmN x k (j + 1) = nmN x k j / b:=by show _ / (x.getD (x.length - 1 - j) 0).toNat = _; rw [← hi,hb,Int.toNat_natCast]
  have hdg : dig x k i = ((nmN x k j % b : Nat) : Int):=by
   unfold dig
   rw [show x.length - 1 - i = j by omega,hb,Int.toNat_natCast]
  have h0 : decide ((0 : Int)≤(i : Int)) = true:=decide_eq_true (by omega)
  simp only [hii,h0,cond_true,in_cast hix,hb,List.length_map,List.length_range,and_self,if_true,Int.toNat_natCast]
  rw [if_pos hbz,if_pos hbz]
  have e1 : Int.tdiv ((nmN x k j : Nat) : Int) (b : Int) = ((nmN x k j / b : Nat) : Int):=rfl
  have e2 : Int.tmod ((nmN x k j : Nat) : Int) (b : Int) = ((nmN x k j % b : Nat) : Int):=rfl
  have hle : nmN x k j / b≤nmN x k j:=Nat.div_le_self _ _
  rw [e1,e2,wrap_sm (n:=((nmN x k j / b : Nat) : Int)) (by omega) (by omega),wrap_id (n:=(i : Int) - 1) (by omega) (by omega),set_mapA,← hdv,← hdg]
  have e3 : ((List.range x.length).map fun e=>if e = i then dig x k i else if x.length≤e + j then dig x k e else 0) = (List.range x.length).map fun e=>if x.length≤e + (j + 1) then dig x k e else 0:=List.map_congr_left fun e he=>by
   have:=List.mem_range.1 he
   by_cases h1 : e = i
   ·subst h1; rw [if_pos rfl,if_pos (by omega)]
   ·rw [if_neg h1]
    by_cases h2 : x.length≤e + j
    ·rw [if_pos h2,if_pos (by omega)]
    ·rw [if_neg h2,if_neg (by omega)]
  rw [e3,show (i : Int) - 1 = (x.length : Int) - 1 - ((j + 1 : Nat) : Int) by omega]
  rfl
 ·have e : decide ((0 : Int)≤(x.length : Int) - 1 - (x.length : Int)) = false:=decide_eq_false (by omega)
  have e4 : ((List.range x.length).map fun e=>if x.length≤e + x.length then dig x k e else 0) = tupL x k:=List.map_congr_left fun e _=>if_pos (by omega)
  simp only [e,cond_false,e4]
theorem p110 {x : List Int} (h : Few x) (hz : ∀ i,i < x.length→x.getD i 0≠0) {k : Nat} (hk : k≤1000000000000) : G110 (x,(k : Int)) = some (tupL x k):=by
 have hl:=h.l
 unfold G110
 have hG : (0 : Int)≤(x.length : Int)∧((x.length : Int)≤(x.length : Int)∧((8 : Int) * (x.length : Int)≤(281474976710656 : Int)∧(x.length : Int)≤(9223372036854775807 : Int))):=by omega
 simp only
 rw [if_pos hG,Int.toNat_natCast]
 exact bind_of (at_loop h hz hk rfl) rfl
theorem p238 {x : List Int} (h : Few x) : G238 x = some true:=by
 have hl:=h.l
 unfold G238
 refine chkT (n:=x.length) (p:=fun _=>true) (bad:=fun r : Bool=>r = false) (id:=0) (Post:=fun b (o : Option Bool)=>b = true→o = some true) (fun i hi=>?_) ?_ (fun _=>rfl) (fun r hr h=>by cases h) (List.all_eq_true.2 fun _ _=>rfl)
 ·obtain ⟨g1,g2⟩:=h.get hi
  have e : G282 (x.getD i 0) = some true:=bind_of (a:=G195 (x.getD i 0,((0 : Int),(256 : Int)))) (p195 _ _ _) (by rw [decide_eq_true g1,decide_eq_true (show x.getD i 0≤256 by omega)]; rfl)
  simp only [lt_cast,hi,decide_true,cond_true,in_cast hi,and_self,if_true,Int.toNat_natCast,e,Option.bind_some]
  rw [wrap_sm (by omega) (by omega)]
  exact inn1_t rfl
 ·simp only [lt_cast,Nat.lt_irrefl,decide_false,cond_false]
theorem p188 {x : List Int} (h : Few x) (hz : ∀ i,i < x.length→x.getD i 0≠0) {k : Nat} (hk : k < Go.Ve.D.prd x) : G188 (x,(k : Int)) = some (tupL x k,0):=by
 have hl:=h.l
 have hp:=h.prd x.length
 rw [List.take_length] at hp
 have hG : (0 : Int)≤(x.length : Int)∧((x.length : Int)≤(x.length : Int)∧((8 : Int) * (x.length : Int)≤(281474976710656 : Int)∧(x.length : Int)≤(9223372036854775807 : Int))):=by omega
 refine bind_of (a:=G238 x) (p238 h) ?_
 refine bind_of (a:=G186 x) (p186 h) ?_
 have n1 : ¬ ((1000000000000 : Int) < ((Go.Ve.D.prd x : Nat) : Int)):=by omega
 simp only [decide_eq_false n1,cond_false]
 rw [wrap_id (by omega) (by omega)]
 refine bind_of (p195 _ _ _) ?_
 rw [decide_eq_true (show (0 : Int)≤(k : Int) by omega),decide_eq_true (show (k : Int)≤((Go.Ve.D.prd x : Nat) : Int) - 1 by omega)]
 simp only [Bool.and_self,Bool.not_true,cond_false]
 rw [if_pos hG,Int.toNat_natCast]
 exact bind_of (at_loop h hz (by omega) rfl) rfl
end
end Go.Ve.D


namespace Go.Ve.D
open Go Go.Ve
noncomputable section

theorem tupL_len {x : List Int} {k : Nat} : (tupL x k).length = x.length:=by simp [tupL]
theorem tupL_get {x : List Int} {k e : Nat} (he : e < x.length) : (tupL x k).getD e 0 = dig x k e:=by
 unfold tupL
 rw [List.getD_eq_getElem?_getD,List.getElem?_map,List.getElem?_range he]; rfl
theorem dig_in {x : List Int} (h : Few x) {k e : Nat} (he : e < x.length) (hz : x.getD e 0≠0) : 0≤dig x k e∧dig x k e < x.getD e 0:=by
 obtain ⟨g1,g2⟩:=h.get he
 unfold dig
 have:=Nat.mod_lt (nmN x k (x.length - 1 - e)) (show 0 < (x.getD e 0).toNat by omega)
 omega
theorem few_nz {x : List Int} {k : Nat} (hk : k < Go.Ve.D.prd x) : ∀ i,i < x.length→x.getD i 0≠0:=fun i hi e=>by
 rw [prd_zero hi e] at hk; omega
theorem tk_of {f : SF} (hf : FS f) {vs : List Int} (hv : wi f.1 vs = true) (hfew : Few (thn vs (szF f))) {k : Nat} (hk : k < Go.Ve.D.prd (thn vs (szF f))) {l : Int × Int} (hl : termOK (shS f) vs l = true) : TK f (tupL (thn vs (szF f)) k) l:=by
 unfold termOK at hl
 rw [Bool.and_eq_true,Bool.and_eq_true,decide_eq_true_eq] at hl
 obtain ⟨h1,h2,h3⟩:=hl
 obtain ⟨a1,a2⟩:=inn_iff.1 h1
 obtain ⟨b1,b2⟩:=inn_iff.1 h2
 have hlen : (thn vs (szF f)).length = vs.length:=thn_len
 have hv1 : l.1.toNat < (thn vs (szF f)).length:=by omega
 have har : l.2.toNat < ar (shS f):=by show l.2.toNat < (shS f).2.1.length; omega
 have hd:=dig_in hfew (k:=k) hv1 (few_nz hk _ hv1)
 have hal:=hf.al _ har
 have l2 : f.2.2.2.2.2.2.length = ar (shS f):=hf.l2
 have hg : (thn vs (szF f)).getD l.1.toNat 0 = (szF f).getD (vs.getD l.1.toNat 0).toNat 0:=by
  unfold thn
  rw [List.getD_eq_getElem?_getD,List.getElem?_map,List.getElem?_range (by omega)]; rfl
 have hft : fT (shS f) l.2.toNat = vs.getD l.1.toNat 0:=h3
 refine ⟨⟨b1,by have : ((ar (shS f) : Nat) : Int) = ((shS f).2.1.length : Int):=rfl; omega⟩,⟨a1,by rw [tupL_len]; omega⟩,?_⟩
 rw [tupL_get hv1]
 rw [hft] at hal
 have e : (((f.2.2.2.2.2.2.getD l.2.toNat []).length : Nat) : Int) = (thn vs (szF f)).getD l.1.toNat 0:=by rw [hg]; exact hal
 rw [e]
 exact hd
end
end Go.Ve.D


namespace Go.Ve.D
open Go Go.Ve
noncomputable section

def szQ (f : SF) (q : Qry) : List Int:=thn q.1 (szF f)
def fitB (f : SF) (q : Qry) (k : Nat) : Bool:=(List.range (cnds f q).length).all fun i=>cndB (tupL (szQ f q) k) ((cnds f q).getD i c0)
def solL (f : SF) (q : Qry) (n : Nat) : List (List Int):=((List.range n).filter (fitB f q)).map (tupL (szQ f q))
theorem solL_succ {f : SF} {q : Qry} {n : Nat} : solL f q (n + 1) = bif fitB f q n then solL f q n ++ [tupL (szQ f q) n] else solL f q n:=by
 unfold solL
 rw [List.range_succ,List.filter_append,List.map_append]
 cases hq : fitB f q n <;> simp [hq]
theorem solL_len {f : SF} {q : Qry} {n : Nat} : (solL f q n).length≤n:=by
 unfold solL
 rw [List.length_map]
 have:=List.length_filter_le (fitB f q) (List.range n)
 rwa [List.length_range] at this
structure QK (f : SF) (q : Qry) : Prop where
 hf : FS f
 v : wi f.1 q.1 = true
 l4 : q.1.length≤4
 l6 : q.2.1.length≤6
 lr : q.2.2.1.length = q.2.1.length
 c : ∀ i,i < q.2.1.length→termOK (shS f) q.1 (q.2.1.getD i (0,0)) = true∧termOK (shS f) q.1 (q.2.2.1.getD i (0,0)) = true
theorem QK.few {f : SF} {q : Qry} (h : QK f q) : Few (szQ f q):=by
 refine ⟨by unfold szQ; rw [thn_len]; exact h.l4,fun y hy=>?_⟩
 obtain ⟨i,hi,rfl⟩:=List.mem_map.1 hy
 obtain ⟨g1,g2⟩:=wi_get h.v (List.mem_range.1 hi)
 exact h.hf.szi (x:=q.1.getD i 0) ⟨g1,g2⟩
theorem QK.szw {f : SF} {q : Qry} (h : QK f q) : wi ((szF f).length : Int) q.1 = true:=by rw [h.hf.l1]; exact h.v
theorem p113 {f : SF} {q : Qry} (h : QK f q) : G113 (q,f) = some (bif decide (4096 < Go.Ve.D.prd (szQ f q)) then ([],false) else (solL f q (Go.Ve.D.prd (szQ f q)),true)):=by
 have hl4:=h.l4
 have hfew:=h.few
 refine bind_of (a:=G69 (q.1,szF f)) (p69 (by omega) h.szw) ?_
 refine bind_of (a:=G186 (szQ f q)) (p186 hfew) ?_
 have ed : decide ((4096 : Int) < ((Go.Ve.D.prd (szQ f q) : Nat) : Int)) = decide (4096 < Go.Ve.D.prd (szQ f q)):=by rw [Bool.eq_iff_iff]; simp only [decide_eq_true_eq]; omega
 simp only [ed]
 cases hd : decide (4096 < Go.Ve.D.prd (szQ f q)) with
 | true=>rfl
 | false=>
 have hd:=of_decide_eq_false hd
 refine bind_of (a:=G187 (q,f)) (p187 h.l6 h.lr) ?_
 refine bind_of (v:=.brk 0 (((Go.Ve.D.prd (szQ f q) : Nat) : Int),(szQ f q,(cnds f q,solL f q (Go.Ve.D.prd (szQ f q)))))) (tloop_iter (st:=fun k : Nat=>((k : Int),(szQ f q,(cnds f q,solL f q k)))) (n:=Go.Ve.D.prd (szQ f q)) (fun k hk=>?_) ?_ (fun y=>by simp)) rfl
 ·have hc : (cnds f q).length = q.2.1.length:=by simp [cnds]
  have e188:=p188 hfew (few_nz hk) hk
  have e189:=p189 (t:=tupL (szQ f q) k) (cs:=cnds f q) (by rw [hc]; exact h.l6) fun i hi=>by
   have hi : i < q.2.1.length:=by omega
   have eg : (cnds f q).getD i c0 = (f,(q.2.1.getD i (0,0),q.2.2.1.getD i (0,0))):=by
    unfold cnds
    rw [List.getD_eq_getElem?_getD,List.getElem?_map,List.getElem?_range hi]; rfl
   rw [eg]
   exact ⟨tk_of h.hf h.v hfew hk (h.c i hi).1,tk_of h.hf h.v hfew hk (h.c i hi).2⟩
  have hs:=solL_len (f:=f) (q:=q) (n:=k)
  simp only [lt_cast,hk,decide_true,cond_true,e188,e189,Option.bind_some,Bool.not_not,if_true,List.length_cons,List.length_nil]
  rw [wrap_sm (by omega) (by omega),if_pos (show (solL f q k).length + (0 + 1)≤5864062014805 by omega),solL_succ]
  show _ = some (LO.next (((k + 1 : Nat) : Int),(szQ f q,(cnds f q,bif fitB f q k then _ else _))))
  unfold fitB
  cases (List.range (cnds f q).length).all fun i=>cndB (tupL (szQ f q) k) ((cnds f q).getD i c0) <;> rfl
 ·simp only [lt_cast,Nat.lt_irrefl,decide_false,cond_false]
end
end Go.Ve.D


namespace Go.Ve.D
open Go Go.Ve
noncomputable section

theorem p108 {f : SF} {q : Qry} (h : QK f q) : G108 (f,q) = some (szQ f q):=bind_of (a:=G67 (q.1,szF f)) (p67 (by have:=h.l4; omega) h.szw) rfl
theorem p107 {f : SF} {q : Qry} (h : QK f q) : G107 (f,q) = some (!decide (4096 < Go.Ve.D.prd (szQ f q))):=by
 refine bind_of (a:=G108 (f,q)) (p108 h) ?_
 refine bind_of (a:=G109 (szQ f q)) (p109 h.few) ?_
 refine bind_of (p184 _ _ _) ?_
 rw [decide_eq_true (show (0 : Int)≤((Go.Ve.D.prd (szQ f q) : Nat) : Int) by omega),Bool.true_and]
 congr 1
 rw [Bool.eq_iff_iff]
 simp only [Bool.not_eq_true',decide_eq_true_eq,decide_eq_false_iff_not]
 omega
end
end Go.Ve.D


namespace Go.Ve.D
open Go Go.Ve
noncomputable section

theorem p235 (c : Cat) (a : Int) : G235 (c,a) = some (inn c.2.1.length a):=by
 unfold G235 inn
 by_cases h : 0≤a <;> simp [h]
theorem p183 {c : Cat} {vs : List Int} {t : Int × Int} (hv : vs.length≤1048576) : G183 (c,(vs,t)) = some (termOK c vs t):=by
 have hm : (0 : Int)≤(vs.length : Int)∧(vs.length : Int)≤9223372036854775807:=by omega
 unfold G183 termOK
 simp only [p184' _ _ hm,p235,Option.bind_some]
 cases e1 : inn vs.length t.1 with
 | false=>rfl
 | true=>
  cases e2 : inn c.2.1.length t.2 with
  | false=>rfl
  | true=>
   have h1:=inn_iff.1 e1
   have h2:=inn_iff.1 e2
   simp only [cond_true,Option.bind_some,h1,h2,and_self,if_true,Bool.true_and]
theorem p236 {c : Cat} {q : Qry} {t : Int × Int} (hv : q.1.length≤1048576) (hc : c.2.1.length≤1048576) : G236 (c,(q,t)) = some (termOK c q.1 t):=by
 have hm : (0 : Int)≤(q.1.length : Int)∧(q.1.length : Int)≤9223372036854775807:=by omega
 have hm2 : (0 : Int)≤(c.2.1.length : Int)∧(c.2.1.length : Int)≤9223372036854775807:=by omega
 unfold G236 termOK
 simp only [p195' _ _ hm,p195' _ _ hm2,p159,Option.bind_some]
 cases e1 : inn q.1.length t.1 with
 | false=>rfl
 | true=>
  cases e2 : inn c.2.1.length t.2 with
  | false=>rfl
  | true=>
   have h1:=inn_iff.1 e1
   have h2:=inn_iff.1 e2
   simp only [cond_true,Option.bind_some,h1,h2,and_self,if_true,Bool.true_and]
theorem p185 {c : Cat} (hs : Sh c) {q : Qry} {l r : Int × Int} (hv : q.1.length≤1048576) : G185 (c,(q,(l,r))) = some (condOK c q.1 l r):=by
 have hc : c.2.1.length≤1048576:=by have:=hs.hd.2.1; omega
 have h3 : c.2.2.1.length = c.2.1.length:=hs.hd.2.2.1
 unfold G185 condOK
 simp only [Prod.eta,p236 hv hc,Option.bind_some]
 cases e1 : termOK c q.1 l with
 | false=>rfl
 | true=>
  cases e2 : termOK c q.1 r with
  | false=>rfl
  | true=>
   have h1:=term_in e1
   have h2:=term_in e2
   have h1' : 0≤l.2∧l.2 < (c.2.2.1.length : Int):=by rw [h3]; exact h1
   have h2' : 0≤r.2∧r.2 < (c.2.2.1.length : Int):=by rw [h3]; exact h2
   simp only [cond_true,Option.bind_some,h1',h2',and_self,if_true,Bool.true_and]
theorem p112 {c : Cat} {q : Qry} (hs : Sh c) (hq : okQ q) : G112 (c,q) = some (qOK c q):=by
 obtain ⟨k1,k2,k3,k4⟩:=hq
 have hob : 0≤c.1∧c.1≤9223372036854775807:=by have:=hs.hd.1; omega
 have hl1 : (0 : Int)≤(q.1.length : Int)∧(q.1.length : Int)≤9223372036854775807:=by omega
 unfold G112
 simp only [p127 hob k1,p127 hl1 k4,Option.bind_some]
 by_cases b1 : (4 : Int) < (q.1.length : Int)
 case pos=>simp only [b1,decide_true,cond_true,Option.bind_some,q_f (c:=c) (q:=q) fun h=>absurd h.1 (by omega)]
 simp only [b1,decide_false,cond_false,Option.bind_some]
 cases b2 : wi c.1 q.1 with
 | false=>simp only [Bool.not_false,cond_true,Option.bind_some,q_f (c:=c) (q:=q) fun h=>by have:=h.2.1; rw [b2] at this; cases this]
 | true=>
 simp only [Bool.not_true,cond_false,Option.bind_some]
 by_cases b3 : (6 : Int) < (q.2.1.length : Int)
 case pos=>simp only [b3,decide_true,cond_true,Option.bind_some,q_f (c:=c) (q:=q) fun h=>absurd h.2.2.1 (by omega)]
 simp only [b3,decide_false,cond_false,Option.bind_some]
 by_cases b4 : (q.2.2.1.length : Int) = (q.2.1.length : Int)
 case neg=>simp only [b4,decide_false,Bool.not_false,cond_true,Option.bind_some,q_f (c:=c) (q:=q) fun h=>b4 (by rw [h.2.2.2.1])]
 simp only [decide_eq_true b4,Bool.not_true,cond_false,Option.bind_some]
 refine bind_of (v:=bif cAll c q then .brk 0 (q.2.1.length : Int) else .ret false) (tloop_all (st:=fun i=>(i : Int)) (fun i hi=>?_) (by simp) (fun y=>by simp)) ?_
 ·have hi2 : i < q.2.2.1.length:=by omega
  simp only [lt_cast,hi,hi2,decide_true,cond_true,in_cast hi,in_cast hi2,if_true,Int.toNat_natCast,and_self,Prod.eta,p185 hs k1,Option.bind_some]
  rw [wrap_sm (by omega) (by omega)]
  cases condOK c q.1 (q.2.1.getD i (0,0)) (q.2.2.1.getD i (0,0)) <;> rfl
 unfold qOK
 cases ha : cAll c q with
 | false=>rw [Bool.and_false]; rfl
 | true=>
  show (if 0 = 0 then _ else none) = _
  rw [if_pos rfl,Bool.and_true]
  by_cases b5 : (q.2.2.2.length : Int)≤4
  ·simp only [b5,decide_true,cond_true,Option.bind_some]
   congr 1
   rw [Bool.eq_iff_iff,decide_eq_true_eq]
   exact ⟨fun h=>⟨by omega,b2,by omega,by omega,by omega,h⟩,fun h=>h.2.2.2.2.2⟩
  ·simp only [b5,decide_false,cond_false,Option.bind_some]
   rw [decide_eq_false (fun h=>b5 (by have:=h.2.2.2.2.1; omega))]
theorem p106 {c : Cat} {q : Qry} (hc : okC c) (hq : okQ q) : G106 (c,q) = some (isCat c && qOK c q):=by
 obtain ⟨k1,k2,k3,k4⟩:=hq
 unfold G106
 simp only [Prod.eta,p82 hc,p120 k1,p120 k4,Option.bind_some]
 cases hi : isCat c with
 | false=>rfl
 | true=>
 have hs0 : shape c = true:=by unfold isCat at hi; rw [Bool.and_eq_true] at hi; exact hi.1
 have hs:=sh_of hs0
 simp only [Bool.not_true,cond_false,Bool.true_and,Option.bind_some]
 by_cases b1 : (4 : Int) < (q.1.length : Int)
 case pos=>simp only [b1,decide_true,cond_true,Option.bind_some,q_f (c:=c) (q:=q) fun h=>absurd h.1 (by omega)]
 simp only [b1,decide_false,cond_false,Option.bind_some]
 cases b2 : wi c.1 q.1 with
 | false=>simp only [Bool.not_false,cond_true,Option.bind_some,q_f (c:=c) (q:=q) fun h=>by have:=h.2.1; rw [b2] at this; cases this]
 | true=>
 simp only [Bool.not_true,cond_false,Option.bind_some]
 by_cases b3 : (6 : Int) < (q.2.1.length : Int)
 case pos=>simp only [b3,decide_true,cond_true,Option.bind_some,q_f (c:=c) (q:=q) fun h=>absurd h.2.2.1 (by omega)]
 simp only [b3,decide_false,cond_false,Option.bind_some]
 by_cases b4 : (q.2.2.1.length : Int) = (q.2.1.length : Int)
 case neg=>simp only [b4,decide_false,Bool.not_false,cond_true,Option.bind_some,q_f (c:=c) (q:=q) fun h=>b4 (by rw [h.2.2.2.1])]
 simp only [decide_eq_true b4,Bool.not_true,cond_false,Option.bind_some]
 by_cases b5 : (4 : Int) < (q.2.2.2.length : Int)
 case pos=>simp only [b5,decide_true,cond_true,Option.bind_some,q_f (c:=c) (q:=q) fun h=>absurd h.2.2.2.2.1 (by omega)]
 simp only [b5,decide_false,cond_false,Option.bind_some]
 cases b6 : wi q.1.length q.2.2.2 with
 | false=>simp only [Bool.not_false,cond_true,Option.bind_some,q_f (c:=c) (q:=q) fun h=>by have:=h.2.2.2.2.2; rw [b6] at this; cases this]
 | true=>
 simp only [Bool.not_true,cond_false,Option.bind_some]
 have hh : qHead c q:=⟨by omega,b2,by omega,by omega,by omega,b6⟩
 have e : qOK c q = cAll c q:=by simp [qOK,hh]
 rw [e]
 refine bind_of (v:=bif cAll c q then .brk 0 (q.2.1.length : Int) else .ret false) (tloop_all (st:=fun i=>(i : Int)) (fun i hi=>?_) (by simp) (fun y=>by simp)) (by cases cAll c q <;> rfl)
 have hi2 : i < q.2.2.1.length:=by omega
 have h3 : c.2.2.1.length = c.2.1.length:=hs.hd.2.2.1
 simp only [lt_cast,hi,hi2,decide_true,cond_true,in_cast hi,in_cast hi2,if_true,Int.toNat_natCast,and_self,Prod.eta,p183 k1,Option.bind_some]
 rw [wrap_sm (by omega) (by omega)]
 unfold condOK
 cases e1 : termOK c q.1 (q.2.1.getD i (0,0)) with
 | false=>rfl
 | true=>
  cases e2 : termOK c q.1 (q.2.2.1.getD i (0,0)) with
  | false=>rfl
  | true=>
   have h1:=term_in e1
   have h2:=term_in e2
   rw [← h3] at h1 h2
   simp only [Bool.not_true,cond_false,Option.bind_some,h1,h2,and_self,if_true,Bool.true_and]
   cases decide (c.2.2.1.getD (q.2.1.getD i (0,0)).2.toNat 0 = c.2.2.1.getD (q.2.2.1.getD i (0,0)).2.toNat 0) <;> rfl
theorem qk_of {f : SF} {q : Qry} (hf : FS f) (h : qOK (shS f) q = true) : QK f q:=by
 unfold qOK at h
 rw [Bool.and_eq_true,decide_eq_true_eq] at h
 obtain ⟨⟨h1,h2,h3,h4,h5,h6⟩,hc⟩:=h
 refine ⟨hf,h2,h1,h3,h4,fun i hi=>?_⟩
 have:=List.all_eq_true.1 hc i (List.mem_range.2 hi)
 unfold condOK at this
 rw [Bool.and_eq_true,Bool.and_eq_true] at this
 exact ⟨this.1,this.2.1⟩
end
end Go.Ve.D


namespace Go.Ve.D
open Go Go.Ve
noncomputable section

def qrB (f : SF) (q : Qry) : Bool:=isSF f && qOK (shS f) q
def qrC (f : SF) (q : Qry) : Int:=bif !qrB f q then 1 else bif decide (4096 < Go.Ve.D.prd (szQ f q)) then 3 else 0
def qrR (f : SF) (q : Qry) : List (List Int) × Int:=(bif decide (qrC f q = 0) then solL f q (Go.Ve.D.prd (szQ f q)) else [],qrC f q)
theorem isSF_cat {f : SF} (h : isSF f = true) : isCat (shS f) = true:=by
 unfold isSF shapeS headS at h
 simp only [Bool.and_eq_true] at h
 exact h.1.1.1
theorem p106S {f : SF} {q : Qry} (hf : okS f) (hq : okQ q) : G106 ((f.1,(f.2.1,(f.2.2.1,(f.2.2.2.1,f.2.2.2.2.1)))),q) = some (isCat (shS f) && qOK (shS f) q):=p106 (c:=shS f) hf.1 hq
theorem p112S {f : SF} {q : Qry} (hf : Sh (shS f)) (hq : okQ q) : G112 ((f.1,(f.2.1,(f.2.2.1,(f.2.2.2.1,f.2.2.2.2.1)))),q) = some (qOK (shS f) q):=p112 (c:=shS f) hf hq
theorem p58 {f : SF} {q : Qry} (hf : okS f) (hq : okQ q) : G58 (f,q) = some (qrC f q):=by
 unfold G58 qrC qrB
 simp only [Prod.eta,p99 hf,p106S hf hq,Option.bind_some]
 cases h1 : isSF f with
 | false=>rfl
 | true=>
 rw [isSF_cat h1]
 cases h2 : qOK (shS f) q with
 | false=>rfl
 | true=>
  simp only [Bool.not_true,cond_false,Bool.and_self,Option.bind_some,p107 (qk_of (isSF_fs h1) h2),Bool.not_not]
  cases decide (4096 < Go.Ve.D.prd (szQ f q)) <;> rfl
theorem p62 {f : SF} {q : Qry} (hf : okS f) (hq : okQ q) : G62 (f,q) = some (qrR f q):=by
 unfold G62 qrR qrC qrB
 simp only [Prod.eta,p103 hf,Option.bind_some]
 cases h1 : isSF f with
 | false=>rfl
 | true=>
 simp only [Bool.not_true,cond_false,p112S (isCat_sh (isSF_cat h1)) hq,Option.bind_some,Bool.true_and]
 cases h2 : qOK (shS f) q with
 | false=>rfl
 | true=>
  simp only [Bool.not_true,cond_false,Option.bind_some,p113 (qk_of (isSF_fs h1) h2)]
  cases decide (4096 < Go.Ve.D.prd (szQ f q)) <;> rfl
def fitI (f : SF) (q : Qry) (k i : Nat) : Bool:=(List.range i).all fun i=>cndB (tupL (szQ f q) k) ((cnds f q).getD i c0)
theorem cnds_get {f : SF} {q : Qry} {i : Nat} (hi : i < q.2.1.length) : (cnds f q).getD i c0 = (f,(q.2.1.getD i (0,0),q.2.2.1.getD i (0,0))):=by
 unfold cnds
 rw [List.getD_eq_getElem?_getD,List.getElem?_map,List.getElem?_range hi]; rfl
theorem fitI_succ {f : SF} {q : Qry} {k i : Nat} : fitI f q k (i + 1) = (fitI f q k i && cndB (tupL (szQ f q) k) ((cnds f q).getD i c0)):=by
 unfold fitI
 rw [List.range_succ,List.all_append]
 simp
theorem fitI_mono {f : SF} {q : Qry} {k : Nat} {i j : Nat} (h : i≤j) (hf : fitI f q k i = false) : fitI f q k j = false:=by
 unfold fitI at hf ⊢
 rw [List.all_eq_false] at hf ⊢
 obtain ⟨x,hx,h2⟩:=hf
 exact ⟨x,List.mem_range.2 (by have:=List.mem_range.1 hx; omega),h2⟩
theorem least {P : Nat→Bool} : ∀ N,∃ n,n≤N∧(∀ i,i < n→P i = true)∧(P n = false∨n = N)
 | 0=>⟨0,Nat.le_refl _,fun i hi=>absurd hi (Nat.not_lt_zero _),.inr rfl⟩
 | N + 1=>by
  obtain ⟨n,h1,h2,h3⟩:=least (P:=P) N
  rcases h3 with e | e
  ·exact ⟨n,by omega,h2,.inl e⟩
  ·subst e
   cases hp : P n with
   | false=>exact ⟨n,by omega,h2,.inl hp⟩
   | true=>exact ⟨n + 1,Nat.le_refl _,fun i hi=>(by
     rcases Nat.lt_or_ge i n with h | h
     ·exact h2 i h
     ·have : i = n:=by omega
      rw [this]; exact hp),.inr rfl⟩
theorem bind_ex {X S : Type} {a : Option X} {k : X→Option S} {r : Option S} (v : Nat→X) (h : ∃ m,a = some (v m)) (h2 : ∀ m,k (v m) = r) : Option.bind a k = r:=by
 obtain ⟨m,rfl⟩:=h
 exact h2 m
theorem fit_loop {f : SF} {q : Qry} {k : Nat} (hl6 : q.2.1.length≤6) (hlr : q.2.2.1.length = q.2.1.length) (hT : ∀ i,i < q.2.1.length→TK f (tupL (szQ f q) k) (q.2.1.getD i (0,0))∧TK f (tupL (szQ f q) k) (q.2.2.1.getD i (0,0))) {R : Type} {F : Bool × Int→Option (LO (Bool × Int) R)}
  (hF : F = (fun (v4 : (Bool × Int))=>(Option.bind (bif v4.1 then (some (decide (v4.2 < ((q.2.1.length : Nat) : Int)))) else (some false)) (fun (v5 : Bool)=>(bif v5 then (if (((0 : Int)≤v4.2)∧(v4.2 < ((q.2.1.length : Nat) : Int))) then (if (((0 : Int)≤(q.2.1.getD (v4.2).toNat ((0 : Int),(0 : Int))).2)∧((q.2.1.getD (v4.2).toNat ((0 : Int),(0 : Int))).2 < ((f.2.2.2.2.2.2.length : Nat) : Int))) then (if (((0 : Int)≤v4.2)∧(v4.2 < ((q.2.1.length : Nat) : Int))) then (if (((0 : Int)≤(q.2.1.getD (v4.2).toNat ((0 : Int),(0 : Int))).1)∧((q.2.1.getD (v4.2).toNat ((0 : Int),(0 : Int))).1 < (((tupL (szQ f q) k).length : Nat) : Int))) then (if (((0 : Int)≤((tupL (szQ f q) k).getD ((q.2.1.getD (v4.2).toNat ((0 : Int),(0 : Int))).1).toNat (0 : Int)))∧(((tupL (szQ f q) k).getD ((q.2.1.getD (v4.2).toNat ((0 : Int),(0 : Int))).1).toNat (0 : Int)) < (((f.2.2.2.2.2.2.getD ((q.2.1.getD (v4.2).toNat ((0 : Int),(0 : Int))).2).toNat ([] : (List Int))).length : Nat) : Int))) then (if (((0 : Int)≤v4.2)∧(v4.2 < ((q.2.2.1.length : Nat) : Int))) then (if (((0 : Int)≤(q.2.2.1.getD (v4.2).toNat ((0 : Int),(0 : Int))).2)∧((q.2.2.1.getD (v4.2).toNat ((0 : Int),(0 : Int))).2 < ((f.2.2.2.2.2.2.length : Nat) : Int))) then (if (((0 : Int)≤v4.2)∧(v4.2 < ((q.2.2.1.length : Nat) : Int))) then (if (((0 : Int)≤(q.2.2.1.getD (v4.2).toNat ((0 : Int),(0 : Int))).1)∧((q.2.2.1.getD (v4.2).toNat ((0 : Int),(0 : Int))).1 < (((tupL (szQ f q) k).length : Nat) : Int))) then (if (((0 : Int)≤((tupL (szQ f q) k).getD ((q.2.2.1.getD (v4.2).toNat ((0 : Int),(0 : Int))).1).toNat (0 : Int)))∧(((tupL (szQ f q) k).getD ((q.2.2.1.getD (v4.2).toNat ((0 : Int),(0 : Int))).1).toNat (0 : Int)) < (((f.2.2.2.2.2.2.getD ((q.2.2.1.getD (v4.2).toNat ((0 : Int),(0 : Int))).2).toNat ([] : (List Int))).length : Nat) : Int))) then (some (LO.next ((decide (((f.2.2.2.2.2.2.getD ((q.2.1.getD (v4.2).toNat ((0 : Int),(0 : Int))).2).toNat ([] : (List Int))).getD ((tupL (szQ f q) k).getD ((q.2.1.getD (v4.2).toNat ((0 : Int),(0 : Int))).1).toNat (0 : Int)).toNat (0 : Int)) = ((f.2.2.2.2.2.2.getD ((q.2.2.1.getD (v4.2).toNat ((0 : Int),(0 : Int))).2).toNat ([] : (List Int))).getD ((tupL (szQ f q) k).getD ((q.2.2.1.getD (v4.2).toNat ((0 : Int),(0 : Int))).1).toNat (0 : Int)).toNat (0 : Int)))),(IntKind.wrap .i64 (v4.2 + (1 : Int)))))) else none) else none) else none) else none) else none) else none) else none) else none) else none) else none) else (some (LO.brk 2 (v4.1,v4.2)))))))) : ∃ m : Nat,tloop F (true,(0 : Int)) = some (.brk 2 (fitB f q k,(m : Int))):=by
 subst hF
 have hcl : (cnds f q).length = q.2.1.length:=by simp [cnds]
 obtain ⟨n,hn,hbef,hend⟩:=least (P:=fitI f q k) q.2.1.length
 have hfb : fitB f q k = fitI f q k n:=by
  unfold fitB
  rw [hcl]
  show fitI f q k q.2.1.length = _
  rcases hend with e | e
  ·rw [e]; exact fitI_mono hn e
  ·rw [e]
 refine ⟨n,?_⟩
 rw [hfb]
 refine tloop_iter (st:=fun i : Nat=>(fitI f q k i,(i : Int))) (n:=n) (fun i hi=>?_) ?_ (fun y=>by simp)
 ·have hi1 : i < q.2.1.length:=by omega
  have hi2 : i < q.2.2.1.length:=by omega
  obtain ⟨hl,hr⟩:=hT i hi1
  simp only [hbef i hi,lt_cast,hi1,hi2,decide_true,cond_true,in_cast hi1,in_cast hi2,and_self,if_true,Int.toNat_natCast,Option.bind_some]
  rw [if_pos hl.a,if_pos hl.v,if_pos hl.e,if_pos hr.a,if_pos hr.v,if_pos hr.e,wrap_sm (by omega) (by omega),fitI_succ,hbef i hi,Bool.true_and,cnds_get hi1]
  rfl
 ·rcases hend with e | e
  ·simp only [e,cond_false,Option.bind_some]
  ·subst e
   simp only [lt_cast,Nat.lt_irrefl,decide_false]
   cases fitI f q k q.2.1.length <;> rfl
theorem p59 {f : SF} {q : Qry} (h : QK f q) (hp : Go.Ve.D.prd (szQ f q)≤4096) : G59 (f,q) = some (solL f q (Go.Ve.D.prd (szQ f q))):=by
 have hfew:=h.few
 have hl6:=h.l6
 have hlr:=h.lr
 refine bind_of (a:=G108 (f,q)) (p108 h) ?_
 refine bind_of (a:=G109 (szQ f q)) (p109 hfew) ?_
 refine bind_of (v:=.brk 0 (((Go.Ve.D.prd (szQ f q) : Nat) : Int),solL f q (Go.Ve.D.prd (szQ f q)))) (tloop_iter (st:=fun k : Nat=>((k : Int),solL f q k)) (n:=Go.Ve.D.prd (szQ f q)) (fun k hk=>?_) ?_ (fun y=>by simp)) rfl
 ·have hs:=solL_len (f:=f) (q:=q) (n:=k)
  simp only [lt_cast,hk,decide_true,cond_true]
  refine bind_of (p110 hfew (few_nz hk) (by omega)) ?_
  have hT : ∀ i,i < q.2.1.length→TK f (tupL (szQ f q) k) (q.2.1.getD i (0,0))∧TK f (tupL (szQ f q) k) (q.2.2.1.getD i (0,0)):=fun i hi=>⟨tk_of h.hf h.v hfew hk (h.c i hi).1,tk_of h.hf h.v hfew hk (h.c i hi).2⟩
  refine bind_ex (fun m=>.brk 2 (fitB f q k,(m : Int))) (fit_loop hl6 hlr hT rfl) fun m=>?_
  show (if 2 = 2 then _ else none) = _
  rw [if_pos rfl,wrap_sm (by omega) (by omega),if_pos trivial,if_pos (show (solL f q k).length + [tupL (szQ f q) k].length≤5864062014805 by show _ + 1≤_; omega),solL_succ]
  cases fitB f q k <;> rfl
 ·simp only [lt_cast,Nat.lt_irrefl,decide_false,cond_false]
end
end Go.Ve.D


namespace Go.Ve.D
open Go Go.Ve
noncomputable section

theorem p22 {x : List (List Int)} {k : Int} (h0 : 0≤k) (h1 : k≤1125899906842624) (h : x.length≤1048576) (hx : ∀ y ∈ x,y.length≤1048576) : G22 (mks x k,k) = some (k + (tot x x.length : Int)):=by
 unfold G22
 have hst : ((k,(0 : Int)) : Int × Int) = (fun i : Nat=>(k + (tot x i : Int),(i : Int))) 0:=by simp [tot]
 simp only [hst]
 refine bind_of (v:=.brk 0 (k + (tot x x.length : Int),(x.length : Int))) (tloop_iter (st:=fun i : Nat=>(k + (tot x i : Int),(i : Int))) (n:=x.length) (fun i hi=>?_) ?_ (fun y=>by simp)) rfl
 ·have ht:=tot_le hx i (Nat.le_of_lt hi)
  have hr:=hx _ (getD_mem' [] hi)
  have m : ¬ (k + (tot x i : Int) + ((x.getD i []).length : Int) < 0):=by omega
  simp only [mks_len,lt_cast,hi,decide_true,cond_true,in_cast hi,if_true,Int.toNat_natCast,and_self,mks_get hi,p65 (x:=x.getD i []) (k:=k + (tot x i : Int)) (by omega) (by omega) hr,Option.bind_some,m,decide_false,cond_false]
  rw [wrap_sm (by omega) (by omega),tot_succ hi]
  simp only [Int.natCast_add,Int.add_assoc]
  rfl
 ·simp only [mks_len,lt_cast,Nat.lt_irrefl,decide_false,cond_false]
theorem p39g {c} {b : Int} (hb : 0≤b∧b≤1048576) (h1 : c.2.1.length≤maxLen) (h2 : c.2.2.1.length≤maxLen) (h3 : c.2.2.2.1.length≤maxLen) (h4 : c.2.2.2.2.length≤maxLen) (h5 : ∀ y ∈ c.2.2.2.2,y.length≤maxLen) :
  ∃ r,G39 (c,b) = some r∧(r < 0∨(0≤r∧r≤b∧okC c)):=by
 unfold G39
 obtain ⟨r1,e1,f1⟩:=p55 (b:=b) hb h1
 simp only [e1,Option.bind_some]
 by_cases n1 : r1 < 0
 ·exact ⟨-1,by simp only [n1,decide_true,cond_true],.inl (by decide)⟩
 simp only [n1,decide_false,cond_false]
 obtain ⟨r2,e2,f2⟩:=p55 (b:=r1) (by omega) h2
 simp only [e2,Option.bind_some]
 by_cases n2 : r2 < 0
 ·exact ⟨-1,by simp only [n2,decide_true,cond_true],.inl (by decide)⟩
 simp only [n2,decide_false,cond_false]
 obtain ⟨r3,e3,f3⟩:=p55 (b:=r2) (by omega) h3
 simp only [e3,Option.bind_some]
 by_cases n3 : r3 < 0
 ·exact ⟨-1,by simp only [n3,decide_true,cond_true],.inl (by decide)⟩
 simp only [n3,decide_false,cond_false]
 obtain ⟨r4,e4,f4⟩:=p56 (b:=r3) (by omega) h4 h5
 simp only [e4,Option.bind_some]
 by_cases n4 : r4 < 0
 ·exact ⟨-1,by simp only [n4,decide_true,cond_true],.inl (by decide)⟩
 simp only [n4,decide_false,cond_false]
 refine ⟨r4,rfl,.inr ?_⟩
 have f4:=f4.resolve_left n4
 exact ⟨f4.1,by omega,by omega,by omega,by omega,f4.2.2.1,f4.2.2.2⟩
theorem p10g {f : SF} {b : Int} (hb : 0≤b∧b≤1048576) (h1 : f.2.1.length≤maxLen) (h2 : f.2.2.1.length≤maxLen) (h3 : f.2.2.2.1.length≤maxLen) (h4 : f.2.2.2.2.1.length≤maxLen) (h5 : ∀ y ∈ f.2.2.2.2.1,y.length≤maxLen) (h6 : f.2.2.2.2.2.1.length≤maxLen) (h7 : f.2.2.2.2.2.2.length≤maxLen) (h8 : ∀ y ∈ f.2.2.2.2.2.2,y.length≤maxLen) :
  ∃ r,G10 (f,b) = some r∧(r < 0∨(0≤r∧r≤b∧okS f)):=by
 unfold G10
 obtain ⟨r1,e1,f1⟩:=p39g (c:=shS f) hb h1 h2 h3 h4 h5
 unfold shS at e1
 simp only [e1,Option.bind_some]
 by_cases n1 : r1 < 0
 ·exact ⟨-1,by simp only [n1,decide_true,cond_true],.inl (by decide)⟩
 have f1:=f1.resolve_left n1
 obtain ⟨r2,e2,f2⟩:=p55 (b:=r1) ⟨f1.1,by omega⟩ h6
 simp only [n1,decide_false,cond_false,e2,Option.bind_some]
 by_cases n2 : r2 < 0
 ·exact ⟨-1,by simp only [n2,decide_true,cond_true],.inl (by decide)⟩
 have f2:=f2.resolve_left n2
 obtain ⟨r3,e3,f3⟩:=p56 (b:=r2) ⟨f2.2,by omega⟩ h7 h8
 simp only [n2,decide_false,cond_false,e3,Option.bind_some]
 by_cases n3 : r3 < 0
 ·exact ⟨-1,by simp only [n3,decide_true,cond_true],.inl (by decide)⟩
 have f3:=f3.resolve_left n3
 refine ⟨r3,by simp only [n3,decide_false,cond_false],.inr ⟨f3.1,by omega,f1.2.2,?_,f3.2.2.1,f3.2.2.2⟩⟩
 have : f.2.2.2.2.2.1.length≤1048576:=by omega
 exact this
theorem p13 {f : SF} (h : okS f) : G13 f = some f:=by
 unfold G13
 have e1 : G41 (f.1,(f.2.1,(f.2.2.1,(f.2.2.2.1,f.2.2.2.2.1)))) = some (shS f):=p41 h.1
 have e2 : G24 f.2.2.2.2.2.1 = some f.2.2.2.2.2.1:=p24 h.2.1
 have e3 : G60 f.2.2.2.2.2.2 = some f.2.2.2.2.2.2:=p60 h.2.2.1 h.2.2.2
 simp only [e1,e2,e3,Option.bind_some]
 rfl
theorem p17 {f : SF} (h : okS f) : G17 (f,f) = some true:=by
 unfold G17
 have e1 : G43 ((f.1,(f.2.1,(f.2.2.1,(f.2.2.2.1,f.2.2.2.2.1)))),(f.1,(f.2.1,(f.2.2.1,(f.2.2.2.1,f.2.2.2.2.1))))) = some true:=p43 h.1
 have e2 : G26 (f.2.2.2.2.2.1,f.2.2.2.2.2.1) = some true:=p26 h.2.1
 have e3 : G16 (f.2.2.2.2.2.2,f.2.2.2.2.2.2) = some true:=p16 h.2.2.1 h.2.2.2
 simp only [e1,e2,e3,Option.bind_some,Bool.not_true,cond_false]
theorem mk21 {x : List (List Int)} {k : Int} (h0 : 0≤k) (h1 : k≤1125899906842624) (h : x.length≤1048576) (hx : ∀ y ∈ x,y.length≤1048576) : ∃ k' y,G21 (x,k) = some (k',y)∧0≤k'∧k'≤k + 1099511627776:=by
 have ht:=tot_le hx x.length (Nat.le_refl _)
 exact ⟨_,_,p21 h0 h1 h hx,by omega,by omega⟩
theorem mk44 {c : Cat} {k : Int} (h0 : 0≤k) (h1 : k≤562949953421312) (h : okC c) : ∃ k' y,G44 (c,k) = some (k',y)∧0≤k'∧k'≤k + 8796093022208:=by
 obtain ⟨g1,g2,g3,g4,g5⟩:=h
 obtain ⟨k1,y1,a1,b1,c1,d1⟩:=mh27 h0 (by omega) g1
 obtain ⟨k2,y2,a2,b2,c2,d2⟩:=mh27 b1 (by omega) g2
 obtain ⟨k3,y3,a3,b3,c3,d3⟩:=mh27 b2 (by omega) g3
 obtain ⟨k4,y4,a4,b4,c4⟩:=mk21 b3 (by omega) g4 g5
 refine ⟨k4,(y1,(y2,(y3,y4))),?_,b4,by omega⟩
 unfold G44
 simp only [a1,a2,a3,a4,Option.bind_some]
theorem mk19 {f : SF} {k : Int} (h0 : 0≤k) (h1 : k≤281474976710656) (h : okS f) : ∃ k' y,G19 (f,k) = some (k',y)∧0≤k'∧k'≤k + 35184372088832:=by
 obtain ⟨g1,g2,g3,g4⟩:=h
 obtain ⟨k1,y1,a1,b1,c1⟩:=mk44 h0 (by omega) g1
 obtain ⟨k2,y2,a2,b2,c2,_⟩:=mh27 b1 (by omega) g2
 obtain ⟨k3,y3,a3,b3,c3⟩:=mk21 b2 (by omega) g3 g4
 unfold shS at a1
 unfold szF at a2
 unfold acF at a3
 refine ⟨k3,(y1.1,(y1.2.1,(y1.2.2.1,(y1.2.2.2,(y2,y3))))),?_,b3,by omega⟩
 unfold G19
 simp only [a1,a2,a3,Option.bind_some]
theorem p57 {x : List (Int × Int)} {b : Int} (hb : 0≤b∧b≤1048576) (hx : x.length≤maxLen) : ∃ r,G57 (x,b) = some r∧(r < 0∨(r = b - x.length∧0≤r)):=by
 unfold G57
 have hm : maxLen = 9223372036854775807:=by decide
 rw [hm] at hx
 have e : IntKind.wrap .i64 (b - (x.length : Int)) = b - x.length:=wrap_id (by omega) (by omega)
 simp only [e]
 by_cases h : b - (x.length : Int) < 0
 ·exact ⟨-1,by simp only [h,decide_true,cond_true],.inl (by decide)⟩
 ·exact ⟨_,by simp only [h,decide_false,cond_false],.inr ⟨rfl,by omega⟩⟩
theorem p11 {q : Qry} {b : Int} (hb : 0≤b∧b≤1048576) (h1 : q.1.length≤maxLen) (h2 : q.2.1.length≤maxLen) (h3 : q.2.2.1.length≤maxLen) (h4 : q.2.2.2.length≤maxLen) :
  ∃ r,G11 (q,b) = some r∧(r < 0∨(0≤r∧okQ q)):=by
 unfold G11
 obtain ⟨r1,e1,f1⟩:=p55 (b:=b) (by omega) h1
 simp only [e1,Option.bind_some]
 by_cases n1 : r1 < 0
 ·exact ⟨-1,by simp only [n1,decide_true,cond_true],.inl (by decide)⟩
 simp only [n1,decide_false,cond_false]
 obtain ⟨r2,e2,f2⟩:=p57 (b:=r1) (by omega) h2
 simp only [e2,Option.bind_some]
 by_cases n2 : r2 < 0
 ·exact ⟨-1,by simp only [n2,decide_true,cond_true],.inl (by decide)⟩
 simp only [n2,decide_false,cond_false]
 obtain ⟨r3,e3,f3⟩:=p57 (b:=r2) (by omega) h3
 simp only [e3,Option.bind_some]
 by_cases n3 : r3 < 0
 ·exact ⟨-1,by simp only [n3,decide_true,cond_true],.inl (by decide)⟩
 simp only [n3,decide_false,cond_false]
 obtain ⟨r4,e4,f4⟩:=p55 (b:=r3) (by omega) h4
 simp only [e4,Option.bind_some]
 by_cases n4 : r4 < 0
 ·exact ⟨-1,by simp only [n4,decide_true,cond_true],.inl (by decide)⟩
 simp only [n4,decide_false,cond_false]
 refine ⟨r4,rfl,.inr ⟨by omega,by omega,by omega,by omega,by omega⟩⟩
theorem p111 (x : Int × Int) : G111 x = some x:=rfl
theorem p61 {x : List (Int × Int)} (h : x.length≤1048576) : G61 x = some x:=by
 unfold G61
 rw [if_pos (by omega)]
 refine bind_of (v:=.brk 0 ((x.length : Int),x)) (tloop_iter (st:=fun i=>((i : Int),x.take i ++ (List.replicate x.length ((0 : Int),(0 : Int))).drop i)) (n:=x.length) (fun i hi=>?_) (by simp) (fun y=>by simp)) rfl
 have e : (x.take i ++ (List.replicate x.length ((0 : Int),(0 : Int))).drop i).length = x.length:=by simp; omega
 simp only [lt_cast,hi,decide_true,cond_true,in_cast hi,if_true,e,Int.toNat_natCast,and_self,p111,Option.bind_some]
 have e2 : ∀ (l : List (Int × Int)) (a b : Int × Int),i < l.length→((l.set i (a.1,b.2)).getD i ((0 : Int),(0 : Int))).1 = a.1:=fun l a b hl=>by simp [hl]
 have e3 : ∀ (l : List (Int × Int)) (a b : Int × Int),(l.set i a).set i b = l.set i b:=fun l a b=>by simp
 rw [e2 _ _ _ (by rw [e]; exact hi),e3,Prod.eta,take_set ((0 : Int),(0 : Int)) (by simp) hi,wrap_sm (by omega) (by omega)]
 rfl
theorem p14 {q : Qry} (h : okQ q) : G14 q = some q:=by
 obtain ⟨h1,h2,h3,h4⟩:=h
 unfold G14
 simp only [p24 h1,p61 h2,p61 h3,p24 h4,Option.bind_some]
theorem p114 (x : Int × Int) : G114 (x,x) = some true:=by
 unfold G114
 simp
theorem p63 {x : List (Int × Int)} (h : x.length≤1048576) : G63 (x,x) = some true:=by
 unfold G63
 simp only [decide_true,Bool.not_true,cond_false]
 refine bind_of (v:=.brk 0 (x.length : Int)) (tloop_iter (st:=fun i=>(i : Int)) (n:=x.length) (fun i hi=>?_) (by simp) (fun y=>by simp)) rfl
 simp only [lt_cast,hi,decide_true,cond_true,in_cast hi,if_true,Int.toNat_natCast,and_self,Bool.not_true,cond_false,p114,Option.bind_some]
 rw [wrap_sm (by omega) (by omega)]
 rfl
theorem p18 {q : Qry} (h : okQ q) : G18 (q,q) = some true:=by
 obtain ⟨h1,h2,h3,h4⟩:=h
 unfold G18
 simp only [p26 h1,p63 h2,p63 h3,p26 h4,Option.bind_some,decide_true,Bool.not_true,cond_false]
def mkT (x : List (Int × Int)) (k : Int) : List (Int × Int):=(List.range x.length).map fun (i : Nat)=>(k + 2 * (i : Int),k + 2 * (i : Int) + 1)
theorem mkT_len {x : List (Int × Int)} {k : Int} : (mkT x k).length = x.length:=by simp [mkT]
theorem mkT_get {x : List (Int × Int)} {k : Int} {i : Nat} (hi : i < x.length) : (mkT x k).getD i (0,0) = (k + 2 * (i : Int),k + 2 * (i : Int) + 1):=by simp [mkT,hi]
theorem set_getD {x : List (Int × Int)} {i : Nat} {v : Int × Int} (hi : i < x.length) : (x.set i v).getD i (0,0) = v:=by simp [hi]
theorem p64 {x : List (Int × Int)} {k : Int} (h0 : 0≤k) (h1 : k≤1125899906842624) (h : x.length≤1048576) : G64 (x,k) = some (k + 2 * (x.length : Int),mkT x k):=by
 unfold G64
 refine bind_of (v:=.brk 0 (k + 2 * (x.length : Int),((x.length : Int),mkT x k))) ?_ (by show (if 0 = 0 then _ else none) = _; rw [if_pos rfl])
 have key:=tloop_iter (X:=Int × Int × List (Int × Int)) (R:=Int × List (Int × Int)) (st:=fun i : Nat=>(k + 2 * (i : Int),((i : Int),(mkT x k).take i ++ x.drop i))) (n:=x.length) (o:=.brk 0 (k + 2 * (x.length : Int),((x.length : Int),mkT x k)))
  (f:=(fun (v0 : (Int × (Int × (List (Int × Int)))))=>(bif (decide (v0.2.1 < ((v0.2.2.length : Nat) : Int))) then (if (((0 : Int)≤v0.2.1)∧(v0.2.1 < ((v0.2.2.length : Nat) : Int))) then (if (((0 : Int)≤v0.2.1)∧(v0.2.1 < (((v0.2.2.set (v0.2.1).toNat (v0.1,(v0.2.2.getD (v0.2.1).toNat ((0 : Int),(0 : Int))).2)).length : Nat) : Int))) then (some (LO.next ((IntKind.wrap .i64 ((IntKind.wrap .i64 (v0.1 + (1 : Int))) + (1 : Int))),((IntKind.wrap .i64 (v0.2.1 + (1 : Int))),((v0.2.2.set (v0.2.1).toNat (v0.1,(v0.2.2.getD (v0.2.1).toNat ((0 : Int),(0 : Int))).2)).set (v0.2.1).toNat (((v0.2.2.set (v0.2.1).toNat (v0.1,(v0.2.2.getD (v0.2.1).toNat ((0 : Int),(0 : Int))).2)).getD (v0.2.1).toNat ((0 : Int),(0 : Int))).1,(IntKind.wrap .i64 (v0.1 + (1 : Int))))))))) else none) else none) else (some (LO.brk 0 (v0.1,(v0.2.1,v0.2.2)))))))
  (fun i hi=>?_) ?_ (fun y=>by simp)
 ·simpa using key
 ·have e1 : ((mkT x k).take i ++ x.drop i).length = x.length:=by simp [mkT_len]; omega
  simp only [List.length_set,e1,lt_cast,hi,decide_true,cond_true,in_cast hi,and_self,if_true,Int.toNat_natCast]
  rw [set_getD (by rw [e1]; exact hi),List.set_set,wrap_sm (n:=k + 2 * (i : Int) + 1) (by omega) (by omega),wrap_sm (n:=k + 2 * (i : Int) + 1 + 1) (by omega) (by omega),wrap_sm (n:=(i : Int) + 1) (by omega) (by omega)]
  have f1 : (k + 2 * (i : Int),k + 2 * (i : Int) + 1) = (mkT x k).getD i (0,0):=(mkT_get hi).symm
  simp only [f1]
  rw [take_set (0,0) mkT_len.symm (by rw [mkT_len]; exact hi)]
  have f2 : k + 2 * (i : Int) + 1 + 1 = k + 2 * ((i + 1 : Nat) : Int):=by omega
  rw [f2]
  rfl
 ·have e1 : (mkT x k).take x.length = mkT x k:=by rw [← mkT_len (x:=x) (k:=k)]; exact List.take_length
  simp only [e1,List.drop_length,List.append_nil,mkT_len,lt_cast,Nat.lt_irrefl,decide_false,cond_false]
theorem mk64 {x : List (Int × Int)} {k : Int} (h0 : 0≤k) (h1 : k≤1125899906842624) (h : x.length≤1048576) : ∃ k' y,G64 (x,k) = some (k',y)∧0≤k'∧k'≤k + 2199023255552:=
 ⟨_,_,p64 h0 h1 h,by omega,by omega⟩
theorem mk20 {q : Qry} {k : Int} (h0 : 0≤k) (h1 : k≤562949953421312) (h : okQ q) : ∃ r,G20 (q,k) = some r∧0≤r.1∧r.1≤k + 8796093022208:=by
 obtain ⟨g1,g2,g3,g4⟩:=h
 obtain ⟨k1,y1,a1,b1,c1,_⟩:=mh27 h0 (by omega) g1
 obtain ⟨k2,y2,a2,b2,c2⟩:=mk64 b1 (by omega) g2
 obtain ⟨k3,y3,a3,b3,c3⟩:=mk64 b2 (by omega) g3
 obtain ⟨k4,y4,a4,b4,c4,_⟩:=mh27 b3 (by omega) g4
 refine ⟨(k4,(y1,(y2,(y3,y4)))),?_,b4,by show k4≤_; omega⟩
 unfold G20
 simp only [a1,a2,a3,a4,Option.bind_some]
def okL (p : List (List Int)) : Prop:=p.length≤1048576∧∀ y ∈ p,y.length≤1048576
theorem mh21 {p : List (List Int)} (hp : okL p) : ∃ k y,G21 (p,1) = some (k,y)∧0≤k∧G22 (y,1) = some k:=by
 have ht:=tot_le hp.2 p.length (Nat.le_refl _)
 exact ⟨1 + (tot p p.length : Int),mks p 1,p21 (x:=p) (k:=1) (by omega) (by omega) hp.1 hp.2,by omega,p22 (x:=p) (k:=1) (by omega) (by omega) hp.1 hp.2⟩
theorem solL_ok {f : SF} {q : Qry} {n : Nat} (hn : n≤4096) (hq : QK f q) : okL (solL f q n):=by
 refine ⟨by have:=solL_len (f:=f) (q:=q) (n:=n); omega,fun y hy=>?_⟩
 obtain ⟨k,_,rfl⟩:=List.mem_map.1 hy
 rw [tupL_len]
 have:=hq.few.l
 omega
end
end Go.Ve.D


namespace Go.Ve.D
open Go Go.Ve
noncomputable section

theorem list_eq {x y : List Int} (h : x.length = y.length) : decide (x = y) = (List.range x.length).all fun i=>decide (x.getD i 0 = y.getD i 0):=by
 rw [Bool.eq_iff_iff,decide_eq_true_eq,List.all_eq_true]
 constructor
 ·rintro rfl i _
  exact decide_eq_true rfl
 ·intro H
  refine List.ext_getElem h fun i h1 h2=>?_
  have:=of_decide_eq_true (H i (List.mem_range.2 h1))
  simpa [h1,h2] using this
theorem p66 {x y : List Int} (hx : x.length≤1048576) : G66 (x,y) = some (decide (x = y)):=by
 unfold G66
 cases hl : decide ((x.length : Int) = (y.length : Int)) with
 | false=>
  have hl:=of_decide_eq_false hl
  have : decide (x = y) = false:=decide_eq_false fun h=>hl (by rw [h])
  rw [this]; rfl
 | true=>
  have hl:=of_decide_eq_true hl
  have hl : x.length = y.length:=by omega
  rw [list_eq hl]
  simp only [Bool.not_true,cond_false]
  refine chkT (n:=x.length) (p:=fun i=>decide (x.getD i 0 = y.getD i 0)) (bad:=fun r : Bool=>r = false) (id:=0) (Post:=fun b (o : Option Bool)=>o = some b) (fun i hi=>?_) ?_ rfl (fun r hr=>by rw [hr])
  ·have hy : i < y.length:=by omega
   simp only [lt_cast,hi,decide_true,cond_true,in_cast hi,in_cast hy,and_self,if_true,Int.toNat_natCast]
   rw [wrap_sm (by omega) (by omega)]
   cases decide (x.getD i 0 = y.getD i 0) with
   | true=>exact inn1_t rfl
   | false=>exact inn1_f ⟨_,rfl,rfl⟩
  ·simp only [lt_cast,Nat.lt_irrefl,decide_false,cond_false]
theorem all_refl {x y : List Int} {n : Nat} (h : (List.range n).all (fun i=>decide (x.getD i 0 = y.getD i 0)) = false) : decide (x = y) = false:=by
 cases hd : decide (x = y) with
 | false=>rfl
 | true=>
  rw [of_decide_eq_true hd] at h
  have : (List.range n).all (fun i=>decide (y.getD i 0 = y.getD i 0)) = true:=List.all_eq_true.2 fun i _=>decide_eq_true rfl
  rw [this] at h; cases h
theorem p68 {x y : List Int} (hx : x.length≤1048576) (hy : y.length≤1048576) : G68 (x,y) = some (decide (x = y)):=by
 have key : ∃ r,G115 (x,y) = some r∧decide (r = 0) = decide (x = y):=by
  unfold G115
  have step : ∀ i,i < x.length→i < y.length→∀ F : Int→Option (LO Int Int),F = (fun (v0 : Int)=>(bif (decide (v0 < ((x.length : Nat) : Int))) then (bif (decide (v0 = ((y.length : Nat) : Int))) then (retM (some (1 : Int))) else (if (((0 : Int)≤v0)∧(v0 < ((x.length : Nat) : Int))) then (if (((0 : Int)≤v0)∧(v0 < ((y.length : Nat) : Int))) then (bif (!decide ((x.getD (v0).toNat (0 : Int)) = (y.getD (v0).toNat (0 : Int)))) then (if (((0 : Int)≤v0)∧(v0 < ((x.length : Nat) : Int))) then (if (((0 : Int)≤v0)∧(v0 < ((y.length : Nat) : Int))) then (bif (decide ((x.getD (v0).toNat (0 : Int)) < (y.getD (v0).toNat (0 : Int)))) then (retM (some (-(1 : Int)))) else (retM (some (1 : Int)))) else none) else none) else (some (LO.next (IntKind.wrap .i64 (v0 + (1 : Int)))))) else none) else none)) else (some (LO.brk 0 v0)))) →
    (decide (x.getD i 0 = y.getD i 0) = true→F (i : Int) = some (.next ((i + 1 : Nat) : Int)))∧(decide (x.getD i 0 = y.getD i 0) = false→∃ r,F (i : Int) = some (.ret r)∧decide (r = 0) = false):=by
   rintro i h1 h2 F rfl
   have e1 : decide ((i : Int) = (y.length : Int)) = false:=decide_eq_false (by omega)
   simp only [lt_cast,h1,decide_true,cond_true,in_cast h1,and_self,if_true,Int.toNat_natCast,e1,cond_false,in_cast h2]
   rw [wrap_sm (by omega) (by omega)]
   cases decide (x.getD i 0 = y.getD i 0) with
   | true=>exact ⟨fun _=>rfl,(fun h=>by cases h)⟩
   | false=>
    refine ⟨(fun h=>by cases h),fun _=>?_⟩
    simp only [Bool.not_false,cond_true]
    cases decide (x.getD i 0 < y.getD i 0) <;> exact ⟨_,rfl,rfl⟩
  by_cases hl : x.length≤y.length
  ·refine chk_bind (st:=fun i : Nat=>(i : Int)) (n:=x.length) (p:=fun i=>decide (x.getD i 0 = y.getD i 0)) (Q:=fun r : Int=>decide (r = 0) = false) (o:=.brk 0 (x.length : Int)) (Post:=fun o : Option Int=>∃ r,o = some r∧decide (r = 0) = decide (x = y)) (fun i hi=>step i hi (by omega) _ rfl) ?_ (fun y=>by simp) (fun hall=>?_) (fun hall r hr=>⟨r,rfl,by rw [hr,all_refl hall]⟩)
   ·simp only [lt_cast,Nat.lt_irrefl,decide_false,cond_false]
   ·show ∃ r,(if 0 = 0 then _ else none) = some r∧_
    rw [if_pos rfl]
    simp only [lt_cast]
    by_cases h2 : x.length < y.length
    ·have : decide (x = y) = false:=decide_eq_false fun h=>by rw [h] at h2; omega
     simp only [h2,decide_true,cond_true,this]
     exact ⟨_,rfl,rfl⟩
    ·have : decide (x = y) = true:=by rw [list_eq (by omega)]; exact hall
     simp only [h2,decide_false,cond_false,this]
     exact ⟨_,rfl,rfl⟩
  ·have hne : decide (x = y) = false:=decide_eq_false fun h=>hl (by rw [h]; exact Nat.le_refl _)
   have hyx : y.length < x.length:=by omega
   refine chk_bind (st:=fun i : Nat=>(i : Int)) (n:=y.length) (p:=fun i=>decide (x.getD i 0 = y.getD i 0)) (Q:=fun r : Int=>decide (r = 0) = false) (o:=.ret 1) (Post:=fun o : Option Int=>∃ r,o = some r∧decide (r = 0) = decide (x = y)) (fun i hi=>step i (by omega) hi _ rfl) ?_ (fun y=>by simp) (fun hall=>?_) (fun hall r hr=>⟨r,rfl,by rw [hr,hne]⟩)
   ·simp only [lt_cast,hyx,decide_true,cond_true]
    rfl
   ·exact ⟨1,rfl,by rw [hne]; rfl⟩
 obtain ⟨r,hr,he⟩:=key
 unfold G68
 simp only [hr,Option.bind_some,he]

def msk (p : List Int→Bool) (l : List (List Int)) (i : Nat) : List (Option (List Int)):=(List.range l.length).map fun j=>if j < i∧p (l.getD j []) = true then none else some (l.getD j [])
theorem msk_len {p : List Int→Bool} {l : List (List Int)} {i : Nat} : (msk p l i).length = l.length:=by simp [msk]
theorem msk_get {p : List Int→Bool} {l : List (List Int)} {i : Nat} (hi : i < l.length) : (msk p l i).getD i (some ([] : List Int)) = some (l.getD i []):=by
 unfold msk
 rw [List.getD_eq_getElem?_getD,List.getElem?_map,List.getElem?_range hi]
 show (if i < i∧_ then none else some (l.getD i [])) = _
 rw [if_neg (fun h=>absurd h.1 (Nat.lt_irrefl _))]
theorem msk_set {p : List Int→Bool} {l : List (List Int)} {i : Nat} (hi : i < l.length) (hp : p (l.getD i []) = true) : (msk p l i).set i none = msk p l (i + 1):=by
 unfold msk
 refine List.ext_getElem? fun j=>?_
 rw [List.getElem?_set]
 by_cases hj : j < l.length
 ·rw [List.getElem?_map,List.getElem?_map,List.getElem?_range hj,List.length_map,List.length_range]
  by_cases e : i = j
  ·subst e
   rw [if_pos rfl,if_pos hi]
   show some none = some (if i < i + 1∧_ then none else _)
   rw [if_pos ⟨Nat.lt_succ_self _,hp⟩]
  ·rw [if_neg e]
   show some (if j < i∧_ then none else some (l.getD j [])) = some (if j < i + 1∧_ then none else some (l.getD j []))
   by_cases h1 : j < i
   ·by_cases h2 : p (l.getD j []) = true
    ·rw [if_pos ⟨h1,h2⟩,if_pos ⟨by omega,h2⟩]
    ·rw [if_neg (fun h=>h2 h.2),if_neg (fun h=>h2 h.2)]
   ·rw [if_neg (fun h=>h1 h.1),if_neg (fun h=>by have:=h.1; omega)]
 ·have e1 : (List.range l.length)[j]? = none:=List.getElem?_eq_none (by simp; omega)
  rw [List.getElem?_map,List.getElem?_map,e1,if_neg (by omega)]
  rfl
theorem msk_same {p : List Int→Bool} {l : List (List Int)} {i : Nat} (hp : p (l.getD i []) = false) : msk p l (i + 1) = msk p l i:=by
 unfold msk
 refine List.map_congr_left fun j _=>?_
 by_cases h1 : j < i
 ·by_cases h2 : p (l.getD j []) = true
  ·rw [if_pos ⟨by omega,h2⟩,if_pos ⟨h1,h2⟩]
  ·rw [if_neg (fun h=>h2 h.2),if_neg (fun h=>h2 h.2)]
 ·rw [if_neg (fun (h : j < i∧_)=>h1 h.1)]
  by_cases e : j = i
  ·subst e
   rw [if_neg (fun h=>by rw [hp] at h; cases h.2)]
  ·rw [if_neg (fun h=>by have:=h.1; omega)]
theorem msk_0 {p : List Int→Bool} {l : List (List Int)} : mapO l = msk p l 0:=by
 unfold msk mapO
 refine List.ext_getElem? fun j=>?_
 by_cases hj : j < l.length
 ·rw [List.getElem?_map,List.getElem?_map,List.getElem?_range hj,List.getElem?_eq_getElem hj]
  show some (some l[j]) = some (if j < 0∧_ then none else some (l.getD j []))
  rw [if_neg (fun h=>absurd h.1 (Nat.not_lt_zero _)),List.getD_eq_getElem?_getD,List.getElem?_eq_getElem hj]
  rfl
 ·rw [List.getElem?_map,List.getElem?_map,List.getElem?_eq_none (by omega),List.getElem?_eq_none (by simp; omega)]
  rfl
theorem flt_succ {p : List Int→Bool} {l : List (List Int)} {i : Nat} (hi : i < l.length) : (l.take (i + 1)).filter p = bif p (l.getD i []) then (l.take i).filter p ++ [l.getD i []] else (l.take i).filter p:=by
 rw [← take_snoc [] hi,List.filter_append]
 cases hp : p (l.getD i []) with
 | true=>rw [List.filter_cons_of_pos hp]; rfl
 | false=>rw [List.filter_cons_of_neg (by rw [hp]; simp)]; simp
theorem isO_some {x : List Int} : isO (some x) = true:=rfl
theorem getO_some {x : List Int} : getO (some x) = x:=rfl
def spB (q : Qry) (row t : List Int) : Bool:=decide (thn q.2.2.2 t = row)
def spR (f : SF) (q : Qry) (row : List Int) : List (List Int):=(solL f q (Go.Ve.D.prd (szQ f q))).filter (spB q row)
def spP (f : SF) (q : Qry) (row : List Int) : List (List Int) × Int:=bif decide (((spR f q row).length : Int) = 0) then ([],4) else (spR f q row,0)
def rsR (f : SF) (q : Qry) (row : List Int) : List (List Int) × Int:=bif !decide (qrC f q = 0) then ([],qrC f q) else spP f q row
theorem out_wi {f : SF} {q : Qry} (h : qOK (shS f) q = true) {k : Nat} : q.2.2.2.length≤4∧wi ((tupL (szQ f q) k).length : Int) q.2.2.2 = true:=by
 unfold qOK at h
 rw [Bool.and_eq_true,decide_eq_true_eq] at h
 obtain ⟨⟨h1,h2,h3,h4,h5,h6⟩,_⟩:=h
 refine ⟨h5,?_⟩
 rw [tupL_len]
 unfold szQ
 rw [thn_len]
 exact h6
theorem sol_get {f : SF} {q : Qry} {n i : Nat} (hi : i < (solL f q n).length) : ∃ k,(solL f q n).getD i [] = tupL (szQ f q) k:=by
 obtain ⟨k,_,e⟩:=List.mem_map.1 (getD_mem' [] hi)
 exact ⟨k,e.symm⟩
theorem qr_true {f : SF} {q : Qry} (h : qrC f q = 0) : isSF f = true∧qOK (shS f) q = true∧Go.Ve.D.prd (szQ f q)≤4096:=by
 unfold qrC at h
 cases e : qrB f q with
 | false=>rw [e] at h; cases h
 | true=>
  rw [e] at h
  unfold qrB at e
  rw [Bool.and_eq_true] at e
  refine ⟨e.1,e.2,Nat.le_of_not_lt fun hc=>?_⟩
  rw [decide_eq_true hc] at h
  cases h
theorem p25 {f : SF} {q : Qry} {row : List Int} (hf : okS f) (hq : okQ q) (hr : row.length≤1048576) : G25 (f,(q,row)) = some (rsR f q row):=by
 refine bind_of (a:=G62 (f,q)) (p62 hf hq) ?_
 unfold qrR rsR
 cases h0 : decide (qrC f q = 0) with
 | false=>simp only [h0,Bool.not_false,cond_true]
 | true=>
 have h1 : qrC f q = 0:=of_decide_eq_true h0
 obtain ⟨c1,c2,c3⟩:=qr_true h1
 simp only [h1,decide_true,Bool.not_true,cond_false,cond_true]
 have hl:=solL_len (f:=f) (q:=q) (n:=Go.Ve.D.prd (szQ f q))
 have hg:=fun i=>sol_get (f:=f) (q:=q) (n:=Go.Ve.D.prd (szQ f q)) (i:=i)
 unfold spP spR
 generalize solL f q (Go.Ve.D.prd (szQ f q)) = l at hl hg ⊢
 refine bind_of (v:=.brk 0 ((l.length : Int),(msk (spB q row) l l.length,l.filter (spB q row)))) ?_ (by
  show (bif decide (((l.filter (spB q row)).length : Int) = 0) then _ else _) = some (bif decide (((l.filter (spB q row)).length : Int) = 0) then _ else _)
  cases decide (((l.filter (spB q row)).length : Int) = 0) <;> rfl)
 have key:=tloop_iter (R:=List (List Int) × Int) (st:=fun i : Nat=>((i : Int),(msk (spB q row) l i,(l.take i).filter (spB q row)))) (n:=l.length) (o:=.brk 0 ((l.length : Int),(msk (spB q row) l l.length,l.filter (spB q row))))
  (f:=(fun (v1 : (Int × ((List (Option (List Int))) × (List (List Int)))))=>(bif (decide (v1.1 < ((l.length : Nat) : Int))) then (if (((0 : Int)≤v1.1)∧(v1.1 < ((v1.2.1.length : Nat) : Int))) then (if ((isO (v1.2.1.getD (v1.1).toNat (some ([] : (List Int))))) = true) then (Option.bind (bif (isO (v1.2.1.getD (v1.1).toNat (some ([] : (List Int))))) then (G69 (q.2.2.2,(getO (v1.2.1.getD (v1.1).toNat (some ([] : (List Int))))))) else none) (fun (v2 : (List Int))=>(Option.bind (G68 (v2,row)) (fun (v3 : Bool)=>(bif v3 then (if True then (if ((v1.2.2.length + ((getO (v1.2.1.getD (v1.1).toNat (some ([] : (List Int))))) :: ([] : (List (List Int)))).length)≤5864062014805) then (some (LO.next ((IntKind.wrap .i64 (v1.1 + (1 : Int))),((v1.2.1.set (v1.1).toNat (none : Option (List Int))),(v1.2.2 ++ ((getO (v1.2.1.getD (v1.1).toNat (some ([] : (List Int))))) :: ([] : (List (List Int))))))))) else none) else none) else (some (LO.next ((IntKind.wrap .i64 (v1.1 + (1 : Int))),(v1.2.1,v1.2.2))))))))) else none) else none) else (some (LO.brk 0 (v1.1,(v1.2.1,v1.2.2)))))))
  (fun i hi=>?_) ?_ (fun y=>by simp)
 ·rw [show (([] : List (List Int)) = (l.take 0).filter (spB q row)) by simp,msk_0 (p:=spB q row)]
  exact key
 ·have hm : i < (msk (spB q row) l i).length:=by rw [msk_len]; exact hi
  have hfl : ((l.take i).filter (spB q row)).length≤i:=Nat.le_trans (List.length_filter_le ..) (by rw [List.length_take]; omega)
  obtain ⟨k,hk⟩:=hg i hi
  obtain ⟨o1,o2⟩:=out_wi c2 (k:=k)
  have e69 : G69 (q.2.2.2,l.getD i []) = some (thn q.2.2.2 (l.getD i [])):=p69 (by omega) (by rw [hk]; exact o2)
  have e68 : G68 (thn q.2.2.2 (l.getD i []),row) = some (spB q row (l.getD i [])):=p68 (by rw [thn_len]; omega) hr
  simp only [lt_cast,hi,decide_true,cond_true,in_cast hm,and_self,if_true,Int.toNat_natCast,msk_get hi,isO_some,getO_some,e69,e68,Option.bind_some]
  rw [wrap_sm (by omega) (by omega),if_pos (show ((l.take i).filter (spB q row)).length + [l.getD i []].length≤5864062014805 by show _ + 1≤_; omega),flt_succ hi]
  cases hp : spB q row (l.getD i []) with
  | true=>rw [msk_set hi hp]; rfl
  | false=>rw [msk_same hp]; rfl
 ·simp only [lt_cast,Nat.lt_irrefl,decide_false,cond_false,List.take_length]
theorem p23 {f : SF} {q : Qry} {row : List Int} (hf : okS f) (hq : okQ q) (hr : row.length≤1048576) : G23 (f,(q,row)) = some (rsR f q row):=by
 refine bind_of (a:=G58 (f,q)) (p58 hf hq) ?_
 unfold rsR
 cases h0 : decide (qrC f q = 0) with
 | false=>simp only [Bool.not_false,cond_true]
 | true=>
 have h1 : qrC f q = 0:=of_decide_eq_true h0
 obtain ⟨c1,c2,c3⟩:=qr_true h1
 simp only [Bool.not_true,cond_false]
 refine bind_of (a:=G59 (f,q)) (p59 (qk_of (isSF_fs c1) c2) c3) ?_
 have hl:=solL_len (f:=f) (q:=q) (n:=Go.Ve.D.prd (szQ f q))
 have hg:=fun i=>sol_get (f:=f) (q:=q) (n:=Go.Ve.D.prd (szQ f q)) (i:=i)
 unfold spP spR
 generalize solL f q (Go.Ve.D.prd (szQ f q)) = l at hl hg ⊢
 refine bind_of (v:=.brk 0 ((l.length : Int),(msk (spB q row) l l.length,l.filter (spB q row)))) ?_ (by
  show (bif decide (((l.filter (spB q row)).length : Int) = 0) then _ else _) = some (bif decide (((l.filter (spB q row)).length : Int) = 0) then _ else _)
  cases decide (((l.filter (spB q row)).length : Int) = 0) <;> rfl)
 have key:=tloop_iter (R:=List (List Int) × Int) (st:=fun i : Nat=>((i : Int),(msk (spB q row) l i,(l.take i).filter (spB q row)))) (n:=l.length) (o:=.brk 0 ((l.length : Int),(msk (spB q row) l l.length,l.filter (spB q row))))
  (f:=(fun (v2 : (Int × ((List (Option (List Int))) × (List (List Int)))))=>(bif (decide (v2.1 < ((v2.2.1.length : Nat) : Int))) then (if (((0 : Int)≤v2.1)∧(v2.1 < ((v2.2.1.length : Nat) : Int))) then (if ((isO (v2.2.1.getD (v2.1).toNat (some ([] : (List Int))))) = true) then (Option.bind (bif (isO (v2.2.1.getD (v2.1).toNat (some ([] : (List Int))))) then (G67 (q.2.2.2,(getO (v2.2.1.getD (v2.1).toNat (some ([] : (List Int))))))) else none) (fun (v3 : (List Int))=>(Option.bind (G66 (v3,row)) (fun (v4 : Bool)=>(bif v4 then (if (((0 : Int)≤v2.1)∧(v2.1 < ((v2.2.1.length : Nat) : Int))) then (if ((isO (v2.2.1.getD (v2.1).toNat (some ([] : (List Int))))) = true) then (if True then (if ((v2.2.2.length + ((getO (v2.2.1.getD (v2.1).toNat (some ([] : (List Int))))) :: ([] : (List (List Int)))).length)≤5864062014805) then (some (LO.next ((IntKind.wrap .i64 (v2.1 + (1 : Int))),((v2.2.1.set (v2.1).toNat (none : Option (List Int))),(v2.2.2 ++ ((getO (v2.2.1.getD (v2.1).toNat (some ([] : (List Int))))) :: ([] : (List (List Int))))))))) else none) else none) else none) else none) else (some (LO.next ((IntKind.wrap .i64 (v2.1 + (1 : Int))),(v2.2.1,v2.2.2))))))))) else none) else none) else (some (LO.brk 0 (v2.1,(v2.2.1,v2.2.2)))))))
  (fun i hi=>?_) ?_ (fun y=>by simp)
 ·rw [show (([] : List (List Int)) = (l.take 0).filter (spB q row)) by simp,msk_0 (p:=spB q row)]
  exact key
 ·have hm : i < (msk (spB q row) l i).length:=by rw [msk_len]; exact hi
  have hfl : ((l.take i).filter (spB q row)).length≤i:=Nat.le_trans (List.length_filter_le ..) (by rw [List.length_take]; omega)
  obtain ⟨k,hk⟩:=hg i hi
  obtain ⟨o1,o2⟩:=out_wi c2 (k:=k)
  have e67 : G67 (q.2.2.2,l.getD i []) = some (thn q.2.2.2 (l.getD i [])):=p67 (by omega) (by rw [hk]; exact o2)
  have e66 : G66 (thn q.2.2.2 (l.getD i []),row) = some (spB q row (l.getD i [])):=p66 (by rw [thn_len]; omega)
  simp only [lt_cast,hm,decide_true,cond_true,in_cast hm,and_self,if_true,Int.toNat_natCast,msk_get hi,isO_some,getO_some,e67,e66,Option.bind_some]
  rw [wrap_sm (by omega) (by omega),if_pos (show ((l.take i).filter (spB q row)).length + [l.getD i []].length≤5864062014805 by show _ + 1≤_; omega),flt_succ hi]
  cases hp : spB q row (l.getD i []) with
  | true=>rw [msk_set hi hp]; rfl
  | false=>rw [msk_same hp]; rfl
 ·simp only [lt_cast,msk_len,Nat.lt_irrefl,decide_false,cond_false,List.take_length]
theorem rsR_ok {f : SF} {q : Qry} {row : List Int} : okL (rsR f q row).1:=by
 unfold rsR
 cases h0 : decide (qrC f q = 0) with
 | false=>exact ⟨Nat.zero_le _,fun y hy=>by cases hy⟩
 | true=>
  obtain ⟨c1,c2,c3⟩:=qr_true (of_decide_eq_true h0)
  have hs:=solL_ok (n:=Go.Ve.D.prd (szQ f q)) c3 (qk_of (isSF_fs c1) c2)
  show okL (spP f q row).1
  unfold spP
  cases decide (((spR f q row).length : Int) = 0) with
  | true=>exact ⟨Nat.zero_le _,fun y hy=>by cases hy⟩
  | false=>exact ⟨Nat.le_trans (List.length_filter_le ..) hs.1,fun y hy=>hs.2 y (List.mem_filter.1 hy).1⟩
theorem p4b {f : SF} {q : Qry} {row : List Int} {r0 r1 : Int} (hrow : row.length≤1048576) (e0 : G10 (f,1048576) = some r0) (n0 : ¬ r0 < 0) (e1 : G11 (q,r0) = some r1) (n1 : ¬ r1 < 0) (hf : okS f) (hq : okQ q) : G4 (f,(q,row)) = some true:=by
 have e13:=p13 hf
 have e14:=p14 hq
 have e24:=p24 hrow
 have e23:=p23 hf hq hrow
 have e25:=p25 hf hq hrow
 have hr:=rsR_ok (f:=f) (q:=q) (row:=row)
 generalize rsR f q row = r at *
 obtain ⟨k1,y1,e19,b1,c1⟩:=mk19 (f:=f) (k:=1) (by omega) (by omega) hf
 obtain ⟨r20,e20,b2,c2⟩:=mk20 (q:=q) (k:=k1) b1 (by omega) hq
 obtain ⟨k3,y3,e27,b3,c3,_⟩:=mh27 (x:=row) (k:=r20.1) b2 (by omega) hrow
 obtain ⟨k,y,e21,c4,e22⟩:=mh21 hr
 have m0 : ¬ ((1048576 : Int) < (row.length : Int)):=by omega
 have m1 : ¬ (k3 < 0):=by omega
 have m2 : ¬ (k < 0):=by omega
 have g1:=p16 hr.1 hr.2
 have g2:=p17 hf
 have g3:=p18 hq
 have g4:=p26 hrow
 unfold G4
 simp only [Prod.eta,m0,e0,n0,e1,n1,decide_false,cond_false,e13,e14,e24,e23,e25,g1,g2,g3,g4,e19,e20,e27,e21,e22,m1,m2,Option.bind_some,Bool.not_true,decide_true,cond_true]
theorem p4 (x : SF × Qry × List Int) (h : okT (PT S4.ps) x) : G4 x = some true:=by
 obtain ⟨f,q,row⟩:=x
 obtain ⟨⟨_,h1,h2,h3,h4,h6,h7⟩,⟨q1,q2,q3,q4⟩,hrow⟩:=h
 by_cases m0 : (1048576 : Int) < (row.length : Int)
 ·unfold G4
  simp only [m0,decide_true,cond_true]
 have hrow' : row.length≤1048576:=by omega
 obtain ⟨r0,e0,f0⟩:=p10g (f:=f) (b:=1048576) (by omega) h1.1 h2.1 h3.1 h4.1 (fun y hy=>(h4.2 y hy).1) h6.1 h7.1 (fun y hy=>(h7.2 y hy).1)
 by_cases n0 : r0 < 0
 ·unfold G4
  simp only [Prod.eta,m0,e0,n0,Option.bind_some,decide_true,cond_true,decide_false,cond_false]
 have f0:=f0.resolve_left n0
 obtain ⟨r1,e1,f1⟩:=p11 (q:=q) (b:=r0) ⟨f0.1,f0.2.1⟩ q1.1 q2.1 q3.1 q4.1
 by_cases n1 : r1 < 0
 ·unfold G4
  simp only [Prod.eta,m0,e0,n0,e1,n1,Option.bind_some,decide_true,cond_true,decide_false,cond_false]
 exact p4b hrow' e0 n0 e1 n1 f0.2.2 (f1.resolve_left n1).2
end
end Go.Ve.D

