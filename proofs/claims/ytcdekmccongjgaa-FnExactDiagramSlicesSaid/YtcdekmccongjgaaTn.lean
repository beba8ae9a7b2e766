/- The typed machine: the state at the head of a loop, as a relation in memory. -/
import Derived.Test.YtcdekmccongjgaaTm
namespace Go.Ve

def sameC : List Cl→List Cl→Bool
 | [],[]=>true
 | .c t d _ :: l,.c t' d' _ :: m=>decide (t' = t) && Nat.beq d' d && sameC l m
 | _,_=>false
def sameR : Root→Root→Bool
 | .arr _ t d _,.arr _ t' d' _=>decide (t' = t) && Nat.beq d' d
 | .obj _ l,.obj _ m=>sameC l m
 | _,_=>false
def unRo : Root→Root
 | .arr _ t d xs=>.arr false t d xs
 | .obj _ l=>.obj false l
 | .opt _ t d x=>.opt false t d x
 | .dead=>.dead
theorem unRo_v (r : Root) : (unRo r).v = r.v∧(unRo r).len = r.len:=by cases r <;> first | exact ⟨rfl,rfl⟩ | exact ⟨rfl,len_opt⟩
theorem setRo_v (r : Root) : (setRo r).v = r.v∧(setRo r).len = r.len:=by cases r <;> first | exact ⟨rfl,rfl⟩ | exact ⟨rfl,len_opt⟩

theorem fillC_same : ∀ (l m : List Cl) (a : List Dy) (rest : List Dy),sameC l m = true→dyA m = some a→fillC l (a ++ rest) = (m,rest):=by
 intro l
 induction l with
 | nil=>intro m a rest h ha; cases m with
  | nil=>cases ha; rfl
  | cons y m=>cases y <;> cases h
 | cons y l ih=>
  intro m a rest h ha
  cases m with
  | nil=>cases y <;> cases h
  | cons z m=>
   cases y with
   | c t d x=>
    cases z with
    | c t' d' x'=>
     have h : (decide (t' = t) && Nat.beq d' d && sameC l m) = true:=h
     simp only [Bool.and_eq_true,decide_eq_true_eq] at h
     obtain ⟨⟨rfl,hd⟩,hl⟩:=h
     have hd:=Nat.eq_of_beq_eq_true hd
     subst hd
     have ha : (bif t'.one then (match dyA m with
      | some m=>some ((⟨t',x'⟩ : Dy) :: m)
      | none=>none) else none) = some a:=ha
     cases ho : t'.one with
     | false=>rw [ho] at ha; cases ha
     | true=>
      rw [ho] at ha
      simp only [cond_true] at ha
      split at ha
      case h_2=>cases ha
      rename_i b hb
      cases ha
      show ((match (if h : t' = t' then some (h ▸ x') else none : Option t'.T) with
       | some x=>Cl.c t' d' x
       | none=>.dead) :: (fillC l (b ++ rest)).1,(fillC l (b ++ rest)).2) = _
      rw [ih m b rest hl hb]
      simp
    | _=>cases h
   | _=>cases z <;> cases h
theorem fillR1_same {old new : Root} {a rest : List Dy} (h : sameR old new = true) (ha : grabR1 new = some a) : fillR1 old (a ++ rest) = (unRo new,rest):=by
 cases old with
 | arr ro t d xs=>
  cases new with
  | arr ro' t' d' xs'=>
   have h : (decide (t' = t) && Nat.beq d' d) = true:=h
   simp only [Bool.and_eq_true,decide_eq_true_eq] at h
   obtain ⟨rfl,hd⟩:=h
   have hd:=Nat.eq_of_beq_eq_true hd
   subst hd
   cases ha
   show ((if h : t' = t' then Root.arr false t' d' (h ▸ xs') else .dead),rest) = _
   simp [unRo]
  | _=>cases h
 | obj ro l=>
  cases new with
  | obj ro' m=>
   show (Root.obj false (fillC l (a ++ rest)).1,(fillC l (a ++ rest)).2) = _
   rw [fillC_same l m a rest h ha]; rfl
  | _=>cases h
 | dead=>cases new <;> cases h
 | opt=>cases new <;> cases h

def canonS (k : LK) (y : Sl) : Sl:=match k,y with
 | .val _ false,.one c=>(match dyC c with
  | some z=>.one z.cl
  | none=>.one .dead)
 | .val _ true,.agg l=>(match dyL l with
  | some m=>.agg (m.map Dy.cl)
  | none=>.one .dead)
 | .ref id,_=>.one (.rf id [])
 | .ptr id,_=>.one (.rp id [] 0 0)
 | _,_=>.one .dead
theorem fillS_grab {k : LK} {y : Sl} {a rest : List Dy} {m : List (Nat × Nat)} (h : grabS k y = some (a,m)) : fillS k (a ++ rest) = (canonS k y,rest):=by
 unfold grabS at h
 split at h
 ·split at h
  case h_2=>cases h
  rename_i z hz
  cases h
  unfold fillS canonS
  simp [hz]
 ·rename_i n l
  cases hb : Nat.beq l.length n with
  | false=>rw [hb] at h; cases h
  | true=>
   rw [hb] at h
   simp only [cond_true] at h
   split at h
   case h_2=>cases h
   rename_i z hz
   cases h
   have hlen : ∀ (l : List Cl) (z : List Dy),dyL l = some z→z.length = l.length:=by
    intro l
    induction l with
    | nil=>intro z h; cases h; rfl
    | cons y l ih=>
     intro z h
     unfold dyL at h
     split at h
     case h_2=>cases h
     split at h
     case h_2=>cases h
     rename_i m hm
     cases h
     simp [ih m hm]
   have hl:=hlen l a hz
   have hn:=Nat.eq_of_beq_eq_true hb
   unfold fillS canonS
   simp only [hz]
   rw [List.take_append_of_le_length (by omega),List.take_of_length_le (by omega),List.drop_append_of_le_length (by omega),List.drop_eq_nil_of_le (by omega)]
   rfl
 ·cases h; rfl
 ·cases h; rfl
 ·cases h; rfl
 ·cases h

def canonT (t0 t' : Nat→Sl) : List Nat→(Nat→Sl)→Nat→Sl
 | [],t=>t
 | d :: L,t=>canonT t0 t' L (updT t d (canonS (lk (t0 d)) (t' d)))
theorem fillL_grab {t0 t' : Nat→Sl} : ∀ (L : List Nat) (a rest : List Dy) (m : List (Nat × Nat)) (t : Nat→Sl),grabL t0 t' L = some (a,m)→fillL t0 L (a ++ rest) t = (canonT t0 t' L t,rest)
 | [],a,rest,m,t,h=>by cases h; rfl
 | d :: L,a,rest,m,t,h=>by
  unfold grabL at h
  split at h
  case h_2=>cases h
  rename_i a1 b1 h1
  split at h
  case h_2=>cases h
  rename_i a2 b2 h2
  cases h
  unfold fillL
  rw [List.append_assoc,fillS_grab h1]
  exact fillL_grab L a2 rest b2 _ h2
theorem canonT_get {t0 t' : Nat→Sl} : ∀ (L : List Nat) (t : Nat→Sl) (i : Nat),canonT t0 t' L t i = if L.contains i then canonS (lk (t0 i)) (t' i) else t i
 | [],t,i=>rfl
 | d :: L,t,i=>by
  unfold canonT
  rw [canonT_get L]
  by_cases hi : L.contains i = true
  ·rw [if_pos hi,if_pos (by rw [List.contains_cons,hi,Bool.or_true])]
  ·rw [if_neg hi]
   by_cases hd : i = d
   ·subst hd
    rw [if_pos (by simp)]
    unfold updT
    rw [Nat.beq_refl]; rfl
   ·have : (d :: L).contains i = false:=by
     rw [List.contains_cons]
     have : (i == d) = false:=by simpa using hd
     rw [this]
     simpa using hi
    rw [this,updT_ne hd]
    rfl

def canonR (r' : List Root) (π : Nat→Nat) : List Nat→List Root→List Root
 | [],r=>r
 | id :: l,r=>canonR r' π l (r.set id (unRo (r'.getD (π id) .dead)))
theorem fillR_grab {r0 r' : List Root} {π : Nat→Nat} : ∀ (Rh : List Nat) (a : List Dy) (r : List Root),Rh.all (fun i=>sameR (r0.getD i .dead) (r'.getD (π i) .dead)) = true→grabR r' π Rh = some a→fillR r0 Rh a r = canonR r' π Rh r
 | [],a,r,_,h=>rfl
 | id :: l,a,r,hs,h=>by
  rw [List.all_cons,Bool.and_eq_true] at hs
  unfold grabR at h
  split at h
  case h_2=>cases h
  rename_i a1 h1
  split at h
  case h_2=>cases h
  rename_i a2 h2
  cases h
  unfold fillR
  rw [fillR1_same hs.1 h1]
  exact fillR_grab l a2 _ hs.2 h2
theorem canonR_len {r' : List Root} {π : Nat→Nat} : ∀ (Rh : List Nat) (r : List Root),(canonR r' π Rh r).length = r.length
 | [],_=>rfl
 | id :: l,r=>by unfold canonR; rw [canonR_len l,List.length_set]
theorem canonR_get {r' : List Root} {π : Nat→Nat} : ∀ (Rh : List Nat) (r : List Root) (i : Nat),i < r.length→(canonR r' π Rh r).getD i .dead = if Rh.contains i then unRo (r'.getD (π i) .dead) else r.getD i .dead
 | [],r,i,_=>rfl
 | id :: l,r,i,hi=>by
  unfold canonR
  rw [canonR_get l _ i (by rw [List.length_set]; exact hi)]
  by_cases hc : l.contains i = true
  ·rw [if_pos hc,if_pos (by rw [List.contains_cons,hc,Bool.or_true])]
  ·rw [if_neg hc]
   by_cases hd : i = id
   ·subst hd
    rw [if_pos (by simp)]
    simp only [List.getD_eq_getElem?_getD,List.getElem?_set_self hi,Option.getD_some]
   ·have : (id :: l).contains i = false:=by
     rw [List.contains_cons]
     have : (i == id) = false:=by simpa using hd
     rw [this]
     simpa using hc
    rw [this]
    simp only [List.getD_eq_getElem?_getD,List.getElem?_set_ne (Ne.symm hd)]
    rfl

def grabOK (m : List (Nat × Nat)) (L Rh : List Nat) (s0 s' : St) (keep : Nat) : Bool:=
 (List.range s0.r.length).all (fun i=>Nat.blt (piF m i) s'.r.length) &&
 (List.range s0.r.length).all (fun i=>(List.range s0.r.length).all fun j=>Nat.beq i j || !Nat.beq (piF m i) (piF m j)) &&
 (List.range s0.r.length).all (fun i=>Rh.contains i || Nat.beq (piF m i) i) &&
 Rh.all (fun i=>sameR (s0.r.getD i .dead) (s'.r.getD (piF m i) .dead)) &&
 m.all (fun p=>Nat.beq (piF m p.1) p.2 && Nat.blt p.1 s0.r.length) &&
 (List.range keep).all (fun i=>Nat.beq (piF m i) i)
def grab (L Rh : List Nat) (s0 s' : St) (keep : Nat) : Option (List Dy):=match grabL s0.t s'.t L with
 | some (a,m)=>bif grabOK m L Rh s0 s' keep then (match grabR s'.r (piF m) Rh with
  | some c=>some (a ++ c)
  | none=>none) else none
 | none=>none

theorem dyC_v {c : Cl} {z : Dy} {r r' : List Root} (h : dyC c = some z) : c.v r = z.cl.v r':=by
 unfold dyC at h
 split at h
 case h_2=>cases h
 rename_i t d x
 cases hb : (t.one && !(Cl.c t d x).own) with
 | false=>rw [hb] at h; cases h
 | true=>
  rw [hb] at h
  cases h
  simp only [Bool.and_eq_true,Bool.not_eq_true'] at hb
  cases t <;> cases d <;> first | rfl | (cases x with
   | none=>rfl
   | some _=>exact absurd hb.2 (by intro h; cases h)) | exact nomatch hb.2 | exact nomatch hb.1
theorem ren_cl {π : Nat→Nat} {n : Nat} {r r' : List Root} {c : Cl} (h : c.stay = true) : RenS π n (c.v r) (c.v r'):=by
 cases c with
 | c t d x=>cases t <;> first | exact RenS.tyV0 (.clo _ _) x _ (List.mem_singleton.2 rfl) | (cases x <;> first | exact RenS.dead _ _ _ | exact .inr (Sub.refl _)) | exact ren_nr (fun _ _ _ _ h=>by cases h) (fun _ _ _ _ h=>by cases h) (fun _ _ _ h=>by cases h)
 | dead=>exact .inl rfl
 | nil=>exact .inr (Sub.refl _)
 | nilp=>exact .inr (Sub.refl _)
 | nilf=>exact .inr (Sub.refl _)
 | _=>cases h
theorem ren_stay {π : Nat→Nat} {n : Nat} {r r' : List Root} {y : Sl} (h : y.stay = true) : RenS π n (y.v r) (y.v r'):=by
 have agg : ∀ l : List Cl,l.all Cl.stay = true→RenS π n (mkMany (l.map (Cl.v r))) (mkMany (l.map (Cl.v r'))):=by
  intro l h
  refine ren_mk (by simp) fun k hk=>?_
  rw [getD_mapV (f:=Cl.v r) (a:=.dead) rfl,getD_mapV (f:=Cl.v r') (a:=.dead) rfl]
  have hk : k < l.length:=by simpa using hk
  refine ren_cl (List.all_eq_true.1 h _ ?_)
  rw [List.getD_eq_getElem?_getD,List.getElem?_eq_getElem hk]
  exact List.getElem_mem _
 cases y with
 | one c=>exact ren_cl h
 | new l=>exact .inr (Sub.refl _)
 | agg l=>exact agg l h
 | pk t l=>
  refine ren_pk (by simp) fun k hk=>?_
  rw [getD_mapV (f:=Cl.v r) (a:=.dead) rfl,getD_mapV (f:=Cl.v r') (a:=.dead) rfl]
  have hk : k < l.length:=by simpa using hk
  refine ren_cl (List.all_eq_true.1 h _ ?_)
  rw [List.getD_eq_getElem?_getD,List.getElem?_eq_getElem hk]
  exact List.getElem_mem _
 | tup l=>
  refine ren_tup (by simp) fun k hk=>?_
  have hk : k < l.length:=by simpa using hk
  simp only [List.getD_eq_getElem?_getD,List.getElem?_map,List.getElem?_eq_getElem hk,Option.map_some,Option.getD_some]
  have hp:=List.all_eq_true.1 h l[k] (List.getElem_mem hk)
  generalize l[k] = p at hp
  obtain ⟨b,m⟩:=p
  cases b with
  | true=>exact agg m hp
  | false=>
   cases m with
   | nil=>exact .inl rfl
   | cons y m=>exact ren_cl (by simp only [List.all_cons,Bool.and_eq_true] at hp; exact hp.1)

theorem head_ok {C : Ctx} {N : Nat} {ro : Bool} {b : List Oper} {L Rh : List Nat} {s0 s' : St} {keep : Nat} {cs : List Dy} {a : Act} {w : World} (h : SRel C N s'.den a w) (hg : grab L Rh s0 s' keep = some cs) (hk : C.m≤keep) (hk0 : C.m≤s0.r.length)
  (ht : ∀ i,L.contains i = false→noDst b i = true→(s0.t i).stay = true→s'.t i = s0.t i)
  (hr : ∀ id,id < s0.r.length→Rh.contains id = false→(s'.r.getD id .dead).v = (s0.r.getD id .dead).v∧(s'.r.getD id .dead).len = (s0.r.getD id .dead).len) : SRel C N (headSt ro b L Rh s0 cs).den a w:=by
 unfold grab at hg
 split at hg
 case h_2=>cases hg
 rename_i av m hgl
 cases hok : grabOK m L Rh s0 s' keep with
 | false=>rw [hok] at hg; cases hg
 | true=>
  rw [hok] at hg
  simp only [cond_true] at hg
  split at hg
  case h_2=>cases hg
  rename_i cv hgr
  cases hg
  unfold grabOK at hok
  simp only [Bool.and_eq_true] at hok
  obtain ⟨⟨⟨⟨⟨o1,o2⟩,o3⟩,o4⟩,o5⟩,o6⟩:=hok
  let base : Nat→Sl:=fun i=>bif noDst b i && (s0.t i).stay then s0.t i else .one .dead
  let r0 : List Root:=bif ro then s0.r.map setRo else s0.r
  have hr0l : r0.length = s0.r.length:=by cases ro <;> simp [r0]
  have hr0g : ∀ i,(r0.getD i .dead).v = (s0.r.getD i .dead).v∧(r0.getD i .dead).len = (s0.r.getD i .dead).len:=by
   intro i
   cases ro with
   | false=>exact ⟨rfl,rfl⟩
   | true=>
    have e : r0.getD i .dead = setRo (s0.r.getD i .dead):=by
     show (s0.r.map setRo).getD i .dead = _
     simp only [List.getD_eq_getElem?_getD,List.getElem?_map]
     cases s0.r[i]? <;> rfl
    rw [e]; exact setRo_v _
  have hT : headSt ro b L Rh s0 (av ++ cv) = ⟨canonT s0.t s'.t L base,canonR s'.r (piF m) Rh r0⟩:=by
   show (⟨(fillL s0.t L (av ++ cv) base).1,fillR s0.r Rh (fillL s0.t L (av ++ cv) base).2 r0⟩ : St) = _
   rw [fillL_grab L av cv m base hgl]
   simp only
   rw [fillR_grab Rh cv r0 o4 hgr]
  rw [hT]
  have hlen : (canonR s'.r (piF m) Rh r0).length = s0.r.length:=by rw [canonR_len,hr0l]
  have hlenv : ((canonR s'.r (piF m) Rh r0).map Root.v).length = s0.r.length:=by rw [List.length_map,hlen]
  have hget : ∀ i,i < s0.r.length→(canonR s'.r (piF m) Rh r0).getD i .dead = if Rh.contains i then unRo (s'.r.getD (piF m i) .dead) else r0.getD i .dead:=fun i hi=>canonR_get Rh r0 i (by rw [hr0l]; exact hi)
  have hgv : ∀ i,i < s0.r.length→((canonR s'.r (piF m) Rh r0).getD i .dead).v = (s'.r.getD (piF m i) .dead).v∧((canonR s'.r (piF m) Rh r0).getD i .dead).len = (s'.r.getD (piF m i) .dead).len:=by
   intro i hi
   rw [hget i hi]
   cases hc : Rh.contains i with
   | true=>simp only [if_true]; exact unRo_v _
   | false=>
    simp only [Bool.false_eq_true,if_false]
    have:=List.all_eq_true.1 o3 i (List.mem_range.2 hi)
    rw [hc,Bool.false_or] at this
    rw [Nat.eq_of_beq_eq_true this,(hr0g i).1,(hr0g i).2,(hr i hi hc).1,(hr i hi hc).2]
    exact ⟨rfl,rfl⟩
  refine h.perm (π:=piF m) (fun i hi=>?_) (fun i j hi hj he=>?_) (fun i hi=>?_) (fun i hi=>?_) ?_ fun i=>?_
  ·have hi : i < s0.r.length:=by rw [← hlenv]; exact hi
   show _ < (s'.r.map Root.v).length
   rw [List.length_map]
   exact Nat.le_of_ble_eq_true (List.all_eq_true.1 o1 i (List.mem_range.2 hi))
  ·have hi : i < s0.r.length:=by rw [← hlenv]; exact hi
   have hj : j < s0.r.length:=by rw [← hlenv]; exact hj
   have:=List.all_eq_true.1 (List.all_eq_true.1 o2 i (List.mem_range.2 hi)) j (List.mem_range.2 hj)
   rw [he,Nat.beq_refl,Bool.or_eq_true] at this
   rcases this with h | h
   ·exact Nat.eq_of_beq_eq_true h
   ·cases h
  ·have hi : i < s0.r.length:=by rw [← hlenv]; exact hi
   show Sub ((s'.r.map Root.v).getD (piF m i) .dead) (((canonR s'.r (piF m) Rh r0).map Root.v).getD i .dead)
   rw [getD_roots,getD_roots,(hgv i hi).1]
   exact Sub.refl _
  ·exact Nat.eq_of_beq_eq_true (List.all_eq_true.1 o6 i (List.mem_range.2 (Nat.lt_of_lt_of_le hi hk)))
  ·show C.m≤((canonR s'.r (piF m) Rh r0).map Root.v).length
   rw [hlenv]; exact hk0
  ·show RenS (piF m) ((canonR s'.r (piF m) Rh r0).map Root.v).length ((s'.t i).v s'.r) ((canonT s0.t s'.t L base i).v (canonR s'.r (piF m) Rh r0))
   rw [canonT_get,hlenv]
   cases hc : L.contains i with
   | false=>
    simp only [Bool.false_eq_true,if_false]
    show RenS _ _ _ ((bif noDst b i && (s0.t i).stay then s0.t i else .one .dead : Sl).v _)
    cases hb : (noDst b i && (s0.t i).stay) with
    | false=>exact RenS.dead _ _ _
    | true=>
     rw [Bool.and_eq_true] at hb
     rw [ht i hc hb.1 hb.2]
     exact ren_stay hb.2
   | true=>
    simp only [if_true]
    -- the slot's own part of what was grabbed
    have hpart : ∀ (L : List Nat) (av : List Dy) (m0 : List (Nat × Nat)),grabL s0.t s'.t L = some (av,m0)→L.contains i = true→∃ a1 m1,grabS (lk (s0.t i)) (s'.t i) = some (a1,m1)∧∀ p ∈ m1,p ∈ m0:=by
     intro L
     induction L with
     | nil=>intro av m0 _ h; cases h
     | cons d L ih=>
      intro av m0 hgl hc
      unfold grabL at hgl
      split at hgl
      case h_2=>cases hgl
      rename_i a1 b1 h1
      split at hgl
      case h_2=>cases hgl
      rename_i a2 b2 h2
      cases hgl
      by_cases hd : i = d
      ·subst hd
       exact ⟨a1,b1,h1,fun p hp=>List.mem_append_left _ hp⟩
      ·have : L.contains i = true:=by
        rw [List.contains_cons] at hc
        have hne : (i == d) = false:=by simpa using hd
        rw [hne,Bool.false_or] at hc
        exact hc
       obtain ⟨a3,m3,h3,h4⟩:=ih a2 b2 h2 this
       exact ⟨a3,m3,h3,fun p hp=>List.mem_append_right _ (h4 p hp)⟩
    obtain ⟨a1,m1,h1,hm1⟩:=hpart L av m hgl hc
    generalize lk (s0.t i) = k at h1
    generalize s'.t i = y at h1
    unfold grabS at h1
    split at h1
    ·rename_i c
     split at h1
     case h_2=>cases h1
     rename_i z hz
     unfold canonS
     simp only [hz]
     have e:=dyC_v (r:=s'.r) (r':=canonR s'.r (piF m) Rh r0) hz
     show RenS _ _ (c.v s'.r) (z.cl.v (canonR s'.r (piF m) Rh r0))
     rw [e]
     exact ren_cl (r:=canonR s'.r (piF m) Rh r0) (r':=canonR s'.r (piF m) Rh r0) (c:=z.cl) rfl
    ·rename_i n l
     cases hb : Nat.beq l.length n with
     | false=>rw [hb] at h1; cases h1
     | true=>
      rw [hb] at h1
      simp only [cond_true] at h1
      split at h1
      case h_2=>cases h1
      rename_i z hz
      unfold canonS
      simp only [hz]
      have key : ∀ (l : List Cl) (z : List Dy),dyL l = some z→l.map (Cl.v s'.r) = (z.map Dy.cl).map (Cl.v (canonR s'.r (piF m) Rh r0)):=by
       intro l
       induction l with
       | nil=>intro z h; cases h; rfl
       | cons y l ih=>
        intro z h
        unfold dyL at h
        split at h
        case h_2=>cases h
        rename_i z1 hz1
        split at h
        case h_2=>cases h
        rename_i z2 hz2
        cases h
        simp only [List.map_cons]
        rw [dyC_v hz1,ih z2 hz2]
      show RenS _ _ (mkMany (l.map (Cl.v s'.r))) (mkMany ((z.map Dy.cl).map (Cl.v (canonR s'.r (piF m) Rh r0))))
      rw [key l z hz]
      refine ren_mk rfl fun k hk=>?_
      rw [getD_mapV (f:=Cl.v (canonR s'.r (piF m) Rh r0)) (a:=.dead) rfl]
      cases hx : (z.map Dy.cl)[k]? with
      | none=>simp only [List.getD_eq_getElem?_getD,hx]; exact .inl rfl
      | some x=>
       simp only [List.getD_eq_getElem?_getD,hx,Option.getD_some]
       obtain ⟨u,_,hu⟩:=List.mem_map.1 (List.mem_of_getElem? hx)
       rw [← hu]
       exact ren_cl (c:=u.cl) rfl
    ·rename_i id id'
     cases h1
     have hp:=List.all_eq_true.1 o5 (id,id') (hm1 _ (List.mem_singleton.2 rfl))
     rw [Bool.and_eq_true] at hp
     have hpi : piF m id = id':=Nat.eq_of_beq_eq_true hp.1
     have hid : id < s0.r.length:=Nat.le_of_ble_eq_true hp.2
     refine .inr ⟨id,hid,hpi,?_⟩
     show V.rs id [] 0 ((canonR s'.r (piF m) Rh r0).getD id .dead).len = V.rs id [] 0 (s'.r.getD id' .dead).len
     rw [(hgv id hid).2,hpi]
    ·rename_i id id'
     cases h1
     have hp:=List.all_eq_true.1 o5 (id,id') (hm1 _ (List.mem_singleton.2 rfl))
     rw [Bool.and_eq_true] at hp
     have hpi : piF m id = id':=Nat.eq_of_beq_eq_true hp.1
     have hid : id < s0.r.length:=Nat.le_of_ble_eq_true hp.2
     exact .inr ⟨id,hid,hpi,rfl⟩
    ·unfold canonS
     exact RenS.dead _ _ _
    ·cases h1
end Go.Ve

