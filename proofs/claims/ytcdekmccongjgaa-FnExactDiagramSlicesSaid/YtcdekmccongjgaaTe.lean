/- The typed machine: contracts of functions, calls. -/
import Derived.Test.YtcdekmccongjgaaTd
import Derived.Test.YtcdekmccongjgaaVr
namespace Go.Ve

def PT : List (Bool × Ty)→Ty
 | []=>.unit
 | [p]=>p.2
 | p :: q :: l=>.pair p.2 (PT (q :: l))
def vOf (b : Bool) (t : Ty) (d : Nat) (x : t.T) : V:=if b then mkMany (tyV t d x) else cV t d x
def argsV : (l : List (Bool × Ty))→(PT l).T→List V
 | [],_=>[]
 | [p],x=>[vOf p.1 p.2 0 x]
 | p :: q :: l,x=>vOf p.1 p.2 0 x.1 :: argsV (q :: l) x.2
def RT : List (Bool × Nat × Ty)→Ty
 | []=>.unit
 | [p]=>p.2.2
 | p :: q :: l=>.pair p.2.2 (RT (q :: l))
def ressV : (l : List (Bool × Nat × Ty))→(RT l).T→List V
 | [],_=>[]
 | [p],x=>[vOf p.1 p.2.2 p.2.1 x]
 | p :: q :: l,x=>vOf p.1 p.2.2 p.2.1 x.1 :: ressV (q :: l) x.2
def resTV (l : List (Bool × Nat × Ty)) (x : (RT l).T) : V:=packR (ressV l x)

def isP (p : Bool × Nat × Ty) : Bool:=!p.1 && match p.2.2 with
 | .ptr _=>true
 | _=>false
def vOfN (b : Bool) (p : Bool × Nat × Ty) (x : p.2.2.T) : V:=bif b || !isP p then vOf p.1 p.2.2 p.2.1 x else .c (.pointer none)
def ressN (b : Bool) : (l : List (Bool × Nat × Ty))→(RT l).T→List V
 | [],_=>[]
 | [p],x=>[vOfN b p x]
 | p :: q :: l,x=>vOfN b p x.1 :: ressN b (q :: l) x.2
theorem ressN_t : ∀ (l : List (Bool × Nat × Ty)) (x : (RT l).T),ressN true l x = ressV l x
 | [],_=>rfl
 | [_],_=>rfl
 | p :: q :: l,x=>congrArg (vOf p.1 p.2.2 p.2.1 x.1 :: ·) (ressN_t (q :: l) x.2)
def resTN (b : Bool) (l : List (Bool × Nat × Ty)) (x : (RT l).T) : V:=packR (ressN b l x)
theorem resTN_t (l : List (Bool × Nat × Ty)) (x : (RT l).T) : resTN true l x = resTV l x:=congrArg packR (ressN_t l x)

structure Sig where
 ps : List (Bool × Ty)
 rs : List (Bool × Nat × Ty)
def FT (P : Program) (f : FuncId) (S : Sig) (g : (PT S.ps).T→Option (RT S.rs).T) : Prop:=∀ x y,g x = some y→FC P f (argsV S.ps x) (resTV S.rs y)

structure En where
 f : FuncId
 S : Sig
 g : (PT S.ps).T→Option (RT S.rs).T
def look : List En→FuncId→Option En
 | [],_=>none
 | e :: l,f=>bif Nat.beq e.f f then some e else look l f
def En.OK (P : Program) (e : En) : Prop:=callable P e.f = true∧FT P e.f e.S e.g
def EnsOK (P : Program) (Γ : List En) : Prop:=∀ e ∈ Γ,e.OK P
theorem look_ok {P : Program} {f : FuncId} {e : En} : ∀ {Γ : List En},EnsOK P Γ→look Γ f = some e→e.OK P∧e.f = f
 | [],_,h=>by cases h
 | e' :: l,hΓ,h=>by
  unfold look at h
  cases hb : Nat.beq e'.f f with
  | true=>
   rw [hb] at h
   cases h
   exact ⟨hΓ _ (List.mem_cons_self ..),Nat.eq_of_beq_eq_true hb⟩
  | false=>
   rw [hb] at h
   exact look_ok (fun e he=>hΓ e (List.mem_cons_of_mem _ he)) h

theorem FC.sub {P : Program} {f : FuncId} {args args' : List V} {r : V} (h : FC P f args r) (hs : SubL args' args) : FC P f args' r:=by
 intro w D cvs hk hD hsz hr
 refine h w D cvs hk hD (by rw [hsz,hs.len]) fun i hi=>Rel.sub (hs.getD i) (hr i (by rw [hs.len]; exact hi))

def FTN (P : Program) (f : FuncId) (S : Sig) (g : (PT S.ps).T→Option (Bool × (RT S.rs).T)) : Prop:=∀ x b y,g x = some (b,y)→FC P f (argsV S.ps x) (resTN b S.rs y)
structure EnN where
 f : FuncId
 S : Sig
 g : (PT S.ps).T→Option (Bool × (RT S.rs).T)
def lookN' : List EnN→FuncId→Option EnN
 | [],_=>none
 | e :: l,f=>bif Nat.beq e.f f then some e else lookN' l f
def EnN.OK (P : Program) (e : EnN) : Prop:=callable P e.f = true∧FTN P e.f e.S e.g
theorem lookN_ok {P : Program} {f : FuncId} {e : EnN} : ∀ {Γ : List EnN},(∀ e ∈ Γ,e.OK P)→lookN' Γ f = some e→e.OK P∧e.f = f
 | [],_,h=>by cases h
 | e' :: l,hΓ,h=>by
  unfold lookN' at h
  cases hb : Nat.beq e'.f f with
  | true=>
   rw [hb] at h
   cases h
   exact ⟨hΓ _ (List.mem_cons_self ..),Nat.eq_of_beq_eq_true hb⟩
  | false=>
   rw [hb] at h
   exact lookN_ok (fun e he=>hΓ e (List.mem_cons_of_mem _ he)) h

def lendC (s : St) (w : Nat) : Cl→Option Cl
 | .c t _ x=>bif t.one then some (.c t 0 x) else none
 | .nil=>some .nil
 | .rf id p=>match nodeR s.r id p with
  | .arr _ t _ xs=>some (.c (.sl t) 0 xs)
  | _=>none
 | .rs id p off len=>match nodeR s.r id p with
  | .arr _ t _ xs=>some (.c (.sl t) 0 (subX off len xs t.dflt))
  | _=>none
 | .rp id p j k=>match nodeR s.r id p with
  | .obj _ l=>match j with
   | 0=>bif Nat.ble (k + w) l.length then (match flatD ((l.drop k).take w) with
    | some ⟨t,x⟩=>some (.c (.ptr t) 0 x)
    | none=>none) else none
   | _ + 1=>none
  | .arr _ t _ xs=>bif Nat.ble (k + w) t.w then (match flatD (((cellsC t 0 (getX xs j t.dflt)).drop k).take w) with
   | some ⟨t',x⟩=>some (.c (.ptr t') 0 x)
   | none=>none) else none
  | _=>none
 | _=>none

theorem frz_cV {t : Ty} (h : t.one = true) (d : Nat) (x : t.T) : frz (cV t d x) = cV t 0 x:=by
 have:=tyV_frz t d x
 rw [tyV_one h,tyV_one h] at this
 simpa using this
def Sub1 (v v' : V) : Prop:=Sub v v'∨∃ sz sz' n f,v = .nd false false sz n f∧sz'≤sz∧Sub (.nd false false sz' n f) v'
theorem Rel.trunc {D : Nat→Prop} {w : World} {R : V→Value→Prop} {sz sz' n : Nat} {f : Nat→Nat→V} {cv : Value} {fp : Nat→Prop} (h : Rel D w R (.nd false false sz n f) cv fp) (hs : sz'≤sz) : Rel D w R (.nd false false sz' n f) cv fp:=by
 rcases h with h | ⟨b,o,cap,F,hcv,hcap,hmax,hs1,hr,hi,ho⟩
 ·cases h.2.1
 have hn:=hs1 rfl
 subst hn
 refine .inr ⟨b,o,cap,F,hcv,hcap,hmax,hs1,fun i k hi hk=>?_,fun hh=>?_,fun h=>by cases h⟩
 ·obtain rfl : i = 0:=by omega
  obtain ⟨x,hx,hrx⟩:=hr 0 k (by omega) (by omega)
  exact ⟨x,by simpa using hx,hrx⟩
 ·obtain ⟨h1,h2,h3⟩:=hi hh
  exact ⟨fun h0=>h1 (by omega),fun i k x hi hk=>h2 i k x hi (by omega),h3⟩
theorem Rel.sub1 {D : Nat→Prop} {w : World} {R : V→Value→Prop} {v v' : V} {cv : Value} {fp : Nat→Prop} (he : Sub1 v v') (h : Rel D w R v cv fp) : Rel D w R v' cv fp:=by
 rcases he with he | ⟨sz,sz',n,f,rfl,hs,he⟩
 ·exact Rel.sub he h
 ·exact Rel.sub he (h.trunc hs)
def SubL1 : List V→List V→Prop
 | [],[]=>True
 | a :: l,b :: m=>Sub1 a b∧SubL1 l m
 | _,_=>False
theorem SubL1.len : ∀ {l m : List V},SubL1 l m→l.length = m.length
 | [],[],_=>rfl
 | _ :: _,_ :: _,h=>by simp [SubL1.len h.2]
 | [],_ :: _,h=>h.elim
 | _ :: _,[],h=>h.elim
theorem SubL1.getD : ∀ {l m : List V} (_ : SubL1 l m) (k : Nat),Sub1 (l.getD k .dead) (m.getD k .dead)
 | [],[],_,_=>.inl (Sub.refl _)
 | _ :: _,_ :: _,h,0=>h.1
 | _ :: _,_ :: _,h,k + 1=>SubL1.getD h.2 k
 | [],_ :: _,h,_=>h.elim
 | _ :: _,[],h,_=>h.elim
theorem FC.sub1 {P : Program} {f : FuncId} {args args' : List V} {r : V} (h : FC P f args r) (hs : SubL1 args' args) : FC P f args' r:=by
 intro w D cvs hk hD hsz hr
 refine h w D cvs hk hD (by rw [hsz,hs.len]) fun i hi=>Rel.sub1 (hs.getD i) (hr i (by rw [hs.len]; exact hi))

theorem frz_tyV0 {t : Ty} {x : t.T} {v : V} (h : v ∈ tyV t 0 x) : Go.Ve.frz v = v:=by
 obtain ⟨i,hi,rfl⟩:=List.getElem_of_mem h
 have e:=tyV_frz t 0 x
 have : ((tyV t 0 x).map frz)[i]'(by simpa using hi) = (tyV t 0 x)[i]:=by simp only [e]
 simpa using this
theorem lend_tyV0 {σ : List V} : ∀ (t : Ty) (x : t.T),∀ v ∈ tyV t 0 x,lend σ v = v
 | .int _,_,v,h=>by simp [tyV] at h; subst h; rfl
 | .bool,_,v,h=>by simp [tyV] at h; subst h; rfl
 | .str,_,v,h=>by simp [tyV] at h; subst h; rfl
 | .sl t,x,v,h=>by
  have e:=frz_tyV0 (t:=.sl t) (x:=x) h
  simp only [tyV,List.mem_singleton] at h
  subst h
  exact e
 | .ptr t,x,v,h=>by
  have e:=frz_tyV0 (t:=.ptr t) (x:=x) h
  simp only [tyV,List.mem_singleton] at h
  subst h
  exact e
 | .unit,_,v,h=>by simp [tyV] at h
 | .pair a b,x,v,h=>by
  simp only [tyV,List.mem_append] at h
  exact h.elim (lend_tyV0 a x.1 v) (lend_tyV0 b x.2 v)
 | .osl t,x,v,h=>by
  have e:=frz_tyV0 (t:=.osl t) (x:=x) h
  simp only [tyV,List.mem_singleton] at h
  subst h
  cases x with
  | none=>rfl
  | some xs=>exact e
 | .clo g t,x,v,h=>by
  simp only [tyV,List.mem_singleton] at h
  subst h
  show (if Tg.cl g = .bx then _ else V.many (.cl g) t.w fun k=>lend σ ((tyV t 0 x).getD k .dead)) = _
  rw [if_neg (by intro h; cases h)]
  congr 1
  funext k
  by_cases hk : k < (tyV t 0 x).length
  ·rw [List.getD_eq_getElem?_getD,List.getElem?_eq_getElem hk]
   exact lend_tyV0 t x _ (List.getElem_mem hk)
  ·rw [List.getD_eq_getElem?_getD,List.getElem?_eq_none (by omega)]; rfl
theorem lent_tyV0 : ∀ (t : Ty) (x : t.T),∀ v ∈ tyV t 0 x,lentAny v = false
 | .int _,_,v,h=>by simp [tyV] at h; subst h; rfl
 | .bool,_,v,h=>by simp [tyV] at h; subst h; rfl
 | .str,_,v,h=>by simp [tyV] at h; subst h; rfl
 | .sl _,_,v,h=>by simp only [tyV,List.mem_singleton] at h; subst h; rfl
 | .ptr _,_,v,h=>by simp only [tyV,List.mem_singleton] at h; subst h; rfl
 | .unit,_,v,h=>by simp [tyV] at h
 | .pair a b,x,v,h=>by
  simp only [tyV,List.mem_append] at h
  exact h.elim (lent_tyV0 a x.1 v) (lent_tyV0 b x.2 v)
 | .osl t,x,v,h=>by
  simp only [tyV,List.mem_singleton] at h
  subst h
  cases x <;> rfl
 | .clo g t,x,v,h=>by
  simp only [tyV,List.mem_singleton] at h
  subst h
  show ((List.range t.w).any fun k=>lentAny ((tyV t 0 x).getD k .dead)) = false
  rw [List.any_eq_false]
  intro k hk
  have hk : k < (tyV t 0 x).length:=by rw [tyV_len]; exact List.mem_range.1 hk
  rw [List.getD_eq_getElem?_getD,List.getElem?_eq_getElem hk]
  simp [lent_tyV0 t x _ (List.getElem_mem hk)]
theorem lend_clo {σ : List V} {g : Nat} {u : Ty} {d : Nat} {x : u.T} : lend σ (cV (.clo g u) d x) = Go.Ve.frz (cV (.clo g u) d x):=by
 have hm : cV (.clo g u) d x ∈ tyV (.clo g u) 0 x:=List.mem_singleton.2 rfl
 rw [lend_tyV0 _ _ _ hm,frz_tyV0 hm]
theorem lendC_v {s : St} {w : Nat} {y y' : Cl} (h : lendC s w y = some y') : Sub1 (lend (s.r.map Root.v) (y.v s.r)) y'.v0∧y'.v0 = y'.v s.r∧((∀ id p i k,y≠.rp id p i k)→Sub (lend (s.r.map Root.v) (y.v s.r)) y'.v0):=by
 have both : ∀ {v v' : V},Sub v v'→Sub1 v v'∧((∀ id p i k,y≠.rp id p i k)→Sub v v'):=fun h=>⟨.inl h,fun _=>h⟩
 unfold lendC at h
 split at h
 ·rename_i t d x
  cases ho : t.one with
  | false=>rw [ho] at h; cases h
  | true=>
   rw [ho] at h
   cases h
   have : Sub (lend (s.r.map Root.v) (cV t d x)) (cV t 0 x):=by
    rw [← frz_cV ho d x]
    cases t <;> first | exact Sub.refl _ | (cases ho; done) | (cases x <;> exact Sub.refl _) | exact Sub.of_eq lend_clo
   exact ⟨(both this).1,rfl,(both this).2⟩
 ·cases h; exact ⟨(both (Sub.refl _)).1,rfl,(both (Sub.refl _)).2⟩
 ·rename_i id p
  split at h
  case h_2=>cases h
  rename_i ro t d xs hn
  cases h
  have hne : nodeR s.r id p≠.dead:=by rw [hn]; simp
  have : Sub (lend (s.r.map Root.v) (V.rs id p 0 (nodeR s.r id p).len)) (cV (.sl t) 0 xs):=by
   rw [lend_rs,sub_nodeR hne,hn]
   show Sub (lendS (arr true t.w (tyV t d) t.dflt xs) 0 xs.length) _
   rw [lendS_arr rfl]
   have e : (fun a=>(tyV t d a).map frz) = tyV t 0:=funext fun x=>tyV_frz t d x
   rw [e]
   exact Sub.refl _
  exact ⟨(both this).1,rfl,(both this).2⟩
 ·rename_i id p off len
  split at h
  case h_2=>cases h
  rename_i ro t d xs hn
  cases h
  have hne : nodeR s.r id p≠.dead:=by rw [hn]; simp
  have : Sub (lend (s.r.map Root.v) (V.rs id p off len)) (cV (.sl t) 0 (subX off len xs t.dflt)):=by
   rw [lend_rs,sub_nodeR hne,hn]
   show Sub (lendS (arr true t.w (tyV t d) t.dflt xs) off len) (arr false t.w (tyV t 0) t.dflt (subX off len xs t.dflt))
   unfold arr
   have hl : (subX off len xs t.dflt).length = len:=by simp [subX]
   rw [hl]
   refine ⟨_,rfl,fun i k hi hk=>Sub.of_eq ?_⟩
   have hg : (subX off len xs t.dflt).getD i t.dflt = xs.getD (off + i) t.dflt:=by simp [subX,hi]
   rw [hg,← tyV_frz t d]
   exact (getD_mapV (f:=frz) (a:=.dead) rfl (tyV t d (xs.getD (off + i) t.dflt)) k).symm
  exact ⟨(both this).1,rfl,(both this).2⟩
 ·rename_i id p j k
  split at h
  ·rename_i ro l hn
   have hne : nodeR s.r id p≠.dead:=by rw [hn]; simp
   split at h
   case h_2=>cases h
   cases hb : Nat.ble (k + w) l.length with
   | false=>rw [hb] at h; cases h
   | true=>
    rw [hb] at h
    have hb:=Nat.le_of_ble_eq_true hb
    simp only [cond_true] at h
    split at h
    case h_2=>cases h
    rename_i t x hf
    cases h
    refine ⟨.inr ⟨l.length - k,w,1,fun i' k'=>([((l.drop k).map Cl.v0).map frz].getD i' []).getD k' .dead,?_,by omega,?_⟩,rfl,fun h=>absurd rfl (h _ _ _ _)⟩
    ·show lend (s.r.map Root.v) (V.rp id p 0 k) = _
     rw [lend_rp,sub_nodeR hne,hn]
     show lendP (objL true (l.map Cl.v0)) 0 k = _
     rw [lendP_objL]
     unfold objL
     simp only [List.map_drop,List.length_drop,List.length_map]
    ·show Sub _ (objL false (tyV t 0 x))
     have e:=flatD_v _ _ hf
     unfold objL
     have hl : (tyV t 0 x).length = w:=by rw [e]; simp; omega
     rw [hl]
     refine ⟨_,rfl,fun i' k' hi hk=>?_⟩
     obtain rfl : i' = 0:=by omega
     refine Sub.of_eq ?_
     show (((l.drop k).map Cl.v0).map frz).getD k' .dead = (tyV t 0 x).getD k' .dead
     rw [e]
     simp [List.getElem?_take,hk]
  ·rename_i ro t d xs hn
   have hne : nodeR s.r id p≠.dead:=by rw [hn]; simp
   cases hb : Nat.ble (k + w) t.w with
   | false=>rw [hb] at h; cases h
   | true=>
    rw [hb] at h
    have hb:=Nat.le_of_ble_eq_true hb
    simp only [cond_true] at h
    split at h
    case h_2=>cases h
    rename_i t' x hd
    cases h
    refine ⟨.inr ⟨t.w - k,w,1,fun i' j'=>if i' = 0 then frz ((tyV t d (xs.getD j t.dflt)).getD (k + j') .dead) else .dead,?_,by omega,?_⟩,rfl,fun h=>absurd rfl (h _ _ _ _)⟩
    ·show lend (s.r.map Root.v) (V.rp id p j k) = _
     rw [lend_rp,sub_nodeR hne,hn]
     rfl
    ·show Sub _ (objL false (tyV t' 0 x))
     have e:=flatD_v _ _ hd
     rw [List.map_take,List.map_drop,cellsC_v,List.map_take,List.map_drop,tyV_frz] at e
     unfold objL
     have hl : (tyV t' 0 x).length = w:=by rw [e]; simp [tyV_len]; omega
     rw [hl]
     refine ⟨_,rfl,fun i' k' hi hk=>?_⟩
     obtain rfl : i' = 0:=by omega
     refine Sub.of_eq ?_
     simp only [if_true]
     show _ = (tyV t' 0 x).getD k' .dead
     rw [e,← tyV_frz t d]
     have:=getD_mapV (f:=frz) (a:=.dead) rfl (tyV t d (xs.getD j t.dflt)) (k + k')
     rw [← this]
     simp only [List.getD_eq_getElem?_getD,List.getElem?_take,hk,if_true,List.getElem?_drop]
  ·cases h
 ·cases h

def lendL (s : St) : List Cl→Option (List Cl)
 | []=>some []
 | y :: l=>match (match y with
   | .rp _ _ _ _=>none
   | y=>lendC s 0 y) with
  | some y'=>match lendL s l with
   | some l'=>some (y' :: l')
   | none=>none
  | none=>none
theorem lendL_v {s : St} : ∀ {l l' : List Cl},lendL s l = some l'→SubL ((l.map (Cl.v s.r)).map (lend (s.r.map Root.v))) (l'.map (Cl.v s.r))
 | [],l',h=>by cases h; trivial
 | y :: l,l',h=>by
  unfold lendL at h
  split at h
  case h_2=>cases h
  rename_i y' hy
  split at h
  case h_2=>cases h
  rename_i m hm
  cases h
  have hne : ∀ id p i k,y≠.rp id p i k:=by rintro id p i k rfl; cases hy
  have hy : lendC s 0 y = some y':=by
   cases y with
   | rp id p i k=>exact absurd rfl (hne _ _ _ _)
   | _=>exact hy
  obtain ⟨_,h2,h1⟩:=lendC_v hy
  exact ⟨by rw [← h2]; exact h1 hne,lendL_v hm⟩
def lendF (s : St) : Cl→Option Cl
 | .rp id p i k=>match i,k with
  | 0,0=>match nodeR s.r id p with
   | .obj _ l=>match flatD l with
    | some ⟨t,x⟩=>some (.c (.ptr t) 0 x)
    | none=>none
   | _=>none
  | _,_=>none
 | y=>lendC s 0 y
theorem lendF_v {s : St} {y y' : Cl} (h : lendF s y = some y') : Sub (lend (s.r.map Root.v) (y.v s.r)) y'.v0∧y'.v0 = y'.v s.r:=by
 by_cases hc : ∃ id p i k,y = .rp id p i k
 ·obtain ⟨id,p,i,k,rfl⟩:=hc
  unfold lendF at h
  simp only at h
  split at h
  case h_2=>cases h
  split at h
  case h_2=>cases h
  rename_i ro l hn
  split at h
  case h_2=>cases h
  rename_i t x hf
  cases h
  have hne : nodeR s.r id p≠.dead:=by rw [hn]; simp
  refine ⟨?_,rfl⟩
  show Sub (lend (s.r.map Root.v) (V.rp id p 0 0)) (objL false (tyV t 0 x))
  rw [lend_rp,sub_nodeR hne,hn]
  show Sub (lendP (objL true (l.map Cl.v0)) 0 0) _
  rw [lendP_objL,flatD_v _ _ hf]
  exact Sub.refl _
 ·have hne : ∀ id p i k,y≠.rp id p i k:=fun id p i k e=>hc ⟨id,p,i,k,e⟩
  have h : lendC s 0 y = some y':=by
   cases y with
   | rp id p i k=>exact absurd rfl (hne _ _ _ _)
   | _=>exact h
  obtain ⟨_,h2,h1⟩:=lendC_v h
  exact ⟨h1 hne,h2⟩
def lendFL (s : St) : List Cl→Option (List Cl)
 | []=>some []
 | y :: l=>match lendF s y with
  | some y'=>match lendFL s l with
   | some l'=>some (y' :: l')
   | none=>none
  | none=>none
theorem lendFL_v {s : St} : ∀ {l l' : List Cl},lendFL s l = some l'→SubL ((l.map (Cl.v s.r)).map (lend (s.r.map Root.v))) (l'.map (Cl.v s.r))
 | [],l',h=>by cases h; trivial
 | y :: l,l',h=>by
  unfold lendFL at h
  split at h
  case h_2=>cases h
  rename_i y' hy
  split at h
  case h_2=>cases h
  rename_i m hm
  cases h
  obtain ⟨h1,h2⟩:=lendF_v hy
  exact ⟨by rw [← h2]; exact h1,lendFL_v hm⟩
theorem SubL.pk {t : Tg} {l m : List V} (h : SubL l m) : Sub (pkL t l) (pkL t m):=by
 unfold pkL
 rw [h.len]
 exact ⟨_,rfl,fun k _=>h.getD k⟩
def tArg (s : St) (b : Bool) (t : Ty) : Option Sl→Option t.T
 | some (.one y)=>bif b then none else bif t.one then (match lendC s (match t with
   | .ptr u=>u.w
   | _=>0) y with
  | some y'=>pack1 t 0 y'
  | none=>none) else none
 | some (.agg l)=>bif b then (match lendL s l with
  | some l'=>packAll t 0 l'
  | none=>none) else none
 | some (.pk .bx l)=>bif b then none else (match t with
  | .ptr u=>(match lendL s l with
   | some l'=>packAll u 0 l'
   | none=>none)
  | _=>none)
 | some (.pk (.cl g) l)=>bif b then none else (match t with
  | .clo g' u=>bif Nat.beq g g' then (match lendFL s l with
   | some l'=>packAll u 0 l'
   | none=>none) else none
  | _=>none)
 | _=>none
theorem SubL.trans : ∀ {a b c : List V},SubL a b→SubL b c→SubL a c:=by
 intro a
 induction a with
 | nil=>intro b c h1 h2; cases b <;> first | exact h2 | exact h1.elim
 | cons v a ih=>intro b c h1 h2; cases b with
  | nil=>exact h1.elim
  | cons w b=>cases c with
   | nil=>exact h2.elim
   | cons u c=>exact ⟨h1.1.trans h2.1,ih h1.2 h2.2⟩
theorem tArg_v {s : St} {b : Bool} {t : Ty} {x : Operand} {z : t.T} (h : tArg s b t (s.ev x) = some z) : Sub1 (lend (s.r.map Root.v) (s.den.ev x)) (vOf b t 0 z):=by
 unfold tArg at h
 split at h
 case h_5=>cases h
 ·rename_i y hy
  cases b with
  | true=>cases h
  | false=>
   cases ho : t.one with
   | false=>rw [ho] at h; cases h
   | true=>
    rw [ho] at h
    simp only [cond_false,cond_true] at h
    split at h
    case h_2=>cases h
    rename_i y' hl
    obtain ⟨h1,h2,_⟩:=lendC_v hl
    obtain ⟨g1,g2⟩:=pack1_v h s.r
    rw [ev_v hy]
    have g1 : Sub y'.v0 (vOf false t 0 z):=h2 ▸ g1
    rcases h1 with h1 | ⟨sz,sz',n,f,e1,e2,e3⟩
    ·exact .inl (h1.trans g1)
    ·exact .inr ⟨sz,sz',n,f,e1,e2,e3.trans g1⟩
 ·rename_i l hy
  cases b with
  | false=>cases h
  | true=>
   simp only [cond_true] at h
   split at h
   case h_2=>cases h
   rename_i l' hl
   rw [ev_v hy]
   left
   show Sub (lend _ (mkMany _)) (mkMany _)
   rw [lend_mk]
   refine SubL.mk ?_
   have h1:=lendL_v hl
   have h2:=(packAll_v h s.r).1
   exact SubL.trans h1 h2
 ·rename_i l hy
  cases b with
  | true=>cases h
  | false=>
   simp only [cond_false] at h
   split at h
   case h_2=>cases h
   rename_i u
   split at h
   case h_2=>cases h
   rename_i l' hl
   rw [ev_v hy]
   left
   show Sub (lend _ (boxL _)) (objL false (tyV u 0 z))
   rw [lend_box]
   exact SubL.obj (SubL.trans (lendL_v hl) (packAll_v h s.r).1)
 ·rename_i g l hy
  cases b with
  | true=>cases h
  | false=>
   simp only [cond_false] at h
   split at h
   case h_2=>cases h
   rename_i g' u
   cases hb : Nat.beq g g' with
   | false=>rw [hb] at h; cases h
   | true=>
    rw [hb] at h
    simp only [cond_true] at h
    have hg:=Nat.eq_of_beq_eq_true hb
    subst hg
    split at h
    case h_2=>cases h
    rename_i l' hl
    rw [ev_v hy]
    left
    have e : V.many (.cl g) u.w (fun k=>(tyV u 0 z).getD k .dead) = pkL (.cl g) (tyV u 0 z):=by
     unfold pkL
     rw [tyV_len]
    show Sub (lend _ (pkL (.cl g) _)) (V.many (.cl g) u.w fun k=>(tyV u 0 z).getD k .dead)
    rw [e,lend_cl]
    exact SubL.pk (SubL.trans (lendFL_v hl) (packAll_v h s.r).1)
def tArgs (s : St) : (l : List (Bool × Ty))→List (Option Sl)→Option (PT l).T
 | [],[]=>some ()
 | [p],[y]=>tArg s p.1 p.2 y
 | p :: q :: l,y :: ys=>match tArg s p.1 p.2 y with
  | some z=>match tArgs s (q :: l) ys with
   | some zs=>some (z,zs)
   | none=>none
  | none=>none
 | _,_=>none
def resC (b : Bool) (d : Nat) (t : Ty) (x : t.T) : Bool × List Cl:=(b,cellsC t d x)
def resCN (b : Bool) (p : Bool × Nat × Ty) (x : p.2.2.T) : Bool × List Cl:=bif b || !isP p then resC p.1 p.2.1 p.2.2 x else (false,[.nilp])
def resL (b : Bool) : (l : List (Bool × Nat × Ty))→(RT l).T→List (Bool × List Cl)
 | [],_=>[]
 | [p],x=>[resCN b p x]
 | p :: q :: l,x=>resCN b p x.1 :: resL b (q :: l) x.2
def resS (b : Bool) (l : List (Bool × Nat × Ty)) (x : (RT l).T) : Sl:=match resL b l x with
 | [(true,cs)]=>.agg cs
 | [(false,cs)]=>.one (cs.getD 0 .dead)
 | m=>.tup m
theorem res_one {r : List Root} (b : Bool) (d : Nat) (t : Ty) (x : t.T) (h : b = true∨t.one = true) : (if b then mkMany ((cellsC t d x).map (Cl.v r)) else ((cellsC t d x).map (Cl.v r)).getD 0 .dead) = vOf b t d x:=by
 rw [Cl.v_c]
 cases b with
 | true=>rfl
 | false=>
  rcases h with h | h
  ·cases h
  ·show (tyV t d x).getD 0 .dead = cV t d x
   rw [tyV_one h]; rfl
def resOK : List (Bool × Nat × Ty)→Bool
 | []=>true
 | p :: l=>(p.1 || p.2.2.one) && resOK l
theorem resN_one {r : List Root} (b : Bool) (p : Bool × Nat × Ty) (x : p.2.2.T) (h : p.1 = true∨p.2.2.one = true) : (if (resCN b p x).1 then mkMany ((resCN b p x).2.map (Cl.v r)) else ((resCN b p x).2.map (Cl.v r)).getD 0 .dead) = vOfN b p x:=by
 unfold resCN vOfN
 cases b || !isP p with
 | true=>exact res_one (r:=r) p.1 p.2.1 p.2.2 x h
 | false=>rfl
theorem resL_v {r : List Root} (b : Bool) : ∀ (l : List (Bool × Nat × Ty)) (x : (RT l).T),resOK l = true→(resL b l x).map (fun p=>if p.1 then mkMany (p.2.map (Cl.v r)) else (p.2.map (Cl.v r)).getD 0 .dead) = ressN b l x
 | [],x,_=>rfl
 | [p],x,h=>by
  simp only [resOK,Bool.and_eq_true,Bool.or_eq_true] at h
  show [_] = [vOfN _ _ _]
  rw [← resN_one (r:=r) b p x h.1]
  first | done | rfl
 | p :: q :: l,x,h=>by
  have h' : ((p.1 || p.2.2.one) && resOK (q :: l)) = true:=h
  simp only [Bool.and_eq_true,Bool.or_eq_true] at h'
  show _ :: (resL b (q :: l) x.2).map _ = vOfN _ _ _ :: _
  rw [resL_v b (q :: l) x.2 h'.2,← resN_one (r:=r) b p x.1 h'.1]
  first | done | rfl
theorem resS_v {r : List Root} (b : Bool) (l : List (Bool × Nat × Ty)) (x : (RT l).T) (h : resOK l = true) : (resS b l x).v r = resTN b l x:=by
 have e:=resL_v (r:=r) b l x h
 unfold resTN
 rw [← e]
 unfold resS
 split
 ·rename_i cs hc
  rw [hc]; rfl
 ·rename_i cs hc
  rw [hc]
  show (cs.getD 0 .dead).v r = (cs.map (Cl.v r)).getD 0 .dead
  rw [getD_mapV (f:=Cl.v r) (a:=.dead) rfl]
 ·rename_i m h1 h2
  generalize resL b l x = m at *
  show tupV _ = packR _
  match m,h1,h2 with
  | [],_,_=>rfl
  | [(true,cs)],h1,_=>exact absurd rfl (h1 cs)
  | [(false,cs)],_,h2=>exact absurd rfl (h2 cs)
  | a :: b :: m,_,_=>rfl

def Ty.noFn : Ty→Bool
 | .clo _ _=>false
 | .osl _=>false
 | .sl t=>t.noFn
 | .ptr t=>t.noFn
 | .pair a b=>a.noFn && b.noFn
 | _=>true
theorem ownOnly_tyV : ∀ (t : Ty) (d : Nat) (x : t.T),t.dep≤d→t.noFn = true→∀ v ∈ tyV t d x,ownOnly v
 | .int _,_,_,_,_,v,h=>by simp only [tyV,List.mem_singleton] at h; subst h; trivial
 | .bool,_,_,_,_,v,h=>by simp only [tyV,List.mem_singleton] at h; subst h; trivial
 | .str,_,_,_,_,v,h=>by simp only [tyV,List.mem_singleton] at h; subst h; trivial
 | .unit,_,_,_,_,v,h=>by cases h
 | .clo _ _,_,_,_,hf,_,_=>by cases hf
 | .osl _,_,_,_,hf,_,_=>by cases hf
 | .sl t,d,xs,hd,hf,v,h=>by
  simp only [Ty.dep] at hd
  simp only [tyV,List.mem_singleton] at h
  subst h
  refine ⟨decide_eq_true (by omega),fun i k _ hk=>?_⟩
  exact ownOnly_tyV t (d - 1) _ (by omega) hf _ (getD_mem (by rw [tyV_len]; exact hk))
 | .ptr t,d,x,hd,hf,v,h=>by
  simp only [Ty.dep] at hd
  simp only [tyV,List.mem_singleton] at h
  subst h
  refine ⟨decide_eq_true (by omega),fun i k hi hk=>?_⟩
  obtain rfl : i = 0:=by omega
  exact ownOnly_tyV t (d - 1) _ (by omega) hf _ (getD_mem hk)
 | .pair a b,d,x,hd,hf,v,h=>by
  simp only [Ty.noFn,Bool.and_eq_true] at hf
  simp only [Ty.dep] at hd
  rcases List.mem_append.1 h with h | h
  ·exact ownOnly_tyV a d _ (by omega) hf.1 v h
  ·exact ownOnly_tyV b d _ (by omega) hf.2 v h
def resOwn : List (Bool × Nat × Ty)→Bool
 | []=>true
 | p :: l=>Nat.ble p.2.2.dep p.2.1 && p.2.2.noFn && (p.1 || p.2.2.one) && resOwn l
theorem ownOnly_vOf (b : Bool) (d : Nat) (t : Ty) (x : t.T) (h : t.dep≤d) (hf : t.noFn = true) (h2 : b = true∨t.one = true) : ownOnly (vOf b t d x):=by
 cases b with
 | true=>
  show ownOnly (mkMany _)
  rw [ownOnly_mk]
  exact ownOnly_tyV t d x h hf
 | false=>
  rcases h2 with h2 | h2
  ·cases h2
  ·exact ownOnly_tyV t d x h hf _ (by rw [tyV_one h2]; exact List.mem_singleton.2 rfl)
theorem ownOnly_vOfN (b : Bool) (p : Bool × Nat × Ty) (x : p.2.2.T) (h : p.2.2.dep≤p.2.1) (hf : p.2.2.noFn = true) (h2 : p.1 = true∨p.2.2.one = true) : ownOnly (vOfN b p x):=by
 unfold vOfN
 cases b || !isP p with
 | true=>exact ownOnly_vOf _ _ _ _ h hf h2
 | false=>trivial
theorem ownOnly_ress (b : Bool) : ∀ (l : List (Bool × Nat × Ty)) (x : (RT l).T),resOwn l = true→∀ v ∈ ressN b l x,ownOnly v
 | [],_,_,v,h=>by cases h
 | [p],x,hr,v,h=>by
  simp only [resOwn,Bool.and_eq_true,Bool.or_eq_true] at hr
  rw [List.mem_singleton.1 h]
  exact ownOnly_vOfN b p x (Nat.le_of_ble_eq_true hr.1.1.1) hr.1.1.2 hr.1.2
 | p :: q :: l,x,hr,v,h=>by
  have hr' : (Nat.ble p.2.2.dep p.2.1 && p.2.2.noFn && (p.1 || p.2.2.one) && resOwn (q :: l)) = true:=hr
  simp only [Bool.and_eq_true,Bool.or_eq_true] at hr'
  rcases List.mem_cons.1 h with rfl | h
  ·exact ownOnly_vOfN b p x.1 (Nat.le_of_ble_eq_true hr'.1.1.1) hr'.1.1.2 hr'.1.2
  ·exact ownOnly_ress b (q :: l) x.2 hr'.2 v h
theorem ownOnly_resTN (b : Bool) (l : List (Bool × Nat × Ty)) (x : (RT l).T) (h : resOwn l = true) : ownOnly (resTN b l x):=by
 have:=ownOnly_ress b l x h
 unfold resTN packR
 split
 ·rename_i v hv
  exact this v (by rw [hv]; exact List.mem_singleton.2 rfl)
 ·have h2:=this
  rw [← ownOnly_tup] at h2
  exact h2

def Cl.lent : Cl→Bool
 | .rf _ _=>true
 | .rs _ _ _ _=>true
 | .rp _ _ _ _=>true
 | y=>y.own
def Sl.lent : Sl→Bool
 | .one c=>c.lent
 | .agg l=>l.any Cl.lent
 | .pk _ l=>l.any Cl.lent
 | _=>true
def noLent (xs : List (Option Sl)) : Bool:=xs.all fun x=>match x with
 | some y=>!y.lent
 | none=>false
theorem Cl.lent_v {r : List Root} (c : Cl) : c.lent = false→lentAny (c.v r) = false:=by
 intro h
 cases c with
 | c t d x=>
  have h : (Cl.c t d x).own = false:=h
  cases t <;> cases d <;> first | rfl | (cases h; done) | (cases x <;> first | rfl | (cases h; done)) | exact lent_tyV0 (.clo _ _) x _ (List.mem_singleton.2 rfl)
 | rf=>cases h
 | rs=>cases h
 | rp=>cases h
 | _=>rfl
theorem many_lent {r : List Root} (tg : Tg) (l : List Cl) (h : l.any Cl.lent = false) : lentAny (.many tg (l.map (Cl.v r)).length fun k=>(l.map (Cl.v r)).getD k .dead) = false:=by
 show ((List.range _).any fun k=>lentAny ((l.map (Cl.v r)).getD k .dead)) = false
 rw [List.any_eq_false]
 intro k hk
 have hk : k < l.length:=by simpa using hk
 rw [getD_mapV (f:=Cl.v r) (a:=.dead) rfl]
 have : (l.getD k .dead).lent = false:=by
  have:=List.any_eq_false.1 h (l.getD k .dead) (by simp [List.getD_eq_getElem?_getD,hk])
  simpa using this
 rw [Cl.lent_v _ this]; simp
theorem noLent_v {s : St} {xs : List Operand} (h : noLent (xs.map s.ev) = true) : (xs.map s.den.ev).any lentAny = false:=by
 rw [List.any_eq_false]
 intro v hv
 obtain ⟨x,hx,rfl⟩:=List.mem_map.1 hv
 have h1:=List.all_eq_true.1 h (s.ev x) (List.mem_map.2 ⟨x,hx,rfl⟩)
 cases hy : s.ev x with
 | none=>rw [hy] at h1; cases h1
 | some y=>
  rw [hy] at h1
  have h1 : y.lent = false:=by simpa using h1
  rw [ev_v hy]
  have : lentAny (y.v s.r) = false:=by
   cases y with
   | one c=>exact Cl.lent_v c h1
   | agg l=>exact many_lent .ag l h1
   | pk t l=>exact many_lent t l h1
   | new l=>cases h1
   | tup l=>cases h1
  rw [this]; simp

def openO (s : St) : Option Sl→Option Sl
 | some (.one (.rf id p))=>match nodeR s.r id p with
  | .opt _ u _ x=>some (.one (.c (.sl u) 0 (getO x)))
  | _=>some (.one (.rf id p))
 | y=>y
def condO (s : St) : Option Sl→List Bool
 | some (.one (.rf id p))=>match nodeR s.r id p with
  | .opt _ _ _ x=>[isO x]
  | _=>[]
 | _=>[]
def condsO (s : St) : List (Option Sl)→List Bool
 | []=>[]
 | y :: l=>condO s y ++ condsO s l
def gate {α : Type} : List Bool→Option α→Option α
 | [],o=>o
 | b :: l,o=>bcond b (gate l o) none
structure CallR where
 α : Type
 o : Option α
 y : α→Sl
structure CallN where
 α : Type
 o : Option (Bool × α)
 y : Bool→α→Sl
def tCall (Γ : List En) (s : St) (f : FuncId) (xs : List (Option Sl)) : Option CallR:=
 match look Γ f with
 | some e=>bif resOwn e.S.rs || (resOK e.S.rs && noLent xs) then (match tArgs s e.S.ps (xs.map (openO s)) with
  | some z=>some ⟨(RT e.S.rs).T,gate (condsO s xs) (e.g z),fun y=>resS true e.S.rs y⟩
  | none=>none) else none
 | none=>none
def tCallN (Γ : List EnN) (s : St) (f : FuncId) (xs : List (Option Sl)) : Option CallN:=
 match lookN' Γ f with
 | some e=>bif resOwn e.S.rs || (resOK e.S.rs && noLent xs) then (match tArgs s e.S.ps (xs.map (openO s)) with
  | some z=>some ⟨(RT e.S.rs).T,gate (condsO s xs) (e.g z),fun b y=>resS b e.S.rs y⟩
  | none=>none) else none
 | none=>none
theorem resOK_own : ∀ {l : List (Bool × Nat × Ty)},resOwn l = true→resOK l = true
 | [],_=>rfl
 | p :: l,h=>by
  simp only [resOwn,Bool.and_eq_true] at h
  simp only [resOK,Bool.and_eq_true]
  exact ⟨h.1.2,resOK_own h.2⟩
theorem lendC_r {t1 t2 : Nat→Sl} {r : List Root} {w : Nat} {y : Cl} : lendC ⟨t1,r⟩ w y = lendC ⟨t2,r⟩ w y:=by cases y <;> rfl
theorem lendL_r {t1 t2 : Nat→Sl} {r : List Root} : ∀ l : List Cl,lendL ⟨t1,r⟩ l = lendL ⟨t2,r⟩ l
 | []=>rfl
 | y :: l=>by
  unfold lendL
  rw [lendL_r (t1:=t1) (t2:=t2) l]
  cases y <;> rfl
theorem lendF_r {t1 t2 : Nat→Sl} {r : List Root} {y : Cl} : lendF ⟨t1,r⟩ y = lendF ⟨t2,r⟩ y:=by
 cases y with
 | rp id p i k=>cases i <;> cases k <;> rfl
 | _=>rfl
theorem lendFL_r {t1 t2 : Nat→Sl} {r : List Root} : ∀ l : List Cl,lendFL ⟨t1,r⟩ l = lendFL ⟨t2,r⟩ l
 | []=>rfl
 | y :: l=>by
  unfold lendFL
  rw [lendFL_r (t1:=t1) (t2:=t2) l,lendF_r (t1:=t1) (t2:=t2)]
theorem tArg_r {t1 t2 : Nat→Sl} {r : List Root} {b : Bool} {t : Ty} {o : Option Sl} : tArg ⟨t1,r⟩ b t o = tArg ⟨t2,r⟩ b t o:=by
 cases o with
 | none=>rfl
 | some y=>
  cases y with
  | one y=>unfold tArg; simp only [lendC_r (t1:=t1) (t2:=t2)]
  | agg l=>unfold tArg; simp only [lendL_r (t1:=t1) (t2:=t2)]
  | pk t l=>cases t <;> first | rfl | (unfold tArg; simp only [lendFL_r (t1:=t1) (t2:=t2)]; done) | (unfold tArg; simp only [lendL_r (t1:=t1) (t2:=t2)]; done)
  | _=>rfl
theorem tArg_y {s : St} {b : Bool} {t : Ty} {y : Sl} {z : t.T} (h : tArg s b t (some y) = some z) : Sub1 (lend (s.r.map Root.v) (y.v s.r)) (vOf b t 0 z):=
 tArg_v (s:=⟨fun _=>y,s.r⟩) (x:=.tmp 0) (by
  have : tArg ⟨fun _=>y,s.r⟩ b t (some y) = some z:=by rw [← h]; exact tArg_r
  exact this)
theorem gate_some {α : Type} {u : α} : ∀ {l : List Bool} {o : Option α},gate l o = some u→o = some u∧∀ b ∈ l,b = true
 | [],_,h=>⟨h,fun _ h=>by cases h⟩
 | b :: l,o,h=>by
  unfold gate at h
  cases b with
  | false=>cases h
  | true=>
   obtain ⟨h1,h2⟩:=gate_some (l:=l) (o:=o) h
   exact ⟨h1,fun c hc=>(List.mem_cons.1 hc).elim id (h2 c)⟩
theorem openO_v {s : St} {b : Bool} {t : Ty} {x : Operand} {z : t.T} (h : tArg s b t (openO s (s.ev x)) = some z) (hc : ∀ c ∈ condO s (s.ev x),c = true) : Sub1 (lend (s.r.map Root.v) (s.den.ev x)) (vOf b t 0 z):=by
 cases hx : s.ev x with
 | none=>rw [hx] at h; exact tArg_v (by rw [hx]; exact h)
 | some y=>
  by_cases hy : ∃ id p ro u d v,y = .one (.rf id p)∧nodeR s.r id p = .opt ro u d v
  ·obtain ⟨id,p,ro,u,d,v,rfl,hn⟩:=hy
   rw [hx] at h hc
   simp only [openO,condO,hn] at h hc
   have hv : isO v = true:=hc _ (List.mem_singleton.2 rfl)
   cases v with
   | none=>cases hv
   | some ys=>
    have h2:=tArg_y h
    have e1 : lend (s.r.map Root.v) ((Sl.one (.c (.sl u) 0 ys)).v s.r) = cV (.sl u) 0 ys:=lend_tyV0 (.sl u) ys _ (List.mem_singleton.2 rfl)
    have e1' : lend (s.r.map Root.v) ((Sl.one (.c (.sl u) 0 (getO (some ys)))).v s.r) = cV (.sl u) 0 ys:=e1
    rw [e1'] at h2
    have e2 : lend (s.r.map Root.v) (s.den.ev x) = cV (.sl u) 0 ys:=by
     rw [ev_v hx]
     show lend (s.r.map Root.v) (V.rs id p 0 (nodeR s.r id p).len) = _
     rw [lend_rs,sub_nodeR (by rw [hn]; simp),hn]
     show lendS (arr true u.w (tyV u d) u.dflt ys) 0 ys.length = _
     rw [lendS_arr rfl]
     have e : (fun a=>(tyV u d a).map frz) = tyV u 0:=funext fun x=>tyV_frz u d x
     rw [e]; rfl
    rw [e2]; exact h2
  ·have e : openO s (some y) = some y:=by
    cases y with
    | one c=>
     cases c with
     | rf id p=>
      cases hn : nodeR s.r id p with
      | opt ro u d v=>exact absurd ⟨id,p,ro,u,d,v,rfl,hn⟩ hy
      | _=>simp only [openO,hn]
     | _=>rfl
    | _=>rfl
   rw [hx,e,← hx] at h
   exact tArg_v h
theorem openO_y {s : St} {b : Bool} {t : Ty} {y : Sl} {z : t.T} (h : tArg s b t (openO s (some y)) = some z) (hc : ∀ c ∈ condO s (some y),c = true) : Sub1 (lend (s.r.map Root.v) (y.v s.r)) (vOf b t 0 z):=by
 have e1 : openO ⟨fun _=>y,s.r⟩ (some y) = openO s (some y):=by
  cases y with
  | one c=>cases c <;> rfl
  | _=>rfl
 have e2 : condO ⟨fun _=>y,s.r⟩ (some y) = condO s (some y):=by
  cases y with
  | one c=>cases c <;> rfl
  | _=>rfl
 refine openO_v (s:=⟨fun _=>y,s.r⟩) (x:=.tmp 0) ?_ ?_
 ·show tArg ⟨fun _=>y,s.r⟩ b t (openO ⟨fun _=>y,s.r⟩ (some y)) = some z
  rw [e1,← h]; exact tArg_r
 ·show ∀ c ∈ condO ⟨fun _=>y,s.r⟩ (some y),c = true
  rw [e2]; exact hc
theorem tArgsO_y {s : St} : ∀ (l : List (Bool × Ty)) (ys : List Sl) (z : (PT l).T),tArgs s l ((ys.map some).map (openO s)) = some z→(∀ c ∈ condsO s (ys.map some),c = true)→SubL1 ((ys.map (Sl.v s.r)).map (lend (s.r.map Root.v))) (argsV l z)
 | [],[],z,h,_=>trivial
 | [p],[y],z,h,hc=>⟨openO_y h fun c h=>hc c (List.mem_append_left _ h),trivial⟩
 | p :: q :: l,y :: ys,z,h,hc=>by
  have h : (match tArg s p.1 p.2 (openO s (some y)) with
   | some z=>match tArgs s (q :: l) ((ys.map some).map (openO s)) with
    | some zs=>some (z,zs)
    | none=>none
   | none=>none : Option (PT (p :: q :: l)).T) = some z:=h
  split at h
  case h_2=>cases h
  rename_i z1 h1
  split at h
  case h_2=>cases h
  rename_i zs h2
  cases h
  exact ⟨openO_y h1 fun c h=>hc c (List.mem_append_left _ h),tArgsO_y (q :: l) ys zs h2 fun c h=>hc c (List.mem_append_right _ h)⟩
 | [],_ :: _,_,h,_=>by cases h
 | [_],[],_,h,_=>by cases h
 | [_],_ :: _ :: _,_,h,_=>by cases h
 | _ :: _ :: _,[],_,h,_=>by cases h
theorem tArgsO_v {s : St} : ∀ (l : List (Bool × Ty)) (xs : List Operand) (z : (PT l).T),tArgs s l ((xs.map s.ev).map (openO s)) = some z→(∀ c ∈ condsO s (xs.map s.ev),c = true)→SubL1 ((xs.map s.den.ev).map (lend (s.r.map Root.v))) (argsV l z)
 | [],[],z,h,_=>trivial
 | [p],[x],z,h,hc=>⟨openO_v h fun c h=>hc c (List.mem_append_left _ h),trivial⟩
 | p :: q :: l,x :: xs,z,h,hc=>by
  have h : (match tArg s p.1 p.2 (openO s (s.ev x)) with
   | some z=>match tArgs s (q :: l) ((xs.map s.ev).map (openO s)) with
    | some zs=>some (z,zs)
    | none=>none
   | none=>none : Option (PT (p :: q :: l)).T) = some z:=h
  split at h
  case h_2=>cases h
  rename_i z1 h1
  split at h
  case h_2=>cases h
  rename_i zs h2
  cases h
  exact ⟨openO_v h1 fun c h=>hc c (List.mem_append_left _ h),tArgsO_v (q :: l) xs zs h2 fun c h=>hc c (List.mem_append_right _ h)⟩
 | [],_ :: _,_,h,_=>by cases h
 | [_],[],_,h,_=>by cases h
 | [_],_ :: _ :: _,_,h,_=>by cases h
 | _ :: _ :: _,[],_,h,_=>by cases h
theorem call_sound {P : Program} {s : St} {f : FuncId} {xs : Array Operand} {ats} {ps : List (Bool × Ty)} {rs : List (Bool × Nat × Ty)} {z : (PT ps).T} {b : Bool} {u : (RT rs).T} (hc : callable P f = true) (hft : FC P f (argsV ps z) (resTN b rs u)) (hz : tArgs s ps ((xs.toList.map s.ev).map (openO s)) = some z) (hcd : ∀ c ∈ condsO s (xs.toList.map s.ev),c = true)
  (ho : (resOwn rs || (resOK rs && noLent (xs.toList.map s.ev))) = true) : QS P s (.call ⟨.value (.func f),xs,ats⟩) (resS b rs u):=by
 show Call P f ((xs.toList.map s.den.ev).any lentAny) ((xs.toList.map s.den.ev).map (lend (s.r.map Root.v))) (SK s _)
 rw [Bool.or_eq_true,Bool.and_eq_true] at ho
 have hok : resOK rs = true:=ho.elim resOK_own (·.1)
 refine ⟨resTN b rs u,⟨hc,hft.sub1 (tArgsO_v _ _ _ hz hcd)⟩,fun hl=>?_,?_⟩
 ·rcases ho with ho | ⟨_,ho⟩
  ·exact ownOnly_resTN _ _ _ ho
  ·rw [noLent_v ho] at hl; cases hl
 ·show Sub _ ((resS b rs u).v s.r)
  rw [resS_v _ _ _ hok]
  exact Sub.refl _
theorem tCall_sound {P : Program} {Γ : List En} (hΓ : EnsOK P Γ) {s : St} {f : FuncId} {xs ats} {a : CallR} (h : tCall Γ s f (xs.toList.map s.ev) = some a) {u : a.α} (hu : a.o = some u) : QS P s (.call ⟨.value (.func f),xs,ats⟩) (a.y u):=by
 unfold tCall at h
 split at h
 case h_2=>cases h
 rename_i e he
 cases ho : (resOwn e.S.rs || (resOK e.S.rs && noLent (xs.toList.map s.ev))) with
 | false=>rw [ho] at h; cases h
 | true=>
  rw [ho] at h
  simp only [cond_true] at h
  split at h
  case h_2=>cases h
  rename_i z hz
  cases h
  obtain ⟨⟨hc,hft⟩,rfl⟩:=look_ok hΓ he
  obtain ⟨hu,hcd⟩:=gate_some hu
  exact call_sound hc (by rw [resTN_t]; exact hft z u hu) hz hcd ho
theorem tCallN_sound {P : Program} {Γ : List EnN} (hΓ : ∀ e ∈ Γ,e.OK P) {s : St} {f : FuncId} {xs ats} {a : CallN} (h : tCallN Γ s f (xs.toList.map s.ev) = some a) {b : Bool} {u : a.α} (hu : a.o = some (b,u)) : QS P s (.call ⟨.value (.func f),xs,ats⟩) (a.y b u):=by
 unfold tCallN at h
 split at h
 case h_2=>cases h
 rename_i e he
 cases ho : (resOwn e.S.rs || (resOK e.S.rs && noLent (xs.toList.map s.ev))) with
 | false=>rw [ho] at h; cases h
 | true=>
  rw [ho] at h
  simp only [cond_true] at h
  split at h
  case h_2=>cases h
  rename_i z hz
  cases h
  obtain ⟨⟨hc,hft⟩,rfl⟩:=lookN_ok hΓ he
  obtain ⟨hu,hcd⟩:=gate_some hu
  exact call_sound hc (hft z b u hu) hz hcd ho

theorem noLent_y {s : St} {ys : List Sl} (h : noLent (ys.map some) = true) : (ys.map (Sl.v s.r)).any lentAny = false:=by
 have:=noLent_v (s:=⟨fun i=>ys.getD i (.one .dead),s.r⟩) (xs:=(List.range ys.length).map Operand.tmp) (by
  have e : ((List.range ys.length).map Operand.tmp).map (St.ev ⟨fun i=>ys.getD i (.one .dead),s.r⟩) = ys.map some:=by
   rw [List.map_map]
   apply List.ext_getElem (by simp)
   intro i h1 h2
   have hi : i < ys.length:=by simpa using h1
   have : (St.ev ⟨fun i=>ys.getD i (.one .dead),s.r⟩ (.tmp i)) = some (ys.getD i (.one .dead)):=rfl
   simp only [List.getElem_map,List.getElem_range,Function.comp]
   show some (ys.getD i (.one .dead)) = _
   simp [hi]
  rw [e]; exact h)
 have e2 : ((List.range ys.length).map Operand.tmp).map (St.den ⟨fun i=>ys.getD i (.one .dead),s.r⟩).ev = ys.map (Sl.v s.r):=by
  rw [List.map_map]
  apply List.ext_getElem (by simp)
  intro i h1 h2
  have hi : i < ys.length:=by simpa using h1
  have : (St.den ⟨fun i=>ys.getD i (.one .dead),s.r⟩).ev (.tmp i) = (ys.getD i (.one .dead)).v s.r:=rfl
  simp only [List.getElem_map,List.getElem_range,Function.comp]
  show (ys.getD i (.one .dead)).v s.r = _
  simp [hi]
 rw [e2] at this
 exact this
def allS : List (Option Sl)→Option (List Sl)
 | []=>some []
 | some y :: l=>match allS l with
  | some m=>some (y :: m)
  | none=>none
 | none :: _=>none
theorem allS_v {s : St} : ∀ {xs : List Operand} {ys : List Sl},allS (xs.map s.ev) = some ys→xs.map s.den.ev = ys.map (Sl.v s.r)
 | [],ys,h=>by cases h; rfl
 | x :: xs,ys,h=>by
  rw [List.map_cons] at h
  cases hx : s.ev x with
  | none=>rw [hx] at h; cases h
  | some y=>
   rw [hx] at h
   unfold allS at h
   split at h
   case h_2=>cases h
   rename_i m hm
   cases h
   rw [List.map_cons,List.map_cons,ev_v hx,allS_v hm]
def cloS (s : St) (y : Nat) : Option (FuncId × List Sl):=match s.t y with
 | .one (.c (.clo g t) _ x)=>some (g,(cellsC t 0 x).map .one)
 | _=>none
def cloF (s : St) : Op→Option (FuncId × List Sl)
 | .call c=>match c.callee with
  | .value (.tmp y)=>match cloS s y,allS (c.args.toList.map s.ev) with
   | some (g,cs),some ys=>some (g,ys ++ cs)
   | _,_=>none
  | _=>none
 | _=>none
theorem cloF_sound {P : Program} {Γ : List En} (hΓ : EnsOK P Γ) {s : St} {op : Op} {g : FuncId} {ys : List Sl} {a : CallR} (hf : cloF s op = some (g,ys)) (h : tCall Γ s g (ys.map some) = some a) {u : a.α} (hu : a.o = some u) : QS P s op (a.y u):=by
 unfold cloF at hf
 split at hf
 case h_2=>cases hf
 rename_i c
 obtain ⟨callee,xs,ats⟩:=c
 split at hf
 case h_2=>cases hf
 rename_i y hcal
 have hcal : callee = .value (.tmp y):=hcal
 subst hcal
 split at hf
 case h_2=>cases hf
 rename_i g' cs zs hcs hzs
 cases hf
 unfold cloS at hcs
 split at hcs
 case h_2=>cases hcs
 rename_i g2 t d x hy
 cases hcs
 unfold tCall at h
 split at h
 case h_2=>cases h
 rename_i e he
 cases ho : (resOwn e.S.rs || (resOK e.S.rs && noLent ((zs ++ (cellsC t 0 x).map Sl.one).map some))) with
 | false=>rw [ho] at h; cases h
 | true=>
  rw [ho] at h
  simp only [cond_true] at h
  split at h
  case h_2=>cases h
  rename_i z hz
  cases h
  obtain ⟨⟨hc,hft⟩,rfl⟩:=look_ok hΓ he
  obtain ⟨hu,hcd⟩:=gate_some hu
  have hev : s.den.ev (.tmp y) = .many (.cl e.f) t.w fun k=>(tyV t 0 x).getD k .dead:=by
   show (s.t y).v s.r = _
   rw [hy]; rfl
  have htab : (xs.toList.map s.den.ev) ++ tab t.w (fun k=>(tyV t 0 x).getD k .dead) = (zs ++ (cellsC t 0 x).map Sl.one).map (Sl.v s.r):=by
   rw [allS_v hzs,List.map_append]
   congr 1
   have h1 : tab t.w (fun k=>(tyV t 0 x).getD k .dead) = tyV t 0 x:=by
    have:=tab_take (l:=tyV t 0 x) t.w (by rw [tyV_len]; exact Nat.le_refl _)
    rw [this]
    exact List.take_of_length_le (by rw [tyV_len]; exact Nat.le_refl _)
   rw [h1,List.map_map]
   exact (Cl.v_c (r:=s.r) t 0 x).symm
  rw [Bool.or_eq_true,Bool.and_eq_true] at ho
  have hok : resOK e.S.rs = true:=ho.elim resOK_own (·.1)
  show qCallV P (s.r.map Root.v) (s.den.ev (.tmp y)) (xs.toList.map s.den.ev) (SK s _)
  rw [hev]
  show Call P e.f (((xs.toList.map s.den.ev) ++ tab t.w (fun k=>(tyV t 0 x).getD k .dead)).any lentAny) (((xs.toList.map s.den.ev) ++ tab t.w (fun k=>(tyV t 0 x).getD k .dead)).map (lend (s.r.map Root.v))) (SK s _)
  rw [htab]
  refine ⟨resTN true e.S.rs u,⟨hc,FC.sub1 (by rw [resTN_t]; exact hft z u hu) (tArgsO_y _ _ _ hz hcd)⟩,fun hl=>?_,?_⟩
  ·rcases ho with ho | ⟨_,ho⟩
   ·exact ownOnly_resTN _ _ _ ho
   ·rw [noLent_y ho] at hl; cases hl
  ·show Sub _ ((resS true e.S.rs u).v s.r)
   rw [resS_v _ _ _ hok]
   exact Sub.refl _
def capL (s : St) : List Operand→Option (List Cl)
 | []=>some []
 | x :: xs=>match s.ev x with
  | some (.one (.c t d y))=>bif t.one && !(Cl.c t d y).own then (match capL s xs with
   | some l=>some (.c t 0 y :: l)
   | none=>none) else none
  | _=>none
def capR (s : St) : List Operand→Option (List Cl)
 | []=>some []
 | x :: xs=>match s.ev x with
  | some (.one y)=>bif y.own then none else (match capR s xs with
   | some l=>some (y :: l)
   | none=>none)
  | _=>none
theorem capR_v {s : St} : ∀ {xs : List Operand} {l : List Cl},capR s xs = some l→xs.map s.den.ev = l.map (Cl.v s.r)∧(xs.map s.den.ev).all (fun v=>!tOwn v) = true
 | [],l,h=>by cases h; exact ⟨rfl,rfl⟩
 | x :: xs,l,h=>by
  unfold capR at h
  split at h
  case h_2=>cases h
  rename_i y hx
  cases hb : y.own with
  | true=>rw [hb] at h; cases h
  | false=>
   rw [hb] at h
   simp only [cond_false] at h
   split at h
   case h_2=>cases h
   rename_i m hm
   cases h
   obtain ⟨h1,h2⟩:=capR_v hm
   have hev : s.den.ev x = y.v s.r:=ev_v hx
   refine ⟨by rw [List.map_cons,List.map_cons,hev,h1],?_⟩
   rw [List.map_cons,List.all_cons,hev,Cl.own_v,hb,h2]; rfl
def tMkF (s : St) (fn : Fn) (first : List Operand) (caps : List Operand) : Option TR:=match fn,first with
 | .func g,[]=>match capL s caps with
  | some l=>match flatD l with
   | some ⟨t,x⟩=>some (.ok (.one (.c (.clo g t) 0 x)))
   | none=>none
  | none=>match capR s caps with
   | some l=>some (.ok (.pk (.cl g) l))
   | none=>none
 | _,_=>none
theorem capL_v {s : St} : ∀ {xs : List Operand} {l : List Cl},capL s xs = some l→xs.map s.den.ev = (l.map Cl.v0).map frz∧(xs.map s.den.ev).all (fun v=>!tOwn v) = true∧l.length = xs.length
 | [],l,h=>by cases h; exact ⟨rfl,rfl,rfl⟩
 | x :: xs,l,h=>by
  unfold capL at h
  split at h
  case h_2=>cases h
  rename_i t d y hx
  cases hb : (t.one && !(Cl.c t d y).own) with
  | false=>rw [hb] at h; cases h
  | true=>
   rw [hb] at h
   simp only [cond_true] at h
   split at h
   case h_2=>cases h
   rename_i m hm
   cases h
   rw [Bool.and_eq_true] at hb
   obtain ⟨h1,h2,h3⟩:=capL_v hm
   have hev : s.den.ev x = cV t d y:=ev_v hx
   have hown : tOwn (cV t d y) = false:=by
    have:=Cl.own_v (r:=s.r) (.c t d y)
    have e : (Cl.c t d y).own = false:=by simpa using hb.2
    rw [e] at this; exact this
   have hz : cV t d y = frz (cV t 0 y):=by
    rw [frz_cV hb.1]
    cases t <;> first | rfl | (cases d <;> first | rfl | (cases hown; done)) | (cases y <;> cases d <;> first | rfl | (cases hown; done))
   refine ⟨?_,?_,by simp [h3]⟩
   ·rw [List.map_cons,List.map_cons,List.map_cons,hev,h1,hz]; rfl
   ·rw [List.map_cons,List.all_cons,hev,hown,h2]; rfl
theorem tMkF_sound {P : Program} {s : St} {fn : Fn} {first caps : Array Operand} {a : TR} (h : tMkF s fn first.toList caps.toList = some a) : QS P s (.makeFunc fn first caps) a.y:=by
 unfold tMkF at h
 split at h
 case h_2=>cases h
 rename_i g hf
 split at h
 case h_2=>
  split at h
  case h_2=>cases h
  rename_i l hl
  cases h
  obtain ⟨h1,h2⟩:=capR_v hl
  show (match Fn.func g,first.toList with
   | .func g,[]=>qMkF g (caps.toList.map s.den.ev) (SK s _)
   | _,_=>False)
  rw [hf]
  refine ⟨h2,?_⟩
  show Sub (V.many (.cl g) (caps.toList.map s.den.ev).length fun k=>(caps.toList.map s.den.ev).getD k .dead) (pkL (.cl g) (l.map (Cl.v s.r)))
  rw [h1]
  exact Sub.refl _
 rename_i l hl
 split at h
 case h_2=>cases h
 rename_i t x hd
 cases h
 obtain ⟨h1,h2,h3⟩:=capL_v hl
 have e:=flatD_v _ _ hd
 show (match Fn.func g,first.toList with
  | .func g,[]=>qMkF g (caps.toList.map s.den.ev) (SK s _)
  | _,_=>False)
 rw [hf]
 refine ⟨h2,?_⟩
 show Sub (V.many (.cl g) (caps.toList.map s.den.ev).length fun k=>(caps.toList.map s.den.ev).getD k .dead) (V.many (.cl g) t.w fun k=>(tyV t 0 x).getD k .dead)
 rw [h1,← e,tyV_len]
 exact Sub.refl _
end Go.Ve

