/- The typed machine: what a function computes that writes its owned arguments; its contract. -/
import Derived.Test.YtcdekmccongjgaaTq
namespace Go.Ve

def startW (ps : List WP) (x : (PTW ps).T) : St:=⟨fun i=>(wArgs ps x 0).1.getD i (.one .dead),(wArgs ps x 0).2⟩
def grabW : List Root→List Root→Option (List (Σ t : Ty,t.T))
 | [],_=>some []
 | .arr _ u d _ :: r0,.arr _ u' d' xs :: r=>if u' = u then (bif Nat.beq d' d then (match grabW r0 r with
  | some l=>some (⟨.sl u',xs⟩ :: l)
  | none=>none) else none) else none
 | _ :: _,_=>none
def castS (t : Ty) (y : Σ t : Ty,t.T) : Option t.T:=if h : y.1 = t then some (h ▸ y.2) else none
def toW : (tys : List Ty)→List (Σ t : Ty,t.T)→Option (wty tys).T
 | [],[]=>some ()
 | [t],[y]=>castS t y
 | t :: u :: l,y :: ys=>match castS t y with
  | some x=>match toW (u :: l) ys with
   | some z=>some (x,z)
   | none=>none
  | none=>none
 | _,_=>none
def retW (t : Nat) (rt : Ty) (tys : List Ty) (r0 : List Root) (s : St) : Option (rt.T × (wty tys).T):=match s.t t with
 | .one (.c t' _ v)=>if h : t' = rt then (match grabW r0 s.r with
  | some ys=>match toW tys ys with
   | some z=>some (h ▸ v,z)
   | none=>none
  | none=>none) else none
 | _=>none
def retWK (t : Nat) (rt : Ty) (tys : List Ty) (r0 : List Root) : Exit→St→Option (rt.T × (wty tys).T)
 | .normal,s=>retW t rt tys r0 s
 | .ret,s=>retW t rt tys r0 s
 | _,_=>none
def tyR : Root→Ty
 | .arr _ u _ _=>.sl u
 | _=>.unit
def isArrR : Root→Bool
 | .arr _ _ _ _=>true
 | _=>false
def sameTys : List Root→List Ty→Bool
 | [],[]=>true
 | r :: rs,t :: ts=>decide (tyR r = t) && isArrR r && sameTys rs ts
 | _,_=>false
noncomputable def tfnW (E : Env2) (fn : Func) (S : SigW) (x : (PTW S.ps).T) : Option (S.rt.T × (wty (tysW S.ps)).T):=match fn.body,fn.results.toList with
 | some b,[.tmp t]=>bif S.rt.sc && sameTys (wArgs S.ps x 0).2 (tysW S.ps) && Nat.ble (wArgs S.ps x 0).2.length E.h.keep then
   texec E b (startW S.ps x) (retWK t S.rt (tysW S.ps) (wArgs S.ps x 0).2) else none
 | _,_=>none

theorem castS_v {t : Ty} {y : Σ t : Ty,t.T} {x : t.T} (h : castS t y = some x) : (⟨t,x⟩ : Σ t : Ty,t.T) = y:=by
 unfold castS at h
 split at h
 case isFalse=>cases h
 rename_i ht
 obtain ⟨t',z⟩:=y
 simp only at ht
 subst ht
 cases h
 rfl
theorem toW_v : ∀ (tys : List Ty) (ys : List (Σ t : Ty,t.T)) (z : (wty tys).T),toW tys ys = some z→wOf tys z = ys
 | [],[],z,_=>rfl
 | [t],[y],z,h=>by
  show [(⟨t,z⟩ : Σ t : Ty,t.T)] = [y]
  rw [castS_v h]
 | t :: u :: l,y :: ys,z,h=>by
  have h : (match castS t y with
   | some x=>match toW (u :: l) ys with
    | some z=>some (x,z)
    | none=>none
   | none=>none : Option (wty (t :: u :: l)).T) = some z:=h
  split at h
  case h_2=>cases h
  rename_i x hx
  split at h
  case h_2=>cases h
  rename_i z' hz
  cases h
  show (⟨t,x⟩ : Σ t : Ty,t.T) :: wOf (u :: l) z' = _
  rw [castS_v hx,toW_v (u :: l) ys z' hz]
 | [],_ :: _,_,h=>by cases h
 | [_],[],_,h=>by cases h
 | [_],_ :: _ :: _,_,h=>by cases h
 | _ :: _ :: _,[],_,h=>by cases h
theorem wOf_len : ∀ (tys : List Ty) (z : (wty tys).T),(wOf tys z).length = tys.length
 | [],_=>rfl
 | [_],_=>rfl
 | t :: u :: l,z=>by show (wOf (u :: l) z.2).length + 1 = _; rw [wOf_len]; rfl
theorem wOf_ty : ∀ (tys : List Ty) (z : (wty tys).T),(wOf tys z).map (·.1) = tys
 | [],_=>rfl
 | [_],_=>rfl
 | t :: u :: l,z=>by show t :: (wOf (u :: l) z.2).map (·.1) = _; rw [wOf_ty]
theorem sameTys_ok : ∀ {rs : List Root} {tys : List Ty},sameTys rs tys = true→rs.map tyR = tys∧∀ r ∈ rs,isArrR r = true
 | [],[],_=>⟨rfl,fun _ h=>by cases h⟩
 | r :: rs,t :: ts,h=>by
  simp only [sameTys,Bool.and_eq_true,decide_eq_true_eq] at h
  obtain ⟨h1,h2⟩:=sameTys_ok h.2
  refine ⟨by simp [h1,h.1.1],fun q hq=>?_⟩
  rcases List.mem_cons.1 hq with rfl | hq
  ·exact h.1.2
  ·exact h2 q hq
 | [],_ :: _,h=>by cases h
 | _ :: _,[],h=>by cases h
theorem newRoot_ok {r : Root} {y : Σ t : Ty,t.T} (h : y.1 = tyR r) (ha : isArrR r = true) : newRoot r y≠.dead:=by
 cases r with
 | dead=>cases ha
 | opt=>cases ha
 | obj ro l=>cases ha
 | arr ro u d xs=>
  obtain ⟨t,z⟩:=y
  have h : t = .sl u:=h
  subst h
  simp [newRoot]
theorem grabW_v : ∀ {r0 r : List Root} {ys : List (Σ t : Ty,t.T)},grabW r0 r = some ys→r0.length≤r.length∧ys.length = r0.length∧∀ k,k < r0.length→(newRoot (r0.getD k .dead) (ys.getD k ⟨.unit,()⟩)).v = (r.getD k .dead).v
 | [],r,ys,h=>by cases h; exact ⟨Nat.zero_le _,rfl,fun k hk=>by simp at hk⟩
 | .arr ro u d xs :: r0,.arr ro' u' d' xs' :: r,ys,h=>by
  unfold grabW at h
  split at h
  case isFalse=>cases h
  rename_i hu
  subst hu
  cases hd : Nat.beq d' d with
  | false=>rw [hd] at h; cases h
  | true=>
   rw [hd] at h
   simp only [cond_true] at h
   split at h
   case h_2=>cases h
   rename_i l hl
   cases h
   obtain ⟨h1,h2,h3⟩:=grabW_v hl
   refine ⟨by simpa using h1,by simp [h2],fun k hk=>?_⟩
   cases k with
   | zero=>
    show (newRoot (.arr ro u' d xs) ⟨.sl u',xs'⟩).v = (Root.arr ro' u' d' xs').v
    rw [Nat.eq_of_beq_eq_true hd]
    simp [newRoot,Root.v]
   | succ k=>simpa using h3 k (by simpa using hk)
 | .arr _ _ _ _ :: _,[],_,h=>by cases h
 | .arr _ _ _ _ :: _,.dead :: _,_,h=>by cases h
 | .arr _ _ _ _ :: _,.obj _ _ :: _,_,h=>by cases h
 | .arr _ _ _ _ :: _,.opt _ _ _ _ :: _,_,h=>by cases h
 | .opt _ _ _ _ :: _,_,_,h=>by simp [grabW] at h
 | .dead :: _,_,_,h=>by simp [grabW] at h
 | .obj _ _ :: _,_,_,h=>by simp [grabW] at h
theorem wArgs_len : ∀ (ps : List WP) (x : (PTW ps).T) (m : Nat),(wArgs ps x m).1.length = ps.length
 | [],_,_=>rfl
 | [_],_,_=>rfl
 | p :: q :: l,x,m=>by show (wArgs (q :: l) x.2 _).1.length + 1 = _; rw [wArgs_len]; rfl

theorem FTW_fn {P : Program} {E : Env2} {f : FuncId} {fn : Func} {S : SigW} (hΘ : Tab.OK P E.Θ) (hΓ : EnsOK P E.Γ) (hW : ∀ e ∈ E.W,e.OK P) (hN : ∀ e ∈ E.N,e.OK P) (hm : P.follows .mixedOrders = true) (hf : P.funcs[f]? = some fn) (hn : max S.ps.length fn.ntmps = E.h.n)
  {g : (PTW S.ps).T→Option (S.rt.T × (wty (tysW S.ps)).T)} (hg : tfnW E fn S = g) : FTW P f S g:=by
 subst hg
 intro x u hxu
 unfold tfnW at hxu
 split at hxu
 case h_2=>cases hxu
 rename_i b t hb hrv
 cases hc : (S.rt.sc && sameTys (wArgs S.ps x 0).2 (tysW S.ps) && Nat.ble (wArgs S.ps x 0).2.length E.h.keep) with
 | false=>rw [hc] at hxu; cases hxu
 | true=>
 rw [hc] at hxu
 simp only [cond_true] at hxu
 simp only [Bool.and_eq_true] at hc
 obtain ⟨⟨hsc,hst⟩,hkp⟩:=hc
 have hkp:=Nat.le_of_ble_eq_true hkp
 obtain ⟨ht1,ht2⟩:=sameTys_ok hst
 have hlen : (wOf (tysW S.ps) u.2).length = (wArgs S.ps x 0).2.length:=by rw [wOf_len,← ht1]; simp
 refine ⟨hsc,hlen,fun k hk=>?_,?_⟩
 ·rw [newRoots_get _ _ k hlen.symm hk]
  have h1 : ((wOf (tysW S.ps) u.2).getD k ⟨.unit,()⟩).1 = tyR ((wArgs S.ps x 0).2.getD k .dead):=by
   have e:=(wOf_ty (tysW S.ps) u.2).trans ht1.symm
   have e2:=congrArg (·[k]?) e
   have hy : k < (wOf (tysW S.ps) u.2).length:=by omega
   simp only [List.getElem?_map,List.getElem?_eq_getElem hk,List.getElem?_eq_getElem hy,Option.map_some,Option.some.injEq] at e2
   simp only [List.getD_eq_getElem?_getD,List.getElem?_eq_getElem hk,List.getElem?_eq_getElem hy,Option.getD_some]
   exact e2
  exact newRoot_ok h1 (ht2 _ (by simp [hk]))
 intro w D ρ F cvs hk hkF wr hsz hrel
 let C : Ctx:=⟨w,fun b=>∃ i,F i b,D,(wArgs S.ps x 0).2.length,ρ,hk,fun p hp ⟨i,hF⟩=>hkF p hp i hF⟩
 have hal : ((wArgs S.ps x 0).1.map (Sl.v (wArgs S.ps x 0).2)).length = S.ps.length:=by rw [List.length_map,wArgs_len]
 refine calls_of_wp hf hb ?_
 have hs : SRel C E.h.n (startW S.ps x).den { tmps:=cvs ++ Array.replicate (fn.ntmps - cvs.size) undef,defers:=[] } w:=by
  have hslot : ∀ i,(startW S.ps x).den.t i = ((wArgs S.ps x 0).1.map (Sl.v (wArgs S.ps x 0).2)).getD i .dead:=fun i=>(getD_mapV (f:=Sl.v (wArgs S.ps x 0).2) (a:=.one .dead) rfl _ _).symm
  refine ⟨rfl,fun y hy=>by rw [hslot]; exact getD_ge (by rw [hal]; omega),D,ρ,F,⟨wr,by simp [hsz,wArgs_len]; omega,fun k hk=>?_,⟨rfl,rfl,rfl,Nat.le_refl _,fun _ _ _=>rfl,Nat.le_refl _⟩,fun i b hb=>.inl ⟨i,hb⟩,fun _ h=>h,fun _ h _=>.inl h,fun _ _=>rfl,by show _≤((wArgs S.ps x 0).2.map Root.v).length; simp; exact Nat.le_refl _⟩⟩
  rw [range_getD (by simpa using hk),hslot]
  by_cases hta : k < ((wArgs S.ps x 0).1.map (Sl.v (wArgs S.ps x 0).2)).length
  ·have e2 : (cvs ++ Array.replicate (fn.ntmps - cvs.size) undef).getD k undef = cvs.getD k undef:=by
    have : k < cvs.size:=by omega
    simp [Array.getElem?_append_left this]
   rw [e2]
   exact hrel k hta
  ·rw [getD_ge (Nat.le_of_not_lt hta)]
   exact fun _ h=>h
 refine texec_wp ⟨hΘ,hΓ,hW,hN⟩ hm hkp b (startW S.ps x) _ u _ _ w hs hxu fun e s' a' w' _ hs' hz=>?_
 have fin : retW t S.rt (tysW S.ps) (wArgs S.ps x 0).2 s' = some u→a'.defers = []∧∃ v,(results fn a'.tmps).run P w' = .ok v w'∧(Ending.returned v = .returned (scV S.rt u.1)∧∃ (D' : Nat→Prop) (F' : Nat→Nat→Prop),WRel ((newRoots (wArgs S.ps x 0).2 (wOf (tysW S.ps) u.2)).map Root.v) w' D' ρ F'∧Fr w w' (fun b=>∃ i,F i b)∧(∀ i b,F' i b→(∃ j,F j b)∨w.heap.size≤b)∧(∀ b,D b→D' b)∧(∀ b,D' b→D b∨(∃ j,F j b)∨w.heap.size≤b)):=by
  intro hz
  obtain ⟨hd,hdd,D',ρ',F',hcr⟩:=hs'
  unfold retW at hz
  split at hz
  case h_2=>cases hz
  rename_i t' d' v hslot
  split at hz
  case isFalse=>cases hz
  rename_i htt
  subst htt
  split at hz
  case h_2=>cases hz
  rename_i ys hys
  split at hz
  case h_2=>cases hz
  rename_i z hz2
  cases hz
  have hwz:=toW_v _ _ _ hz2
  obtain ⟨k1,k2,k3⟩:=grabW_v hys
  have hsv : s'.den.t t = .c (scV S.rt v):=by
   show (s'.t t).v s'.r = _
   rw [hslot]
   exact cV_sc hsc d' v
  have htn : t < E.h.n:=by
   rcases Nat.lt_or_ge t E.h.n with h | h
   ·exact h
   ·have:=hdd t h; rw [hsv] at this; cases this
  have hval : a'.tmps.getD t undef = scV S.rt v:=by
   have h1:=hcr.tm t (by simpa using htn)
   rw [range_getD htn,hsv] at h1
   exact h1.1
  refine ⟨hd,packC [a'.tmps.getD t undef],results_run (by rw [hrv]; simp [rdV]),?_,D',fun i b=>i < (wArgs S.ps x 0).2.length∧F' i b,⟨fun i hi=>?_,fun i j b hij h1 h2=>hcr.wr.disj i j b hij h1.2 h2.2,fun i b h1=>hcr.wr.dD i b h1.2,hcr.wr.Dlt,fun i b hi h1=>?_⟩,hcr.fr,fun i b h1=>hcr.Fn i b h1.2,hcr.D1,fun b hb=>?_⟩
  ·show Ending.returned (a'.tmps.getD t undef) = _
   rw [hval]
  ·have hnl : (newRoots (wArgs S.ps x 0).2 (wOf (tysW S.ps) z)).length = (wArgs S.ps x 0).2.length:=newRoots_len _ _ (by rw [hwz,k2])
   have hi : i < (wArgs S.ps x 0).2.length:=by rw [List.length_map,hnl] at hi; exact hi
   have h1:=hcr.wr.rel i (by show i < (s'.r.map Root.v).length; simp; omega)
   have e1 : s'.den.σ.getD i .dead = (s'.r.getD i .dead).v:=getD_roots _ _
   have e2 : ((newRoots (wArgs S.ps x 0).2 (wOf (tysW S.ps) z)).map Root.v).getD i .dead = (s'.r.getD i .dead).v:=by
    rw [getD_roots,newRoots_get _ _ i (by rw [hwz,k2]) hi,hwz]
    exact k3 i hi
   rw [e1,hcr.rt i hi] at h1
   rw [e2]
   exact Rel.fp_congr (fun b=>⟨fun h=>⟨hi,h⟩,fun h=>h.2⟩) h1
  ·have hnl : (newRoots (wArgs S.ps x 0).2 (wOf (tysW S.ps) z)).length = (wArgs S.ps x 0).2.length:=newRoots_len _ _ (by rw [hwz,k2])
   rw [List.length_map,hnl] at hi
   have:=h1.1
   omega
  ·rcases Nat.lt_or_ge b w.heap.size with h | h
   ·exact (hcr.D2 b hb h).elim .inl fun h=>.inr (.inl h)
   ·exact .inr (.inr h)
 cases e with
 | normal=>exact fin hz
 | ret=>exact fin hz
 | exit id=>cases hz
 | goto l=>cases hz
 | panic ch=>cases hz
 | outgrown=>cases hz
theorem enw_nil {P : Program} : ∀ e ∈ ([] : List EnW),e.OK P:=fun _ h=>by cases h
theorem enw_cons {P : Program} {e : EnW} {l : List EnW} (h1 : callable P e.f = true) (h2 : FTW P e.f e.S e.g) (hl : ∀ e ∈ l,e.OK P) : ∀ x ∈ e :: l,x.OK P:=by
 intro x hx
 rcases List.mem_cons.1 hx with rfl | hx
 ·exact ⟨h1,h2⟩
 ·exact hl x hx
end Go.Ve

