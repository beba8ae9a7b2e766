/- The typed machine: new trees get their numbers; one quiet operation. -/
import Derived.Test.YtkafcpbbcpngdaaTud
import Derived.Test.YtkafcpbbcpngdaaVu
namespace Go.Ve
open RowKit (Below)

/-- 'm0': so many trees were there; 'm': the next number. -/
def Cl.prom (m0 m : Nat) : Cl → Cl × List Root
  | .c (.sl t) (d + 1) xs => (.rf m [], [.arr false t d xs])
  | .c (.ptr t) (d + 1) x => bif Nat.blt 0 t.w then (.rp m [] 0 0, [.obj false (cellsC t d x)]) else (.dead, [])
  | y => (y.chk m0, [])
def promLC (m0 : Nat) : Nat → List Cl → List Cl × List Root
  | _, [] => ([], [])
  | m, y :: l => ((y.prom m0 m).1 :: (promLC m0 (m + (y.prom m0 m).2.length) l).1, (y.prom m0 m).2 ++ (promLC m0 (m + (y.prom m0 m).2.length) l).2)
def promP (m0 m : Nat) (p : Bool × List Cl) : (Bool × List Cl) × List Root :=
  bif p.1 then ((true, (promLC m0 m p.2).1), (promLC m0 m p.2).2) else ((false, [((p.2.getD 0 .dead).prom m0 m).1]), ((p.2.getD 0 .dead).prom m0 m).2)
def promLP (m0 : Nat) : Nat → List (Bool × List Cl) → List (Bool × List Cl) × List Root
  | _, [] => ([], [])
  | m, p :: l => ((promP m0 m p).1 :: (promLP m0 (m + (promP m0 m p).2.length) l).1, (promP m0 m p).2 ++ (promLP m0 (m + (promP m0 m p).2.length) l).2)
def Sl.prom (m : Nat) : Sl → Sl × List Root
  | .one y => (.one (y.prom m m).1, (y.prom m m).2)
  | .new l => bif Nat.blt 0 l.length then (.one (.rp m [] 0 0), [.obj false l]) else (.one .dead, [])
  | .agg l => (.agg (promLC m m l).1, (promLC m m l).2)
  | .bx l => (.bx (promLC m m l).1, (promLC m m l).2)
  | .tup l => (.tup (promLP m m l).1, (promLP m m l).2)

/-- the new trees lie from m on -/
def Has (r' : List Root) (m : Nat) (new : List Root) : Prop := ∀ j, j < new.length → r'.getD (m + j) .dead = new.getD j .dead
theorem Has.left {r' : List Root} {m : Nat} {a b : List Root} (h : Has r' m (a ++ b)) : Has r' m a := fun j hj => by
  rw [h j (by simp; omega), List.getD_eq_getElem?_getD, List.getElem?_append_left hj, ← List.getD_eq_getElem?_getD]
theorem Has.right {r' : List Root} {m : Nat} {a b : List Root} (h : Has r' m (a ++ b)) : Has r' (m + a.length) b := fun j hj => by
  have := h (a.length + j) (by simp; omega)
  rw [← Nat.add_assoc] at this
  rw [this, List.getD_eq_getElem?_getD, List.getElem?_append_right (by omega), ← List.getD_eq_getElem?_getD, Nat.add_sub_cancel_left]

theorem prom_own_f {v : V} (h : tOwn v = false) (hm : ∀ t n f, v ≠ .many t n f) {m : Nat} : Go.Ve.prom v m = (v, []) := by
  cases v with
  | nd s own sz n f => cases own with
    | true => cases h
    | false => cases s <;> rfl
  | many t n f => exact absurd rfl (hm t n f)
  | _ => rfl

theorem prom_objT {l : List V} {m : Nat} : Go.Ve.prom (objL true l) m = if 0 < l.length then (.rp m [] 0 0, [objL true l]) else (.dead, []) := rfl
theorem Cl.prom_v {r r' : List Root} (hr : ∀ id, id < r.length → r'.getD id .dead = r.getD id .dead) (y : Cl) (m : Nat) (hn : Has r' m (y.prom r.length m).2) :
    SubS (Go.Ve.prom (y.v r) m).1 ((y.prom r.length m).1.v r') ∧ (Go.Ve.prom (y.v r) m).2 = (y.prom r.length m).2.map Root.v := by
  have plain : ∀ y : Cl, y.own = false → (y.prom r.length m) = (y.chk r.length, []) → SubS (Go.Ve.prom (y.v r) m).1 ((y.prom r.length m).1.v r') ∧ (Go.Ve.prom (y.v r) m).2 = (y.prom r.length m).2.map Root.v := by
    intro y ho he
    rw [he, prom_own_f (by rw [Cl.own_v, ho]) (by
      cases y with
      | c t d x => cases t <;> (intro _ _ _ h; cases h)
      | _ => intro _ _ _ h; cases h)]
    exact ⟨Cl.chk_v hr y, rfl⟩
  cases y with
  | c t d x =>
    cases t with
    | sl t => cases d with
      | zero => exact plain _ rfl rfl
      | succ d =>
        have h0 : r'.getD m .dead = .arr false t d x := hn 0 Nat.one_pos
        refine ⟨?_, rfl⟩
        show SubS (V.rs m [] 0 x.length) (V.rs m [] 0 (nodeR r' m []).len)
        unfold nodeR
        rw [h0]
        exact SubS.refl _
    | ptr t => cases d with
      | zero => exact plain _ rfl rfl
      | succ d =>
        show SubS (Go.Ve.prom (objL true (tyV t d x)) m).1 _ ∧ (Go.Ve.prom (objL true (tyV t d x)) m).2 = _
        rw [prom_objT]
        show SubS _ ((bif Nat.blt 0 t.w then (Cl.rp m [] 0 0, [Root.obj false (cellsC t d x)]) else (.dead, [])).1.v r') ∧ _ = ((bif Nat.blt 0 t.w then (Cl.rp m [] 0 0, [Root.obj false (cellsC t d x)]) else (.dead, [])).2).map Root.v
        cases hb : Nat.blt 0 t.w with
        | true =>
          rw [if_pos (by rw [tyV_len]; exact blt0 hb)]
          refine ⟨SubS.refl _, ?_⟩
          show _ = [objL true ((cellsC t d x).map Cl.v0)]
          rw [cellsC_v]
        | false =>
          rw [if_neg (fun h => by rw [tyV_len] at h; rw [show Nat.blt 0 t.w = true from Nat.ble_eq_true_of_le h] at hb; cases hb)]
          exact ⟨SubS.refl _, rfl⟩
    | _ => exact plain _ rfl rfl
  | _ => exact plain _ rfl rfl

theorem promLC_v {r r' : List Root} (hr : ∀ id, id < r.length → r'.getD id .dead = r.getD id .dead) : ∀ (l : List Cl) (m : Nat), Has r' m (promLC r.length m l).2 →
    (promL (l.map (Cl.v r)) m).1.length = ((promLC r.length m l).1.map (Cl.v r')).length ∧ (∀ k, SubS ((promL (l.map (Cl.v r)) m).1.getD k .dead) (((promLC r.length m l).1.map (Cl.v r')).getD k .dead)) ∧ (promL (l.map (Cl.v r)) m).2 = (promLC r.length m l).2.map Root.v
  | [], m, _ => ⟨rfl, fun k => SubS.refl _, rfl⟩
  | y :: l, m, hn => by
    obtain ⟨h1, h2⟩ := Cl.prom_v hr y m hn.left
    have e : (Go.Ve.prom (y.v r) m).2.length = (y.prom r.length m).2.length := by rw [h2, List.length_map]
    obtain ⟨g1, g2, g3⟩ := promLC_v hr l (m + (y.prom r.length m).2.length) hn.right
    rw [List.map_cons, promL_cons, e]
    refine ⟨by simp only [promLC, List.map_cons, List.length_cons]; exact congrArg (· + 1) g1, fun k => ?_, ?_⟩
    · cases k with
      | zero => exact h1
      | succ k => exact g2 k
    · show _ ++ _ = (_ ++ _ : List Root).map Root.v
      rw [List.map_append, h2, g3]

theorem promP_v {r r' : List Root} (hr : ∀ id, id < r.length → r'.getD id .dead = r.getD id .dead) (p : Bool × List Cl) (m : Nat) (hn : Has r' m (promP r.length m p).2) :
    SubS (Go.Ve.prom (if p.1 then mkMany (p.2.map (Cl.v r)) else (p.2.map (Cl.v r)).getD 0 .dead) m).1 (if (promP r.length m p).1.1 then mkMany ((promP r.length m p).1.2.map (Cl.v r')) else ((promP r.length m p).1.2.map (Cl.v r')).getD 0 .dead) ∧
    (Go.Ve.prom (if p.1 then mkMany (p.2.map (Cl.v r)) else (p.2.map (Cl.v r)).getD 0 .dead) m).2 = (promP r.length m p).2.map Root.v := by
  obtain ⟨b, l⟩ := p
  cases b with
  | true =>
    obtain ⟨h1, h2, h3⟩ := promLC_v hr l m hn
    show SubS (Go.Ve.prom (mkMany _) m).1 (mkMany ((promLC r.length m l).1.map (Cl.v r'))) ∧ (Go.Ve.prom (mkMany _) m).2 = _
    rw [prom_mk]
    exact ⟨SubS.mk h1 fun k _ => h2 k, h3⟩
  | false =>
    show SubS (Go.Ve.prom ((l.map (Cl.v r)).getD 0 .dead) m).1 (((l.getD 0 .dead).prom r.length m).1.v r') ∧ (Go.Ve.prom ((l.map (Cl.v r)).getD 0 .dead) m).2 = _
    rw [getD_mapV (f := Cl.v r) (a := .dead) rfl]
    exact Cl.prom_v hr _ m hn

theorem promLP_v {r r' : List Root} (hr : ∀ id, id < r.length → r'.getD id .dead = r.getD id .dead) : ∀ (l : List (Bool × List Cl)) (m : Nat), Has r' m (promLP r.length m l).2 →
    (promL (l.map fun p => if p.1 then mkMany (p.2.map (Cl.v r)) else (p.2.map (Cl.v r)).getD 0 .dead) m).1.length = (promLP r.length m l).1.length ∧
    (∀ k, SubS ((promL (l.map fun p => if p.1 then mkMany (p.2.map (Cl.v r)) else (p.2.map (Cl.v r)).getD 0 .dead) m).1.getD k .dead) (((promLP r.length m l).1.map fun p => if p.1 then mkMany (p.2.map (Cl.v r')) else (p.2.map (Cl.v r')).getD 0 .dead).getD k .dead)) ∧
    (promL (l.map fun p => if p.1 then mkMany (p.2.map (Cl.v r)) else (p.2.map (Cl.v r)).getD 0 .dead) m).2 = (promLP r.length m l).2.map Root.v
  | [], m, _ => ⟨rfl, fun k => SubS.refl _, rfl⟩
  | p :: l, m, hn => by
    obtain ⟨h1, h2⟩ := promP_v hr p m hn.left
    have e := congrArg List.length h2
    rw [List.length_map] at e
    obtain ⟨g1, g2, g3⟩ := promLP_v hr l (m + (promP r.length m p).2.length) hn.right
    rw [List.map_cons, promL_cons, e]
    refine ⟨by simp only [promLP, List.length_cons]; exact congrArg (· + 1) g1, fun k => ?_, ?_⟩
    · cases k with
      | zero => exact h1
      | succ k => exact g2 k
    · show _ ++ _ = (_ ++ _ : List Root).map Root.v
      rw [List.map_append, h2, g3]

theorem Sl.prom_v {r : List Root} (y : Sl) : SubS (Go.Ve.prom (y.v r) r.length).1 ((y.prom r.length).1.v (r ++ (y.prom r.length).2)) ∧ (Go.Ve.prom (y.v r) r.length).2 = (y.prom r.length).2.map Root.v := by
  have hr : ∀ new : List Root, ∀ id, id < r.length → (r ++ new).getD id .dead = r.getD id .dead := fun new id h => by
    simp [List.getD_eq_getElem?_getD, List.getElem?_append_left h]
  have hn : ∀ new : List Root, Has (r ++ new) r.length new := fun new j _ => by
    simp only [List.getD_eq_getElem?_getD]
    rw [List.getElem?_append_right (by omega), Nat.add_sub_cancel_left]
  cases y with
  | one c => exact Cl.prom_v (hr _) c r.length (hn _)
  | new l =>
    show SubS (Go.Ve.prom (objL true (l.map Cl.v0)) r.length).1 _ ∧ (Go.Ve.prom (objL true (l.map Cl.v0)) r.length).2 = _
    rw [prom_objT, List.length_map]
    show SubS _ ((bif Nat.blt 0 l.length then (Sl.one (.rp r.length [] 0 0), [Root.obj false l]) else (.one .dead, [])).1.v (r ++ ((bif Nat.blt 0 l.length then (Sl.one (.rp r.length [] 0 0), [Root.obj false l]) else (.one .dead, [])).2))) ∧ _ = ((bif Nat.blt 0 l.length then (Sl.one (.rp r.length [] 0 0), [Root.obj false l]) else (.one .dead, [])).2).map Root.v
    cases hb : Nat.blt 0 l.length with
    | true =>
      rw [if_pos (blt0 hb)]
      exact ⟨SubS.refl _, rfl⟩
    | false =>
      rw [if_neg (fun h => by rw [show Nat.blt 0 l.length = true from Nat.ble_eq_true_of_le h] at hb; cases hb)]
      exact ⟨SubS.refl _, rfl⟩
  | agg l =>
    obtain ⟨h1, h2, h3⟩ := promLC_v (hr (promLC r.length r.length l).2) l r.length (hn _)
    show SubS (Go.Ve.prom (mkMany _) r.length).1 (mkMany _) ∧ (Go.Ve.prom (mkMany _) r.length).2 = _
    rw [prom_mk]
    exact ⟨SubS.mk h1 fun k _ => h2 k, h3⟩
  | bx l =>
    obtain ⟨h1, h2, h3⟩ := promLC_v (hr (promLC r.length r.length l).2) l r.length (hn _)
    show SubS (Go.Ve.prom (boxL _) r.length).1 (boxL _) ∧ (Go.Ve.prom (boxL _) r.length).2 = _
    rw [prom_box]
    exact ⟨SubS.bx h1 fun k _ => h2 k, h3⟩
  | tup l =>
    obtain ⟨h1, h2, h3⟩ := promLP_v (hr (promLP r.length r.length l).2) l r.length (hn _)
    show SubS (Go.Ve.prom (tupV _) r.length).1 (tupV _) ∧ (Go.Ve.prom (tupV _) r.length).2 = _
    rw [prom_tup]
    exact ⟨SubS.tup (by rw [h1]; simp) fun k _ => h2 k, h3⟩

/-! A slot gets its value. -/
def updT (t : Nat → Sl) (d : Nat) (y : Sl) : Nat → Sl := fun i => bif Nat.beq i d then y else t i
theorem updT_v {r : List Root} {t : Nat → Sl} {d : Nat} {y : Sl} : (fun i => (updT t d y i).v r) = upd1 (fun i => (t i).v r) d (y.v r) := by
  funext i
  unfold updT upd1
  cases hb : Nat.beq i d with
  | true => rw [if_pos (Nat.eq_of_beq_eq_true hb)]; rfl
  | false => rw [if_neg (fun h => by rw [h, Nat.beq_refl] at hb; cases hb)]; rfl
def St.add (s : St) (d : Nat) (p : Sl × List Root) : St := match p.2 with
  | [] => ⟨updT s.t d p.1, s.r⟩
  | q :: new => ⟨updT (fun i => (s.t i).chk s.r.length) d p.1, s.r ++ q :: new⟩
def St.put (h : Hint) (s : St) (d : Option Nat) (y : Sl) : Option St := match d with
  | none => some s
  | some d => bif Nat.blt d h.n then (bif h.fz.contains d then (match y.frz with
      | some y' => some ⟨updT s.t d y', s.r⟩
      | none => none) else some (s.add d (y.prom s.r.length))) else none

theorem add_sub {s : St} {d : Nat} {y : Sl} : (∀ i, SubS (upd1 s.den.t d (Go.Ve.prom (y.v s.r) s.r.length).1 i) ((s.add d (y.prom s.r.length)).den.t i)) ∧ s.den.σ ++ (Go.Ve.prom (y.v s.r) s.r.length).2 = (s.add d (y.prom s.r.length)).den.σ := by
  obtain ⟨h1, h2⟩ := Sl.prom_v (r := s.r) y
  rw [h2]
  unfold St.add
  cases hq : (y.prom s.r.length).2 with
  | nil =>
    rw [hq] at h1
    rw [List.append_nil] at h1
    refine ⟨fun i => ?_, by simp [St.den]⟩
    show SubS _ ((updT s.t d (y.prom s.r.length).1 i).v s.r)
    rw [congrFun (updT_v (r := s.r) (t := s.t) (d := d) (y := (y.prom s.r.length).1)) i]
    unfold upd1
    split
    · exact h1
    · exact SubS.refl _
  | cons q new =>
    rw [hq] at h1
    refine ⟨fun i => ?_, by simp [St.den]⟩
    show SubS _ ((updT (fun i => (s.t i).chk s.r.length) d (y.prom s.r.length).1 i).v (s.r ++ q :: new))
    rw [congrFun (updT_v (r := s.r ++ q :: new) (t := fun i => (s.t i).chk s.r.length) (d := d) (y := (y.prom s.r.length).1)) i]
    unfold upd1
    split
    · exact h1
    · exact Sl.chk_v (fun id h => by simp [List.getD_eq_getElem?_getD, List.getElem?_append_left h]) _

theorem put_sub {h : Hint} {s s' : St} {d : Option Nat} {y : Sl} (hp : s.put h d y = some s') : (∀ i, SubS ((s.den.res h d (y.v s.r)).t i) (s'.den.t i)) ∧ (s.den.res h d (y.v s.r)).σ = s'.den.σ := by
  unfold St.put at hp
  cases d with
  | none => cases hp; exact ⟨fun i => SubS.refl _, rfl⟩
  | some d =>
    simp only at hp
    cases hb : Nat.blt d h.n with
    | false => rw [hb] at hp; cases hp
    | true =>
      rw [hb] at hp
      simp only [cond_true] at hp
      have hb : d < h.n := Nat.le_of_ble_eq_true hb
      unfold Ms.res
      simp only [hb, if_true]
      cases hf : h.fz.contains d with
      | true =>
        rw [hf] at hp
        simp only [cond_true] at hp
        split at hp
        · rename_i y' hy
          cases hp
          refine ⟨fun i => ?_, rfl⟩
          show SubS (upd1 s.den.t d (Go.Ve.frz (y.v s.r)) i) ((updT s.t d y' i).v s.r)
          rw [congrFun (updT_v (r := s.r) (t := s.t) (d := d) (y := y')) i, Sl.frz_v hy]
          exact SubS.refl _
        · cases hp
      | false =>
        rw [hf] at hp
        simp only [cond_false, Option.some.injEq] at hp
        subst hp
        have hl : s.den.σ.length = s.r.length := by simp [St.den]
        simp only [Bool.false_eq_true, if_false, hl]
        exact add_sub

theorem SRel.put {C : Ctx} {h : Hint} {s s' : St} {d : Option Nat} {y : Sl} {a : Act} {w : World} (hp : s.put h d y = some s') (hs : SRel C h.n (s.den.res h d (y.v s.r)) a w) : SRel C h.n s'.den a w := by
  obtain ⟨h1, h2⟩ := put_sub hp
  exact hs.sub (by rw [h2]) (fun i _ => by rw [h2]; exact Sub.refl _) h1

/-- A quiet operation. -/
theorem tq_wp {P : Program} {C : Ctx} {h : Hint} {s s' : St} {o : Oper} {y : Sl} {a : Act} {w : World} {next : Act → World → Prop} {Q : Exit → Act → World → Prop} (hq : QS P s o.op y) (hp : s.put h o.dst y = some s')
    (hs : SRel C h.n s.den a w) (hn : ∀ a' w', SRel C h.n s'.den a' w' → next a' w') : o.wp P a w next Q := by
  refine vop_sound (P := P) (h := h) (K := fun S => S = s.den.res h o.dst (y.v s.r)) (S := s.den) ?_ hs fun S' a' w' hS hs' => hn a' w' (SRel.put hp (hS ▸ hs'))
  have hq' : qop P s.den.σ s.den.ev o.op (ResK h o.dst s.den fun S => S = s.den.res h o.dst (y.v s.r)) := by
    refine qop0_mono hq ?_
    intro r0 hr0
    exact ⟨y.v s.r, hr0, rfl⟩
  unfold vop
  split
  · rename_i t x v ho
    rw [ho] at hq
    exact hq.elim
  · exact hq'
end Go.Ve


namespace Go.Ve
open RowKit (Below)

theorem PR.subst {C : Ctx} {N : Nat} {σ : List V} {ρ : Nat → Value} {F : Nat → Nat → Prop} {t t' : Nat → V} {a : Act} {w : World} {D : Nat → Prop} {T : Nat → Nat → Prop} (h : PR C N σ ρ F t a w D T) (hs : ∀ x, Sub (t x) (t' x)) : PR C N σ ρ F t' a w D T :=
  ⟨h.df, h.sz, fun x hx => by have := hs x; rw [h.dd x hx] at this; exact this, h.wr, fun x hx => Rel.sub (hs x) (h.tm x hx), h.tD, h.tF, h.tT, h.tn, h.fr, h.Fn, h.D1, h.D2, h.rt, h.ml, h.tx⟩

theorem LQ.sub {P : Program} {N : Nat} {σ : List V} {o : Oper} {t : Nat → V} {ys ys' : List (Nat × Tk)} {r r' : V} (h : LQ P N σ o t ys r) (hy : ∀ x v, Sub (kap1 (lookM ys x) v) (kap1 (lookM ys' x) v)) (hr : Sub r r') : LQ P N σ o t ys' r' := by
  intro C ρ F a w D T t' hag hp next Q hn
  refine h C ρ F a w D T t' hag hp next Q fun a' w' D' T' hp' hT' => hn a' w' D' T' (hp'.subst fun x => ?_) hT'
  have hk : Sub (killM ys t' x) (killM ys' t' x) := hy x _
  cases hd : o.dst with
  | none => exact hk
  | some d =>
    show Sub (if x = d then r else killM ys t' x) (if x = d then r' else killM ys' t' x)
    split
    · exact hr
    · exact hk

/-- a cell that may be put into a struct, owned or not -/
def Cl.solid : Cl → Bool
  | .dead => false
  | .c .unit _ _ => false
  | .c (.pair _ _) _ _ => false
  | _ => true
theorem solid_v {r : List Root} {y : Cl} (h : y.solid = true) : oneV (y.v r) = true ∧ plainO (y.v r) = true ∧ Go.Ve.cellsV (y.v r) = [y.v r] := by
  cases y with
  | c t d x => cases t <;> first | exact ⟨rfl, rfl, rfl⟩ | cases h
  | dead => cases h
  | _ => exact ⟨rfl, rfl, rfl⟩
def Sl.cellsO : Sl → Option (List Cl)
  | .one y => bif y.solid then some [y] else none
  | .agg l => bif l.all Cl.solid then some l else none
  | _ => none
theorem cellsO_v {r : List Root} {y : Sl} {l : List Cl} (h : y.cellsO = some l) : plainO (y.v r) = true ∧ Go.Ve.cellsV (y.v r) = l.map (Cl.v r) ∧ ∀ c ∈ l, oneV (c.v r) = true := by
  unfold Sl.cellsO at h
  split at h
  · rename_i c
    cases hb : c.solid with
    | false => rw [hb] at h; cases h
    | true =>
      rw [hb] at h
      cases h
      obtain ⟨h0, h1, h2⟩ := solid_v (r := r) hb
      exact ⟨h1, h2, fun c' hc => by rw [List.mem_singleton.1 hc]; exact h0⟩
  · rename_i l'
    cases hb : l'.all Cl.solid with
    | false => rw [hb] at h; cases h
    | true =>
      rw [hb] at h
      cases h
      exact ⟨rfl, cellsV_mk, fun c hc => (solid_v (List.all_eq_true.1 hb c hc)).1⟩
  · cases h
/-- it may lie in a tree -/
def Cl.keep (y : Cl) : Bool := y.imm || y.own
theorem keep_v {r : List Root} {y : Cl} (h : y.keep = true) : (immCell (y.v r) = true ∨ ∃ s sz n f, y.v r = .nd s true sz n f) ∧ y.v r = y.v0 := by
  unfold Cl.keep at h
  cases hi : y.imm with
  | true => exact ⟨.inl (imm_v hi).1, (imm_v hi).2⟩
  | false =>
    have h : (y.imm || y.own) = true := h
    rw [hi, Bool.false_or] at h
    have h : y.own = true := h
    unfold Cl.own at h
    split at h
    · exact ⟨.inr ⟨_, _, _, _, rfl⟩, rfl⟩
    · exact ⟨.inr ⟨_, _, _, _, rfl⟩, rfl⟩
    · cases h

def tFillO (place : Nat → Option (Nat × Nat)) (cells : List Cl) : List (Nat × Option Sl) → Option (List Cl)
  | [] => some cells
  | (i, y) :: rest => match place i, y with
    | some (off, size), some y => match y.cellsO with
      | some l => bif Nat.beq l.length size && Nat.ble (off + size) cells.length then tFillO place (setC cells off l) rest else none
      | none => none
    | _, _ => none
theorem tFillO_v {s : St} {place : Nat → Option (Nat × Nat)} {ev : Operand → V} : ∀ (ps : List (Nat × Operand)) (cells l : List Cl), (∀ p ∈ ps, s.den.ev p.2 ≠ .dead → ev p.2 = s.den.ev p.2) → tFillO place cells (ps.map fun p => (p.1, s.ev p.2)) = some l →
    (∀ p ∈ ps, plainO (ev p.2) = true) ∧ fillV place (cells.map (Cl.v s.r)) (ps.map fun p => (p.1, ev p.2)) = some (l.map (Cl.v s.r))
  | [], cells, l, _, h => by cases h; exact ⟨fun p hp => (by cases hp), rfl⟩
  | (i, x) :: ps, cells, l, hev, h => by
    rw [List.map_cons] at h
    unfold tFillO at h
    split at h
    case h_2 => cases h
    rename_i off size y hpl hy
    split at h
    case h_2 => cases h
    rename_i m hm
    cases hb : (Nat.beq m.length size && Nat.ble (off + size) cells.length) with
    | false => rw [hb] at h; cases h
    | true =>
      rw [hb] at h
      simp only [Bool.and_eq_true] at hb
      have h1 := Nat.eq_of_beq_eq_true hb.1
      have h2 := Nat.le_of_ble_eq_true hb.2
      obtain ⟨g1, g2, _⟩ := cellsO_v (r := s.r) hm
      obtain ⟨k1, k2⟩ := tFillO_v ps _ _ (fun p hp => hev p (List.mem_cons_of_mem _ hp)) h
      have hy : s.ev x = some y := hy
      have hx : ev x = y.v s.r := by
        rw [← ev_v hy]
        refine hev (i, x) (List.mem_cons_self ..) ?_
        rw [ev_v hy]
        intro e
        rw [e] at g1
        cases g1
      refine ⟨fun p hp => ?_, ?_⟩
      · rcases List.mem_cons.1 hp with rfl | hp
        · show plainO (ev x) = true
          rw [hx]; exact g1
        · exact k1 p hp
      · rw [List.map_cons]
        unfold fillV
        simp only [hpl, hx, g2]
        rw [if_neg (by simp only [List.length_map]; omega), ← setC_v]
        exact k2

/-! What is taken. -/
def ownS (s : St) : Operand → Option Nat
  | .tmp y => bif (s.t y).own then some y else none
  | _ => none
theorem ownS_v {s : St} {t : Nat → V} (h : ∀ y, tOwn (t y) = (s.t y).own) (xs : List Operand) : xs.map (ownY t) = xs.map (ownS s) := by
  refine List.map_congr_left fun x _ => ?_
  cases x with
  | tmp y =>
    show (if tOwn (t y) = true then some y else none) = bif (s.t y).own then some y else none
    rw [h y]
    cases (s.t y).own <;> rfl
  | _ => rfl
def jsO : List (Option Nat) → List Nat
  | [] => []
  | none :: l => jsO l
  | some a :: l => a :: jsO l
theorem fitO_v (d : Nat) (r : List Root) (c : Cl) : (fit d c).v r = c.v r ∧ (fit d c).v0 = c.v0 := by
  cases c with
  | c t d' x =>
    have e : fit d (.c t d' x) = bif Nat.beq (minN d' t.dep) (minN d t.dep) then .c t d x else .c t d' x := rfl
    rw [e]
    cases h : Nat.beq (minN d' t.dep) (minN d t.dep) with
    | false => exact ⟨rfl, rfl⟩
    | true =>
      have := Nat.eq_of_beq_eq_true h
      rw [minN_eq, minN_eq] at this
      exact ⟨(cV_dep (x := x) this).symm, (cV_dep (x := x) this).symm⟩
  | _ => exact ⟨rfl, rfl⟩
theorem taken_jsO {t : Nat → V} {xs : List Operand} {l : List (Option Nat)} (h : xs.map (ownY t) = l) : taken t xs = jsO l := by
  rw [taken_map, h]
  clear h
  induction l with
  | nil => rfl
  | cons a l ih => cases a with
    | none => exact ih
    | some a => show a :: l.filterMap id = a :: jsO l; rw [ih]
def deadL (js : List Nat) (t : Nat → Sl) : Nat → Sl := fun i => bif js.contains i then .one .dead else t i
/-- nil where a slice of the call's own lay -/
def nrm1 : Cl → Cl → Cl
  | .c (.sl t) _ _, .nil => .c (.sl t) (t.dep + 1) []
  | _, y => y
def nrmL : List Cl → List Cl → List Cl
  | a :: lp, y :: l => nrm1 a y :: nrmL lp l
  | _, l => l
theorem nrm1_v (a y : Cl) : Sub y.v0 (nrm1 a y).v0 := by
  unfold nrm1
  split
  · exact .inr ⟨rfl, _, _, _, rfl⟩
  · exact Sub.refl _
theorem nrmL_len : ∀ (lp l : List Cl), (nrmL lp l).length = l.length
  | [], [] => rfl
  | [], _ :: _ => rfl
  | _ :: _, [] => rfl
  | a :: lp, y :: l => by show (nrmL lp l).length + 1 = _; rw [nrmL_len lp l]; rfl
theorem nrmL_v : ∀ (lp l : List Cl) (k : Nat), Sub ((l.map Cl.v0).getD k .dead) (((nrmL lp l).map Cl.v0).getD k .dead)
  | [], [], _ => Sub.refl _
  | [], _ :: _, _ => Sub.refl _
  | _ :: _, [], _ => Sub.refl _
  | a :: lp, y :: l, 0 => nrm1_v a y
  | a :: lp, y :: l, k + 1 => nrmL_v lp l k
end Go.Ve

