/- The small machine over code: its weakest precondition, and that it is one. -/
import Derived.Test.YtkafcpbbcpngdaaVp
namespace Go.Ve
open RowKit (Below)

def Ms.skip (S : Ms) (d : Option Nat) : Ms :=
  match d with
  | some d => ⟨upd1 S.t d .dead, S.σ⟩
  | none => S

/-- What an operation of the region has left. -/
def gv (t : Nat → V) (ops : Array Oper) (j : Nat) : V :=
  match (ops[j]?).bind (·.dst) with
  | some d => t d
  | none => .dead

def vops (P : Program) (h : Hint) (ops : Array Oper) : List Oper → (Ms → Prop) → Ms → Prop
  | [], K, S => K S
  | o :: rest, K, S => match o.guard with
    | none => vop P h o (vops P h ops rest K) S
    | some (j, want) => match gv S.t ops j with
      | .c (.bool b) => (b = want → vop P h o (vops P h ops rest K) S) ∧ (b = (!want) → vops P h ops rest K (S.skip o.dst))
      | _ => False

theorem gv_spec {C : Ctx} {N : Nat} {S : Ms} {a : Act} {w : World} (hs : SRel C N S a w) {ops : Array Oper} {j : Nat} {b : Bool} (h : gv S.t ops j = .c (.bool b)) : yielded ops a.tmps j = some b := by
  obtain ⟨_, hdd, D, ρ, F, hcr⟩ := hs
  unfold gv at h
  split at h
  · rename_i d hd
    have hlt : d < N := by
      rcases Nat.lt_or_ge d N with h' | h'
      · exact h'
      · rw [hdd d h'] at h; cases h
    have h1 := hcr.tm d (by simpa using hlt)
    rw [range_getD hlt, h] at h1
    have h2 : d < a.tmps.size := by rw [hcr.sz]; simpa using hlt
    have h3 : a.tmps[d]? = some (.bool b) := by
      have := h1.1
      simp [h2] at this ⊢
      exact this
    unfold yielded
    rw [hd]
    simp [h3]
  · cases h

theorem SRel.skip {C : Ctx} {N : Nat} {S : Ms} {a : Act} {w : World} (hs : SRel C N S a w) (d : Option Nat) (v : Value) : SRel C N (S.skip d) (a.put d v) w := by
  obtain ⟨hd, hdd, D, ρ, F, hcr⟩ := hs
  cases d with
  | none => exact ⟨hd, hdd, D, ρ, F, hcr⟩
  | some d =>
    refine ⟨hd, fun x hx => ?_, ?_⟩
    · show upd1 S.t d .dead x = .dead
      unfold upd1
      split
      · rfl
      · exact hdd x hx
    · have := hcr.setv (r := .dead) (Below.refl _ _) (D' := D) (show Rel D w _ .dead v noF from fun _ h => h) (fun _ h => h) (fun _ h => .inl h) hcr.wr.Dlt d
      by_cases hdn : d < N
      · rw [range_set hdn] at this; exact this
      · have e : (List.range N).map (upd1 S.t d .dead) = ((List.range N).map S.t).set d .dead := by
          apply List.ext_getElem?
          intro i
          have : i ≠ d ∨ N ≤ i := by omega
          by_cases hi : i < N
          · have : d ≠ i := by omega
            rw [List.getElem?_set_ne this]; simp [hi, upd1, Ne.symm this]
          · simp [hi, Nat.le_of_not_lt hi]
        show CRel C S.σ ((List.range N).map (upd1 S.t d .dead)) _ w
        rw [e]; exact this

theorem vops_sound {P : Program} {C : Ctx} {h : Hint} {ops : Array Oper} {K : Ms → Prop} {Q : Exit → Act → World → Prop} (hQ : ∀ S a w, K S → SRel C h.n S a w → Q .normal a w) :
    ∀ (l : List Oper) (S : Ms) (a : Act) (w : World), vops P h ops l K S → SRel C h.n S a w → wpList P ops Q l a w := by
  intro l
  induction l with
  | nil => intro S a w h hs; exact hQ S a w h hs
  | cons o rest ih =>
    intro S a w h hs
    unfold vops at h
    unfold wpList
    split at h
    · rename_i hg
      rw [if_pos (by simp [Region.wanted, hg])]
      exact .inl (vop_sound h hs fun S' a' w' hK hs' => ih S' a' w' hK hs')
    · rename_i j want hg
      split at h
      · rename_i b hb
        have hy := gv_spec hs hb
        by_cases hw : b = want
        · rw [if_pos (by simp [Region.wanted, hg, hy, hw])]
          exact .inl (vop_sound (h.1 hw) hs fun S' a' w' hK hs' => ih S' a' w' hK hs')
        · rw [if_neg (by simp [Region.wanted, hg, hy, hw])]
          exact ih _ _ _ (h.2 (by cases b <;> cases want <;> simp_all)) (hs.skip o.dst undef)
      · exact h.elim

/-- What follows on a way out. -/
def SeqK (k : Ms → Prop) (Q : Exit → Ms → Prop) : Exit → Ms → Prop
  | .normal, S => k S
  | e, S => Q e S
def BlkK (id : Nat) (Q : Exit → Ms → Prop) : Exit → Ms → Prop
  | .exit id', S => if id' = id then Q .normal S else Q (.exit id') S
  | e, S => Q e S
/-- What is gone is dropped from the list's end. -/
def dropDead : List V → List V
  | [] => []
  | v :: l => match v, dropDead l with
    | .dead, [] => []
    | v, l' => v :: l'
def trimK : Nat → List V → List V
  | 0, l => dropDead l
  | _ + 1, [] => []
  | k + 1, v :: l => v :: trimK k l
def Ms.trim (S : Ms) (k : Nat) : Ms := ⟨S.t, trimK k S.σ⟩

theorem dropDead_spec : ∀ l, ∃ j, l = dropDead l ++ List.replicate j .dead
  | [] => ⟨0, rfl⟩
  | v :: l => by
    obtain ⟨j, hj⟩ := dropDead_spec l
    unfold dropDead
    split
    · rename_i h
      rw [h] at hj
      exact ⟨j + 1, by rw [hj]; rfl⟩
    · exact ⟨j, by rw [List.cons_append, ← hj]⟩
theorem trimK_spec : ∀ k l, ∃ j, l = trimK k l ++ List.replicate j .dead ∧ (j = 0 ∨ k ≤ (trimK k l).length)
  | 0, l => by obtain ⟨j, hj⟩ := dropDead_spec l; exact ⟨j, hj, .inr (Nat.zero_le _)⟩
  | k + 1, [] => ⟨0, rfl, .inl rfl⟩
  | k + 1, v :: l => by
    obtain ⟨j, hj, h⟩ := trimK_spec k l
    refine ⟨j, ?_, h.imp id fun h => by unfold trimK; simpa using h⟩
    unfold trimK
    rw [List.cons_append, ← hj]

theorem At.dead {w : World} {p : List (Nat × Nat)} {cv : Value} {s o : Bool} {sz n : Nat} {f : Nat → Nat → V} {cv' : Value} (h : At w p .dead cv (.nd s o sz n f) cv') : False := by
  cases p with
  | nil => exact absurd h.1 (by simp)
  | cons a p => exact h

theorem RefOK.trim {σ : List V} {ρ : Nat → Value} {w : World} : ∀ v cv, RefOK (σ ++ [.dead]) ρ w v cv → RefOK σ ρ w v cv
  | .rs id p off len, cv, ⟨hid, sz, n, f, cn, ha, r⟩ => by
    by_cases h : id < σ.length
    · rw [getD_app_l h] at ha; exact ⟨h, sz, n, f, cn, ha, r⟩
    · obtain rfl : id = σ.length := by simp at hid; omega
      have e : (σ ++ [V.dead]).getD σ.length .dead = .dead := by simp
      rw [e] at ha
      exact (At.dead ha).elim
  | .rp id p i k, cv, ⟨hid, s, sz, n, f, b, o, cap, ha, r⟩ => by
    by_cases h : id < σ.length
    · rw [getD_app_l h] at ha; exact ⟨h, s, sz, n, f, b, o, cap, ha, r⟩
    · obtain rfl : id = σ.length := by simp at hid; omega
      have e : (σ ++ [V.dead]).getD σ.length .dead = .dead := by simp
      rw [e] at ha
      exact (At.dead ha).elim
  | .c _, _, h => h.elim
  | .dead, _, h => h.elim
  | .many .., _, h => h.elim
  | .nd .., _, h => h.elim

theorem CR.trim1 {C : Ctx} {σ ts : List V} {cts : Array Value} {w : World} {D : Nat → Prop} {ρ : Nat → Value} {F : Nat → Nat → Prop} (h : CR C (σ ++ [.dead]) ts cts w D ρ F) (hm : C.m ≤ σ.length) : CR C σ ts cts w D ρ F := by
  refine ⟨⟨fun i hi => ?_, h.wr.disj, h.wr.dD, h.wr.Dlt, fun i b hi hb => ?_⟩, h.sz, fun t ht => ?_, h.fr, h.Fn, h.D1, h.D2, h.rt, hm⟩
  · have := h.wr.rel i (by simp; omega)
    rw [getD_app_l hi] at this
    exact this
  · by_cases he : i = σ.length
    · subst he
      have := h.wr.rel σ.length (by simp)
      have e : (σ ++ [V.dead]).getD σ.length .dead = .dead := by simp
      rw [e] at this
      exact this b hb
    · exact h.wr.out i b (by simp; omega) hb
  · exact Rel.mono (fun _ h => h) (fun v cv hv => RefOK.trim v cv hv) _ _ _ (fun _ _ => rfl) (h.tm t ht)

theorem SRel.trim {C : Ctx} {N : Nat} {S : Ms} {a : Act} {w : World} (hs : SRel C N S a w) {k : Nat} (hk : C.m ≤ k) : SRel C N (S.trim k) a w := by
  obtain ⟨hd, hdd, D, ρ, F, hcr⟩ := hs
  refine ⟨hd, hdd, D, ρ, F, ?_⟩
  obtain ⟨j, hj, hl⟩ := trimK_spec k S.σ
  show CR C (trimK k S.σ) _ _ _ _ _ _
  have hm : C.m ≤ (trimK k S.σ).length ∨ j = 0 := by
    rcases hl with h | h
    · exact .inr h
    · exact .inl (by omega)
  rw [hj] at hcr
  have gen : ∀ (j : Nat) (l : List V), (C.m ≤ l.length ∨ j = 0) → CR C (l ++ List.replicate j .dead) ((List.range N).map S.t) a.tmps w D ρ F → CR C l ((List.range N).map S.t) a.tmps w D ρ F := by
    intro j
    induction j with
    | zero => intro l _ h; simpa using h
    | succ j ih =>
      intro l hm h
      rcases hm with hm | hm
      · rw [show List.replicate (j + 1) V.dead = List.replicate j .dead ++ [.dead] from by rw [List.replicate_succ'], ← List.append_assoc] at h
        exact ih l (.inl hm) (h.trim1 (by simp; omega))
      · omega
  exact gen j _ hm hcr

/-- The round's end: the relation holds again, the measure has gone down. -/
def LoopK {X : Type} (kp : Nat) (I : X → Ms → Prop) (μ : X → Nat) (m : Nat) (Q : Exit → Ms → Prop) : Exit → Ms → Prop
  | .normal, S => ∃ x, I x (S.trim kp) ∧ μ x < m
  | e, S => Q e S
/-- A loop, by a relation I over some X and a measure. -/
def LoopV (kp : Nat) (body : (Exit → Ms → Prop) → Ms → Prop) (Q : Exit → Ms → Prop) (S : Ms) : Prop :=
  ∃ (X : Type) (I : X → Ms → Prop) (μ : X → Nat) (x : X), I x (S.trim kp) ∧ ∀ x S, I x S → body (LoopK kp I μ (μ x) Q) S

/-- A region that draws its order: told elsewhere. -/
def Drawn (P : Program) (h : Hint) (id : Nat) (ops : Array Oper) (K : Ms → Prop) (S : Ms) : Prop :=
  ∀ (C : Ctx) (Q : Exit → Act → World → Prop) (a : Act) (w : World), (∀ S a w, K S → SRel C h.n S a w → Q .normal a w) → SRel C h.n S a w → (Code.region id ops true).wp P Q a w

def vwp (P : Program) (h : Hint) : Code → (Exit → Ms → Prop) → Ms → Prop
  | .skip, Q, S => Q .normal S
  | .region _ ops false, Q, S => vops P h ops ops.toList (Q .normal) S
  | .region id ops true, Q, S => Drawn P h id ops (Q .normal) S
  | .seq a b, Q, S => vwp P h a (SeqK (vwp P h b Q) Q) S
  | .cond c x y, Q, S => match S.ev c with
    | .c (.bool b) => (b = true → vwp P h x Q S) ∧ (b = false → vwp P h y Q S)
    | _ => False
  | .block id b, Q, S => vwp P h b (BlkK id Q) S
  | .loop b, Q, S => LoopV h.keep (vwp P h b) Q S
  | .exit id, Q, S => Q (.exit id) S
  | .label _, Q, S => Q .normal S
  | .goto l, Q, S => Q (.goto l) S
  | .ret, Q, S => Q .ret S
  | _, _, _ => False

theorem least {p : Nat → Prop} (h : ∃ n, p n) : ∃ n, p n ∧ ∀ m, m < n → ¬ p m := by
  obtain ⟨n, hn⟩ := h
  induction n using Nat.strongRecOn with
  | _ n ih =>
    by_cases h : ∃ m, m < n ∧ p m
    · obtain ⟨m, hm, hp⟩ := h; exact ih m hm hp
    · exact ⟨n, hn, fun m hm hp => h ⟨m, hm, hp⟩⟩

theorem vwp_sound {P : Program} {C : Ctx} {h : Hint} (hkeep : C.m ≤ h.keep) : ∀ (c : Code) (Q : Exit → Ms → Prop) (Q' : Exit → Act → World → Prop), (∀ e S a w, Q e S → SRel C h.n S a w → Q' e a w) →
    ∀ S a w, vwp P h c Q S → SRel C h.n S a w → c.wp P Q' a w := by
  intro c
  induction c with
  | skip => intro Q Q' hQ S a w hv hs; exact wp_skip (hQ _ _ _ _ hv hs)
  | region id ops draw =>
    intro Q Q' hQ S a w hv hs
    cases draw with
    | false => exact wp_region_list (vops_sound (hQ .normal) ops.toList S a w hv hs)
    | true => exact hv C Q' a w (hQ .normal) hs
  | seq x y ihx ihy =>
    intro Q Q' hQ S a w hv hs
    refine wp_seq (ihx (SeqK (vwp P h y Q) Q) _ ?_ S a w hv hs)
    intro e S' a' w' hq hs'
    cases e with
    | normal => exact ihy Q Q' hQ S' a' w' hq hs'
    | exit id => exact hQ _ _ _ _ hq hs'
    | goto l => exact hQ _ _ _ _ hq hs'
    | ret => exact hQ _ _ _ _ hq hs'
    | panic ch => exact hQ _ _ _ _ hq hs'
    | outgrown => exact hQ _ _ _ _ hq hs'
  | cond c x y ihx ihy =>
    intro Q Q' hQ S a w hv hs
    unfold vwp at hv
    split at hv
    · rename_i b hb
      obtain ⟨hdd, D, ρ, F, hcr⟩ := hs.2
      have h1 := ev_rel hcr hdd c
      rw [hb] at h1
      refine wp_cond (t := b) h1.1 ?_
      cases b with
      | true => exact ihx Q Q' hQ S a w (hv.1 rfl) hs
      | false => exact ihy Q Q' hQ S a w (hv.2 rfl) hs
    · exact hv.elim
  | block id b ih =>
    intro Q Q' hQ S a w hv hs
    refine wp_block (ih (BlkK id Q) _ ?_ S a w hv hs)
    intro e S' a' w' hq hs'
    cases e with
    | exit id' =>
      simp only [BlkK] at hq
      simp only [Exit.inBlock]
      split
      · rename_i he; rw [if_pos he] at hq; exact hQ _ _ _ _ hq hs'
      · rename_i he; rw [if_neg he] at hq; exact hQ _ _ _ _ hq hs'
    | normal => exact hQ _ _ _ _ hq hs'
    | goto l => exact hQ _ _ _ _ hq hs'
    | ret => exact hQ _ _ _ _ hq hs'
    | panic ch => exact hQ _ _ _ _ hq hs'
    | outgrown => exact hQ _ _ _ _ hq hs'
  | loop b ih =>
    intro Q Q' hQ S a w hv hs
    obtain ⟨X, I, μ, x0, h0, hround⟩ := hv
    let I' : Act → World → Prop := fun a w => ∃ x S, I x S ∧ SRel C h.n S a w
    have hmin : ∀ (a : Act) (w : World), ∃ n, I' a w → (∃ x S, I x S ∧ SRel C h.n S a w ∧ μ x = n) ∧ ∀ x S, I x S → SRel C h.n S a w → n ≤ μ x := by
      intro a w
      by_cases hI : I' a w
      · obtain ⟨x, S, h1, h2⟩ := hI
        obtain ⟨n, hn, hlt⟩ := least (p := fun n => ∃ x S, I x S ∧ SRel C h.n S a w ∧ μ x = n) ⟨μ x, x, S, h1, h2, rfl⟩
        exact ⟨n, fun _ => ⟨hn, fun x S h1 h2 => Nat.le_of_not_lt fun hl => hlt (μ x) hl ⟨x, S, h1, h2, rfl⟩⟩⟩
      · exact ⟨0, fun h => absurd h hI⟩
    let μ' : Act → World → Nat := fun a w => Classical.choose (hmin a w)
    have hμ' : ∀ a w, I' a w → (∃ x S, I x S ∧ SRel C h.n S a w ∧ μ x = μ' a w) ∧ ∀ x S, I x S → SRel C h.n S a w → μ' a w ≤ μ x := fun a w => Classical.choose_spec (hmin a w)
    refine wp_loop I' μ' ⟨x0, S.trim h.keep, h0, hs.trim hkeep⟩ fun a w hI => ?_
    obtain ⟨⟨x, S, h1, h2, hx⟩, _⟩ := hμ' a w hI
    refine ih (LoopK h.keep I μ (μ x) Q) _ ?_ S a w (hround x S h1) h2
    intro e S' a' w' hq hs'
    cases e with
    | normal =>
      obtain ⟨x', hI', hlt⟩ := hq
      have hI2 : I' a' w' := ⟨x', S'.trim h.keep, hI', hs'.trim hkeep⟩
      refine ⟨hI2, ?_⟩
      have := (hμ' a' w' hI2).2 x' (S'.trim h.keep) hI' (hs'.trim hkeep)
      rw [← hx]
      omega
    | exit id => exact hQ _ _ _ _ hq hs'
    | goto l => exact hQ _ _ _ _ hq hs'
    | ret => exact hQ _ _ _ _ hq hs'
    | panic ch => exact hQ _ _ _ _ hq hs'
    | outgrown => exact hQ _ _ _ _ hq hs'
  | exit id => intro Q Q' hQ S a w hv hs; exact wp_exit (hQ _ _ _ _ hv hs)
  | label l => intro Q Q' hQ S a w hv hs; exact wp_label (hQ _ _ _ _ hv hs)
  | goto l => intro Q Q' hQ S a w hv hs; exact wp_goto (hQ _ _ _ _ hv hs)
  | ret => intro Q Q' hQ S a w hv hs; exact wp_ret (hQ _ _ _ _ hv hs)
  | rangeFunc f ps x y _ _ => intro Q Q' hQ S a w hv hs; exact hv.elim
  | scope c _ => intro Q Q' hQ S a w hv hs; exact hv.elim
  | refuse s => intro Q Q' hQ S a w hv hs; exact hv.elim

end Go.Ve
