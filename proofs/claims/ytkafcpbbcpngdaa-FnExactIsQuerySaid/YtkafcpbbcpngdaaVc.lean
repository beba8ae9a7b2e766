/- The state of the small machine, what it means that an activation and a world stand for it, and its quiet operations. -/
import Derived.Test.YtkafcpbbcpngdaaVb
import Derived.Laws.Cells
import Derived.Laws.MakeOwn
import Derived.Laws.Tables
import Derived.IntWalk
namespace Go.Ve

/-- What a reference stands for. -/
def RefOK (σ : List V) (ρ : Nat → Value) (w : World) : V → Value → Prop
  | .rs id p off len, cv => id < σ.length ∧ ∃ sz n f cn, At w p (σ.getD id .dead) (ρ id) (.nd true true sz n f) cn ∧ off + len ≤ n ∧
      ((∃ b o cap, cn = header true b o n cap ∧ cv = .slice (some ⟨b, o + off * sz, none⟩) len (cap - off)) ∨ (len = 0 ∧ ∃ a : Option (Nat × Nat), cv = .slice (a.map fun p => ⟨p.1, p.2, none⟩) 0 0 ∧ (off = 0 → n = 0 → cv = cn)))
  | .rp id p i k, cv => id < σ.length ∧ ∃ s sz n f b o cap, At w p (σ.getD id .dead) (ρ id) (.nd s true sz n f) (header s b o n cap) ∧ i < n ∧ k < sz ∧
      cv = .pointer (some ⟨b, o + i * sz + k, none⟩)
  | _, _ => False

/-- The owned trees. -/
structure WRel (σ : List V) (w : World) (D : Nat → Prop) (ρ : Nat → Value) (F : Nat → Nat → Prop) : Prop where
  rel : ∀ i, i < σ.length → Rel D w noR (σ.getD i .dead) (ρ i) (F i)
  disj : ∀ i j b, i ≠ j → F i b → ¬ F j b
  dD : ∀ i b, F i b → ¬ D b
  Dlt : ∀ b, D b → b < w.heap.size
  out : ∀ i b, σ.length ≤ i → ¬ F i b

theorem WRel.lt {σ : List V} {w : World} {D : Nat → Prop} {ρ : Nat → Value} {F : Nat → Nat → Prop} (h : WRel σ w D ρ F) (i b : Nat) (hb : F i b) : b < w.heap.size := by
  by_cases hi : i < σ.length
  · exact Rel.lt _ _ _ (h.rel i hi) b hb
  · exact absurd hb (h.out i b (by omega))

open RowKit (Below)

theorem RefOK.same {σ : List V} {w w' : World} {D : Nat → Prop} {ρ : Nat → Value} {F : Nat → Nat → Prop} (h : WRel σ w D ρ F) (hw : ∀ i b, F i b → w'.heap[b]? = w.heap[b]?) :
    ∀ v cv, RefOK σ ρ w v cv → RefOK σ ρ w' v cv
  | .rs id p off len, cv, ⟨hid, sz, n, f, cn, ha, r⟩ => ⟨hid, sz, n, f, cn, At.same (h.rel id hid) ha (hw id), r⟩
  | .rp id p i k, cv, ⟨hid, s, sz, n, f, b, o, cap, ha, r⟩ => ⟨hid, s, sz, n, f, b, o, cap, At.same (h.rel id hid) ha (hw id), r⟩
  | .c _, _, h => h.elim
  | .dead, _, h => h.elim
  | .many .., _, h => h.elim
  | .nd .., _, h => h.elim

theorem WRel.below {σ : List V} {w w' : World} {D : Nat → Prop} {ρ : Nat → Value} {F : Nat → Nat → Prop} (h : WRel σ w D ρ F) (hw : Below w.heap.size w w') : WRel σ w' D ρ F :=
  ⟨fun i hi => Rel.mono (fun _ h => h) (fun _ _ h => h) _ _ _ (fun b hb => hw.block b (hb.elim (h.Dlt b) (h.lt i b))) (h.rel i hi), h.disj, h.dD, fun b hb => Nat.lt_of_lt_of_le (h.Dlt b hb) hw.size, h.out⟩

theorem Rel.noR_mono {D : Nat → Prop} {w : World} {R : V → Value → Prop} {v : V} {cv : Value} {fp : Nat → Prop} (h : Rel D w noR v cv fp) : Rel D w R v cv fp :=
  Rel.mono (fun _ h => h) (fun _ _ h => h.elim) _ _ _ (fun _ _ => rfl) h

/-- The value of an operand, in relation. -/
def OpR (σ : List V) (w : World) (D : Nat → Prop) (ρ : Nat → Value) (F : Nat → Nat → Prop) (v : V) (cv : Value) : Prop :=
  ∃ fp, Rel D w (RefOK σ ρ w) v cv fp ∧ (∀ b, fp b → ¬ D b) ∧ ∀ i b, F i b → ¬ fp b

/-- The operation yields a value that reads as r; of what was there nothing turns. -/
def Yields (P : Program) (o : Oper) (a : Act) (w : World) (σ : List V) (D : Nat → Prop) (ρ : Nat → Value) (r : V) : Prop :=
  ∀ (next : Act → World → Prop) (Q : Exit → Act → World → Prop),
    (∀ v' w' D' fp, Below w.heap.size w w' → Rel D' w' (RefOK σ ρ w') r v' fp → (∀ b, fp b → w.heap.size ≤ b) → (∀ b, D b → D' b) → (∀ b, D' b → D b ∨ w.heap.size ≤ b) →
      (∀ b, D' b → b < w'.heap.size ∧ ¬ fp b) → next (a.put o.dst v') w') → o.wp P a w next Q

theorem Yields.pure {P : Program} {o : Oper} {a : Act} {w : World} {σ : List V} {D : Nat → Prop} {ρ : Nat → Value} {F : Nat → Nat → Prop} {r : V} {v' : Value} (wr : WRel σ w D ρ F)
    (h : (execOp a.eval o).run P w = .ok (.value v') w) (hr : Rel D w (RefOK σ ρ w) r v' noF) : Yields P o a w σ D ρ r := by
  intro next Q hn
  unfold Oper.wp
  rw [h]
  exact hn v' w D noF (Below.refl _ _) hr (fun _ h => h.elim) (fun _ h => h) (fun _ h => .inl h) (fun b h => ⟨wr.Dlt b h, fun h => h⟩)

/-- A new block. -/
theorem Yields.new {P : Program} {o : Oper} {a : Act} {w : World} {σ : List V} {D : Nat → Prop} {ρ : Nat → Value} {F : Nat → Nat → Prop} {r : V} {v' : Value} {ob : Obj} (wr : WRel σ w D ρ F)
    (h : (execOp a.eval o).run P w = .ok (.value v') (w.alloc ob)) (hr : ∃ fp, Rel D (w.alloc ob) (RefOK σ ρ (w.alloc ob)) r v' fp ∧ ∀ b, fp b → b = w.heap.size) : Yields P o a w σ D ρ r := by
  intro next Q hn
  unfold Oper.wp
  rw [h]
  obtain ⟨fp, hr, hf⟩ := hr
  refine hn v' (w.alloc ob) D fp ((Below.refl _ _).alloc (Nat.le_refl _) _) hr (fun b hb => by have := hf b hb; omega) (fun _ h => h) (fun _ h => .inl h) (fun b h => ⟨?_, fun hb => ?_⟩)
  · have := wr.Dlt b h; simp; omega
  · have := wr.Dlt b h; have := hf b hb; omega

/-! Facts of types. -/

def isAggD : TypeDesc → Bool
  | .struct _ | .array _ _ => true
  | _ => false

structure SlI where
  e : TypeId
  size : Nat
  bytes : Nat
  zero : List Value
/-- A slice type: its element. -/
def slI (P : Program) (t : TypeId) : Option SlI :=
  match P.underlying t with
  | some (.slice e) => match P.info? e with
    | some i => match i.zero with
      | some z => if z.cells.size = i.size ∧ z.cells.toList.all (·.oneCell') = true then some ⟨e, i.size, i.bytes, z.cells.toList⟩ else none
      | none => none
    | none => none
  | _ => none
structure TyI where
  agg : Bool
  size : Nat
  zero : List Value
/-- A variable of a type: is it a struct or an array, how many cells. -/
def tyI (P : Program) (t : TypeId) : Option TyI :=
  match P.underlying t, P.info? t with
  | some d, some i => match i.zero with
    | some z => if z.cells.size = i.size ∧ z.cells.toList.all (·.oneCell') = true then some ⟨isAggD d, i.size, z.cells.toList⟩ else none
    | none => none
  | _, _ => none
/-- A field: where it lies, how many cells. -/
def fldI (P : Program) (t : TypeId) (k : Nat) : Option (Nat × Nat) :=
  match P.underlying t with
  | some (.struct fs) => match fs[k]? with
    | some f => match P.info? f.type with
      | some i => if 0 < i.size then some (f.offset, i.size) else none
      | none => none
    | none => none
  | _ => none

theorem slI_spec {P : Program} {t : TypeId} {s : SlI} (h : slI P t = some s) : P.underlying t = some (.slice s.e) ∧ ∃ i z, P.info? s.e = some i ∧ i.zero = some z ∧ i.size = s.size ∧ i.bytes = s.bytes ∧ z.cells.toList = s.zero ∧ z.cells.size = s.size ∧ ∀ v ∈ s.zero, v.oneCell' = true := by
  unfold slI at h
  split at h <;> try (cases h; done)
  rename_i e he
  split at h <;> try (cases h; done)
  rename_i i hi
  split at h <;> try (cases h; done)
  rename_i z hz
  split at h <;> try (cases h; done)
  rename_i hc
  cases h
  exact ⟨he, i, z, hi, hz, rfl, rfl, rfl, hc.1, List.all_eq_true.1 hc.2⟩

theorem tyI_spec {P : Program} {t : TypeId} {s : TyI} (h : tyI P t = some s) : ∃ d i z, P.underlying t = some d ∧ P.info? t = some i ∧ i.zero = some z ∧ i.size = s.size ∧ z.cells.toList = s.zero ∧ z.cells.size = s.size ∧ (∀ v ∈ s.zero, v.oneCell' = true) ∧ s.agg = isAggD d := by
  unfold tyI at h
  split at h <;> try (cases h; done)
  rename_i d i hd hi
  split at h <;> try (cases h; done)
  rename_i z hz
  split at h <;> try (cases h; done)
  rename_i hc
  cases h
  exact ⟨d, i, z, hd, hi, hz, rfl, rfl, hc.1, List.all_eq_true.1 hc.2, rfl⟩

theorem fldI_spec {P : Program} {t : TypeId} {k off sz : Nat} (h : fldI P t k = some (off, sz)) : ∃ fs f i, P.underlying t = some (.struct fs) ∧ fs[k]? = some f ∧ f.offset = off ∧ P.info? f.type = some i ∧ i.size = sz ∧ 0 < sz := by
  unfold fldI at h
  split at h <;> try (cases h; done)
  rename_i fs hfs
  split at h <;> try (cases h; done)
  rename_i f hf
  split at h <;> try (cases h; done)
  rename_i i hi
  split at h <;> try (cases h; done)
  rename_i hc
  cases h
  exact ⟨fs, f, i, hfs, hf, rfl, hi, rfl, hc⟩

/-! The quiet operations, each with its proof. 'K' takes the value. -/
section ops
variable {P : Program} {o : Oper} {a : Act} {w : World} {σ : List V} {D : Nat → Prop} {ρ : Nat → Value} {F : Nat → Nat → Prop} {K : V → Prop}

def tOwn : V → Bool
  | .nd _ own _ _ _ => own
  | .many _ n f => (List.range n).any fun k => tOwn (f k)
  | _ => false

theorem tOwn_free {D : Nat → Prop} {w : World} {R : V → Value → Prop} : ∀ (v : V) (cv : Value) (fp : Nat → Prop), tOwn v = false → Rel D w R v cv fp → ∀ b, ¬ fp b := by
  intro v
  induction v with
  | c v => intro cv fp _ h; exact h.2.2
  | dead => intro cv fp _ h; exact h
  | many t n f ih =>
    intro cv fp ho h b hb
    obtain ⟨cs, F, hcv, hn, hr, hd, hf⟩ := h
    obtain ⟨k, hk, hb⟩ := (hf b).1 hb
    refine ih k _ _ ?_ (hr k hk) b hb
    unfold tOwn at ho
    rw [List.any_eq_false] at ho
    simpa using ho k (List.mem_range.2 hk)
  | nd s own sz n f ih =>
    intro cv fp ho h
    cases own with
    | true => cases ho
    | false =>
      rcases h with h | ⟨b, o, cap, F, hcv, hcap, hmax, hs, hr, hi, _⟩
      · exact h.2.2.2
      · exact (hi rfl).2.2
  | rs id p off len => intro cv fp _ h; exact h.2
  | rp id p i k => intro cv fp _ h; exact h.2

theorem noF_eq {fp : Nat → Prop} (h : ∀ b, ¬ fp b) : fp = noF := funext fun b => propext ⟨fun hb => h b hb, fun hb => hb.elim⟩

def qMove (v : V) (K : V → Prop) : Prop := tOwn v = false ∧ K v

theorem qMove_sound (wr : WRel σ w D ρ F) {v : V} {x : Operand} (ho : o.op = .move x ∨ o.op = .assign x) (hv : OpR σ w D ρ F v (a.eval x)) (h : qMove v K) : ∃ r, K r ∧ Yields P o a w σ D ρ r := by
  obtain ⟨fp, hr, _⟩ := hv
  have := noF_eq (tOwn_free _ _ _ h.1 hr)
  subst this
  refine ⟨v, h.2, Yields.pure wr ?_ hr⟩
  rcases ho with ho | ho <;> (unfold execOp; rw [ho]; rfl)

def qPick (c x y : V) (K : V → Prop) : Prop :=
  match c with
  | .c (.bool b) => tOwn x = false ∧ tOwn y = false ∧ (b = true → K x) ∧ (b = false → K y)
  | _ => False

theorem qPick_sound (wr : WRel σ w D ρ F) {vc vx vy : V} {c x y : Operand} (ho : o.op = .pick c x y) (hc : OpR σ w D ρ F vc (a.eval c)) (hx : OpR σ w D ρ F vx (a.eval x)) (hy : OpR σ w D ρ F vy (a.eval y)) (h : qPick vc vx vy K) :
    ∃ r, K r ∧ Yields P o a w σ D ρ r := by
  unfold qPick at h
  split at h <;> try (exact h.elim)
  rename_i b
  obtain ⟨h1, h2, h3, h4⟩ := h
  obtain ⟨_, hc, _⟩ := hc
  obtain ⟨fx, hx, _⟩ := hx
  obtain ⟨fy, hy, _⟩ := hy
  have := noF_eq (tOwn_free _ _ _ h1 hx)
  subst this
  have := noF_eq (tOwn_free _ _ _ h2 hy)
  subst this
  have hcb : a.eval c = .bool b := hc.1
  cases b with
  | true => exact ⟨vx, h3 rfl, Yields.pure wr (by unfold execOp; rw [ho]; simp [hcb, asBool]) hx⟩
  | false => exact ⟨vy, h4 rfl, Yields.pure wr (by unfold execOp; rw [ho]; simp [hcb, asBool]) hy⟩

end ops
end Go.Ve
