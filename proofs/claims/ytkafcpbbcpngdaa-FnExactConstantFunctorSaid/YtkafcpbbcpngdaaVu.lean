/- Regions that draw their order: quiet operations in whatever order, then a tail in order. -/
import Derived.Test.YtkafcpbbcpngdaaVp
import Derived.StillTail
namespace Go.Ve
open RowKit (Below)

theorem qop0_congr {P : Program} {σ : List V} {ev ev' : Operand → V} {op : Op} {K : V → Prop} (h : ∀ x ∈ op.operands, ev x = ev' x) (hq : qop0 P σ ev op K) : qop0 P σ ev' op K := by
  have pairs : ∀ ps : Array (Nat × Operand), (∀ x ∈ (ps.toList.map (·.2)).toArray, ev x = ev' x) → (ps.toList.map fun p => (p.1, ev p.2)) = ps.toList.map fun p => (p.1, ev' p.2) := by
    intro ps hp
    apply List.map_congr_left
    intro p hm
    rw [hp p.2 (by simp only [List.mem_toArray, List.mem_map]; exact ⟨p, hm, rfl⟩)]
  unfold qop0 at hq ⊢
  cases op <;> simp only [Op.operands] at h <;> simp only at hq ⊢ <;> try exact hq
  case call c =>
    obtain ⟨callee, args, ats⟩ := c
    have hm : args.toList.map ev = args.toList.map ev' := List.map_congr_left fun x hx => h x (by simp [Call.operands]; right; simpa using hx)
    cases callee with
    | value f => cases f <;> simp only at hq ⊢ <;> first | exact hq | (rw [← hm]; exact hq)
    | invoke r m => exact hq
    | builtin b => simp only at hq ⊢; rw [← hm]; exact hq
  case build t ps => rw [← pairs ps h]; exact hq
  case buildSlice t n ps => rw [← pairs ps h]; exact hq
  case slice t x lo hi mx =>
    have h1 : lo.map ev = lo.map ev' := by cases lo with | none => rfl | some y => simp; exact h y (by simp)
    have h2 : hi.map ev = hi.map ev' := by cases hi with | none => rfl | some y => simp; exact h y (by simp)
    rw [← h1, ← h2, ← h x (by simp)]; exact hq
  all_goals (simp at h; simp_all)

/-- The value is told by the operation alone. -/
theorem qop0_det {P : Program} {σ : List V} {ev : Operand → V} {op : Op} {K : V → Prop} (hq : qop0 P σ ev op K) : ∃ r, K r ∧ ∀ K' : V → Prop, K' r → qop0 P σ ev op K' := by
  unfold qop0 at hq ⊢
  cases op <;> simp only at hq ⊢ <;> try exact hq.elim
  case move x => exact ⟨_, hq.2, fun K' h' => ⟨hq.1, h'⟩⟩
  case assign x => exact ⟨_, hq.2, fun K' h' => ⟨hq.1, h'⟩⟩
  case pick c x y =>
    unfold qPick at hq ⊢
    split at hq <;> try exact hq.elim
    rename_i b hb
    obtain ⟨h1, h2, h3, h4⟩ := hq
    cases b
    · exact ⟨_, h4 rfl, fun K' h' => ⟨h1, h2, (fun h => by cases h), fun _ => h'⟩⟩
    · exact ⟨_, h3 rfl, fun K' h' => ⟨h1, h2, fun _ => h', (fun h => by cases h)⟩⟩
  case load t x =>
    unfold qLoad at hq ⊢
    split at hq <;> try exact hq.elim
    · split at hq <;> try exact hq.elim
      · exact ⟨_, hq.2, fun K' h' => ⟨hq.1, h'⟩⟩
      · exact ⟨_, hq.2, fun K' h' => ⟨hq.1, h'⟩⟩
      · exact ⟨_, hq.2, fun K' h' => ⟨hq.1, h'⟩⟩
    · split at hq <;> try exact hq.elim
      · exact ⟨_, hq.2, fun K' h' => ⟨hq.1, h'⟩⟩
      · exact ⟨_, hq.2.2, fun K' h' => ⟨hq.1, hq.2.1, h'⟩⟩
      · exact ⟨_, hq.2, fun K' h' => ⟨hq.1, h'⟩⟩
  case fieldAddr t x k =>
    unfold qField at hq ⊢
    split at hq <;> try exact hq.elim
    split at hq <;> try exact hq.elim
    · exact ⟨_, hq.2, fun K' h' => ⟨hq.1, h'⟩⟩
    · exact ⟨_, hq.2, fun K' h' => ⟨hq.1, h'⟩⟩
    · exact ⟨_, hq.2, fun K' h' => ⟨hq.1, h'⟩⟩
  case indexAddr t x i =>
    unfold qIndexAddr at hq ⊢
    split at hq <;> try exact hq.elim
    split at hq <;> try exact hq.elim
    · exact ⟨_, hq.2.2.2, fun K' h' => ⟨hq.1, hq.2.1, hq.2.2.1, h'⟩⟩
    · exact ⟨_, hq.2.2.2, fun K' h' => ⟨hq.1, hq.2.1, hq.2.2.1, h'⟩⟩
  case index t x i =>
    unfold qIndex at hq ⊢
    obtain ⟨h1, hq⟩ := hq
    split at hq <;> try exact hq.elim
    exact ⟨_, hq.2, fun K' h' => ⟨h1, hq.1, h'⟩⟩
  case nilCheck x =>
    unfold qNil at hq ⊢
    split at hq <;> try exact hq.elim
    · exact ⟨_, hq, fun K' h' => h'⟩
    · exact ⟨_, hq, fun K' h' => h'⟩
    · exact ⟨_, hq.2, fun K' h' => ⟨hq.1, h'⟩⟩
  case binOp op t x y yt =>
    unfold qBin at hq ⊢
    split at hq
    · split at hq
      · rename_i h; exact ⟨_, hq.2, fun K' h' => by first | exact ⟨hq.1, h'⟩ | (simp only [h]; exact ⟨hq.1, h'⟩)⟩
      · rename_i h; obtain ⟨z, h1, h2, h3, hK⟩ := hq; exact ⟨z, hK, fun K' h' => by first | exact ⟨z, h1, h2, h3, h'⟩ | (simp only [h]; exact ⟨z, h1, h2, h3, h'⟩)⟩
    · obtain ⟨z, h1, h2, h3, hK⟩ := hq; exact ⟨z, hK, fun K' h' => ⟨z, h1, h2, h3, h'⟩⟩
  case unOp op t x =>
    unfold qUn at hq ⊢
    split at hq <;> try exact hq.elim
    · exact ⟨_, hq, fun K' h' => h'⟩
    · exact ⟨_, hq, fun K' h' => h'⟩
  case convert s d x =>
    unfold qConv at hq ⊢
    split at hq
    · exact ⟨_, hq, fun K' h' => h'⟩
    · exact ⟨_, hq, fun K' h' => h'⟩
    · obtain ⟨z, h1, h2, hK⟩ := hq; exact ⟨z, hK, fun K' h' => ⟨z, h1, h2, h'⟩⟩
  case extract x i =>
    unfold qExtract at hq ⊢
    split at hq <;> try exact hq.elim
    exact ⟨_, hq.2.2, fun K' h' => ⟨hq.1, hq.2.1, h'⟩⟩
  case build t ps =>
    unfold qBuild at hq ⊢
    split at hq <;> try exact hq.elim
    obtain ⟨h1, hq⟩ := hq
    split at hq <;> try exact hq.elim
    rename_i h
    exact ⟨_, hq, fun K' h' => ⟨h1, h'⟩⟩
  case buildSlice t n ps =>
    unfold qBuildSlice at hq ⊢
    split at hq <;> try exact hq.elim
    obtain ⟨h1, h2, hq⟩ := hq
    split at hq <;> try exact hq.elim
    rename_i h
    exact ⟨_, hq.2, fun K' h' => ⟨h1, h2, hq.1, h'⟩⟩
  case alloc t =>
    unfold qAlloc at hq ⊢
    split at hq <;> try exact hq.elim
    exact ⟨_, hq.2, fun K' h' => ⟨hq.1, h'⟩⟩
  case box t x =>
    obtain ⟨h1, h2 | h2⟩ := hq
    · exact ⟨_, h2.2, fun K' h' => ⟨h1, .inl ⟨h2.1, h'⟩⟩⟩
    · exact ⟨_, h2, fun K' h' => ⟨h1, .inr h'⟩⟩
  case makeSlice t l c =>
    unfold qMake at hq ⊢
    split at hq <;> try exact hq.elim
    exact ⟨_, hq.2.2, fun K' h' => ⟨hq.1, hq.2.1, h'⟩⟩
  case slice t x lo hi mx =>
    obtain ⟨h0, hq⟩ := hq
    unfold qSlice at hq ⊢
    split at hq <;> try exact hq.elim
    all_goals
      split at hq <;> try exact hq.elim
      rename_i h1 h2
    · exact ⟨_, hq.2, fun K' h' => ⟨h0, hq.1, h'⟩⟩
    · exact ⟨_, hq.2.2, fun K' h' => ⟨h0, hq.1, hq.2.1, h'⟩⟩
    · exact ⟨_, hq.2.2, fun K' h' => ⟨h0, hq.1, hq.2.1, h'⟩⟩
  case call c =>
    obtain ⟨callee, args, ats⟩ := c
    simp only at hq ⊢
    split at hq
    · obtain ⟨r, h1, h2, hK⟩ := hq; exact ⟨r, hK, fun K' h' => ⟨r, h1, h2, h'⟩⟩
    · unfold qBuiltin at hq ⊢
      split at hq <;> try exact hq.elim
      · obtain ⟨h1, hq⟩ := hq
        unfold qLen at hq ⊢
        split at hq <;> first | exact hq.elim | exact ⟨_, hq, fun K' h' => ⟨h1, h'⟩⟩
      · unfold qMinMax at hq ⊢
        split at hq <;> first | exact hq.elim | exact ⟨_, hq, fun K' h' => h'⟩
      · unfold qMinMax at hq ⊢
        split at hq <;> first | exact hq.elim | exact ⟨_, hq, fun K' h' => h'⟩
    · exact hq.elim

theorem qop_congr {P : Program} {σ : List V} {ev ev' : Operand → V} {op : Op} {K : V → Prop} (h : ∀ x ∈ op.operands, ev x = ev' x) (hq : qop P σ ev op K) : qop P σ ev' op K := qop0_congr h hq
theorem qop_det {P : Program} {σ : List V} {ev : Operand → V} {op : Op} {K : V → Prop} (hq : qop P σ ev op K) : ∃ r, K r ∧ qop P σ ev op (fun r' => r' = r) := by
  obtain ⟨r0, ⟨r, hs, hK⟩, hd⟩ := qop0_det hq
  exact ⟨r, hK, hd _ ⟨r, hs, rfl⟩⟩

theorem qop0_mono {P : Program} {σ : List V} {ev : Operand → V} {op : Op} {K K' : V → Prop} (hq : qop0 P σ ev op K) (h : ∀ r, K r → K' r) : qop0 P σ ev op K' := by
  obtain ⟨r, hK, hd⟩ := qop0_det hq
  exact hd K' (h r hK)
end Go.Ve


namespace Go.Ve
open RowKit (Below)

/-- The quiet head, in the order of the text: what is owned stays in the temporaries. -/
def QK (h : Hint) (d : Option Nat) (t : Nat → V) (K : (Nat → V) → Prop) (r : V) : Prop :=
  match d with
  | some d => d < h.n ∧ K (upd1 t d (if h.fz.contains d then frz r else r))
  | none => False
def skipT (t : Nat → V) (d : Option Nat) : Nat → V :=
  match d with
  | some d => upd1 t d .dead
  | none => t
/-- Only one operation looks at the slot. -/
def onceB (ops : Array Oper) (y : Nat) : Bool := decide (((List.range ops.size).filter fun j => match ops[j]? with
  | some o => (o.looksAt ops).contains y
  | none => false).length ≤ 1)
def dstOf (ops : Array Oper) (i : Nat) : Option Nat := (ops[i]?).bind (·.dst)
/-- The operation may take what lies in the slot: an earlier one has written it, no other looks at it. -/
def mvB (ops : Array Oper) (o : Oper) (y : Nat) : Bool := (o.looksAt ops).contains y && onceB ops y && o.after.toList.any fun e => Region.binds .any e && (match dstOf ops e.on with
  | some d => Nat.beq d y
  | none => false)
/-- One part of several is taken. -/
def killC (c : Nat) : V → V
  | .many t n f => .many t n fun k => if k = c then .dead else f k
  | v => v
/-- All is taken, or one part. -/
def kapp (tk : Option Nat) (v : V) : V := match tk with
  | none => .dead
  | some c => killC c v
def kap1 (o : Option (Option Nat)) (v : V) : V := match o with
  | some tk => kapp tk v
  | none => v
theorem kapp_comm (a b : Option Nat) (v : V) : kapp a (kapp b v) = kapp b (kapp a v) := by
  cases a with
  | none => cases b <;> rfl
  | some a => cases b with
    | none => rfl
    | some b =>
      show killC a (killC b v) = killC b (killC a v)
      cases v <;> try rfl
      show V.many _ _ _ = V.many _ _ _
      congr 1
      funext k
      by_cases h1 : k = a <;> by_cases h2 : k = b <;> simp [h1, h2]
theorem kap1_comm (a b : Option (Option Nat)) (v : V) : kap1 a (kap1 b v) = kap1 b (kap1 a v) := by
  cases a <;> cases b <;> first | rfl | exact kapp_comm _ _ _
def lookM : List (Nat × Option Nat) → Nat → Option (Option Nat)
  | [], _ => none
  | (y, tk) :: l, x => if y = x then some tk else lookM l x
theorem lookM_mem : ∀ {l : List (Nat × Option Nat)} {x : Nat} {tk : Option Nat}, lookM l x = some tk → (x, tk) ∈ l
  | [], _, _, h => by cases h
  | (y, tk') :: l, x, tk, h => by
    unfold lookM at h
    split at h
    · rename_i e; cases h; rw [e]; exact List.mem_cons_self ..
    · exact List.mem_cons_of_mem _ (lookM_mem h)
def killM (ys : List (Nat × Option Nat)) (t : Nat → V) : Nat → V := fun x => kap1 (lookM ys x) (t x)
theorem killM_nil (t : Nat → V) : killM [] t = t := rfl
/-- ... or a part of it, where the others that look at the slot take other parts. -/
def exB (ops : Array Oper) (o : Oper) (y c : Nat) : Bool := (o.looksAt ops).contains y && ((List.range ops.size).all fun j => match ops[j]? with
  | some oj => !(oj.looksAt ops).contains y || (oj.guard.isNone && (match oj.op with
    | .extract (.tmp y') c' => Nat.beq y' y && (!Nat.beq c' c || oj.dst == o.dst)
    | _ => false))
  | none => true) && o.after.toList.any fun e => Region.binds .any e && (match dstOf ops e.on with
  | some d => Nat.beq d y
  | none => false)
def takeB (ops : Array Oper) (o : Oper) (p : Nat × Option Nat) : Bool := match p.2 with
  | none => mvB ops o p.1
  | some c => exB ops o p.1 c
/-- What is taken, and what becomes of it. -/
def mq (t : Nat → V) (o : Oper) (ys : List (Nat × Option Nat)) (r : V) : Prop :=
  (∃ y, (o.op = .assign (.tmp y) ∨ o.op = .move (.tmp y)) ∧ ys = [(y, none)] ∧ r = t y) ∨
  ∃ y c n f, o.op = .extract (.tmp y) c ∧ ys = [(y, some c)] ∧ t y = .many .tu n f ∧ c < n ∧ r = f c
def vq (P : Program) (h : Hint) (ops : Array Oper) (σ : List V) : List Oper → ((Nat → V) → Prop) → (Nat → V) → Prop
  | [], K, t => K t
  | o :: rest, K, t => match o.guard with
    | none => qop P σ (Ms.ev ⟨t, σ⟩) o.op (QK h o.dst t (vq P h ops σ rest K)) ∨ ∃ ys d r, o.dst = some d ∧ d < h.n ∧ h.fz.contains d = false ∧ (∀ p ∈ ys, takeB ops o p = true) ∧ mq t o ys r ∧ vq P h ops σ rest K (upd1 (killM ys t) d r)
    | some (j, want) => match gv t ops j with
      | .c (.bool b) => (b = want → qop P σ (Ms.ev ⟨t, σ⟩) o.op (QK h o.dst t (vq P h ops σ rest K))) ∧ (b = (!want) → vq P h ops σ rest K (skipT t o.dst))
      | _ => False

/-- What the head owns gets its numbers. -/
def promA : List (Option Nat) → Ms → Ms
  | [], S => S
  | none :: ds, S => promA ds S
  | some d :: ds, S => if tOwn (S.t d) then promA ds ⟨upd1 S.t d (prom (S.t d) S.σ.length).1, S.σ ++ (prom (S.t d) S.σ.length).2⟩ else promA ds S

def notSel : Op → Bool
  | .select _ _ => false
  | _ => true
/-- The tail waits for all of the head but f; f takes a part of several, the tail looks elsewhere, or waits. -/
def flB (ops : Array Oper) (n f : Nat) : Bool := (List.range n).all (fun i => i == f || Region.waitsFor .any ops n i) && match ops[f]? with
  | some o => o.guard.isNone && match o.op, o.dst with
    | .extract (.tmp y) _, some d => (List.range ops.size).all fun t => decide (t < n) || Region.waitsFor .any ops t f || match ops[t]? with
      | some ot => !(ot.looksAt ops).contains d && ot.dst != some d && ot.dst != some y && notSel ot.op
      | none => true
    | _, _ => false
  | none => false
structure FL (ops : Array Oper) (n f : Nat) : Prop where
  fn : f < n
  others : ∀ i, i < n → i ≠ f → Region.waitsFor .any ops n i = true
  it : ∃ o y c d, ops[f]? = some o ∧ o.guard = none ∧ o.op = .extract (.tmp y) c ∧ o.dst = some d ∧ ∀ t ot, n ≤ t → ops[t]? = some ot → Region.waitsFor .any ops t f = false → d ∉ ot.looksAt ops ∧ ot.dst ≠ some d ∧ ot.dst ≠ some y ∧ ∀ cs b, ot.op ≠ .select cs b
theorem flB_spec {ops : Array Oper} {n f : Nat} (hf : f < n) (h : flB ops n f = true) : FL ops n f := by
  unfold flB at h
  rw [Bool.and_eq_true] at h
  obtain ⟨h1, h2⟩ := h
  refine ⟨hf, fun i hi hne => ?_, ?_⟩
  · have := List.all_eq_true.1 h1 i (List.mem_range.2 hi)
    rw [Bool.or_eq_true, beq_iff_eq] at this
    exact this.resolve_left hne
  · split at h2
    case h_2 => cases h2
    rename_i o ho
    rw [Bool.and_eq_true] at h2
    obtain ⟨hg, h2⟩ := h2
    split at h2
    case h_2 => cases h2
    rename_i y c d hop hd
    refine ⟨o, y, c, d, ho, by simpa using hg, hop, hd, fun t ot ht hot hw => ?_⟩
    have := List.all_eq_true.1 h2 t (List.mem_range.2 (Array.getElem?_eq_some_iff.1 hot).1)
    rw [hot, hw] at this
    have hnt : ¬ t < n := by omega
    simp only [hnt, decide_false, Bool.false_or, Bool.and_eq_true, Bool.not_eq_true', bne_iff_ne, ne_eq] at this
    obtain ⟨⟨⟨g1, g2⟩, g3⟩, g4⟩ := this
    refine ⟨fun hm => ?_, g2, g3, fun cs b e => ?_⟩
    · have : (ot.looksAt ops).contains d = true := by simpa using hm
      rw [g1] at this; cases this
    · rw [e] at g4; cases g4

/-- The head's operations write their own slots, once, and wait for what they read; the tail comes behind it, in order. -/
def quietOK (ops : Array Oper) (n : Nat) : Bool :=
  decide (n ≤ ops.size) &&
  (List.range n).all (fun i => match ops[i]? with
    | none => false
    | some oi => match oi.dst with
      | none => false
      | some d => !(oi.looksAt ops).contains d && (List.range n).all fun j => j == i || match ops[j]? with
        | none => false
        | some oj => oj.dst != some d && (!(oj.looksAt ops).contains d || Region.waitsFor .any ops j i)) &&
  (List.range ops.size).all (fun j => match ops[j]? with
    | some o => o.after.toList.all fun e => !Region.binds .any e || decide (e.on < j)
    | none => false) &&
  (n == ops.size || (Region.chainB .any ops n && (Region.sinkB .any ops n || (List.range n).any (flB ops n))))

structure QOK (ops : Array Oper) (n : Nat) : Prop where
  le : n ≤ ops.size
  dst : ∀ i, i < n → ∃ oi d, ops[i]? = some oi ∧ oi.dst = some d ∧ d ∉ oi.looksAt ops
  ne : ∀ i j d oj, i < n → j < n → i ≠ j → dstOf ops i = some d → ops[j]? = some oj → oj.dst ≠ some d ∧ (d ∈ oj.looksAt ops → ∃ e ∈ oj.after, Region.binds .any e = true ∧ e.on = i)
  back : ∀ j o e, ops[j]? = some o → e ∈ o.after → Region.binds .any e = true → e.on < j
  tail : n = ops.size ∨ (Region.chainB .any ops n = true ∧ (Region.sinkB .any ops n = true ∨ ∃ f, FL ops n f))

theorem quietOK_spec {ops : Array Oper} {n : Nat} (h : quietOK ops n = true) : QOK ops n := by
  simp only [quietOK, Bool.and_eq_true, decide_eq_true_eq, Bool.or_eq_true, beq_iff_eq] at h
  obtain ⟨⟨⟨h1, h2⟩, h3⟩, h4⟩ := h
  have hd : ∀ i, i < n → ∃ oi d, ops[i]? = some oi ∧ oi.dst = some d ∧ d ∉ oi.looksAt ops ∧ ∀ j, j < n → j ≠ i → ∃ oj, ops[j]? = some oj ∧ oj.dst ≠ some d ∧ (d ∈ oj.looksAt ops → Region.waitsFor .any ops j i = true) := by
    intro i hi
    have := List.all_eq_true.1 h2 i (List.mem_range.2 hi)
    split at this
    · cases this
    · rename_i oi hoi
      split at this
      · cases this
      · rename_i d hd
        simp only [Bool.and_eq_true, Bool.not_eq_true'] at this
        obtain ⟨ha, hb⟩ := this
        refine ⟨oi, d, hoi, hd, by simpa using ha, fun j hj hne => ?_⟩
        have hj2 := List.all_eq_true.1 hb j (List.mem_range.2 hj)
        simp only [Bool.or_eq_true, beq_iff_eq, hne, false_or] at hj2
        split at hj2
        · cases hj2
        · rename_i oj hoj
          simp only [Bool.and_eq_true, bne_iff_ne, ne_eq, Bool.or_eq_true, Bool.not_eq_true'] at hj2
          refine ⟨oj, hoj, hj2.1, fun hm => ?_⟩
          rcases hj2.2 with h | h
          · simp at h; exact absurd hm h
          · exact h
  have h4 : n = ops.size ∨ (Region.chainB .any ops n = true ∧ (Region.sinkB .any ops n = true ∨ ∃ f, FL ops n f)) := by
    rcases h4 with h4 | ⟨h4, h5 | h5⟩
    · exact .inl h4
    · exact .inr ⟨h4, .inl h5⟩
    · obtain ⟨f, hf, hb⟩ := List.any_eq_true.1 h5
      exact .inr ⟨h4, .inr ⟨f, flB_spec (List.mem_range.1 hf) hb⟩⟩
  refine ⟨h1, fun i hi => ?_, fun i j d oj hi hj hij hdi hoj => ?_, fun j o e hj he hb => ?_, h4⟩
  · obtain ⟨oi, d, a, b, c, _⟩ := hd i hi; exact ⟨oi, d, a, b, c⟩
  · obtain ⟨oi, d', hoi, hd', _, hall⟩ := hd i hi
    have : d' = d := by simp [dstOf, hoi, hd'] at hdi; exact hdi
    subst this
    obtain ⟨oj', hoj', g1, g2⟩ := hall j hj (Ne.symm hij)
    have : oj' = oj := Option.some.inj (hoj'.symm.trans hoj)
    subst this
    refine ⟨g1, fun hm => ?_⟩
    obtain ⟨oj2, hoj2, e, he, hb, hon⟩ := Region.waitsFor_spec (g2 hm)
    have : oj2 = oj' := Option.some.inj (hoj2.symm.trans hoj)
    subst this
    exact ⟨e, he, hb, hon⟩
  · have hlt : j < ops.size := (Array.getElem?_eq_some_iff.1 hj).1
    have := List.all_eq_true.1 h3 j (List.mem_range.2 hlt)
    rw [hj] at this
    have := List.all_eq_true.1 this e (by simpa using he)
    simp [hb] at this
    exact this

/-- One operation of the head, as the text's order has it. -/
def StepQ (P : Program) (h : Hint) (ops : Array Oper) (σ : List V) (o : Oper) (t : Nat → V) (r : V) (ys : List (Nat × Option Nat)) : Prop :=
  ∃ d : Nat, o.dst = some d ∧
    (((d < h.n ∧ ((o.guard = none ∨ ∃ j want, o.guard = some (j, want) ∧ gv t ops j = .c (.bool want)) ∧ ∃ r', qop P σ (Ms.ev ⟨t, σ⟩) o.op (fun x => x = r') ∧ r = (if h.fz.contains d then frz r' else r')) ∨
     (∃ j want, o.guard = some (j, want) ∧ gv t ops j = .c (.bool (!want)) ∧ r = .dead)) ∧ ys = []) ∨
     (d < h.n ∧ o.guard = none ∧ h.fz.contains d = false ∧ (∀ p ∈ ys, takeB ops o p = true) ∧ mq t o ys r))

def runT (ops : Array Oper) (r : Nat → V) (m : Nat → List (Nat × Option Nat)) (t : Nat → V) : Nat → (Nat → V)
  | 0 => t
  | i + 1 => match dstOf ops i with
    | some d => upd1 (killM (m i) (runT ops r m t i)) d (r i)
    | none => runT ops r m t i

theorem vq_trace {P : Program} {h : Hint} {ops : Array Oper} {σ : List V} {t0 : Nat → V} {K : (Nat → V) → Prop} {n : Nat} (hn : n ≤ ops.size) (hq : QOK ops n) : ∀ (k i : Nat) (r : Nat → V) (m : Nat → List (Nat × Option Nat)), i + k = n →
    vq P h ops σ ((ops.toList.drop i).take k) K (runT ops r m t0 i) → (∀ j, j < i → ∀ o, ops[j]? = some o → StepQ P h ops σ o (runT ops r m t0 j) (r j) (m j)) →
    ∃ (r' : Nat → V) (m' : Nat → List (Nat × Option Nat)), (∀ j, j < n → ∀ o, ops[j]? = some o → StepQ P h ops σ o (runT ops r' m' t0 j) (r' j) (m' j)) ∧ K (runT ops r' m' t0 n) := by
  intro k
  induction k with
  | zero =>
    intro i r m hi hv hs
    obtain rfl : i = n := by omega
    simp [vq] at hv
    exact ⟨r, m, hs, hv⟩
  | succ k ih =>
    intro i r m hi hv hs
    have hlt : i < ops.toList.length := by simp; omega
    rw [List.drop_eq_getElem_cons hlt, List.take_succ_cons] at hv
    obtain ⟨oi, d, hoi, hd, hnl⟩ := hq.dst i (by omega)
    have he : ops.toList[i] = oi := by
      have := hoi
      rw [← Array.getElem?_toList, List.getElem?_eq_getElem hlt] at this
      exact Option.some.inj this
    rw [he] at hv
    -- go on with the value v at place i
    have go : ∀ v ys, StepQ P h ops σ oi (runT ops r m t0 i) v ys → vq P h ops σ ((ops.toList.drop (i + 1)).take k) K (upd1 (killM ys (runT ops r m t0 i)) d v) → ∃ (r' : Nat → V) (m' : Nat → List (Nat × Option Nat)), (∀ j, j < n → ∀ o, ops[j]? = some o → StepQ P h ops σ o (runT ops r' m' t0 j) (r' j) (m' j)) ∧ K (runT ops r' m' t0 n) := by
      intro v ys hst hv
      have same : ∀ j, j ≤ i → runT ops (fun x => if x = i then v else r x) (fun x => if x = i then ys else m x) t0 j = runT ops r m t0 j := by
        intro j
        induction j with
        | zero => intro _; rfl
        | succ j ihj =>
          intro hj
          have h1 : j ≠ i := by omega
          simp only [runT, ihj (by omega), h1, if_false]
      refine ih (i + 1) (fun x => if x = i then v else r x) (fun x => if x = i then ys else m x) (by omega) ?_ ?_
      · have : runT ops (fun x => if x = i then v else r x) (fun x => if x = i then ys else m x) t0 (i + 1) = upd1 (killM ys (runT ops r m t0 i)) d v := by
          have hdo : dstOf ops i = some d := by simp [dstOf, hoi, hd]
          simp only [runT, hdo, same i (Nat.le_refl _), if_true]
        rw [this]; exact hv
      · intro j hj o ho
        by_cases hji : j = i
        · subst hji
          have : o = oi := Option.some.inj (ho.symm.trans hoi)
          subst this
          rw [same j (Nat.le_refl _)]
          simpa using hst
        · rw [same j (by omega)]
          simp only [hji, if_false]
          exact hs j (by omega) o ho
    have go0 : ∀ v, StepQ P h ops σ oi (runT ops r m t0 i) v [] → vq P h ops σ ((ops.toList.drop (i + 1)).take k) K (upd1 (runT ops r m t0 i) d v) → ∃ (r' : Nat → V) (m' : Nat → List (Nat × Option Nat)), (∀ j, j < n → ∀ o, ops[j]? = some o → StepQ P h ops σ o (runT ops r' m' t0 j) (r' j) (m' j)) ∧ K (runT ops r' m' t0 n) :=
      fun v h1 h2 => go v [] h1 (by rw [killM_nil]; exact h2)
    unfold vq at hv
    split at hv
    · rename_i hg
      rcases hv with hv | ⟨ys, d', v, hd', hdn, hfz, hmv, hmq, hv⟩
      · obtain ⟨r', hK, hdet⟩ := qop_det hv
        rw [hd] at hK
        obtain ⟨hdn, hK⟩ := hK
        exact go0 _ ⟨d, hd, .inl ⟨.inl ⟨hdn, .inl hg, r', hdet, rfl⟩, rfl⟩⟩ hK
      · obtain rfl : d' = d := Option.some.inj (hd'.symm.trans hd)
        exact go v ys ⟨d', hd, .inr ⟨hdn, hg, hfz, hmv, hmq⟩⟩ hv
    · rename_i j want hg
      split at hv
      · rename_i b hb
        by_cases hbw : b = want
        · obtain ⟨r', hK, hdet⟩ := qop_det (hv.1 hbw)
          rw [hd] at hK
          obtain ⟨hdn, hK⟩ := hK
          exact go0 _ ⟨d, hd, .inl ⟨.inl ⟨hdn, .inr ⟨j, want, hg, by rw [hb, hbw]⟩, r', hdet, rfl⟩, rfl⟩⟩ hK
        · have hbn : b = (!want) := by cases b <;> cases want <;> simp_all
          have hK := hv.2 hbn
          rw [hd] at hK
          exact go0 .dead ⟨d, hd, .inl ⟨.inr ⟨j, want, hg, by rw [hb, hbn], rfl⟩, rfl⟩⟩ hK
      · exact hv.elim

/-- What is taken has been written before, and nothing else looks at it; or at other parts. -/
structure MOK1 (ops : Array Oper) (n i : Nat) (p : Nat × Option Nat) (oi : Oper) : Prop where
  at_ : ops[i]? = some oi
  looks : p.1 ∈ oi.looksAt ops
  one : p.2 = none → ∀ j oj, ops[j]? = some oj → p.1 ∈ oj.looksAt ops → j = i
  part : ∀ c, p.2 = some c → ∀ j oj, j < n → ops[j]? = some oj → p.1 ∈ oj.looksAt ops → oj.guard = none ∧ ∃ c', oj.op = .extract (.tmp p.1) c' ∧ (j ≠ i → c' ≠ c)
  edge : ∃ e ∈ oi.after, Region.binds .any e = true ∧ dstOf ops e.on = some p.1
def MOK (ops : Array Oper) (n : Nat) (m : Nat → List (Nat × Option Nat)) : Prop := ∀ i, i < n → ∀ p ∈ m i, ∃ oi, MOK1 ops n i p oi
theorem le_one {α : Type} {l : List α} (h : l.length ≤ 1) {a b : α} (ha : a ∈ l) (hb : b ∈ l) : a = b := by
  match l, h with
  | [c], _ => rw [List.mem_singleton.1 ha, List.mem_singleton.1 hb]
theorem edge_of {ops : Array Oper} {oi : Oper} {y : Nat} (h3 : (oi.after.toList.any fun e => Region.binds .any e && (match dstOf ops e.on with
  | some d => Nat.beq d y
  | none => false)) = true) : ∃ e ∈ oi.after, Region.binds .any e = true ∧ dstOf ops e.on = some y := by
  obtain ⟨e, he, hb⟩ := List.any_eq_true.1 h3
  rw [Bool.and_eq_true] at hb
  refine ⟨e, by simpa using he, hb.1, ?_⟩
  have := hb.2
  split at this
  · rename_i d' hd'
    rw [hd', Nat.eq_of_beq_eq_true this]
  · cases this
theorem mok_of {P : Program} {h : Hint} {ops : Array Oper} {σ : List V} {t0 r : Nat → V} {m : Nat → List (Nat × Option Nat)} {n : Nat} (hq : QOK ops n)
    (hst : ∀ j, j < n → ∀ o, ops[j]? = some o → StepQ P h ops σ o (runT ops r m t0 j) (r j) (m j)) : MOK ops n m := by
  intro i hi p hp
  obtain ⟨oi, d, hoi, hd, _⟩ := hq.dst i hi
  have hdo : dstOf ops i = some d := by simp [dstOf, hoi, hd]
  obtain ⟨_, _, hs⟩ := hst i hi oi hoi
  have hm : takeB ops oi p = true := by
    rcases hs with ⟨_, he⟩ | ⟨_, _, _, hm, _⟩
    · rw [he] at hp; cases hp
    · exact hm p hp
  obtain ⟨y, tk⟩ := p
  unfold takeB at hm
  cases tk with
  | none =>
    have hm : mvB ops oi y = true := hm
    unfold mvB at hm
    rw [Bool.and_eq_true, Bool.and_eq_true] at hm
    obtain ⟨⟨h1, h2⟩, h3⟩ := hm
    have h1 : y ∈ oi.looksAt ops := by simpa using h1
    refine ⟨oi, hoi, h1, fun _ j oj hoj hyj => ?_, (fun c hc => by cases hc), edge_of h3⟩
    unfold onceB at h2
    have h2 := of_decide_eq_true h2
    have hin : ∀ k ok, ops[k]? = some ok → y ∈ ok.looksAt ops → k ∈ (List.range ops.size).filter fun j => match ops[j]? with
        | some o => (o.looksAt ops).contains y
        | none => false := by
      intro k ok hk hyk
      rw [List.mem_filter, List.mem_range]
      refine ⟨(Array.getElem?_eq_some_iff.1 hk).1, ?_⟩
      rw [hk]
      simpa using hyk
    exact le_one h2 (hin j oj hoj hyj) (hin i oi hoi h1)
  | some c =>
    have hm : exB ops oi y c = true := hm
    unfold exB at hm
    rw [Bool.and_eq_true, Bool.and_eq_true] at hm
    obtain ⟨⟨h1, h2⟩, h3⟩ := hm
    have h1 : y ∈ oi.looksAt ops := by simpa using h1
    refine ⟨oi, hoi, h1, (fun hc => by cases hc), fun c0 hc j oj hj hoj hyj => ?_, edge_of h3⟩
    cases hc
    have := List.all_eq_true.1 h2 j (List.mem_range.2 (Array.getElem?_eq_some_iff.1 hoj).1)
    rw [hoj] at this
    simp only [Bool.or_eq_true, Bool.not_eq_true', Bool.and_eq_true] at this
    rcases this with h4 | ⟨h4, h5⟩
    · have hyj : y ∈ oj.looksAt ops := hyj
      have : (oj.looksAt ops).contains y = true := by simpa using hyj
      rw [h4] at this; cases this
    · refine ⟨by simpa using h4, ?_⟩
      split at h5
      case h_2 => cases h5
      rename_i y' c' hop
      simp only [Bool.and_eq_true, Bool.or_eq_true, Bool.not_eq_true', beq_iff_eq] at h5
      obtain ⟨h6, h7⟩ := h5
      have h6 := Nat.eq_of_beq_eq_true h6
      subst h6
      refine ⟨c', hop, fun hji hcc => ?_⟩
      rcases h7 with h7 | h7
      · rw [hcc, Nat.beq_refl] at h7; cases h7
      · exact (hq.ne i j d oj hi hj (Ne.symm hji) hdo hoj).1 (h7.trans hd)

/-- What is left of a slot's value when the operations 'S' have taken theirs. -/
def apS (S : Nat → Bool) (m : Nat → List (Nat × Option Nat)) (x : Nat) (v : V) : Nat → V
  | 0 => v
  | n + 1 => if S n = true then kap1 (lookM (m n) x) (apS S m x v n) else apS S m x v n
theorem apS_none {S : Nat → Bool} {m : Nat → List (Nat × Option Nat)} {x : Nat} {v : V} : ∀ n, (∀ i, i < n → S i = true → lookM (m i) x = none) → apS S m x v n = v
  | 0, _ => rfl
  | n + 1, h => by
    unfold apS
    rw [apS_none n fun i hi => h i (by omega)]
    split
    · rename_i hs; rw [h n (by omega) hs]; rfl
    · rfl
theorem apS_congr {S S' : Nat → Bool} {m : Nat → List (Nat × Option Nat)} {x : Nat} {v : V} : ∀ n, (∀ i, i < n → S i = S' i) → apS S m x v n = apS S' m x v n
  | 0, _ => rfl
  | n + 1, h => by
    unfold apS
    rw [apS_congr n fun i hi => h i (by omega), h n (by omega)]
theorem apS_add {S S' : Nat → Bool} {m : Nat → List (Nat × Option Nat)} {x j : Nat} {v : V} (h1 : S j = false) (h2 : S' j = true) (h3 : ∀ i, i ≠ j → S' i = S i) : ∀ n, j < n → apS S' m x v n = kap1 (lookM (m j) x) (apS S m x v n)
  | 0, h => by omega
  | n + 1, h => by
    unfold apS
    by_cases hj : j = n
    · subst hj
      rw [if_pos h2, h1, apS_congr (S := S') (S' := S) j fun i hi => h3 i (by omega)]
      simp
    · rw [apS_add h1 h2 h3 n (by omega), h3 n (Ne.symm hj)]
      split
      · exact kap1_comm _ _ _
      · rfl
/-- The same at one part. -/
def EqC (c : Nat) (v v' : V) : Prop := v = v' ∨ ∃ tg n f g, v = .many tg n f ∧ v' = .many tg n g ∧ f c = g c
theorem EqC.symm {c : Nat} {v v' : V} (h : EqC c v v') : EqC c v' v := by
  rcases h with rfl | ⟨tg, n, f, g, h1, h2, h3⟩
  · exact .inl rfl
  · exact .inr ⟨tg, n, g, f, h2, h1, h3.symm⟩
theorem EqC.trans {c : Nat} {v v' v'' : V} (h : EqC c v v') (h' : EqC c v' v'') : EqC c v v'' := by
  rcases h with rfl | ⟨tg, n, f, g, h1, h2, h3⟩
  · exact h'
  · rcases h' with rfl | ⟨tg', n', f', g', h1', h2', h3'⟩
    · exact .inr ⟨tg, n, f, g, h1, h2, h3⟩
    · rw [h2] at h1'
      cases h1'
      exact .inr ⟨tg, n, f, g', h1, h2', h3.trans h3'⟩
theorem EqC.kill {c c' : Nat} (h : c' ≠ c) (v : V) : EqC c v (killC c' v) := by
  cases v <;> try exact .inl rfl
  exact .inr ⟨_, _, _, _, rfl, rfl, by rw [if_neg (Ne.symm h)]⟩
theorem apS_eqC {S : Nat → Bool} {m : Nat → List (Nat × Option Nat)} {x c : Nat} {v : V} : ∀ n, (∀ i, i < n → S i = true → ∀ tk, lookM (m i) x = some tk → ∃ c', tk = some c' ∧ c' ≠ c) → EqC c v (apS S m x v n)
  | 0, _ => .inl rfl
  | n + 1, h => by
    have ih := apS_eqC (S := S) (m := m) (x := x) (c := c) (v := v) n fun i hi => h i (by omega)
    unfold apS
    split
    · rename_i hs
      cases hl : lookM (m n) x with
      | none => exact ih
      | some tk =>
        obtain ⟨c', rfl, hc⟩ := h n (by omega) hs tk hl
        exact ih.trans (EqC.kill hc _)
    · exact ih

/-- Which operation of the head writes the slot. -/
def owner (ops : Array Oper) (n x : Nat) : Option Nat := (List.range n).find? fun i => dstOf ops i == some x

theorem owner_some {ops : Array Oper} {n x i : Nat} (h : owner ops n x = some i) : i < n ∧ dstOf ops i = some x := by
  unfold owner at h
  have h1 := List.find?_some h
  have h2 := List.mem_of_find?_eq_some h
  exact ⟨List.mem_range.1 h2, by simpa using h1⟩
theorem owner_none {ops : Array Oper} {n x : Nat} (h : owner ops n x = none) : ∀ i, i < n → dstOf ops i ≠ some x := by
  unfold owner at h
  intro i hi he
  have := List.find?_eq_none.1 h i (List.mem_range.2 hi)
  simp [he] at this
theorem owner_of {ops : Array Oper} {n x i : Nat} (hq : QOK ops n) (hi : i < n) (h : dstOf ops i = some x) : owner ops n x = some i := by
  cases ho : owner ops n x with
  | none => exact absurd h (owner_none ho i hi)
  | some j =>
    obtain ⟨hj, hdj⟩ := owner_some ho
    by_cases he : j = i
    · rw [he]
    · obtain ⟨oi, d, hoi, _, _⟩ := hq.dst i hi
      have := (hq.ne j i x oi hj hi he hdj hoi).1
      simp [dstOf, hoi] at h
      exact absurd h this

/-- The slot that is taken: who wrote it. -/
theorem owner_taken {ops : Array Oper} {n : Nat} {m : Nat → List (Nat × Option Nat)} (hq : QOK ops n) (hm : MOK ops n m) {x i : Nat} {tk : Option Nat} (hi : i < n) (h : lookM (m i) x = some tk) : ∃ k, owner ops n x = some k ∧ k < i ∧ ∃ oi, ops[i]? = some oi ∧ ∃ e ∈ oi.after, Region.binds .any e = true ∧ e.on = k := by
  obtain ⟨oi, ho⟩ := hm i hi _ (lookM_mem h)
  obtain ⟨e, he, hb, hd⟩ := ho.edge
  have hlt := hq.back i oi e ho.at_ he hb
  exact ⟨e.on, owner_of hq (by omega) hd, hlt, oi, ho.at_, e, he, hb, rfl⟩

/-- What the slots hold when the operations 'listed' have been carried out. -/
def pt (ops : Array Oper) (n : Nat) (r : Nat → V) (m : Nat → List (Nat × Option Nat)) (t0 : Nat → V) (listed : Array Bool) (x : Nat) : V :=
  match owner ops n x with
  | some k => if listed.getD k false then apS (fun i => listed.getD i false) m x (r k) n else .dead
  | none => t0 x

theorem runT_get {ops : Array Oper} {n : Nat} {m : Nat → List (Nat × Option Nat)} (hq : QOK ops n) (hm : MOK ops n m) (r t0 : Nat → V) (x : Nat) : ∀ j, j ≤ n → runT ops r m t0 j x = match owner ops n x with
    | some k => if k < j then apS (fun i => decide (i < j)) m x (r k) n else t0 x
    | none => t0 x := by
  intro j
  induction j with
  | zero => intro _; cases owner ops n x <;> simp [runT]
  | succ j ih =>
    intro hj
    obtain ⟨oj, d, hoj, hd, _⟩ := hq.dst j (by omega)
    have hdo : dstOf ops j = some d := by simp [dstOf, hoj, hd]
    simp only [runT, hdo, upd1]
    by_cases hx : x = d
    · subst hx
      have ho := owner_of hq (by omega : j < n) hdo
      rw [ho]
      simp only [if_true, Nat.lt_succ_self]
      refine (apS_none n fun i hi hs => ?_).symm
      cases hl : lookM (m i) x with
      | none => rfl
      | some tk =>
        obtain ⟨k, hk, hki, _⟩ := owner_taken hq hm hi hl
        rw [ho] at hk
        cases hk
        have := of_decide_eq_true hs
        omega
    · simp only [hx, if_false, killM]
      rw [ih (by omega)]
      cases ho : owner ops n x with
      | none =>
        cases hl : lookM (m j) x with
        | none => rfl
        | some tk =>
          obtain ⟨k, hk, _⟩ := owner_taken hq hm (by omega : j < n) hl
          rw [ho] at hk; cases hk
      | some k =>
        have hkj : k ≠ j := by
          rintro rfl
          have := (owner_some ho).2
          rw [hdo] at this
          exact hx (Option.some.inj this).symm
        simp only
        by_cases hlt : k < j
        · rw [if_pos hlt, if_pos (by omega)]
          exact (apS_add (by simp) (by simp) (fun i hi => by
            simp only [decide_eq_decide]
            omega) n (by omega)).symm
        · rw [if_neg hlt, if_neg (by omega)]
          cases hl : lookM (m j) x with
          | none => rfl
          | some tk =>
            obtain ⟨k', hk', hkj', _⟩ := owner_taken hq hm (by omega : j < n) hl
            rw [ho] at hk'; cases hk'; omega

/-- The relation while the head runs. -/
structure PR (C : Ctx) (N : Nat) (σ : List V) (ρ : Nat → Value) (F : Nat → Nat → Prop) (t : Nat → V) (a : Act) (w : World) (D : Nat → Prop) (T : Nat → Nat → Prop) : Prop where
  df : a.defers = []
  sz : a.tmps.size = N
  dd : ∀ x, N ≤ x → t x = .dead
  wr : WRel σ w D ρ F
  tm : ∀ x, x < N → Rel D w (RefOK σ ρ w) (t x) (a.tmps.getD x undef) (T x)
  tD : ∀ x b, T x b → ¬ D b
  tF : ∀ i x b, F i b → ¬ T x b
  tT : ∀ x y b, x ≠ y → T x b → ¬ T y b
  tn : ∀ x b, T x b → C.w0.heap.size ≤ b
  fr : Fr C.w0 w C.W
  Fn : ∀ i b, F i b → C.W b ∨ C.w0.heap.size ≤ b
  D1 : ∀ b, C.D0 b → D b
  D2 : ∀ b, D b → b < C.w0.heap.size → C.D0 b ∨ C.W b
  rt : ∀ i, i < C.m → ρ i = C.ρ0 i
  ml : C.m ≤ σ.length
  tx : ∀ x b, N ≤ x → ¬ T x b

theorem PR.ev {C : Ctx} {N : Nat} {σ : List V} {ρ : Nat → Value} {F : Nat → Nat → Prop} {t : Nat → V} {a : Act} {w : World} {D : Nat → Prop} {T : Nat → Nat → Prop} (h : PR C N σ ρ F t a w D T) (x : Operand) : OpR σ w D ρ F (Ms.ev ⟨t, σ⟩ x) (a.eval x) := by
  have plain : ∀ v cv, Rel D w (RefOK σ ρ w) v cv noF → OpR σ w D ρ F v cv := fun v cv hr => ⟨noF, hr, fun _ h => h.elim, fun _ _ _ h => h⟩
  cases x with
  | tmp y =>
    by_cases hy : y < N
    · exact ⟨T y, h.tm y hy, h.tD y, fun i b hb => h.tF i y b hb⟩
    · refine plain _ _ ?_
      show Rel D w _ (t y) _ noF
      rw [h.dd y (Nat.le_of_not_lt hy)]
      exact fun _ h => h
  | const v => exact plain _ _ (constV_rel v)
  | global g => exact plain _ _ ⟨rfl, rfl, fun _ h => h⟩
  | func f => exact plain _ _ ⟨rfl, rfl, fun _ h => h⟩

theorem PR.gv {C : Ctx} {N : Nat} {σ : List V} {ρ : Nat → Value} {F : Nat → Nat → Prop} {t : Nat → V} {a : Act} {w : World} {D : Nat → Prop} {T : Nat → Nat → Prop} (h : PR C N σ ρ F t a w D T) {ops : Array Oper} {j : Nat} {b : Bool} (hg : Go.Ve.gv t ops j = .c (.bool b)) : yielded ops a.tmps j = some b := by
  unfold Go.Ve.gv at hg
  split at hg
  · rename_i d hd
    have hlt : d < N := by
      rcases Nat.lt_or_ge d N with h' | h'
      · exact h'
      · rw [h.dd d h'] at hg; cases hg
    have h1 := h.tm d hlt
    rw [hg] at h1
    have h2 : d < a.tmps.size := by rw [h.sz]; exact hlt
    have h3 : a.tmps[d]? = some (.bool b) := by
      have := h1.1
      simp [h2] at this ⊢
      exact this
    unfold yielded
    rw [hd]
    simp [h3]
  · cases hg

/-- A slot gets a value. -/
theorem PR.put {C : Ctx} {N : Nat} {σ : List V} {ρ : Nat → Value} {F : Nat → Nat → Prop} {t : Nat → V} {a : Act} {w w' : World} {D D' : Nat → Prop} {T : Nat → Nat → Prop} (h : PR C N σ ρ F t a w D T) {r : V} {v' : Value} {fp : Nat → Prop} {d : Nat} (hB : Below w.heap.size w w') (hr : Rel D' w' (RefOK σ ρ w') r v' fp)
    (hf : ∀ b, fp b → w.heap.size ≤ b) (hd1 : ∀ b, D b → D' b) (hd2 : ∀ b, D' b → D b ∨ w.heap.size ≤ b) (hd3 : ∀ b, D' b → b < w'.heap.size ∧ ¬ fp b) (hdn : d < N) :
    PR C N σ ρ F (upd1 t d r) (a.put (some d) v') w' D' (fun x => if x = d then fp else T x) := by
  have hFlt : ∀ i b, F i b → b < w.heap.size := h.wr.lt
  have hTlt : ∀ x b, T x b → b < w.heap.size := by
    intro x b hb
    by_cases hx : x < N
    · exact Rel.lt _ _ _ (h.tm x hx) b hb
    · exact absurd hb (h.tx x b (Nat.le_of_not_lt hx))
  have wr' : WRel σ w' D' ρ F := by
    have h1 := h.wr.below hB
    refine ⟨fun i hi => Rel.mono hd1 (fun _ _ h => h) _ _ _ (fun _ _ => rfl) (h1.rel i hi), h1.disj, fun i b hb hD => ?_, fun b hb => (hd3 b hb).1, h1.out⟩
    rcases hd2 b hD with h2 | h2
    · exact h1.dD i b hb h2
    · have := hFlt i b hb; omega
  refine ⟨h.df, by rw [put_tmps]; simpa using h.sz, fun x hx => ?_, wr', fun x hx => ?_, fun x b hb => ?_, fun i x b hb hT => ?_, fun x y b hxy h1 h2 => ?_, fun x b hb => ?_, h.fr.below hB, h.Fn, fun b hb => hd1 b (h.D1 b hb), fun b hb hlt => ?_, h.rt, h.ml, fun x b hx hb => ?_⟩
  · have : ¬ x = d := by omega
    simp only [upd1, this, if_false]; exact h.dd x hx
  · have hlt : x < a.tmps.size := by rw [h.sz]; exact hx
    rw [put_tmps]
    by_cases he : x = d
    · subst he
      simp only [upd1, if_true]
      simpa [hlt] using hr
    · simp only [upd1, he, if_false]
      rw [Array.getD_eq_getD_getElem?, Array.getElem?_setIfInBounds_ne (Ne.symm he), ← Array.getD_eq_getD_getElem?]
      refine Rel.mono hd1 (fun v cv hv => RefOK.same h.wr (fun i b hb => hB.block b (hFlt i b hb)) v cv hv) _ _ _ (fun b hb => hB.block b ?_) (h.tm x hx)
      exact hb.elim (h.wr.Dlt b) (hTlt x b)
  · split at hb
    · exact fun hD => (hd3 b hD).2 hb
    · intro hD
      rcases hd2 b hD with h2 | h2
      · exact h.tD x b hb h2
      · have := hTlt x b hb; omega
  · split at hT
    · have := hFlt i b hb; have := hf b hT; omega
    · exact h.tF i x b hb hT
  · split at h1 <;> split at h2
    · omega
    · have := hf b h1; have := hTlt y b h2; omega
    · have := hf b h2; have := hTlt x b h1; omega
    · exact h.tT x y b hxy h1 h2
  · split at hb
    · exact Nat.le_trans h.fr.size (hf b hb)
    · exact h.tn x b hb
  · rcases hd2 b hb with h2 | h2
    · exact h.D2 b h2 hlt
    · have := h.fr.size; omega
  · have : ¬ x = d := by omega
    simp only [this, if_false] at hb
    exact h.tx x b hx hb

/-- ... made of what other slots have held. -/
theorem PR.move {C : Ctx} {N : Nat} {σ : List V} {ρ : Nat → Value} {F : Nat → Nat → Prop} {t : Nat → V} {a : Act} {w w' : World} {D D' : Nat → Prop} {T : Nat → Nat → Prop} (h : PR C N σ ρ F t a w D T) {r : V} {v' : Value} {fp : Nat → Prop} {d : Nat} {t1 : Nat → V} {T1 : Nat → Nat → Prop} (g1 : ∀ x, x < N → Rel D w (RefOK σ ρ w) (t1 x) (a.tmps.getD x undef) (T1 x)) (g2 : ∀ x b, T1 x b → T x b) (g3 : ∀ x, N ≤ x → t1 x = .dead) (hB : Below w.heap.size w w') (hr : Rel D' w' (RefOK σ ρ w') r v' fp)
    (hf : ∀ b, fp b → (∃ y, T y b ∧ ∀ x, ¬ T1 x b) ∨ w.heap.size ≤ b) (hd1 : ∀ b, D b → D' b) (hd2 : ∀ b, D' b → D b ∨ w.heap.size ≤ b) (hd3 : ∀ b, D' b → b < w'.heap.size ∧ ¬ fp b) (hdn : d < N) :
    PR C N σ ρ F (upd1 t1 d r) (a.put (some d) v') w' D' (fun x => if x = d then fp else T1 x) := by
  have hFlt : ∀ i b, F i b → b < w.heap.size := h.wr.lt
  have hTlt : ∀ x b, T x b → b < w.heap.size := by
    intro x b hb
    by_cases hx : x < N
    · exact Rel.lt _ _ _ (h.tm x hx) b hb
    · exact absurd hb (h.tx x b (Nat.le_of_not_lt hx))
  have wr' : WRel σ w' D' ρ F := by
    have h1 := h.wr.below hB
    refine ⟨fun i hi => Rel.mono hd1 (fun _ _ h => h) _ _ _ (fun _ _ => rfl) (h1.rel i hi), h1.disj, fun i b hb hD => ?_, fun b hb => (hd3 b hb).1, h1.out⟩
    rcases hd2 b hD with h2 | h2
    · exact h1.dD i b hb h2
    · have := hFlt i b hb; omega
  refine ⟨h.df, by rw [put_tmps]; simpa using h.sz, fun x hx => ?_, wr', fun x hx => ?_, fun x b hb => ?_, fun i x b hb hT => ?_, fun x y b hxy h1 h2 => ?_, fun x b hb => ?_, h.fr.below hB, h.Fn, fun b hb => hd1 b (h.D1 b hb), fun b hb hlt => ?_, h.rt, h.ml, fun x b hx hb => ?_⟩
  · have : ¬ x = d := by omega
    simp only [upd1, this, if_false]
    exact g3 x hx
  · have hlt : x < a.tmps.size := by rw [h.sz]; exact hx
    rw [put_tmps]
    by_cases he : x = d
    · subst he
      simp only [upd1, if_true]
      simpa [hlt] using hr
    · simp only [upd1, he, if_false]
      rw [Array.getD_eq_getD_getElem?, Array.getElem?_setIfInBounds_ne (Ne.symm he), ← Array.getD_eq_getD_getElem?]
      refine Rel.mono hd1 (fun v cv hv => RefOK.same h.wr (fun i b hb => hB.block b (hFlt i b hb)) v cv hv) _ _ _ (fun b hb => hB.block b ?_) (g1 x hx)
      exact hb.elim (h.wr.Dlt b) fun h' => hTlt x b (g2 x b h')
  · split at hb
    · exact fun hD => (hd3 b hD).2 hb
    · intro hD
      rcases hd2 b hD with h2 | h2
      · exact h.tD x b (g2 x b hb) h2
      · have := hTlt x b (g2 x b hb); omega
  · split at hT
    · rcases hf b hT with ⟨y, hy, _⟩ | h2
      · exact h.tF i y b hb hy
      · have := hFlt i b hb; omega
    · exact h.tF i x b hb (g2 x b hT)
  · have one : ∀ x, fp b → T1 x b → False := by
      intro x h3 h4
      rcases hf b h3 with ⟨z, _, h5⟩ | h5
      · exact h5 x h4
      · have := hTlt x b (g2 x b h4); omega
    split at h1 <;> split at h2
    · omega
    · exact one y h1 h2
    · exact one x h2 h1
    · exact h.tT x y b hxy (g2 x b h1) (g2 y b h2)
  · split at hb
    · rcases hf b hb with ⟨y, hy, _⟩ | h2
      · exact h.tn y b hy
      · exact Nat.le_trans h.fr.size h2
    · exact h.tn x b (g2 x b hb)
  · rcases hd2 b hb with h2 | h2
    · exact h.D2 b h2 hlt
    · have := h.fr.size; omega
  · have : ¬ x = d := by omega
    simp only [this, if_false] at hb
    exact h.tx x b hx (g2 x b hb)

end Go.Ve


namespace Go.Ve
open RowKit (Below)

theorem Below.drew (w : World) : Below w.heap.size w { w with drawn := w.drawn + 1 } :=
  ⟨rfl, rfl, rfl, Nat.le_refl _, fun _ _ => rfl⟩

theorem put_big {a : Act} {d : Nat} {v : Value} (h : a.tmps.size ≤ d) : a.put (some d) v = a := by
  have : a.tmps.setIfInBounds d v = a.tmps := Array.setIfInBounds_eq_of_size_le h
  unfold Act.put
  simp only [this]

section
variable {P : Program} {C : Ctx} {h : Hint} {ops : Array Oper} {σ : List V} {ρ : Nat → Value} {F : Nat → Nat → Prop} {t0 r : Nat → V} {m : Nat → List (Nat × Option Nat)} {n : Nat}

theorem pt_set (hq : QOK ops n) (hm : MOK ops n m) {listed : Array Bool} (inv : HeadInv .any ops n listed) {i d : Nat} (hi : i < n) (hr : i ∈ Region.ready .any ops listed) (hd : dstOf ops i = some d) :
    pt ops n r m t0 (listed.setIfInBounds i true) = upd1 (killM (m i) (pt ops n r m t0 listed)) d (r i) := by
  have hl := inv.size
  have hii : i < listed.size := by rw [hl]; exact Nat.lt_of_lt_of_le hi hq.le
  obtain ⟨hun, o2, ho2, hall⟩ := mem_ready.1 hr
  have hun := getD_both hun
  have eI : (listed.setIfInBounds i true).getD i false = true := by simp [hii]
  funext x
  unfold upd1
  by_cases hx : x = d
  · subst hx
    have ho := owner_of hq hi hd
    unfold pt
    rw [ho]
    simp only [if_true]
    rw [if_pos eI]
    refine apS_none n fun j hj hs => ?_
    cases hc : lookM (m j) x with
    | none => rfl
    | some tk =>
      obtain ⟨k, hk, hkj, oj, hoj, e, he, hb, hon⟩ := owner_taken hq hm hj hc
      rw [ho] at hk
      cases hk
      rw [getD_set_ne false (by omega)] at hs
      have := inv.closed j oj hoj hs e he hb
      rw [hon, hun] at this
      cases this
  · simp only [if_neg hx, killM]
    unfold pt
    cases ho : owner ops n x with
    | none =>
      cases hc : lookM (m i) x with
      | none => rfl
      | some tk =>
        obtain ⟨k, hk, _⟩ := owner_taken hq hm hi hc
        rw [ho] at hk; cases hk
    | some k =>
      have hne : i ≠ k := by
        rintro rfl
        have := (owner_some ho).2
        rw [hd] at this
        exact hx (Option.some.inj this).symm
      simp only
      rw [getD_set_ne false hne]
      by_cases hlk : listed.getD k false = true
      · rw [if_pos hlk, if_pos hlk]
        exact apS_add (S := fun i => listed.getD i false) hun eI (fun j hj => getD_set_ne false (Ne.symm hj)) n hi
      · rw [if_neg hlk, if_neg hlk]
        cases hc : lookM (m i) x with
        | none => rfl
        | some tk =>
          obtain ⟨k', hk', hki, oi, hoi, e, he, hb, hon⟩ := owner_taken hq hm hi hc
          rw [ho] at hk'
          cases hk'
          obtain rfl : oi = o2 := Option.some.inj (hoi.symm.trans ho2)
          have := hall e he hb
          rw [hon] at this
          exact absurd this hlk

/-- What an operation that is ready looks at: as the text's order has it; or, where it takes a part, the same at this part. -/
theorem agree (hq : QOK ops n) (hm : MOK ops n m) {listed : Array Bool} {i : Nat} {oi : Oper} (hoi : ops[i]? = some oi) (hi : i < n) (hr : i ∈ Region.ready .any ops listed) {x : Nat} (hx : x ∈ oi.looksAt ops) :
    runT ops r m t0 i x = pt ops n r m t0 listed x ∨ (oi.guard = none ∧ ∃ c, oi.op = .extract (.tmp x) c ∧ EqC c (runT ops r m t0 i x) (pt ops n r m t0 listed x)) := by
  rw [runT_get hq hm r t0 x i (Nat.le_of_lt hi)]
  unfold pt
  cases ho : owner ops n x with
  | none => exact .inl rfl
  | some k =>
    obtain ⟨hk, hdk⟩ := owner_some ho
    obtain ⟨oi', d, hoi', hd, hnl⟩ := hq.dst i hi
    obtain rfl : oi' = oi := Option.some.inj (hoi'.symm.trans hoi)
    have hne : k ≠ i := by
      rintro rfl
      have : d = x := by simpa [dstOf, hoi, hd] using hdk
      exact hnl (this ▸ hx)
    obtain ⟨e, he, hb, hon⟩ := (hq.ne k i x oi' hk hi hne hdk hoi).2 hx
    obtain ⟨hun, o2, ho2, hall⟩ := mem_ready.1 hr
    obtain rfl : o2 = oi' := Option.some.inj (ho2.symm.trans hoi)
    have h1 := hall e he hb
    rw [hon] at h1
    have h2 := hq.back i o2 e hoi he hb
    rw [hon] at h2
    simp only [h1, h2, if_true]
    have hun := getD_both hun
    -- who takes of it
    have only : ∀ S : Nat → Bool, S i = false → (∀ j, j < n → ∀ tk, lookM (m j) x = some tk → tk = none ∨ ∃ c, tk = some c) → (∃ j, j < n ∧ S j = true ∧ lookM (m j) x = some none) → False := by
      rintro S hSi _ ⟨j, hj, hs, hl⟩
      obtain ⟨oj, ok⟩ := hm j hj _ (lookM_mem hl)
      have hij : i = j := ok.one rfl i o2 hoi hx
      rw [← hij, hSi] at hs; cases hs
    by_cases hex : ∃ j c, j < n ∧ lookM (m j) x = some (some c)
    · obtain ⟨j, c, hj, hl⟩ := hex
      obtain ⟨oj, ok⟩ := hm j hj _ (lookM_mem hl)
      obtain ⟨hg, c', hop, _⟩ := ok.part c rfl i o2 hi hoi hx
      right
      refine ⟨hg, c', hop, ?_⟩
      have side : ∀ S : Nat → Bool, S i = false → EqC c' (r k) (apS S m x (r k) n) := by
        intro S hSi
        refine apS_eqC n fun j' hj' hs tk hl' => ?_
        obtain ⟨oj', ok'⟩ := hm j' hj' _ (lookM_mem hl')
        cases tk with
        | none =>
          have hij : i = j' := ok'.one rfl i o2 hoi hx
          rw [← hij, hSi] at hs; cases hs
        | some c2 =>
          obtain ⟨_, c3, hop3, hne3⟩ := ok'.part c2 rfl i o2 hi hoi hx
          rw [hop] at hop3
          cases hop3
          refine ⟨c2, rfl, fun e => ?_⟩
          have hij : i ≠ j' := by
            rintro rfl
            rw [hSi] at hs; cases hs
          exact hne3 hij e.symm
      exact (side (fun j => decide (j < i)) (by simp)).symm.trans (side (fun j => listed.getD j false) hun)
    · left
      have side : ∀ S : Nat → Bool, S i = false → apS S m x (r k) n = r k := by
        intro S hSi
        refine apS_none n fun j hj hs => ?_
        cases hl : lookM (m j) x with
        | none => rfl
        | some tk =>
          cases tk with
          | some c => exact absurd ⟨j, c, hj, hl⟩ hex
          | none =>
            obtain ⟨oj, ok⟩ := hm j hj _ (lookM_mem hl)
            have hij : i = j := ok.one rfl i o2 hoi hx
            rw [← hij, hSi] at hs; cases hs
      rw [side (fun j => decide (j < i)) (by simp), side (fun j => listed.getD j false) hun]
theorem agree_eq (hq : QOK ops n) (hm : MOK ops n m) {listed : Array Bool} {i : Nat} {oi : Oper} (hoi : ops[i]? = some oi) (hi : i < n) (hr : i ∈ Region.ready .any ops listed) {x : Nat} (hx : x ∈ oi.looksAt ops) (hne : ∀ y c, oi.op ≠ .extract y c) :
    runT ops r m t0 i x = pt ops n r m t0 listed x := by
  rcases agree (r := r) (t0 := t0) hq hm hoi hi hr hx with h | ⟨_, c, h, _⟩
  · exact h
  · exact absurd h (hne _ _)
theorem qExtract_eqC {c : Nat} {v v' : V} {K : V → Prop} (h : EqC c v v') (hq : qExtract v c K) : qExtract v' c K := by
  rcases h with rfl | ⟨tg, n, f, g, rfl, rfl, h3⟩
  · exact hq
  · unfold qExtract at hq ⊢
    cases tg with
    | tu => simp only at hq ⊢; rw [← h3]; exact hq
    | ag => exact hq.elim
    | bx => exact hq.elim

theorem PR.skip {T : Nat → Nat → Prop} {D : Nat → Prop} {a : Act} {w : World} {N : Nat} {t : Nat → V} (hp : PR C N σ ρ F t a w D T) (d : Nat) (v : Value) :
    ∃ T', PR C N σ ρ F (upd1 t d .dead) (a.put (some d) v) w D T' ∧ ∀ x b, T' x b → T x b := by
  by_cases hdn : d < N
  · exact ⟨_, hp.put (r := .dead) (v' := v) (fp := noF) (Below.refl _ _) (fun _ h => h) (fun _ h => h.elim) (fun _ h => h) (fun _ h => .inl h) (fun b hb => ⟨hp.wr.Dlt b hb, fun h => h⟩) hdn, fun x b hb => by split at hb; exact hb.elim; exact hb⟩
  · have e1 : upd1 t d .dead = t := by
      funext x
      unfold upd1
      split
      · rename_i hx; subst hx; exact (hp.dd x (Nat.le_of_not_lt hdn)).symm
      · rfl
    rw [e1, put_big (by rw [hp.sz]; exact Nat.le_of_not_lt hdn)]
    exact ⟨T, hp, fun _ _ h => h⟩

theorem head_step {Q : Exit → Act → World → Prop} {K : Act → World → Prop} (hq : QOK ops n) (hm : MOK ops n m) {listed : Array Bool} (inv : HeadInv .any ops n listed) {i : Nat} (hi : i < n) (hr : i ∈ Region.ready .any ops listed)
    (hst : ∀ j, j < n → ∀ o, ops[j]? = some o → StepQ P h ops σ o (runT ops r m t0 j) (r j) (m j)) {D : Nat → Prop} {T : Nat → Nat → Prop} {a : Act} {w : World}
    (hp : PR C h.n σ ρ F (pt ops n r m t0 listed) a w D T) (hT : ∀ x b, T x b → ∃ i, i < n ∧ dstOf ops i = some x)
    (hK : ∀ a' w' D' T', PR C h.n σ ρ F (pt ops n r m t0 (listed.setIfInBounds i true)) a' w' D' T' → (∀ x b, T' x b → ∃ i, i < n ∧ dstOf ops i = some x) → K a' w') : wpOp P ops Q i K a w := by
  obtain ⟨oi, d, hoi, hd, hnl⟩ := hq.dst i hi
  have hdo : dstOf ops i = some d := by simp [dstOf, hoi, hd]
  rw [pt_set hq hm inv hi hr hdo] at hK
  have hT' : ∀ (fp : Nat → Prop) x b, (if x = d then fp else T x) b → ∃ i, i < n ∧ dstOf ops i = some x := by
    intro fp x b hb
    split at hb
    · rename_i hx; subst hx; exact ⟨i, hi, hdo⟩
    · exact hT x b hb
  have hgv : ∀ j want, oi.guard = some (j, want) → gv (pt ops n r m t0 listed) ops j = gv (runT ops r m t0 i) ops j := by
    intro j want hg
    unfold gv
    split
    · rename_i x hx
      rcases agree (r := r) (t0 := t0) hq hm hoi hi hr (x := x) (by unfold Oper.looksAt; rw [hg]; simp [hx]) with h | ⟨h, _⟩
      · exact h.symm
      · rw [hg] at h; cases h
    · rfl
  unfold wpOp
  simp only [hoi]
  obtain ⟨d', hd', hs⟩ := hst i hi oi hoi
  obtain rfl : d' = d := Option.some.inj (hd'.symm.trans hd)
  rcases hs with ⟨⟨hdn, hg, r', hqop, hri⟩ | ⟨j, want, hg, hgj, hri⟩, hmi⟩ | ⟨hdn, hg, hfz, hmv, hmq⟩
  · rw [hmi, killM_nil] at hK
    have hw : Region.wanted oi (yielded ops a.tmps) = true := by
      rcases hg with hg | ⟨j, want, hg, hgj⟩
      · simp [Region.wanted, hg]
      · rw [← hgv j want hg] at hgj
        simp [Region.wanted, hg, hp.gv hgj]
    rw [if_pos hw]
    refine .inl ?_
    have look : ∀ y, Operand.tmp y ∈ oi.op.operands → y ∈ oi.looksAt ops := by
      intro y hx
      unfold Oper.looksAt
      refine List.mem_append_left _ ?_
      rw [List.mem_filterMap]
      exact ⟨.tmp y, by simpa using hx, rfl⟩
    have hqop' : qop P σ (Ms.ev ⟨pt ops n r m t0 listed, σ⟩) oi.op (fun x => x = r') := by
      by_cases hex : ∃ y c, oi.op = .extract (.tmp y) c
      · obtain ⟨y, c, hop⟩ := hex
        have hE : EqC c (runT ops r m t0 i y) (pt ops n r m t0 listed y) := by
          rcases agree (r := r) (t0 := t0) hq hm hoi hi hr (x := y) (look y (by rw [hop]; simp [Op.operands])) with h | ⟨_, c', h, h'⟩
          · exact .inl h
          · rw [hop] at h; cases h; exact h'
        rw [hop] at hqop ⊢
        exact qExtract_eqC (K := fun r0 => ∃ r, Sub r0 r ∧ r = r') hE hqop
      · refine qop_congr (fun x hx => ?_) hqop
        cases x with
        | tmp y =>
          show runT ops r m t0 i y = pt ops n r m t0 listed y
          rcases agree (r := r) (t0 := t0) hq hm hoi hi hr (look y hx) with h | ⟨_, c, h, _⟩
          · exact h
          · exact absurd ⟨y, c, h⟩ hex
        | const v => rfl
        | global g => rfl
        | func f => rfl
    obtain ⟨r2, rfl, hy⟩ := qop_sound (o := oi) hp.wr (fun x _ => hp.ev x) hqop'
    refine hy K Q fun v' w' D' fp hB hr' hf hd1 hd2 hd3 => ?_
    rw [hd]
    rw [hri] at hK
    split at hK
    · refine hK _ _ _ _ (hp.put (D' := fun b => D' b ∨ fp b) (fp := noF) hB (Rel.frz _ _ _ hr') (fun _ h => h.elim) (fun b hb => .inl (hd1 b hb)) (fun b hb => ?_) (fun b hb => ⟨?_, fun h => h⟩) hdn) (hT' _)
      · rcases hb with hb | hb
        · exact hd2 b hb
        · exact .inr (hf b hb)
      · rcases hb with hb | hb
        · exact (hd3 b hb).1
        · exact Rel.lt _ _ _ hr' b hb
    · exact hK _ _ _ _ (hp.put hB hr' hf hd1 hd2 hd3 hdn) (hT' _)
  · rw [hmi, killM_nil] at hK
    have hgj' := hgj
    rw [← hgv j want hg] at hgj'
    have hw : Region.wanted oi (yielded ops a.tmps) = false := by
      have := hp.gv hgj'
      cases want <;> simp [Region.wanted, hg, this]
    rw [if_neg (by simp [hw]), hd]
    rw [hri] at hK
    obtain ⟨T', hp', hsub⟩ := hp.skip d' undef
    exact hK _ _ _ _ hp' fun x b hb => hT x b (hsub x b hb)
  · have hw : Region.wanted oi (yielded ops a.tmps) = true := by simp [Region.wanted, hg]
    rw [if_pos hw]
    refine .inl ?_
    have hlook : ∀ p ∈ m i, p.1 ∈ oi.looksAt ops := by
      intro p hp
      obtain ⟨oi', ok⟩ := hm i hi p hp
      obtain rfl : oi' = oi := Option.some.inj (ok.at_.symm.trans hoi)
      exact ok.looks
    rcases hmq with ⟨y, hop, hys, hri⟩ | ⟨y, c, nn, f, hop, hys, hty, hcn, hri⟩
    · rw [hys] at hK hlook
      rw [agree_eq hq hm hoi hi hr (hlook (y, none) (by simp)) (by rintro z c h; rcases hop with hop | hop <;> (rw [hop] at h; cases h))] at hri
      have hrun : (execOp a.eval oi).run P w = .ok (.value (a.eval (.tmp y))) w := by unfold execOp; rcases hop with hop | hop <;> (rw [hop]; rfl)
      unfold Oper.wp
      rw [hrun]
      show K (a.put oi.dst (a.eval (.tmp y))) w
      rw [hd]
      obtain ⟨fp, hrel, hfp⟩ : ∃ fp, Rel D w (RefOK σ ρ w) (r i) (a.eval (.tmp y)) fp ∧ ∀ b, fp b → T y b := by
        rw [hri]
        by_cases hy : y < h.n
        · exact ⟨T y, hp.tm y hy, fun _ h => h⟩
        · exact ⟨noF, by rw [hp.dd y (Nat.le_of_not_lt hy)]; exact fun _ h => h, fun _ h => h.elim⟩
      have kM : ∀ x, killM [(y, none)] (pt ops n r m t0 listed) x = if x = y then .dead else pt ops n r m t0 listed x := by
        intro x
        unfold killM
        by_cases hx : x = y
        · subst hx
          rw [if_pos rfl]
          show kap1 (if x = x then some none else none) _ = _
          rw [if_pos rfl]; rfl
        · rw [if_neg hx]
          show kap1 (if y = x then some none else none) _ = _
          rw [if_neg (Ne.symm hx)]; rfl
      refine hK _ _ _ _ (hp.move (t1 := killM [(y, none)] (pt ops n r m t0 listed)) (T1 := fun x => if x = y then noF else T x) (fun x hx => ?_) (fun x b hb => ?_) (fun x hx => ?_) (Below.refl _ _) hrel (fun b hb => .inl ⟨y, hfp b hb, fun x hx => ?_⟩) (fun _ h => h) (fun _ h => .inl h) (fun b hb => ⟨hp.wr.Dlt b hb, fun h => hp.tD y b (hfp b h) hb⟩) hdn) fun x b hb => ?_
      · rw [kM]
        by_cases hxy : x = y
        · rw [if_pos hxy, if_pos hxy]; exact fun _ h => h
        · rw [if_neg hxy, if_neg hxy]; exact hp.tm x hx
      · split at hb
        · exact hb.elim
        · exact hb
      · rw [kM]
        split
        · rfl
        · exact hp.dd x hx
      · split at hx
        · exact hx.elim
        · rename_i hxy; exact hp.tT x y b hxy hx (hfp b hb)
      · split at hb
        · rename_i hx; subst hx; exact ⟨i, hi, hdo⟩
        · split at hb
          · exact hb.elim
          · exact hT x b hb
    · rw [hys] at hK hlook
      -- the part, and what is left
      obtain ⟨g, hg', hgc⟩ : ∃ g, pt ops n r m t0 listed y = .many .tu nn g ∧ g c = f c := by
        rcases agree (r := r) (t0 := t0) hq hm hoi hi hr (hlook (y, some c) (by simp)) with h | ⟨_, c', h, h'⟩
        · exact ⟨f, h ▸ hty, rfl⟩
        · rw [hop] at h
          cases h
          rcases h' with h' | ⟨tg, n2, f2, g2, h1, h2, h3⟩
          · exact ⟨f, h' ▸ hty, rfl⟩
          · rw [hty] at h1
            cases h1
            exact ⟨g2, h2, h3.symm⟩
      have hyn : y < h.n := by
        rcases Nat.lt_or_ge y h.n with h' | h'
        · exact h'
        · rw [hp.dd y h'] at hg'; cases hg'
      have hry := hp.tm y hyn
      rw [hg'] at hry
      obtain ⟨cs, G, hcv, hcs, hrel, hdis, hfp⟩ := hry
      have hcv : a.eval (.tmp y) = .tuple cs := hcv
      have hrun : (execOp a.eval oi).run P w = .ok (.value (cs.getD c undef)) w := by
        unfold execOp; rw [hop]; simp [Instr.extract, hcv, hcs, hcn]
      unfold Oper.wp
      rw [hrun]
      show K (a.put oi.dst (cs.getD c undef)) w
      rw [hd]
      have hrc : Rel D w (RefOK σ ρ w) (r i) (cs.getD c undef) (G c) := by rw [hri, ← hgc]; exact hrel c hcn
      have kM : ∀ x, killM [(y, some c)] (pt ops n r m t0 listed) x = if x = y then killC c (.many .tu nn g) else pt ops n r m t0 listed x := by
        intro x
        unfold killM
        by_cases hx : x = y
        · subst hx
          rw [if_pos rfl]
          show kap1 (if x = x then some (some c) else none) _ = _
          rw [if_pos rfl, hg']; rfl
        · rw [if_neg hx]
          show kap1 (if y = x then some (some c) else none) _ = _
          rw [if_neg (Ne.symm hx)]; rfl
      refine hK _ _ _ _ (hp.move (t1 := killM [(y, some c)] (pt ops n r m t0 listed)) (T1 := fun x => if x = y then fun b => ∃ k, k < nn ∧ k ≠ c ∧ G k b else T x) (fun x hx => ?_) (fun x b hb => ?_) (fun x hx => ?_) (Below.refl _ _) hrc (fun b hb => .inl ⟨y, (hfp b).2 ⟨c, hcn, hb⟩, fun x hx => ?_⟩) (fun _ h => h) (fun _ h => .inl h) (fun b hb => ⟨hp.wr.Dlt b hb, fun h => hp.tD y b ((hfp b).2 ⟨c, hcn, h⟩) hb⟩) hdn) fun x b hb => ?_
      · rw [kM]
        by_cases hxy : x = y
        · rw [if_pos hxy, if_pos hxy]
          subst hxy
          refine ⟨cs, fun k => if k = c then noF else G k, hcv, hcs, fun k hk => ?_, fun k k' b hk hk' hne h1 h2 => ?_, fun b => ⟨fun ⟨k, h1, h2, h3⟩ => ⟨k, h1, by show (if k = c then noF else G k) b; rw [if_neg h2]; exact h3⟩, fun ⟨k, h1, h2⟩ => ?_⟩⟩
          · show Rel D w _ (if k = c then .dead else g k) _ (if k = c then noF else G k)
            by_cases hkc : k = c
            · rw [if_pos hkc, if_pos hkc]; exact fun _ h => h
            · rw [if_neg hkc, if_neg hkc]; exact hrel k hk
          · have h1 : (if k = c then noF else G k) b := h1
            have h2 : (if k' = c then noF else G k') b := h2
            split at h1
            · exact h1
            · split at h2
              · exact h2
              · exact hdis k k' b hk hk' hne h1 h2
          · have h2 : (if k = c then noF else G k) b := h2
            split at h2
            · exact h2.elim
            · rename_i hkc; exact ⟨k, h1, hkc, h2⟩
        · rw [if_neg hxy, if_neg hxy]; exact hp.tm x hx
      · split at hb
        · rename_i hxy
          subst hxy
          obtain ⟨k, h1, _, h3⟩ := hb
          exact (hfp b).2 ⟨k, h1, h3⟩
        · exact hb
      · rw [kM]
        have : x ≠ y := fun e => absurd hyn (Nat.not_lt.2 (e ▸ hx))
        rw [if_neg this]
        exact hp.dd x hx
      · split at hx
        · obtain ⟨k, h1, h2, h3⟩ := hx
          exact hdis k c b h1 hcn h2 h3 hb
        · rename_i hxy; exact hp.tT x y b hxy hx ((hfp b).2 ⟨c, hcn, hb⟩)
      · split at hb
        · rename_i hx; subst hx; exact ⟨i, hi, hdo⟩
        · split at hb
          · rename_i hxy
            subst hxy
            obtain ⟨k, h1, _, h3⟩ := hb
            exact hT x b ((hfp b).2 ⟨k, h1, h3⟩)
          · exact hT x b hb

/-- The tail, one behind the other. -/
theorem tail_go {Q : Exit → Act → World → Prop} (hq : QOK ops n) : ∀ (fuel m : Nat) (listed : Array Bool) (a : Act) (w : World), n ≤ m → m ≤ ops.size → ops.size ≤ m + fuel → listed.size = ops.size →
    (∀ j, j < ops.size → listed.getD j true = decide (j < m)) → wpList P ops Q (ops.toList.drop m) a w → wpAny P .any ops Q fuel listed a w := by
  have fals : ∀ {listed : Array Bool} {j m : Nat}, listed.size = ops.size → (∀ j, j < ops.size → listed.getD j true = decide (j < m)) → j < ops.size → listed.getD j false = decide (j < m) := by
    intro listed j m hs hl hj
    have := hl j hj
    rw [← hs] at hj
    simp [hj] at this ⊢
    exact this
  intro fuel
  induction fuel with
  | zero =>
    intro m listed a w hnm hm hf hs hl hw
    obtain rfl : m = ops.size := by omega
    refine ⟨?_, ?_⟩
    · cases hr : Region.ready .any ops listed with
      | nil => rfl
      | cons j js =>
        have hj : j ∈ Region.ready .any ops listed := by rw [hr]; simp
        obtain ⟨h1, o, ho, _⟩ := mem_ready.1 hj
        have hlt : j < ops.size := (Array.getElem?_eq_some_iff.1 ho).1
        rw [hl j hlt] at h1
        simp [hlt] at h1
    · have : ops.toList.drop ops.size = [] := by simp
      rw [this] at hw; exact hw
  | succ f ih =>
    intro m listed a w hnm hm hf hs hl hw
    by_cases hms : m = ops.size
    · subst hms
      have hnil : Region.ready .any ops listed = [] := by
        cases hr : Region.ready .any ops listed with
        | nil => rfl
        | cons j js =>
          have hj : j ∈ Region.ready .any ops listed := by rw [hr]; simp
          obtain ⟨h1, o, ho, _⟩ := mem_ready.1 hj
          have hlt : j < ops.size := (Array.getElem?_eq_some_iff.1 ho).1
          rw [hl j hlt] at h1
          simp [hlt] at h1
      refine ⟨fun _ => ?_, fun i hi => by rw [hnil] at hi; cases hi⟩
      have : ops.toList.drop ops.size = [] := by simp
      rw [this] at hw; exact hw
    · have hlt : m < ops.size := by omega
      have hom : ops[m]? = some ops[m] := by simp [hlt]
      have hmr : m ∈ Region.ready .any ops listed := by
        refine mem_ready.2 ⟨by rw [hl m hlt]; simp, ops[m], hom, fun e he hb => ?_⟩
        have h1 := hq.back m ops[m] e hom he hb
        rw [fals hs hl (by omega)]
        simp [h1]
      refine ⟨fun h0 => (by rw [h0] at hmr; cases hmr), fun i hi => ?_⟩
      have him : i = m := by
        obtain ⟨h1, o, ho, hall⟩ := mem_ready.1 hi
        have hil : i < ops.size := (Array.getElem?_eq_some_iff.1 ho).1
        rw [hl i hil] at h1
        simp at h1
        by_cases he : i = m
        · exact he
        · rcases hq.tail with ht | ⟨hc, _⟩
          · omega
          · have h2 := List.all_eq_true.1 hc i (List.mem_range.2 hil)
            simp only [Bool.or_eq_true, decide_eq_true_eq] at h2
            rcases h2 with h2 | h2
            · omega
            · obtain ⟨o', ho', e, he', hb, hon⟩ := Region.waitsFor_spec h2
              obtain rfl : o' = o := Option.some.inj (ho'.symm.trans ho)
              have h3 := hall e he' hb
              rw [hon, fals hs hl (by omega)] at h3
              simp at h3
              omega
      subst him
      have hdrop : ops.toList.drop i = ops[i] :: ops.toList.drop (i + 1) := by
        have := List.drop_eq_getElem_cons (l := ops.toList) (i := i) (by simpa using hlt)
        simpa using this
      rw [hdrop] at hw
      have hw' : wpOp P ops Q i (wpList P ops Q (ops.toList.drop (i + 1))) a w := by
        unfold wpOp; simp only [hom]; exact hw
      refine wpOp_mono (fun a' w' h' => ih (i + 1) _ a' w' (by omega) (by omega) (by omega) (by simpa using hs) (fun j hj => ?_) h') hw'
      by_cases hij : i = j
      · subst hij
        have : i < listed.size := by rw [hs]; exact hlt
        simp [this]
      · rw [getD_set_ne true hij, hl j hj]
        have : (j < i) = (j < i + 1) := by
          apply propext
          constructor <;> intro _ <;> omega
        simp [this]

def unl (listed : Array Bool) (n : Nat) : Nat := (List.range n).countP fun i => !listed.getD i true

theorem unl_set {listed : Array Bool} {i : Nat} (hi : i < listed.size) (hu : listed.getD i true = false) : ∀ n, unl (listed.setIfInBounds i true) n + (if i < n then 1 else 0) = unl listed n := by
  intro n
  induction n with
  | zero => simp [unl]
  | succ n ih =>
    unfold unl at ih ⊢
    rw [List.range_succ, List.countP_append, List.countP_append]
    simp only [List.countP_singleton]
    by_cases hin : i = n
    · subst hin
      have e : (listed.setIfInBounds i true).getD i true = true := by simp [hi]
      simp only [Nat.lt_irrefl, if_false] at ih
      simp [e, hu] at ih ⊢
      exact ih
    · rw [getD_set_ne true hin]
      have : (i < n + 1) = (i < n) := by
        apply propext
        constructor <;> intro _ <;> omega
      simp only [this]
      omega

theorem unl_pos {listed : Array Bool} {i : Nat} (hu : listed.getD i true = false) : ∀ n, i < n → 0 < unl listed n := by
  intro n hn
  unfold unl
  rw [List.countP_pos_iff]
  exact ⟨i, List.mem_range.2 hn, by simp [hu]⟩


theorem put_comm {a : Act} {d : Nat} {dst : Option Nat} {u v : Value} (h : dst ≠ some d) : (a.put (some d) v).put dst u = (a.put dst u).put (some d) v := by
  cases dst with
  | none => rfl
  | some e =>
    have hne : d ≠ e := fun e' => h (by rw [e'])
    unfold Act.put
    simp only
    rw [Array.setIfInBounds_comm _ _ hne]
theorem put_same {a : Act} {dst : Option Nat} {u : Value} {x : Nat} (h : dst ≠ some x) : (a.put dst u).tmps[x]? = a.tmps[x]? := by
  cases dst with
  | none => rfl
  | some e =>
    show (a.tmps.setIfInBounds e u)[x]? = _
    exact Array.getElem?_setIfInBounds_ne fun e' => h (by rw [e'])
/-- An operation that does not look at the slot d runs as well before it is written. -/
theorem wpOp_shift {Q0 Q : Exit → Act → World → Prop} {K' K : Act → World → Prop} {i : Nat} {o : Oper} {a : Act} {w : World} {d : Nat} {v : Value} (ho : ops[i]? = some o) (hq : ∀ e a w, e ≠ .normal → ¬ Q0 e a w) (hs : ∀ cs b, o.op ≠ .select cs b)
    (hl : d ∉ o.looksAt ops) (hd : o.dst ≠ some d) (hK : ∀ a1 w1, (∀ x, o.dst ≠ some x → a1.tmps[x]? = a.tmps[x]?) → K' (a1.put (some d) v) w1 → K a1 w1)
    (h : wpOp P ops Q0 i K' (a.put (some d) v) w) : wpOp P ops Q i K a w := by
  unfold wpOp at h ⊢
  simp only [ho] at h ⊢
  rw [wanted_put o a (some d) v (fun d' hd' => by cases hd'; exact hl)] at h
  split
  · rename_i hw
    rw [if_pos hw] at h
    rcases h with h | ⟨_, _, _, h⟩
    · left
      unfold Oper.wp at h ⊢
      rw [execOp_put (ops := ops) o hs a (some d) v (fun d' hd' => by cases hd'; exact hl)] at h
      generalize (execOp a.eval o).run P w = r at h ⊢
      cases r with
      | ok n w' =>
        cases n with
        | value u => exact hK _ _ (fun x hx => put_same hx) (put_comm hd ▸ h)
        | skip => exact hK _ _ (fun x hx => put_same hx) (put_comm hd ▸ h)
        | defer u => exact hK ({ a with defers := u :: a.defers }.put o.dst undef) w' (fun x hx => put_same (a := { a with defers := u :: a.defers }) hx) (put_comm (a := { a with defers := u :: a.defers }) hd ▸ h)
        | enter f args => exact Calls.mono h (fun e w'' he => by
            cases e with
            | returned u => exact hK _ _ (fun x hx => put_same hx) (put_comm hd ▸ he)
            | panicked c => exact (hq _ _ _ (by simp) he).elim
            | outgrown => obtain ⟨_, _, he⟩ := he; exact (hq _ _ _ (by simp) he).elim)
        | row r args => exact Rows.mono h (fun u w'' he => hK _ _ (fun x hx => put_same hx) (put_comm hd ▸ he))
        | _ => exact h
      | halt x w' =>
        cases x <;> first | exact h.elim | exact (hq _ _ _ (by simp) h).elim
    · exact (hq _ _ _ (by simp) h).elim
  · rename_i hw
    rw [if_neg hw] at h
    exact hK _ _ (fun x hx => put_same hx) (put_comm hd ▸ h)
/-- The post-condition that only the ordinary end has. -/
def QN (Q : Exit → Act → World → Prop) : Exit → Act → World → Prop := fun e a w => e = .normal ∧ Q .normal a w
theorem QN_no {Q : Exit → Act → World → Prop} : ∀ e a w, e ≠ .normal → ¬ QN Q e a w := fun _ _ _ h h' => h h'.1
theorem wpOp_free {Q0 Q : Exit → Act → World → Prop} {K' K : Act → World → Prop} {i : Nat} {a : Act} {w : World} (hq : ∀ e a w, e ≠ .normal → ¬ Q0 e a w) (hK : ∀ a1 w1, K' a1 w1 → K a1 w1)
    (h : wpOp P ops Q0 i K' a w) : wpOp P ops Q i K a w := by
  unfold wpOp at h ⊢
  split
  · rename_i ho; simp only [ho] at h; exact hK _ _ h
  rename_i o ho
  simp only [ho] at h
  split
  · rename_i hw
    rw [if_pos hw] at h
    rcases h with h | ⟨_, _, _, h⟩
    · left
      unfold Oper.wp at h ⊢
      generalize (execOp a.eval o).run P w = r at h ⊢
      cases r with
      | ok n w' =>
        cases n with
        | value u => exact hK _ _ h
        | skip => exact hK _ _ h
        | defer u => exact hK _ _ h
        | enter f args => exact Calls.mono h (fun e w'' he => by
            cases e with
            | returned u => exact hK _ _ he
            | panicked c => exact (hq _ _ _ (by simp) he).elim
            | outgrown => obtain ⟨_, _, he⟩ := he; exact (hq _ _ _ (by simp) he).elim)
        | row r args => exact Rows.mono h (fun u w'' he => hK _ _ he)
        | _ => exact h
      | halt x w' =>
        cases x <;> first | exact h.elim | exact (hq _ _ _ (by simp) h).elim
    · exact (hq _ _ _ (by simp) h).elim
  · rename_i hw
    rw [if_neg hw] at h
    exact hK _ _ h
theorem wpList_free {Q : Exit → Act → World → Prop} : ∀ (m : Nat) (a : Act) (w : World), ops.size - m ≤ ops.size → wpList P ops (QN Q) (ops.toList.drop m) a w → wpList P ops Q (ops.toList.drop m) a w := by
  intro m
  induction hk : ops.size - m generalizing m with
  | zero =>
    intro a w _ h
    have e : ops.toList.drop m = [] := List.drop_eq_nil_of_le (by simp; omega)
    rw [e] at h ⊢
    exact h.2
  | succ k ih =>
    intro a w _ h
    have hlt : m < ops.size := by omega
    have hdrop : ops.toList.drop m = ops[m] :: ops.toList.drop (m + 1) := by
      have := List.drop_eq_getElem_cons (l := ops.toList) (i := m) (by simpa using hlt)
      simpa using this
    rw [hdrop] at h ⊢
    have h' : wpOp P ops (QN Q) m (wpList P ops (QN Q) (ops.toList.drop (m + 1))) a w := by
      unfold wpOp; simp only [show ops[m]? = some ops[m] by simp [hlt]]; exact h
    have := wpOp_free (Q := Q) QN_no (fun a1 w1 h1 => ih (m + 1) (by omega) a1 w1 (by omega) h1) h'
    unfold wpOp at this
    simp only [show ops[m]? = some ops[m] by simp [hlt]] at this
    exact this

/-- All but f are behind us up to m; with f's slot written the rest is well. -/
structure FI (P : Program) (ops : Array Oper) (Q : Exit → Act → World → Prop) (f m : Nat) (d y c : Nat) (v : Value) (listed : Array Bool) (a : Act) (w : World) : Prop where
  sz : listed.size = ops.size
  ls : ∀ j, j < ops.size → listed.getD j true = decide (j < m ∧ j ≠ f)
  pu : ∃ cs, a.tmps[y]? = some (.tuple cs) ∧ cs[c]? = some v
  wl : wpList P ops (QN Q) (ops.toList.drop m) (a.put (some d) v) w
theorem listed_f {listed : Array Bool} {j : Nat} {p : Prop} [Decidable p] (hs : listed.size = ops.size) (hj : j < ops.size) (h : listed.getD j true = decide p) : listed.getD j false = decide p := by
  rw [← hs] at hj
  simp [hj] at h ⊢
  exact h
theorem float_pick {Q : Exit → Act → World → Prop} {f m d y c : Nat} {v : Value} (hfm : f < m) (hm : m < ops.size) {listed : Array Bool} {a : Act} {w : World} {ot : Oper} (hot : ops[m]? = some ot) (h1 : d ∉ ot.looksAt ops) (h2 : ot.dst ≠ some d) (h3 : ot.dst ≠ some y) (h4 : ∀ cs b, ot.op ≠ .select cs b)
    (h : FI P ops Q f m d y c v listed a w) : wpOp P ops Q m (FI P ops Q f (m + 1) d y c v (listed.setIfInBounds m true)) a w := by
  have hdrop : ops.toList.drop m = ot :: ops.toList.drop (m + 1) := by
    have := List.drop_eq_getElem_cons (l := ops.toList) (i := m) (by simpa using hm)
    rw [this]
    congr 1
    have : ops[m]? = some ops[m] := by simp [hm]
    rw [this] at hot
    simpa using hot
  have hw := h.wl
  rw [hdrop] at hw
  have hw' : wpOp P ops (QN Q) m (wpList P ops (QN Q) (ops.toList.drop (m + 1))) (a.put (some d) v) w := by
    unfold wpOp; simp only [hot]; exact hw
  refine wpOp_shift hot QN_no h4 h1 h2 (fun a1 w1 hag hk => ⟨by simpa using h.sz, fun j hj => ?_, ?_, hk⟩) hw'
  · by_cases hjm : m = j
    · subst hjm
      have : m < listed.size := by rw [h.sz]; exact hm
      have hne : m ≠ f := by omega
      simp [this, hne]
    · rw [getD_set_ne true hjm, h.ls j hj]
      have : (j < m ∧ j ≠ f) = (j < m + 1 ∧ j ≠ f) := propext ⟨fun ⟨h1, h2⟩ => ⟨by omega, h2⟩, fun ⟨h1, h2⟩ => ⟨by omega, h2⟩⟩
      simp only [this]
  · obtain ⟨cs, g1, g2⟩ := h.pu
    exact ⟨cs, by rw [hag y h3]; exact g1, g2⟩
theorem float_go {Q : Exit → Act → World → Prop} (hq : QOK ops n) (hc : Region.chainB .any ops n = true) {f : Nat} (fl : FL ops n f) {o : Oper} {y c d : Nat} (hof : ops[f]? = some o) (hog : o.guard = none) (hop : o.op = .extract (.tmp y) c) (hod : o.dst = some d)
    (hot : ∀ t ot, n ≤ t → ops[t]? = some ot → Region.waitsFor .any ops t f = false → d ∉ ot.looksAt ops ∧ ot.dst ≠ some d ∧ ot.dst ≠ some y ∧ ∀ cs b, ot.op ≠ .select cs b) {v : Value} :
    ∀ (fuel m : Nat) (listed : Array Bool) (a : Act) (w : World), n ≤ m → m ≤ ops.size → ops.size + 1 ≤ m + fuel → FI P ops Q f m d y c v listed a w → wpAny P .any ops Q fuel listed a w := by
  intro fuel
  induction fuel with
  | zero => intro m listed a w _ h1 h2; omega
  | succ g ih =>
    intro m listed a w hnm hms hf h
    have hfn := fl.fn
    have hfs : f < ops.size := by have := hq.le; omega
    have hfr : f ∈ Region.ready .any ops listed := by
      refine mem_ready.2 ⟨by rw [h.ls f hfs]; simp, o, hof, fun e he hb => ?_⟩
      have h1 := hq.back f o e hof he hb
      rw [listed_f h.sz (by omega) (h.ls e.on (by omega))]
      exact decide_eq_true ⟨by omega, by omega⟩
    refine ⟨fun h0 => (by rw [h0] at hfr; cases hfr), fun i hi => ?_⟩
    obtain ⟨h1, oi, hoi, hall⟩ := mem_ready.1 hi
    have his : i < ops.size := (Array.getElem?_eq_some_iff.1 hoi).1
    rw [h.ls i his] at h1
    have h1 := of_decide_eq_false h1
    by_cases hif : i = f
    · subst hif
      obtain rfl : oi = o := Option.some.inj (hoi.symm.trans hof)
      unfold wpOp
      simp only [hoi]
      have hw : Region.wanted oi (yielded ops a.tmps) = true := by simp [Region.wanted, hog]
      rw [if_pos hw]
      left
      obtain ⟨cs, g1, g2⟩ := h.pu
      have hev : a.eval (.tmp y) = .tuple cs := by
        show a.tmps.getD y undef = _
        simp [Array.getD_eq_getD_getElem?, g1]
      have hrun : (execOp a.eval oi).run P w = .ok (.value v) w := by
        unfold execOp; rw [hop]; simp [Instr.extract, hev, g2]
      unfold Oper.wp
      rw [hrun]
      show wpAny P .any ops Q g _ (a.put oi.dst v) w
      rw [hod]
      refine tail_go hq g m _ _ w hnm hms (by omega) (by simpa using h.sz) (fun j hj => ?_) (wpList_free m _ w (by omega) h.wl)
      by_cases hij : i = j
      · subst hij
        have : i < listed.size := by rw [h.sz]; exact his
        have hlt : i < m := by omega
        simp [this, hlt]
      · rw [getD_set_ne true hij, h.ls j hj]
        have : (j < m ∧ j ≠ i) = (j < m) := propext ⟨fun h => h.1, fun h => ⟨h, Ne.symm hij⟩⟩
        simp only [this]
    · have hnot : ¬ i < m := fun h => h1 ⟨h, hif⟩
      have him : i = m := by
        have h2 := List.all_eq_true.1 hc i (List.mem_range.2 his)
        simp only [Bool.or_eq_true, decide_eq_true_eq] at h2
        rcases h2 with h2 | h2
        · omega
        · by_cases he : i = m
          · exact he
          · obtain ⟨o', ho', e, he', hb, hon⟩ := Region.waitsFor_spec h2
            obtain rfl : o' = oi := Option.some.inj (ho'.symm.trans hoi)
            have h3 := hall e he' hb
            rw [hon, listed_f h.sz (by omega) (h.ls (i - 1) (by omega))] at h3
            have := (of_decide_eq_true h3).1
            omega
      subst him
      have hnw : Region.waitsFor .any ops i f = false := by
        cases hwf : Region.waitsFor .any ops i f with
        | false => rfl
        | true =>
          obtain ⟨o', ho', e, he', hb, hon⟩ := Region.waitsFor_spec hwf
          obtain rfl : o' = oi := Option.some.inj (ho'.symm.trans hoi)
          have h3 := hall e he' hb
          rw [hon, listed_f h.sz hfs (h.ls f hfs)] at h3
          exact absurd rfl (of_decide_eq_true h3).2
      obtain ⟨g1, g2, g3, g4⟩ := hot i oi hnm hoi hnw
      exact wpOp_mono (fun a1 w1 hk => ih (i + 1) _ a1 w1 (by omega) (by omega) (by omega) hk) (float_pick (by omega) his hoi g1 g2 g3 g4 h)

theorem pt_all (hq : QOK ops n) (hm : MOK ops n m) {listed : Array Bool} (hs : listed.size = ops.size) (hall : ∀ i, i < n → listed.getD i true = true) : pt ops n r m t0 listed = runT ops r m t0 n := by
  have hle := hq.le
  have ld : ∀ k, k < n → listed.getD k false = true := fun k hk => by
    have h1 := hall k hk
    have h2 : k < listed.size := by rw [hs]; omega
    simp [h2] at h1 ⊢
    exact h1
  funext x
  rw [runT_get hq hm r t0 x n (Nat.le_refl _)]
  unfold pt
  cases ho : owner ops n x with
  | none => rfl
  | some k =>
    have hk := (owner_some ho).1
    simp only [ld k hk, hk, if_true]
    exact apS_congr n fun i hi => by rw [ld i hi]; simp [hi]

theorem head_go {Q : Exit → Act → World → Prop} (hq : QOK ops n) (hm : MOK ops n m)
    (hst : ∀ j, j < n → ∀ o, ops[j]? = some o → StepQ P h ops σ o (runT ops r m t0 j) (r j) (m j))
    (hend : ∀ a w D T, PR C h.n σ ρ F (runT ops r m t0 n) a w D T → (∀ x b, T x b → ∃ i, i < n ∧ dstOf ops i = some x) → wpList P ops Q (ops.toList.drop n) a w)
    (hend0 : ∀ a w D T, PR C h.n σ ρ F (runT ops r m t0 n) a w D T → (∀ x b, T x b → ∃ i, i < n ∧ dstOf ops i = some x) → wpList P ops (QN Q) (ops.toList.drop n) a w) :
    ∀ (fuel : Nat) (listed : Array Bool) (a : Act) (w : World) (D : Nat → Prop) (T : Nat → Nat → Prop), HeadInv .any ops n listed → unl listed n + (ops.size - n) ≤ fuel →
      PR C h.n σ ρ F (pt ops n r m t0 listed) a w D T → (∀ x b, T x b → ∃ i, i < n ∧ dstOf ops i = some x) → wpAny P .any ops Q fuel listed a w := by
  intro fuel
  induction fuel with
  | zero =>
    intro listed a w D T inv hf hp hT
    have hle := hq.le
    have hall : ∀ i, i < n → listed.getD i true = true := by
      intro i hi
      cases hu : listed.getD i true with
      | true => rfl
      | false => have := unl_pos hu n hi; omega
    have hpt : pt ops n r m t0 listed = runT ops r m t0 n := by
      funext x
      rw [runT_get hq hm r t0 x n (Nat.le_refl _)]
      unfold pt
      cases ho : owner ops n x with
      | none => rfl
      | some k =>
        have hk := (owner_some ho).1
        have ld : ∀ k, k < n → listed.getD k false = true := fun k hk => by
          have h1 := hall k hk
          have h2 : k < listed.size := by rw [inv.size]; omega
          simp [h2] at h1 ⊢
          exact h1
        simp only [ld k hk, hk, if_true]
        exact apS_congr n fun i hi => by rw [ld i hi]; simp [hi]
    rw [hpt] at hp
    refine tail_go hq 0 n listed a w (Nat.le_refl _) hle (by omega) inv.size (fun j hj => ?_) (hend _ _ _ _ hp hT)
    by_cases hjn : j < n
    · rw [hall j hjn]; simp [hjn]
    · rw [inv.tail j (by omega) hj]; simp [hjn]
  | succ f ih =>
    intro listed a w D T inv hf hp hT
    have hle := hq.le
    by_cases hall : ∀ i, i < n → listed.getD i true = true
    · have hpt : pt ops n r m t0 listed = runT ops r m t0 n := by
        funext x
        rw [runT_get hq hm r t0 x n (Nat.le_refl _)]
        unfold pt
        cases ho : owner ops n x with
        | none => rfl
        | some k =>
          have hk := (owner_some ho).1
          have ld : ∀ k, k < n → listed.getD k false = true := fun k hk => by
            have h1 := hall k hk
            have h2 : k < listed.size := by rw [inv.size]; omega
            simp [h2] at h1 ⊢
            exact h1
          simp only [ld k hk, hk, if_true]
          exact apS_congr n fun i hi => by rw [ld i hi]; simp [hi]
      rw [hpt] at hp
      refine tail_go hq (f + 1) n listed a w (Nat.le_refl _) hle (by omega) inv.size (fun j hj => ?_) (hend _ _ _ _ hp hT)
      by_cases hjn : j < n
      · rw [hall j hjn]; simp [hjn]
      · rw [inv.tail j (by omega) hj]; simp [hjn]
    · have hex : ∃ i, i < n ∧ listed.getD i true = false := by
        apply Classical.byContradiction
        intro hno
        apply hall
        intro i hi
        cases hu : listed.getD i true with
        | true => rfl
        | false => exact absurd ⟨i, hi, hu⟩ hno
      obtain ⟨i, ⟨hin, hun⟩, hmin⟩ := least hex
      have hoi : ops[i]? = some ops[i] := by
        have : i < ops.size := by omega
        simp [this]
      have hir : i ∈ Region.ready .any ops listed := by
        refine mem_ready.2 ⟨hun, ops[i], hoi, fun e he hb => ?_⟩
        have h1 := hq.back i ops[i] e hoi he hb
        have h2 := hmin e.on h1
        have h3 : e.on < listed.size := by rw [inv.size]; omega
        cases hu : listed.getD e.on true with
        | false => exact absurd ⟨by omega, hu⟩ h2
        | true => simp [h3] at hu ⊢; exact hu
      refine ⟨fun h0 => (by rw [h0] at hir; cases hir), fun j hj => ?_⟩
      have hjs : j < ops.size := by
        obtain ⟨_, o, ho, _⟩ := mem_ready.1 hj
        exact (Array.getElem?_eq_some_iff.1 ho).1
      rcases Nat.lt_or_ge j n with hjn | hjn
      case inr =>
        rcases hq.tail with ht | ⟨hc, hs | ⟨ff, fl⟩⟩
        · omega
        · exact absurd hj (tail_waits hs hc (by omega) inv _ i rfl hin hun j hjn)
        · obtain ⟨hju, oj, hoj, hallj⟩ := mem_ready.1 hj
          have hjn' : j = n := by
            have h2 := List.all_eq_true.1 hc j (List.mem_range.2 hjs)
            simp only [Bool.or_eq_true, decide_eq_true_eq] at h2
            rcases h2 with h2 | h2
            · omega
            · by_cases he : j = n
              · exact he
              · obtain ⟨o', ho', e, he', hb, hon⟩ := Region.waitsFor_spec h2
                obtain rfl : o' = oj := Option.some.inj (ho'.symm.trans hoj)
                have h3 := hallj e he' hb
                rw [hon, getD_both (inv.tail (j - 1) (by omega) (by omega))] at h3
                cases h3
          subst hjn'
          have lst : ∀ k, k < j → k ≠ ff → listed.getD k false = true := fun k hk hkf => by
            obtain ⟨o', ho', e, he', hb, hon⟩ := Region.waitsFor_spec (fl.others k hk hkf)
            obtain rfl : o' = oj := Option.some.inj (ho'.symm.trans hoj)
            have h3 := hallj e he' hb
            rwa [hon] at h3
          have lstT : ∀ k, k < j → k ≠ ff → listed.getD k true = true := fun k hk hkf => by
            have h1 := lst k hk hkf
            have h2 : k < listed.size := by rw [inv.size]; omega
            simp [h2] at h1 ⊢
            exact h1
          have hif : i = ff := by
            by_cases he : i = ff
            · exact he
            · have := lstT i hin he
              rw [hun] at this; cases this
          subst hif
          obtain ⟨o, y, c, d, hof, hog, hop, hod, hot⟩ := fl.it
          have hfr : i ∈ Region.ready .any ops listed := hir
          have hinv' := inv.set hfr hin
          have hallL : ∀ k, k < j → (listed.setIfInBounds i true).getD k true = true := fun k hk => by
            by_cases hki : i = k
            · subst hki
              have : i < listed.size := by rw [inv.size]; omega
              simp [this]
            · rw [getD_set_ne true hki]; exact lstT k hk (Ne.symm hki)
          have hst0 := head_step (P := P) (h := h) (ops := ops) (Q := fun _ _ _ => False) (K := wpList P ops (QN Q) (ops.toList.drop j)) hq hm inv hin hfr hst hp hT (fun a' w' D' T' hp' hT' => by
            rw [pt_all hq hm hinv'.size hallL] at hp'
            exact hend0 a' w' D' T' hp' hT')
          unfold wpOp at hst0
          simp only [hof] at hst0
          have hw : Region.wanted o (yielded ops a.tmps) = true := by simp [Region.wanted, hog]
          rw [if_pos hw] at hst0
          rcases hst0 with hst0 | ⟨_, _, _, hst0⟩
          case inr => exact hst0.elim
          have hFI : ∃ v, FI P ops Q i j d y c v listed a w := by
            unfold Oper.wp at hst0
            have hex : execOp a.eval o = (do let v ← Instr.extract (a.eval (.tmp y)) c; pure (.value v)) := by unfold execOp; rw [hop]
            rw [hex] at hst0
            have hlsd : ∀ k, k < ops.size → listed.getD k true = decide (k < j ∧ k ≠ i) := fun k hk => by
              by_cases hkj : k < j
              · by_cases hki : k = i
                · subst hki; rw [hun]; simp
                · rw [lstT k hkj hki]; simp [hkj, hki]
              · rw [inv.tail k (by omega) hk]; simp [hkj]
            have hevd : a.eval (.tmp y) = a.tmps.getD y undef := rfl
            cases hv : a.eval (.tmp y) with
            | tuple cs =>
              cases hcs : cs[c]? with
              | some v =>
                refine ⟨v, inv.size, hlsd, ⟨cs, ?_, hcs⟩, ?_⟩
                · rw [hevd, Array.getD_eq_getD_getElem?] at hv
                  cases hty : a.tmps[y]? with
                  | none => rw [hty] at hv; cases hv; simp at hcs
                  | some u => rw [hty] at hv; simp at hv; rw [hv]
                · simp only [hv, Instr.extract, hcs] at hst0
                  have hst0 : wpList P ops (QN Q) (ops.toList.drop j) (a.put o.dst v) w := by simpa [Oper.upon] using hst0
                  rw [hod] at hst0
                  exact hst0
              | none =>
                simp only [hv, Instr.extract, hcs] at hst0
                simp [Oper.upon, stuck] at hst0
            | _ =>
              simp only [hv, Instr.extract] at hst0
              simp [Oper.upon, stuck] at hst0
          obtain ⟨v, hFI⟩ := hFI
          have hnw : Region.waitsFor .any ops j i = false := by
            cases hwf : Region.waitsFor .any ops j i with
            | false => rfl
            | true =>
              obtain ⟨o', ho', e, he', hb, hon⟩ := Region.waitsFor_spec hwf
              obtain rfl : o' = oj := Option.some.inj (ho'.symm.trans hoj)
              have h3 := hallj e he' hb
              rw [hon, getD_both hun] at h3
              cases h3
          obtain ⟨g1, g2, g3, g4⟩ := hot j oj (Nat.le_refl _) hoj hnw
          have hu : 0 < unl listed j := unl_pos hun j hin
          exact wpOp_mono (fun a1 w1 hk => float_go hq hc fl hof hog hop hod hot f (j + 1) _ a1 w1 (by omega) (by omega) (by omega) hk) (float_pick hin hjs hoj g1 g2 g3 g4 hFI)
      have hju := (mem_ready.1 hj).1
      have hcount := unl_set (by rw [inv.size]; exact hjs) hju n
      rw [if_pos hjn] at hcount
      exact head_step hq hm inv hjn hj hst hp hT fun a' w' D' T' hp' hT' => ih _ a' w' D' T' (inv.set hj hjn) (by omega) hp' hT'

/-- A slot's own parts get their numbers. -/
theorem PR.prom {N : Nat} {t : Nat → V} {a : Act} {w : World} {D : Nat → Prop} {T : Nat → Nat → Prop} (hp : PR C N σ ρ F t a w D T) {d : Nat} (hdn : d < N) :
    ∃ ρ' F', PR C N (σ ++ (Go.Ve.prom (t d) σ.length).2) ρ' F' (upd1 t d (Go.Ve.prom (t d) σ.length).1) a w D (fun x => if x = d then noF else T x) := by
  obtain ⟨ρ', F', ok, hr'⟩ := prom_sound (t d) σ ρ F _ (T d) hp.wr (hp.tm d hdn) (hp.tD d) (fun i b hb => hp.tF i d b hb)
  refine ⟨ρ', F', hp.df, hp.sz, fun x hx => ?_, ok.wr, fun x hx => ?_, fun x b hb => ?_, fun i x b hb hT => ?_, fun x y b hxy h1 h2 => ?_, fun x b hb => ?_, hp.fr, fun i b hb => ?_, hp.D1, hp.D2,
    fun i hi => (ok.rt i (Nat.lt_of_lt_of_le hi hp.ml)).trans (hp.rt i hi), by have := hp.ml; simp; omega, fun x b hx hb => ?_⟩
  · have : ¬ x = d := by omega
    simp only [upd1, this, if_false]; exact hp.dd x hx
  · by_cases hxd : x = d
    · subst hxd; simp only [upd1, if_true]; exact hr'
    · simp only [upd1, hxd, if_false]
      exact Rel.mono (fun _ h => h) (fun v cv hv => RefOK.ext ok.rt _ _ hv) _ _ _ (fun _ _ => rfl) (hp.tm x hx)
  · split at hb
    · exact hb.elim
    · exact hp.tD x b hb
  · split at hT
    · exact hT
    · rename_i hxd
      by_cases hi : i < σ.length
      · rw [ok.old i hi] at hb; exact hp.tF i x b hb hT
      · exact hp.tT d x b (Ne.symm hxd) (ok.new i b (Nat.le_of_not_lt hi) hb) hT
  · split at h1
    · exact h1
    · split at h2
      · exact h2
      · exact hp.tT x y b hxy h1 h2
  · split at hb
    · exact hb.elim
    · exact hp.tn x b hb
  · by_cases hi : i < σ.length
    · rw [ok.old i hi] at hb; exact hp.Fn i b hb
    · exact .inr (hp.tn d b (ok.new i b (Nat.le_of_not_lt hi) hb))
  · split at hb
    · exact hb
    · exact hp.tx x b hx hb

end

theorem PR.close {C : Ctx} {N : Nat} {a : Act} {w : World} {D : Nat → Prop} : ∀ (ds : List (Option Nat)) (t : Nat → V) (σ : List V) (ρ : Nat → Value) (F : Nat → Nat → Prop) (T : Nat → Nat → Prop), PR C N σ ρ F t a w D T →
    (∀ x b, T x b → some x ∈ ds) → SRel C N (promA ds ⟨t, σ⟩) a w := by
  intro ds
  induction ds with
  | nil =>
    intro t σ ρ F T hp ho
    refine ⟨hp.df, hp.dd, D, ρ, F, hp.wr, by simpa using hp.sz, fun x hx => ?_, hp.fr, hp.Fn, hp.D1, hp.D2, hp.rt, hp.ml⟩
    have hx' : x < N := by simpa using hx
    have h1 := hp.tm x hx'
    have e : T x = noF := noF_eq (fun b hb => by cases ho x b hb)
    rw [e] at h1
    show Rel D w _ (((List.range N).map t).getD x .dead) _ noF
    rw [range_getD hx']
    exact h1
  | cons d ds ih =>
    intro t σ ρ F T hp ho
    cases d with
    | none =>
      refine ih t σ ρ F T hp fun x b h => ?_
      have := ho x b h
      simpa using this
    | some d =>
      unfold promA
      split
      · rename_i hown
        have hdn : d < N := by
          rcases Nat.lt_or_ge d N with h | h
          · exact h
          · simp only [hp.dd d h] at hown; cases hown
        obtain ⟨ρ', F', hp'⟩ := hp.prom hdn
        refine ih _ _ ρ' F' _ hp' fun x b h => ?_
        split at h
        · exact h.elim
        · rename_i hxd
          have := ho x b h
          simpa [hxd] using this
      · rename_i hown
        refine ih t σ ρ F T hp fun x b h => ?_
        have := ho x b h
        rcases List.mem_cons.1 this with he | he
        · cases he
          by_cases hx : d < N
          · exact absurd h (tOwn_free _ _ _ (by simpa using hown) (hp.tm d hx) b)
          · exact absurd h (hp.tx d b (Nat.le_of_not_lt hx))
        · exact he

end Go.Ve

