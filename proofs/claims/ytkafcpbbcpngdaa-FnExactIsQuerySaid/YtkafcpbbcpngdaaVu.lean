/- Regions that draw their order: quiet operations in whatever order, then a tail in order. -/
import Derived.Test.YtkafcpbbcpngdaaVp
import Derived.StillTail
namespace Go.Ve
open RowKit (Below)

theorem qop0_congr {P : Program} {σ : List V} {ev ev' : Operand → V} {op : Op} {K : V → Prop} (h : ∀ x ∈ op.operands, ev x = ev' x) (hq : qop0 P σ ev op K) : qop0 P σ ev' op K := by
  have pairs : ∀ ps : Array (Nat × Operand), (∀ x ∈ (ps.toList.map (·.2)).toArray, ev x = ev' x) → (ps.toList.map fun p => (p.1, ev p.2)) = ps.toList.map fun p => (p.1, ev' p.2) := by
    intro ps hp
    apply List.map_congr_left
    intro p hm
    rw [hp p.2 (by simp only [List.mem_toArray, List.mem_map]; exact ⟨p, hm, rfl⟩)]
  unfold qop0 at hq ⊢
  cases op <;> simp only [Op.operands] at h <;> simp only at hq ⊢ <;> try exact hq
  case call c =>
    obtain ⟨callee, args, ats⟩ := c
    have hm : args.toList.map ev = args.toList.map ev' := List.map_congr_left fun x hx => h x (by simp [Call.operands]; right; simpa using hx)
    cases callee with
    | value f => cases f <;> simp only at hq ⊢ <;> first | exact hq | (rw [← hm]; exact hq)
    | invoke r m => exact hq
    | builtin b => simp only at hq ⊢; rw [← hm]; exact hq
  case build t ps => rw [← pairs ps h]; exact hq
  case buildSlice t n ps => rw [← pairs ps h]; exact hq
  case slice t x lo hi mx =>
    have h1 : lo.map ev = lo.map ev' := by cases lo with | none => rfl | some y => simp; exact h y (by simp)
    have h2 : hi.map ev = hi.map ev' := by cases hi with | none => rfl | some y => simp; exact h y (by simp)
    rw [← h1, ← h2, ← h x (by simp)]; exact hq
  all_goals (simp at h; simp_all)

/-- The value is told by the operation alone. -/
theorem qop0_det {P : Program} {σ : List V} {ev : Operand → V} {op : Op} {K : V → Prop} (hq : qop0 P σ ev op K) : ∃ r, K r ∧ ∀ K' : V → Prop, K' r → qop0 P σ ev op K' := by
  unfold qop0 at hq ⊢
  cases op <;> simp only at hq ⊢ <;> try exact hq.elim
  case move x => exact ⟨_, hq.2, fun K' h' => ⟨hq.1, h'⟩⟩
  case assign x => exact ⟨_, hq.2, fun K' h' => ⟨hq.1, h'⟩⟩
  case pick c x y =>
    unfold qPick at hq ⊢
    split at hq <;> try exact hq.elim
    rename_i b hb
    obtain ⟨h1, h2, h3, h4⟩ := hq
    cases b
    · exact ⟨_, h4 rfl, fun K' h' => ⟨h1, h2, (fun h => by cases h), fun _ => h'⟩⟩
    · exact ⟨_, h3 rfl, fun K' h' => ⟨h1, h2, fun _ => h', (fun h => by cases h)⟩⟩
  case load t x =>
    unfold qLoad at hq ⊢
    split at hq <;> try exact hq.elim
    · split at hq <;> try exact hq.elim
      · exact ⟨_, hq.2, fun K' h' => ⟨hq.1, h'⟩⟩
      · exact ⟨_, hq.2, fun K' h' => ⟨hq.1, h'⟩⟩
    · split at hq <;> try exact hq.elim
      · exact ⟨_, hq.2, fun K' h' => ⟨hq.1, h'⟩⟩
      · exact ⟨_, hq.2.2, fun K' h' => ⟨hq.1, hq.2.1, h'⟩⟩
  case fieldAddr t x k =>
    unfold qField at hq ⊢
    split at hq <;> try exact hq.elim
    split at hq <;> try exact hq.elim
    · exact ⟨_, hq.2, fun K' h' => ⟨hq.1, h'⟩⟩
    · exact ⟨_, hq.2, fun K' h' => ⟨hq.1, h'⟩⟩
  case indexAddr t x i =>
    unfold qIndexAddr at hq ⊢
    split at hq <;> try exact hq.elim
    split at hq <;> try exact hq.elim
    · exact ⟨_, hq.2.2.2, fun K' h' => ⟨hq.1, hq.2.1, hq.2.2.1, h'⟩⟩
    · exact ⟨_, hq.2.2.2, fun K' h' => ⟨hq.1, hq.2.1, hq.2.2.1, h'⟩⟩
  case index t x i =>
    unfold qIndex at hq ⊢
    obtain ⟨h1, hq⟩ := hq
    split at hq <;> try exact hq.elim
    exact ⟨_, hq.2, fun K' h' => ⟨h1, hq.1, h'⟩⟩
  case nilCheck x =>
    unfold qNil at hq ⊢
    split at hq <;> try exact hq.elim
    · exact ⟨_, hq, fun K' h' => h'⟩
    · exact ⟨_, hq, fun K' h' => h'⟩
  case binOp op t x y yt =>
    unfold qBin at hq ⊢
    split at hq
    · split at hq
      · rename_i h; exact ⟨_, hq.2, fun K' h' => by first | exact ⟨hq.1, h'⟩ | (simp only [h]; exact ⟨hq.1, h'⟩)⟩
      · rename_i h; obtain ⟨z, h1, h2, h3, hK⟩ := hq; exact ⟨z, hK, fun K' h' => by first | exact ⟨z, h1, h2, h3, h'⟩ | (simp only [h]; exact ⟨z, h1, h2, h3, h'⟩)⟩
    · obtain ⟨z, h1, h2, h3, hK⟩ := hq; exact ⟨z, hK, fun K' h' => ⟨z, h1, h2, h3, h'⟩⟩
  case unOp op t x =>
    unfold qUn at hq ⊢
    split at hq <;> try exact hq.elim
    · exact ⟨_, hq, fun K' h' => h'⟩
    · exact ⟨_, hq, fun K' h' => h'⟩
  case convert s d x =>
    unfold qConv at hq ⊢
    split at hq
    · exact ⟨_, hq, fun K' h' => h'⟩
    · exact ⟨_, hq, fun K' h' => h'⟩
    · obtain ⟨z, h1, h2, hK⟩ := hq; exact ⟨z, hK, fun K' h' => ⟨z, h1, h2, h'⟩⟩
  case extract x i =>
    unfold qExtract at hq ⊢
    split at hq <;> try exact hq.elim
    exact ⟨_, hq.2.2, fun K' h' => ⟨hq.1, hq.2.1, h'⟩⟩
  case build t ps =>
    unfold qBuild at hq ⊢
    split at hq <;> try exact hq.elim
    obtain ⟨h1, hq⟩ := hq
    split at hq <;> try exact hq.elim
    rename_i h
    exact ⟨_, hq, fun K' h' => ⟨h1, h'⟩⟩
  case buildSlice t n ps =>
    unfold qBuildSlice at hq ⊢
    split at hq <;> try exact hq.elim
    obtain ⟨h1, h2, hq⟩ := hq
    split at hq <;> try exact hq.elim
    rename_i h
    exact ⟨_, hq.2, fun K' h' => ⟨h1, h2, hq.1, h'⟩⟩
  case alloc t =>
    unfold qAlloc at hq ⊢
    split at hq <;> try exact hq.elim
    exact ⟨_, hq.2, fun K' h' => ⟨hq.1, h'⟩⟩
  case box t x => exact ⟨_, hq.2.2, fun K' h' => ⟨hq.1, hq.2.1, h'⟩⟩
  case makeSlice t l c =>
    unfold qMake at hq ⊢
    split at hq <;> try exact hq.elim
    exact ⟨_, hq.2.2, fun K' h' => ⟨hq.1, hq.2.1, h'⟩⟩
  case slice t x lo hi mx =>
    obtain ⟨h0, hq⟩ := hq
    unfold qSlice at hq ⊢
    split at hq <;> try exact hq.elim
    all_goals
      split at hq <;> try exact hq.elim
      rename_i h1 h2
    · exact ⟨_, hq.2, fun K' h' => ⟨h0, hq.1, h'⟩⟩
    · exact ⟨_, hq.2.2, fun K' h' => ⟨h0, hq.1, hq.2.1, h'⟩⟩
    · exact ⟨_, hq.2.2, fun K' h' => ⟨h0, hq.1, hq.2.1, h'⟩⟩
  case call c =>
    obtain ⟨callee, args, ats⟩ := c
    simp only at hq ⊢
    split at hq
    · obtain ⟨r, h1, h2, hK⟩ := hq; exact ⟨r, hK, fun K' h' => ⟨r, h1, h2, h'⟩⟩
    · unfold qBuiltin at hq ⊢
      split at hq <;> try exact hq.elim
      · obtain ⟨h1, hq⟩ := hq
        unfold qLen at hq ⊢
        split at hq <;> first | exact hq.elim | exact ⟨_, hq, fun K' h' => ⟨h1, h'⟩⟩
      · unfold qMinMax at hq ⊢
        split at hq <;> first | exact hq.elim | exact ⟨_, hq, fun K' h' => h'⟩
      · unfold qMinMax at hq ⊢
        split at hq <;> first | exact hq.elim | exact ⟨_, hq, fun K' h' => h'⟩
    · exact hq.elim

theorem qop_congr {P : Program} {σ : List V} {ev ev' : Operand → V} {op : Op} {K : V → Prop} (h : ∀ x ∈ op.operands, ev x = ev' x) (hq : qop P σ ev op K) : qop P σ ev' op K := qop0_congr h hq
theorem qop_det {P : Program} {σ : List V} {ev : Operand → V} {op : Op} {K : V → Prop} (hq : qop P σ ev op K) : ∃ r, K r ∧ qop P σ ev op (fun r' => r' = r) := by
  obtain ⟨r0, ⟨r, hs, hK⟩, hd⟩ := qop0_det hq
  exact ⟨r, hK, hd _ ⟨r, hs, rfl⟩⟩

theorem qop0_mono {P : Program} {σ : List V} {ev : Operand → V} {op : Op} {K K' : V → Prop} (hq : qop0 P σ ev op K) (h : ∀ r, K r → K' r) : qop0 P σ ev op K' := by
  obtain ⟨r, hK, hd⟩ := qop0_det hq
  exact hd K' (h r hK)
end Go.Ve
