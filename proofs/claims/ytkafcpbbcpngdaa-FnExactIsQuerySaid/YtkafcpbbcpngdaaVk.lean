/- The whole relation between the small machine's state and memory; what each change of the owned trees does to it. -/
import Derived.Test.YtkafcpbbcpngdaaVj
namespace Go.Ve
open RowKit (Below)

/-- What is fixed while a function runs: the world at its start, which old blocks it may write, what it may only read, the owned arguments. -/
structure Ctx where
  w0 : World
  W : Nat → Prop
  D0 : Nat → Prop
  m : Nat
  ρ0 : Nat → Value

/-- Nothing that was there has turned, but for the blocks W. -/
structure Fr (w0 w : World) (W : Nat → Prop) : Prop where
  os : w.os = w0.os
  tape : w.tape = w0.tape
  output : w.output = w0.output
  size : w0.heap.size ≤ w.heap.size
  block : ∀ b, b < w0.heap.size → ¬ W b → w.heap[b]? = w0.heap[b]?

theorem Fr.below {w0 w w' : World} {W : Nat → Prop} (h : Fr w0 w W) (hb : Below w.heap.size w w') : Fr w0 w' W :=
  ⟨hb.os.trans h.os, hb.tape.trans h.tape, hb.output.trans h.output, Nat.le_trans h.size hb.size, fun b h1 h2 => (hb.block b (Nat.lt_of_lt_of_le h1 h.size)).trans (h.block b h1 h2)⟩

structure CR (C : Ctx) (σ : List V) (ts : List V) (cts : Array Value) (w : World) (D : Nat → Prop) (ρ : Nat → Value) (F : Nat → Nat → Prop) : Prop where
  wr : WRel σ w D ρ F
  sz : cts.size = ts.length
  tm : ∀ t, t < ts.length → Rel D w (RefOK σ ρ w) (ts.getD t .dead) (cts.getD t undef) noF
  fr : Fr C.w0 w C.W
  Fn : ∀ i b, F i b → C.W b ∨ C.w0.heap.size ≤ b
  D1 : ∀ b, C.D0 b → D b
  D2 : ∀ b, D b → b < C.w0.heap.size → C.D0 b ∨ C.W b
  rt : ∀ i, i < C.m → ρ i = C.ρ0 i
  ml : C.m ≤ σ.length

def CRel (C : Ctx) (σ : List V) (ts : List V) (cts : Array Value) (w : World) : Prop := ∃ D ρ F, CR C σ ts cts w D ρ F

theorem getD_app_l {l l' : List V} {i : Nat} (h : i < l.length) : (l ++ l').getD i .dead = l.getD i .dead := by
  simp [List.getD_eq_getElem?_getD, List.getElem?_append_left h]

theorem RefOK.ext {σ s : List V} {ρ ρ' : Nat → Value} {w : World} (h : ∀ i, i < σ.length → ρ' i = ρ i) : ∀ v cv, RefOK σ ρ w v cv → RefOK (σ ++ s) ρ' w v cv
  | .rs id p off len, cv, ⟨hid, sz, n, f, cn, ha, r⟩ => ⟨by simp; omega, sz, n, f, cn, by rw [getD_app_l hid, h id hid]; exact ha, r⟩
  | .rp id p i k, cv, ⟨hid, s, sz, n, f, b, o, cap, ha, r⟩ => ⟨by simp; omega, s, sz, n, f, b, o, cap, by rw [getD_app_l hid, h id hid]; exact ha, r⟩
  | .c _, _, h => h.elim
  | .dead, _, h => h.elim
  | .many .., _, h => h.elim
  | .nd .., _, h => h.elim

/-- A new owned tree. -/
theorem WRel.push {σ : List V} {w : World} {D : Nat → Prop} {ρ : Nat → Value} {F : Nat → Nat → Prop} (h : WRel σ w D ρ F) {v : V} {cv : Value} {fp : Nat → Prop} (hr : Rel D w noR v cv fp) (h1 : ∀ b, fp b → ¬ D b) (h2 : ∀ i b, F i b → ¬ fp b) :
    WRel (σ ++ [v]) w D (fun i => if i = σ.length then cv else ρ i) (fun i => if i = σ.length then fp else F i) := by
  refine ⟨fun i hi => ?_, fun i j b hij hb hb' => ?_, fun i b hb => ?_, h.Dlt, fun i b hi hb => ?_⟩
  · by_cases he : i = σ.length
    · subst he; simpa using hr
    · have hi' : i < σ.length := by simp at hi; omega
      rw [getD_app_l hi']
      simpa [he] using h.rel i hi'
  · by_cases he : i = σ.length <;> by_cases he' : j = σ.length <;> simp only [he, he', if_true, if_false] at hb hb'
    · omega
    · exact h2 j b hb' hb
    · exact h2 i b hb hb'
    · exact h.disj i j b hij hb hb'
  · by_cases he : i = σ.length <;> simp only [he, if_true, if_false] at hb
    · exact h1 b hb
    · exact h.dD i b hb
  · simp at hi
    have he : i ≠ σ.length := by omega
    simp only [he, if_false] at hb
    exact h.out i b (by omega) hb

/-- What is owned in a value gets a number. -/
def promF (g : Nat → Nat → V × List V) : Nat → Nat → List V × List V
  | 0, _ => ([], [])
  | n + 1, m => ((promF g n m).1 ++ [(g n (m + (promF g n m).2.length)).1], (promF g n m).2 ++ (g n (m + (promF g n m).2.length)).2)
def prom : V → Nat → V × List V
  | .nd true true sz n f, m => (.rs m [] 0 n, [.nd true true sz n f])
  | .nd false true sz n f, m => if 0 < sz then (.rp m [] 0 0, [.nd false true sz n f]) else (.dead, [])
  | .many t n f, m => (.many t n fun k => (promF (fun k => prom (f k)) n m).1.getD k .dead, (promF (fun k => prom (f k)) n m).2)
  | v, _ => (v, [])

structure PromOK (σ s : List V) (w : World) (D : Nat → Prop) (ρ ρ' : Nat → Value) (F F' : Nat → Nat → Prop) (fp : Nat → Prop) : Prop where
  wr : WRel (σ ++ s) w D ρ' F'
  rt : ∀ i, i < σ.length → ρ' i = ρ i
  old : ∀ i, i < σ.length → F' i = F i
  new : ∀ i b, σ.length ≤ i → F' i b → fp b

theorem PromOK.nil {σ : List V} {w : World} {D : Nat → Prop} {ρ : Nat → Value} {F : Nat → Nat → Prop} (h : WRel σ w D ρ F) (fp : Nat → Prop) : PromOK σ [] w D ρ ρ F F fp :=
  ⟨by simpa using h, fun _ _ => rfl, fun _ _ => rfl, fun i b hi hb => absurd hb (h.out i b hi)⟩

theorem PromOK.trans {σ s s' : List V} {w : World} {D : Nat → Prop} {ρ ρ' ρ'' : Nat → Value} {F F' F'' : Nat → Nat → Prop} {fp fp' fq : Nat → Prop} (h : PromOK σ s w D ρ ρ' F F' fp) (h' : PromOK (σ ++ s) s' w D ρ' ρ'' F' F'' fp') (e : ∀ b, fp b → fq b) (e' : ∀ b, fp' b → fq b) :
    PromOK σ (s ++ s') w D ρ ρ'' F F'' fq := by
  refine ⟨by rw [← List.append_assoc]; exact h'.wr, fun i hi => (h'.rt i (by simp; omega)).trans (h.rt i hi), fun i hi => (h'.old i (by simp; omega)).trans (h.old i hi), fun i b hi hb => ?_⟩
  by_cases hlt : i < (σ ++ s).length
  · rw [h'.old i hlt] at hb; exact e b (h.new i b hi hb)
  · exact e' b (h'.new i b (by omega) hb)

theorem prom_sound {w : World} {D : Nat → Prop} : ∀ (v : V) (σ : List V) (ρ : Nat → Value) (F : Nat → Nat → Prop) (cv : Value) (fp : Nat → Prop), WRel σ w D ρ F → Rel D w (RefOK σ ρ w) v cv fp → (∀ b, fp b → ¬ D b) → (∀ i b, F i b → ¬ fp b) →
    ∃ ρ' F', PromOK σ (prom v σ.length).2 w D ρ ρ' F F' fp ∧ Rel D w (RefOK (σ ++ (prom v σ.length).2) ρ' w) (prom v σ.length).1 cv noF := by
  intro v
  induction v with
  | c v => intro σ ρ F cv fp wr h _ _; exact ⟨ρ, F, PromOK.nil wr fp, h.1, h.2.1, fun _ h => h⟩
  | dead => intro σ ρ F cv fp wr h _ _; exact ⟨ρ, F, PromOK.nil wr fp, fun _ h => h⟩
  | rs id p off len => intro σ ρ F cv fp wr h _ _; exact ⟨ρ, F, PromOK.nil wr fp, RefOK.ext (fun _ _ => rfl) _ _ h.1, fun _ h => h⟩
  | rp id p i k => intro σ ρ F cv fp wr h _ _; exact ⟨ρ, F, PromOK.nil wr fp, RefOK.ext (fun _ _ => rfl) _ _ h.1, fun _ h => h⟩
  | nd s own sz n f _ =>
    intro σ ρ F cv fp wr h h1 h2
    cases own with
    | false =>
      have e := noF_eq (tOwn_free _ _ _ rfl h)
      subst e
      cases s <;> exact ⟨ρ, F, PromOK.nil wr _, h⟩
    | true =>
      have hpush := WRel.push wr (v := .nd s true sz n f) (cv := cv) (fp := fp) h h1 h2
      have hok : PromOK σ [.nd s true sz n f] w D ρ (fun i => if i = σ.length then cv else ρ i) F (fun i => if i = σ.length then fp else F i) fp :=
        ⟨hpush, fun i hi => by simp [show i ≠ σ.length by omega], fun i hi => by simp [show i ≠ σ.length by omega], fun i b hi hb => by
          by_cases he : i = σ.length
          · simpa [he] using hb
          · simp only [he, if_false] at hb; exact absurd hb (wr.out i b hi)⟩
      cases s with
      | true =>
        refine ⟨_, _, hok, ⟨⟨by simp [prom], sz, n, f, cv, ⟨by simp [prom], by simp⟩, by omega, ?_⟩, fun _ h => h⟩⟩
        rcases h with ⟨rfl, _, hn0, _⟩ | ⟨b, o, cap, F2, rfl, _⟩
        · obtain rfl := nilO_true hn0
          exact .inr ⟨rfl, none, rfl, fun _ _ => rfl⟩
        · exact .inl ⟨b, o, cap, rfl, by simp [header]⟩
      | false =>
        unfold prom
        by_cases hsz : 0 < sz
        · simp only [hsz, if_true]
          rcases h with ⟨_, h, _⟩ | ⟨b, o, cap, F2, rfl, _, _, hn, _⟩
          · cases h
          · exact ⟨_, _, hok, ⟨⟨by simp, false, sz, n, f, b, o, cap, ⟨by simp, by simp⟩, by rw [hn rfl]; exact Nat.one_pos, hsz, by simp [header]⟩, fun _ h => h⟩⟩
        · simp only [hsz, if_false]
          exact ⟨ρ, F, PromOK.nil wr fp, fun _ h => h⟩
  | many t n f ih =>
    intro σ ρ F cv fp wr h h1 h2
    obtain ⟨cs, G, hcv, hn, hr, hd, hf⟩ := h
    have key : ∀ j, j ≤ n → ∃ ρ' F', PromOK σ (promF (fun k => prom (f k)) j σ.length).2 w D ρ ρ' F F' (fun b => ∃ k, k < j ∧ G k b) ∧ (promF (fun k => prom (f k)) j σ.length).1.length = j ∧
        ∀ k, k < j → Rel D w (RefOK (σ ++ (promF (fun k => prom (f k)) j σ.length).2) ρ' w) ((promF (fun k => prom (f k)) j σ.length).1.getD k .dead) (cs.getD k undef) noF := by
      intro j
      induction j with
      | zero => intro _; exact ⟨ρ, F, PromOK.nil wr _, rfl, fun k hk => by omega⟩
      | succ j ihj =>
        intro hj
        obtain ⟨ρ1, F1, ok1, hl1, hr1⟩ := ihj (by omega)
        have hrj : Rel D w (RefOK (σ ++ (promF (fun k => prom (f k)) j σ.length).2) ρ1 w) (f j) (cs.getD j undef) (G j) :=
          Rel.mono (fun _ h => h) (RefOK.ext ok1.rt) _ _ _ (fun _ _ => rfl) (hr j (by omega))
        obtain ⟨ρ2, F2, ok2, hr2⟩ := ih j (σ ++ (promF (fun k => prom (f k)) j σ.length).2) ρ1 F1 (cs.getD j undef) (G j) ok1.wr hrj (fun b hb => h1 b ((hf b).2 ⟨j, by omega, hb⟩)) (fun i b hb hb' => by
          by_cases hi : i < σ.length
          · rw [ok1.old i hi] at hb; exact h2 i b hb ((hf b).2 ⟨j, by omega, hb'⟩)
          · obtain ⟨k, hk, hkb⟩ := ok1.new i b (by omega) hb
            exact hd k j b (by omega) (by omega) (by omega) hkb hb')
        rw [List.length_append] at ok2 hr2
        refine ⟨ρ2, F2, ok1.trans ok2 (fun b ⟨k, hk, h⟩ => ⟨k, by omega, h⟩) (fun b h => ⟨j, by omega, h⟩), by simp [promF, hl1], fun k hk => ?_⟩
        simp only [promF]
        rw [← List.append_assoc]
        by_cases he : k = j
        · subst he
          rw [List.getD_eq_getElem?_getD, List.getElem?_append_right (by omega)]
          simpa [hl1] using hr2
        · rw [List.getD_eq_getElem?_getD, List.getElem?_append_left (by omega), ← List.getD_eq_getElem?_getD]
          exact Rel.mono (fun _ h => h) (RefOK.ext ok2.rt) _ _ _ (fun _ _ => rfl) (hr1 k (by omega))
    obtain ⟨ρ', F', ok, _, hr'⟩ := key n (Nat.le_refl _)
    refine ⟨ρ', F', ⟨ok.wr, ok.rt, ok.old, fun i b hi hb => (hf b).2 (ok.new i b hi hb)⟩, ?_⟩
    exact ⟨cs, fun _ => noF, hcv, hn, fun k hk => hr' k hk, fun _ _ _ _ _ _ h => h.elim, fun b => ⟨fun h => h.elim, fun ⟨_, _, h⟩ => h⟩⟩

/-- The state behind a quiet operation: its value in its slot, what is owned in it numbered. -/
theorem CR.res {C : Ctx} {σ ts : List V} {cts : Array Value} {w w' : World} {D D' : Nat → Prop} {ρ : Nat → Value} {F : Nat → Nat → Prop} (h : CR C σ ts cts w D ρ F) {r : V} {v' : Value} {fp : Nat → Prop} (hB : Below w.heap.size w w') (hr : Rel D' w' (RefOK σ ρ w') r v' fp)
    (hf : ∀ b, fp b → w.heap.size ≤ b) (hd1 : ∀ b, D b → D' b) (hd2 : ∀ b, D' b → D b ∨ w.heap.size ≤ b) (hd3 : ∀ b, D' b → b < w'.heap.size ∧ ¬ fp b) (d : Nat) :
    CRel C (σ ++ (prom r σ.length).2) (ts.set d (prom r σ.length).1) (cts.setIfInBounds d v') w' := by
  have hFlt : ∀ i b, F i b → b < w.heap.size := h.wr.lt
  have wr' : WRel σ w' D' ρ F := by
    have h1 := h.wr.below hB
    refine ⟨fun i hi => Rel.mono hd1 (fun _ _ h => h) _ _ _ (fun _ _ => rfl) (h1.rel i hi), h1.disj, fun i b hb hD => ?_, fun b hb => (hd3 b hb).1, h1.out⟩
    rcases hd2 b hD with h2 | h2
    · exact h1.dD i b hb h2
    · have := hFlt i b hb; omega
  obtain ⟨ρ', F', ok, hr'⟩ := prom_sound r σ ρ F v' fp wr' hr (fun b hb hD => (hd3 b hD).2 hb) (fun i b hb hb' => by have := hFlt i b hb; have := hf b hb'; omega)
  refine ⟨D', ρ', F', ok.wr, by simp [h.sz], fun t ht => ?_, h.fr.below hB, fun i b hb => ?_, fun b hb => hd1 b (h.D1 b hb), fun b hb hlt => ?_, fun i hi => (ok.rt i (Nat.lt_of_lt_of_le hi h.ml)).trans (h.rt i hi), by have := h.ml; simp; omega⟩
  · simp at ht
    by_cases he : d = t
    · subst he
      have hlt : d < cts.size := by rw [h.sz]; exact ht
      simpa [ht, hlt] using hr'
    · have h1 := h.tm t ht
      have hlt : t < cts.size := by rw [h.sz]; exact ht
      simp only [List.getD_eq_getElem?_getD, List.getElem?_set_ne he, Array.getD_eq_getD_getElem?, Array.getElem?_setIfInBounds_ne he]
      rw [← List.getD_eq_getElem?_getD, ← Array.getD_eq_getD_getElem?]
      refine Rel.mono hd1 (fun v cv hv => RefOK.ext ok.rt _ _ (RefOK.same h.wr (fun i b hb => hB.block b (hFlt i b hb)) v cv hv)) _ _ _ (fun b hb => hB.block b ?_) h1
      rcases hb with hb | hb
      · exact h.wr.Dlt b hb
      · exact hb.elim
  · by_cases hi : i < σ.length
    · rw [ok.old i hi] at hb; exact h.Fn i b hb
    · have := hf b (ok.new i b (by omega) hb)
      right
      exact Nat.le_trans h.fr.size this
  · rcases hd2 b hb with h2 | h2
    · exact h.D2 b h2 hlt
    · have := h.fr.size; omega

end Go.Ve
